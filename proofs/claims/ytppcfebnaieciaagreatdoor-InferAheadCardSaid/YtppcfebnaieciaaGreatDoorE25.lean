/-
  Laws that the proof rests on.
-/
import Derived.Test.YtppcfebnaieciaaGreatDoorE24
import Derived.Deep.AppendLies
namespace Go.Proofs.YtppcfebnaieciaaGreatDoor
set_option maxRecDepth 100000
set_option maxHeartbeats 16000000
section
open Go.RowKit
abbrev Ent:=Nd × Option Addr × Nat
def ndC (e : Ent) : List Value:=[.int .i64 e.1.kind,.string e.1.text,.int .i64 e.1.n,.slice e.2.1 e.1.kids.length e.2.2,.int .i64 e.1.place]
def V8 (L : List Ent) : List Value:=L.flatMap ndC
theorem kX (L : List Ent) (e : Ent) : V8 (L ++ [e])=V8 L ++ ndC e:=by unfold V8; simp
theorem zS : ∀ (L : List Ent) (j : Nat) (hj : j<L.length) (i : Nat) (_ : i<5),(V8 L)[j * 5 + i]?=(ndC L[j])[i]?
 | e :: L,0,_,i,hi => by
   unfold V8
   rw [List.flatMap_cons,Nat.zero_mul,Nat.zero_add,List.getElem?_append_left (by exact hi)]
   rfl
 | e :: L,j + 1,hj,i,hi => by
   have:=zS L j (by simpa using hj) i hi
   unfold V8 at this ⊢
   rw [List.flatMap_cons,List.getElem?_append_right (by show 5≤_; omega)]
   rw [show (j + 1) * 5 + i - (ndC e).length=j * 5 + i by show (j + 1) * 5 + i - 5=_; omega]
   exact this
theorem jG (e : Ent) : ∀ u∈ndC e,u.oneCell'=true:=by
 intro u hu
 unfold ndC at hu
 simp only [List.mem_cons,List.not_mem_nil,or_false] at hu
 rcases hu with rfl | rfl | rfl | rfl | rfl <;> rfl
theorem bL (W : World) (T : TypeId) (v0 v1 v2 v3 v4 : Value) : ∀ j u,[v0,v1,v2,v3,v4][j]?=some u→(W.alloc (.cells #[v0,v1,v2,v3,v4] T)).cell? ((⟨W.heap.size,0,none⟩ : Addr).add j)=some u:=by
 intro j u h
 rw [Go.WideShapes.add_plain,Nat.zero_add]
 have h' : (W.alloc (.cells #[v0,v1,v2,v3,v4] T)).heap[W.heap.size]?=some (.cells #[v0,v1,v2,v3,v4] T (0,0)):=by show (W.heap.push _)[W.heap.size]?=_; simp
 rw [World.cell?]
 simp only [h']
 match j,h with
 | 0,h => exact h
 | 1,h => exact h
 | 2,h => exact h
 | 3,h => exact h
 | 4,h => exact h
theorem kP {av : Nat→Prop} {base T : Nat} {W : World} {g cap : Nat} {L : List Ent} (h : W.ownsRow base T 5 (.slice (some ⟨g,0,none⟩) L.length cap) L.length (V8 L)) (hg : av g) (hl : ∀ e∈L,e.1.lies av W e.2.1 e.2.2) : Nd.lie av W (L.map (·.1)) (some ⟨g,0,none⟩) 0:=by
 have hc:=h.cells (g:=g) rfl
 refine Nd.lie.of _ 0 fun j hj => ?_
 rw [List.length_map] at hj
 have q : ∀ i,i<5→∀ u,(ndC L[j])[i]?=some u→W.cell? ⟨g,0 + (0 + j) * 5 + i,none⟩=some u:=fun i hi u hu => by
  have:=hc (j * 5 + i) u (by rw [zS L j hj i hi]; exact hu)
  rw [Go.WideShapes.add_plain] at this
  rw [Nat.zero_add j,Nat.add_assoc]
  exact this
 refine ⟨g,0,L[j].2.1,L[j].2.2,?_⟩
 rw [List.getElem_map]
 exact ⟨rfl,hg,q 0 (by decide) _ rfl,q 1 (by decide) _ rfl,q 2 (by decide) _ rfl,q 3 (by decide) _ rfl,q 4 (by decide) _ rfl,hl _ (List.getElem_mem hj)⟩
theorem qO : ∀ (ks : List Nd) (n : Nat),(∀ k∈ks,j3 k≤n)→o0 ks≤n
 | [],n,_ => by rw [o0]; exact Nat.zero_le _
 | k :: ks,n,h => by
   rw [o0]
   have h1:=h k (List.mem_cons_self ..)
   have h2:=qO ks n fun k hk => h k (List.mem_cons_of_mem _ hk)
   omega
theorem a1Q {w A B : World} {P : Nat} {r : Option Nat} (h : w.grownBy A (some P)) (k : A.grownBy B r) (hr : ∀ c,r=some c→w.heap.size≤c) : w.grownBy B (some P) :=
 ⟨k.os.trans h.os,k.tape.trans h.tape,k.output.trans h.output,Nat.le_trans h.size k.size,fun i hi hne => (k.block i (Nat.lt_of_lt_of_le hi h.size) (fun e => by have:=hr i e.symm; omega)).trans (h.block i hi hne)⟩
theorem SP.row {P g cap : Nat} {ts : List Tk} {n : Nat} {σ : Sx} {A B : World} {r : Option Nat} (h : SP P g cap ts n σ A) (k : A.grownBy B r) (hr : ∀ c,r=some c→c≠P∧c≠g) : SP P g cap ts n σ B :=
 h.keeps (fun b hb => by
  have hl:=h.blocks
  rcases hb with rfl | rfl
  ·exact k.block _ hl.1 (fun e => (hr _ e.symm).1 rfl)
  ·exact k.block _ hl.2 (fun e => (hr _ e.symm).2 rfl)) k.size
def a6l (P g cap : Nat) (ts : List Tk) (nest : Nat) (X : Rd) (w : World) (e : Ending) (w' : World) : Prop :=
 ∃ (ks : List Nd) (v : Option Addr) (cp : Nat),e=.returned (.slice v ks.length cp)∧SP P g cap ts nest (l9 X) w'∧w.grownBy w' (some P) ∧
  ∀ t' r,X=.ok (t',r)→t'.kids=ks∧(ks.length≤8∧ks.length≤cp∧cp≤maxLen)∧o0 ks≤100∧Nd.lie (Fr w.heap.size w'.heap.size) w' ks v 0
def a5Y (P g cap : Nat) (ts : List Tk) (nest : Nat) (l : List Tk) (X : Rd) (w wr : World) (ao : Option Addr) (cp : Nat) (L : List Ent) (σ : Sx) : Prop :=
 L.length≤8∧wr.ownsRow w.heap.size 24 5 (.slice ao L.length cp) L.length (V8 L)∧SP P g cap ts nest σ wr∧w.grownBy wr (some P)∧X=goX σ (rd (.args (L.map (·.1))) nest) ∧
  ∀ r,σ=.ok r→(∀ e∈L,e.1.lies (fun c => w.heap.size≤c∧c<wr.heap.size∧(Value.slice ao L.length cp).ownBlock≠some c) wr e.2.1 e.2.2∧j3 e.1≤100)∧r.length<l.length
theorem zG (acc : List Nd) (nest : Nat) (r : List Tk) : rd (.args acc) nest r=if acc.length=8 then .error (76,(hd r).pos) else (rd .expr nest r).then fun t r => if isT A9 r=true then rd (.args (acc ++ [t])) nest (b9 r) else p5 Q6 r fun r => .ok (mkN 0 [] 0 (acc ++ [t]) 0,r):=kS (.args acc) nest r
theorem a1R {x : Rd} {t : Nd} {acc : List Nd} {nest : Nat} (hx : Is x t) (h : ∀ r,l9 x=.ok r→true=isT A9 r) : (x.then fun t r => if isT A9 r=true then rd (.args (acc ++ [t])) nest (b9 r) else p5 Q6 r fun r => .ok (mkN 0 [] 0 (acc ++ [t]) 0,r))=goX (qE (l9 x)) (rd (.args (acc ++ [t])) nest):=by
 rw [F0 hx]
 cases x with
 | error e => rfl
 | ok p => obtain ⟨t',r⟩:=p; show (if isT A9 r=true then _ else _)=_; rw [if_pos (h r rfl).symm]; rfl
theorem a18 {x : Rd} {t : Nd} {acc : List Nd} {nest : Nat} (hx : Is x t) (h : ∀ r,l9 x=.ok r→false=isT A9 r) : (x.then fun t r => if isT A9 r=true then rd (.args (acc ++ [t])) nest (b9 r) else p5 Q6 r fun r => .ok (mkN 0 [] 0 (acc ++ [t]) 0,r))=goX (n8 Q6 (l9 x)) fun r => .ok (mkN 0 [] 0 (acc ++ [t]) 0,r):=by
 rw [F0 hx,← D6]
 cases x with
 | error e => rfl
 | ok p => obtain ⟨t',r⟩:=p; show (if isT A9 r=true then _ else _)=_; rw [if_neg (by rw [← h r rfl]; decide)]; rfl
end
section
open Lib (hid)
open Go.RowKit
theorem a0T (P g cap : Nat) (ts : List Tk) (he : bT ts) (l : List Tk) (hE : ∀ r,r.length<l.length→CE P g cap ts r) (nest : Nat) (w : World) (hn : nest≤300) (h : SP P g cap ts nest (.ok l) w) (ho : isT O0 l=true) :
 Calls Tryz.prog 194 #[.pointer (some ⟨P,0,none⟩),.int .i64 8] w (a6l P g cap ts nest (rd (.args []) nest (b9 l)) w):=by
 obtain ⟨i0,hi,hz0,hz1,hz2⟩:=info_parts (show (Tryz.prog.info? 24).map (fun i => (i.zero,i.size,i.bytes))=some (some (.agg #[.int .i64 0,.string ⟨#[]⟩,.int .i64 0,.slice none 0 0,.int .i64 0]),5,64) by kernel_rfl)
 have HI0:=hid (show _∧_∧_∧_ from ⟨hi,hz0,hz1,hz2⟩)
 clear hi hz0 hz1 hz2
 have hlen:=D8 ho
 have HEx:=hid hE
 have HE:=hid he
 have hb0:=hid h.blocks
 obtain ⟨X,hX⟩ : ∃ X,X=rd (.args []) nest (b9 l):=⟨_,rfl⟩
 rw [← hX]
 have HX:=hid hX
 have HWt:=hid (show n8 O0 (.ok l)=.ok (b9 l) from if_pos ho)
 have C1:=hid (n6 P g cap ts nest (.ok l) ⟨#[40]⟩ w hn h he)
 have HLen:=hid hlen
 clear h hE he hX ho hlen
 go_enter Tryz.func194,Tryz.ntmps194
 go_wp2_with fail
 (with_reducible refine Calls.mono C1.out ?_)
 rintro e w1 ⟨rfl,hs,hg⟩
 have I1:=hid (show a5Y P g cap ts nest l X w w1 none 0 [] (.ok (b9 l)) from ⟨Nat.zero_le _,World.ownsRow_nil _ _ _ _,by rw [← HWt.out]; exact hs,hg,HX,fun r hr => by
  cases hr; exact ⟨fun e he => (by cases he),(by have:=HLen.out; omega)⟩⟩)
 clear hs hg C1
 go_upto_region 3 with fail
 go_loopw [5,6] (fun v _ wr => ∃ (ao : Option Addr) (cp : Nat) (L : List Ent) (σ : Sx),v=.slice ao L.length cp∧Hid (a5Y P g cap ts nest l X w wr ao cp L σ)) (fun _ _ wr => oP P ts wr)
 case atStart => exact ⟨none,0,[],_,rfl,I1⟩
 case round =>
  obtain ⟨ao,cp,L,σ,rfl,HI⟩:=hrel
  clear I1 HWt HX HLen
  have hL8 : L.length≤8:=HI.out.1
  have hs:=HI.out.2.2.1
  have hpl:=hs.blocks.1
  have HFar:=hid (show oP P ts wr=a4P σ from hs.far)
  cases σ with
  | error q =>
    obtain ⟨k,p⟩:=q
    obtain ⟨hk0,i,n,hp,-,-⟩:=hs.error
    obtain ⟨⟨p0,p1,p2,p3,p4⟩,-⟩:=hp.cells
    have ek : (k == 0)=false:=beq_eq_false_iff_ne.2 hk0
    have C2:=hid (n6 P g cap ts nest (.error (k,p)) ⟨#[41]⟩ wr hn hs HE)
    clear hs hk0 hp
    go_wp2_with fail
    (with_reducible refine Calls.mono C2.out ?_)
    rintro e w2 ⟨rfl,hs,hg⟩
    have HS:=hid hs
    have HG:=hid hg
    clear hs hg C2
    go_wp2_with fail
    go_ret
    have hX : X=.error (k,p):=HI.out.2.2.2.2.1
    rw [hX]
    exact ⟨L.map (·.1),ao,cp,by rw [List.length_map]; rfl,HS,a6 HI.out.2.2.2.1 HG,fun _ _ h => by cases h⟩
  | ok r =>
    obtain ⟨i,-,hp⟩:=hs.ok
    obtain ⟨⟨p0,p1,p2,p3,p4⟩,-⟩:=hp.cells
    have HS:=hid hs
    have HXr:=hid (show X=rd (.args (L.map (·.1))) nest r from HI.out.2.2.2.2.1)
    by_cases h8 : L.length=8
    ·have hl8 : ((L.length : Int) == 8)=true:=by rw [h8]; rfl
     have HX8:=hid (show X=.error (76,(hd r).pos) by rw [HXr.out,zG,if_pos (by rw [List.length_map]; exact h8)])
     have C2:=hid (fA P g cap ts nest (.ok r) wr hs)
     clear hs hp h8
     go_wp2_with fail
     (with_reducible refine Calls.mono C2.out ?_)
     rintro e w2 ⟨T,rfl,hb,hT⟩
     have HT:=hid (hT r rfl)
     have HS2:=hid (HS.out.below hb)
     have HG2:=hid (c8 HI.out.2.2.2.1 (hb.mono HI.out.2.2.2.1.size))
     obtain ⟨i2,-,hp2⟩:=HS2.out.ok
     have C3:=hid (J6 P g cap ts i2 nest w2 76 T.pos hp2)
     clear hb hT hp2 p0 p1 p2 p3 p4 hpl
     unfold tkV
     have hfd:=aK T.kind T.n T.pos ⟨T.text.toArray⟩
     go_wp2_with fail
     (with_reducible refine Calls.mono C3.out ?_)
     rintro e w3 ⟨rfl,hp3,hg⟩
     have HS3:=hid (show SP P g cap ts nest (.error (76,T.pos)) w3 from SP.of_error hp3 (by decide) (Int.le_refl _) (by omega))
     have HG3:=hid (a6 HG2 hg)
     have C4:=hid (n6 P g cap ts nest (.error (76,T.pos)) ⟨#[41]⟩ w3 hn HS3 HE)
     clear hp3 hg hfd
     go_wp2_with fail
     (with_reducible refine Calls.mono C4.out ?_)
     rintro e w4 ⟨rfl,hs,hg⟩
     have HS4:=hid hs
     have HG4:=hid (a6 HG3 hg)
     clear hs hg
     go_wp2_with fail
     go_ret
     rw [HX8.out,← HT.out]
     exact ⟨L.map (·.1),ao,cp,by rw [List.length_map]; rfl,HS4,HG4,fun _ _ h => by cases h⟩
    ·have hl8 : ((L.length : Int) == 8)=false:=beq_eq_false_iff_ne.2 (by omega)
     have hL7 : L.length≤7:=by omega
     have HXn:=hid (show X=(rd .expr nest r).then fun t r => if isT A9 r=true then rd (.args (L.map (·.1) ++ [t])) nest (b9 r) else p5 Q6 r fun r => .ok (mkN 0 [] 0 (L.map (·.1) ++ [t]) 0,r) by rw [HXr.out,zG,if_neg (by rw [List.length_map]; exact h8)])
     have C2:=hid (HEx.out r (HI.out.2.2.2.2.2 r rfl).2 nest wr hn hs)
     have HRL:=hid (fun t q (h : rd .expr nest r=.ok (t,q)) => jK .expr nest r h)
     have HRl:=hid (HI.out.2.2.2.2.2 r rfl).2
     generalize rd .expr nest r=x at HXn C2 HRL
     clear hs hp h8 hL8
     go_wp2_with fail
     (with_reducible refine Calls.mono C2.out ?_)
     rintro e w4 ⟨t,a,c,rfl,hs,hg,hk⟩
     have HK:=hid hk
     have HS4:=hid hs
     have HG4:=hid (a6 HI.out.2.2.2.1 hg)
     have HGr:=hid hg
     have HO4:=hid (show w4.ownsRow w.heap.size 24 5 (.slice ao L.length cp) L.length (V8 L) from HI.out.2.1.kept hg (by
      cases hv : (Value.slice ao L.length cp).ownBlock with
      | none => exact .inl rfl
      | some c => exact .inr (fun e => by have:=(HI.out.2.1.lt c hv).1; cases e; have:=hb0.out.1; omega)))
     have hwl:=hid (show w.heap.size≤w4.heap.size from HG4.out.size)
     have hbase : w.heap.size≤w4.heap.size:=hwl.out
     clear hs hg hk C2 p0 p1 p2 p3 p4 hpl
     unfold Nd.val
     go_wp2_with (at_builtin; refine wpList_append_lies _ rfl _ _ 22 rfl w.heap.size 24 i0 (.agg #[.int .i64 0,.string ⟨#[]⟩,.int .i64 0,.slice none 0 0,.int .i64 0]) 5 64 Tryz.underlying22 HI0.out.1 HI0.out.2.1 HI0.out.2.2.1 HI0.out.2.2.2 rfl (by decide) _ _ _ rfl (HO4.out.alloc _) ⟨w4.heap.size,0,none⟩ 1 1 (ndC (t,a,c)) rfl rfl (bL _ _ _ _ _ _ _) (jG _) (by decide) (by unfold maxLen; omega) (by omega) (by simp; omega) _ rfl ?_; intro gb cap' w5 hown' hgrow' hat hltg)
     have B4:=hid (a7 w4 (.cells #[.int .i64 t.kind,.string t.text,.int .i64 t.n,.slice a t.kids.length c,.int .i64 t.place] 24))
     have HOl:=hid (show ∀ d,(Value.slice ao L.length cp).ownBlock=some d→w.heap.size≤d∧d<wr.heap.size from fun d hd => HI.out.2.1.lt d hd)
     have HG5:=hid (a1Q (a6 HG4 (c9 B4)) hgrow' (fun d hd => (HOl.out d hd).1))
     have HS5:=hid (SP.row (HS4.out.below B4) hgrow' (fun d hd => by have:=(HOl.out d hd).1; have:=hb0.out; omega))
     have HR5:=hid (show w5.ownsRow w.heap.size 24 5 (.slice (some ⟨gb,0,none⟩) (L ++ [(t,a,c)]).length cap') (L ++ [(t,a,c)]).length (V8 (L ++ [(t,a,c)])) from by
      rw [kX,List.length_append]; exact hown')
     have HL5:=hid (show ∀ r',l9 x=.ok r'→(∀ e∈L ++ [(t,a,c)],e.1.lies (fun d => w.heap.size≤d∧d<w5.heap.size∧d≠gb) w5 e.2.1 e.2.2∧j3 e.1≤100)∧r'.length≤r.length from fun r' hr' => by
      obtain ⟨t2,ht2⟩:=q9 hr'
      obtain ⟨rfl,hl,hd⟩:=HK.out t2 r' ht2
      have hsz : wr.heap.size≤w4.heap.size:=HGr.out.size
      have hsz5 : w4.heap.size + 1≤w5.heap.size:=by have:=hgrow'.size; simpa using this
      have hal : (w4.alloc (.cells #[.int .i64 t2.kind,.string t2.text,.int .i64 t2.n,.slice a t2.kids.length c,.int .i64 t2.place] 24)).heap.size=w4.heap.size + 1:=by simp
      have hgb : (Value.slice ao L.length cp).ownBlock=some gb∨gb=w4.heap.size + 1:=hat.imp (fun h => h) (fun e => e.trans (by simp))
      have hP : P<wr.heap.size:=HS.out.blocks.1
      have hPw:=hb0.out.1
      refine ⟨fun e he => ?_,HRL.out t2 r' ht2⟩
      rcases List.mem_append.1 he with he | he
      ·obtain ⟨h1,h2⟩:=(HI.out.2.2.2.2.2 r rfl).1 e he
       refine ⟨d8 h1 (fun d hd => ?_) fun d hd => ⟨hd.1,by have:=hd.2.1; omega,fun e => ?_⟩,h2⟩
       ·have hd1:=hd.1
        have hd2:=hd.2.1
        refine (hgrow'.block d (by rw [hal]; omega) (fun e => hd.2.2 e.symm)).trans ((B4.out.block d (by omega)).trans (HGr.out.block d hd2 (fun e => by cases e; omega)))
       ·subst e
        rcases hgb with e | e
        ·exact hd.2.2 e
        ·have:=hd.2.1; omega
      ·obtain rfl:=List.mem_singleton.1 he
       refine ⟨d8 hl (fun d hd => ?_) fun d hd => ⟨Nat.le_trans HI.out.2.2.2.1.size hd.1,by have:=hd.2; omega,fun e => ?_⟩,hd⟩
       ·have hd1:=hd.1
        have hd2:=hd.2
        refine (hgrow'.block d (by rw [hal]; omega) (fun e => by have:=(HOl.out d e.symm).2; omega)).trans (B4.out.block d hd2)
       ·subst e
        rcases hgb with e | e
        ·have:=(HOl.out _ e).2; have:=hd.1; omega
        ·have:=hd.2; omega)
     have HIs:=hid (show Is x t from fun t' r h => (HK.out t' r h).1)
     have hgb5:=hid (show w.heap.size≤gb∧gb<w5.heap.size from HR5.out.lt gb rfl)
     have D1:=hid (dA P g cap ts nest (l9 x) ⟨#[44]⟩ w5 HS5)
     clear hown' hgrow' hat hltg hbase
     go_wp2_with fail
     (with_reducible refine Calls.mono D1.out ?_)
     rintro e w6 ⟨b1,rfl,hb,hb1⟩
     have HS6:=hid (HS5.out.below hb)
     have HB6:=hid hb
     have HT6:=hid hb1
     have HG6:=hid (c8 HG5 (hb.mono HG5.out.size))
     clear hb hb1 D1
     cases b1
     ·have C5:=hid (n6 P g cap ts nest (l9 x) ⟨#[41]⟩ w6 hn HS6 HE)
      go_wp2_with fail
      (with_reducible refine Calls.mono C5.out ?_)
      rintro e w7 ⟨rfl,hs,hg⟩
      have HS7:=hid (show SP P g cap ts nest (n8 Q6 (l9 x)) w7 from hs)
      have K57:=hid (show w5.grownBy w7 (some P) from a6 (c9 HB6) hg)
      have HG7:=hid (a6 HG6 hg)
      clear hs hg C5
      go_wp2_with fail
      go_ret
      have hX : X=goX (n8 Q6 (l9 x)) fun r => .ok (mkN 0 [] 0 (L.map (·.1) ++ [t]) 0,r):=by
       rw [HXn.out,a18 HIs.out HT6.out]
      have hP5:=HS5.out.blocks.1
      have hPw:=hb0.out.1
      refine ⟨(L ++ [(t,a,c)]).map (·.1),some ⟨gb,0,none⟩,cap',by rw [List.length_map,List.length_append]; rfl,by rw [hX,aM]; exact HS7,HG7,fun t' r' hx => ?_⟩
      rw [hX] at hx
      obtain ⟨r1,e1,e2⟩:=T3 hx
      cases e2
      obtain ⟨r2,e3,-,-⟩:=G0 e1
      obtain ⟨hal,-⟩:=HL5.out r2 e3
      have hrow : w7.ownsRow w.heap.size 24 5 (.slice (some ⟨gb,0,none⟩) (L ++ [(t,a,c)]).length cap') (L ++ [(t,a,c)]).length (V8 (L ++ [(t,a,c)])) :=
       HR5.out.kept K57 (.inr (fun e => by have:=hgb5.out.1; have e' : gb=P:=Option.some.inj e; omega))
      have hcap:=hrow.2
      have hlen : (L ++ [(t,a,c)]).length=L.length + 1:=by rw [List.length_append]; rfl
      refine ⟨by rw [List.map_append]; rfl,⟨?_,?_,?_⟩,qO _ _ fun k hk => ?_,kP hrow (show Fr w.heap.size w7.heap.size gb from ⟨hgb5.out.1,Nat.lt_of_lt_of_le hgb5.out.2 K57.out.size⟩) fun e he => d8 (hal e he).1 ((j6.refl _ _).grown K57 fun d hd => ⟨hd.2.1,fun e => by subst e; have:=hd.1; omega⟩) fun d hd => ⟨hd.1,Nat.lt_of_lt_of_le hd.2.1 K57.out.size⟩⟩
      ·rw [List.length_map,hlen]; omega
      ·rw [List.length_map]
       rcases hcap with ⟨h,-⟩ | ⟨g',cap2,cur,h,-,-,h1,-⟩
       ·cases h
       ·cases h; exact h1
      ·rcases hcap with ⟨h,-⟩ | ⟨g',cap2,cur,h,-,-,-,h1,-⟩
       ·cases h
       ·cases h; exact h1
      ·obtain ⟨e,he,rfl⟩:=List.mem_map.1 hk
       exact (hal e he).2
     ·have C5:=hid (O4 P g cap ts nest (l9 x) w6 HS6 HE)
      go_wp2_with fail
      (with_reducible refine Calls.mono C5.out ?_)
      rintro e w7 ⟨T,rfl,hs,hg,-⟩
      have HS7:=hid hs
      have K57:=hid (show w5.grownBy w7 (some P) from a6 (c9 HB6) hg)
      have HG7:=hid (a6 HG6 hg)
      clear hs hg C5
      unfold tkV
      go_wp2_with fail
      go_roundw
      case rel =>
       have hlen : (L ++ [(t,a,c)]).length=L.length + 1:=by rw [List.length_append]; rfl
       have hPw:=hb0.out.1
       refine ⟨some ⟨gb,0,none⟩,cap',L ++ [(t,a,c)],qE (l9 x),by rw [hlen],?_,HR5.out.kept K57 (.inr (fun e => by have:=hgb5.out.1; have e' : gb=P:=Option.some.inj e; omega)),HS7,HG7,?_,fun r' hr' => ?_⟩
       ·rw [hlen]; omega
       ·rw [HXn.out,a1R HIs.out HT6.out,List.map_append]; rfl
       ·cases hx : l9 x with
        | error e => rw [hx] at hr'; cases hr'
        | ok r1 =>
          rw [hx] at hr'
          obtain ⟨hal,h1⟩:=HL5.out r1 hx
          replace hr' : Except.ok (b9 r1)=(.ok r' : Sx):=hr'
          cases hr'
          refine ⟨fun e he => ⟨d8 (hal e he).1 ((j6.refl _ _).grown K57 fun d hd => ⟨hd.2.1,fun e => by subst e; have:=hd.1; omega⟩) fun d hd => ⟨hd.1,Nat.lt_of_lt_of_le hd.2.1 K57.out.size,fun e => hd.2.2 (Option.some.inj e).symm⟩,(hal e he).2⟩,?_⟩
          have:=J4 r1
          have:=HRl.out
          omega
      case measure =>
       rw [HFar.out]
       refine Nat.lt_of_le_of_lt (Nat.le_of_eq HS7.out.far) ?_
       cases hx : l9 x with
       | error e => exact Nat.succ_pos _
       | ok r1 =>
         obtain ⟨hal,h1⟩:=HL5.out r1 hx
         have:=D8 (HT6.out r1 hx).symm
         show (b9 r1).length + 1<r.length + 1
         omega
end
section
open Go.RowKit
structure TkZ (t : Tk) : Prop where
 zero : t.kind=4∨t.kind=2→t.n=0
 sign : t.kind=8→t.text≠gL∧t.text≠dG∧t.text≠gS∧t.text≠gP
 word : t.kind=2→t.text≠O0
inductive AtomC (T : Tk) : Prop
 | num (h : T.kind=6)
 | day (h : T.kind=5)
 | cur (h : T.kind=4)
 | yes (h : T.kind=2) (h' : T.text=gL)
 | no (h : T.kind=2) (h' : T.text=dG)
 | feed (h : T.kind=2) (h' : T.text=gS)
 | pick (h : T.kind=2) (h' : T.text=gP)
 | name (h : T.kind=1∨T.kind=3)
 | paren (h : T.kind=8) (h' : T.text=O0)
 | none (h1 : T.kind≠6∧T.kind≠5∧T.kind≠4∧T.kind≠1∧T.kind≠3) (h2 : T.kind=2→T.text≠gL∧T.text≠dG∧T.text≠gS∧T.text≠gP) (h8 : T.kind=8→T.text≠O0)
theorem a0X (T : Tk) : AtomC T:=by
 by_cases h6 : T.kind=6
 ·exact .num h6
 by_cases h5 : T.kind=5
 ·exact .day h5
 by_cases h4 : T.kind=4
 ·exact .cur h4
 by_cases h1 : T.kind=1∨T.kind=3
 ·exact .name h1
 by_cases h2 : T.kind=2
 ·by_cases a : T.text=gL
  ·exact .yes h2 a
  by_cases b : T.text=dG
  ·exact .no h2 b
  by_cases c : T.text=gS
  ·exact .feed h2 c
  by_cases d : T.text=gP
  ·exact .pick h2 d
  exact .none ⟨h6,h5,h4,fun e => h1 (.inl e),fun e => h1 (.inr e)⟩ (fun _ => ⟨a,b,c,d⟩) (fun e => by omega)
 by_cases h8 : T.kind=8∧T.text=O0
 ·exact .paren h8.1 h8.2
 exact .none ⟨h6,h5,h4,fun e => h1 (.inl e),fun e => h1 (.inr e)⟩ (fun e => absurd e h2) (fun e a => h8 ⟨e,a⟩)
theorem pY {l : List Tk} {w : List UInt8} (h : (hd l).kind=2∨(hd l).kind=8) (ht : (hd l).text=w) : isT w l=true:=by
 unfold isT
 rw [ht]
 rcases h with h | h <;> rw [h] <;> simp
theorem fR {l : List Tk} {w : List UInt8} (h2 : (hd l).kind=2→(hd l).text≠w) (h8 : (hd l).kind=8→(hd l).text≠w) : ¬ isT w l=true:=fun e => by
 obtain ⟨k,t⟩:=sV e
 rcases k with k | k
 ·exact h2 k t
 ·exact h8 k t
section
variable {nest : Nat} {l : List Tk}
theorem eY (nest : Nat) (l : List Tk) : rd .atom nest l=a1D rd .atom nest l:=kS .atom nest l
theorem a2P (h : (hd l).kind=6) : rd .atom nest l=.ok (mkN 5 [] (hd l).n [] (hd l).pos,b9 l):=(eY nest l).trans (if_pos h)
theorem a2K (h : (hd l).kind=5) : rd .atom nest l=.ok (mkN 6 [] (hd l).n [] (hd l).pos,b9 l):=(eY nest l).trans ((if_neg (by omega)).trans (if_pos h))
theorem a3U (h : (hd l).kind=4) : rd .atom nest l=.ok (mkN 7 (hd l).text 0 [] (hd l).pos,b9 l):=(eY nest l).trans ((if_neg (by omega)).trans ((if_neg (by omega)).trans (if_pos h)))
theorem a0E (h : (hd l).kind=1∨(hd l).kind=3) : rd .atom nest l=if isT O0 (b9 l)=true then (rd (.args []) nest (b9 (b9 l))).then fun a r => made (mkN 11 (hd l).text 0 a.kids (hd l).pos) r else .ok (mkN 10 (hd l).text 0 [] (hd l).pos,b9 l) :=
 (eY nest l).trans ((if_neg (by omega)).trans ((if_neg (by omega)).trans ((if_neg (by omega)).trans (if_pos h))))
theorem cX (h : (hd l).kind=2∨(hd l).kind=8) (x : Rd) (hx : (if isT gL l=true then .ok (mkN 8 [] 1 [] (hd l).pos,b9 l)
 else if isT dG l=true then .ok (mkN 8 [] 0 [] (hd l).pos,b9 l)
 else if isT gS l=true then U4 7 (b9 l) fun s r => .ok (mkN 9 s.text 0 [] (hd l).pos,r)
 else if isT gP l=true then uD nest (b9 l) (hd l).pos
 else if isT O0 l=true then (rd .expr nest (b9 l)).then fun x r => p5 Q6 r fun r => .ok (x,r)
 else .error (74,(hd l).pos))=x) : rd .atom nest l=x:=(eY nest l).trans ((if_neg (by omega)).trans ((if_neg (by omega)).trans ((if_neg (by omega)).trans ((if_neg (by omega)).trans hx))))
theorem a2r (h : (hd l).kind=2) (t : (hd l).text=gL) : rd .atom nest l=.ok (mkN 8 [] 1 [] (hd l).pos,b9 l):=cX (.inl h) _ (if_pos (pY (.inl h) t))
theorem pF (h : (hd l).kind=2) {w v : List UInt8} (t : (hd l).text=w) (hne : w≠v) : ¬ isT v l=true:=fR (fun _ => t ▸ hne) (fun e => by omega)
theorem a48 (h : (hd l).kind=2) (t : (hd l).text=dG) : rd .atom nest l=.ok (mkN 8 [] 0 [] (hd l).pos,b9 l):=cX (.inl h) _ ((if_neg (pF h t (by decide))).trans (if_pos (pY (.inl h) t)))
theorem a0w (h : (hd l).kind=2) (t : (hd l).text=gS) : rd .atom nest l=U4 7 (b9 l) fun s r => .ok (mkN 9 s.text 0 [] (hd l).pos,r) :=
 cX (.inl h) _ ((if_neg (pF h t (by decide))).trans ((if_neg (pF h t (by decide))).trans (if_pos (pY (.inl h) t))))
theorem a0j (h : (hd l).kind=2) (t : (hd l).text=gP) : rd .atom nest l=uD nest (b9 l) (hd l).pos :=
 cX (.inl h) _ ((if_neg (pF h t (by decide))).trans ((if_neg (pF h t (by decide))).trans ((if_neg (pF h t (by decide))).trans (if_pos (pY (.inl h) t)))))
theorem xT (_hz : TkZ (hd l)) (h : (hd l).kind=8) (t : (hd l).text=O0) : rd .atom nest l=(rd .expr nest (b9 l)).then fun x r => p5 Q6 r fun r => .ok (x,r):=by
 have no : ∀ v,O0≠v→¬ isT v l=true:=fun v hv => fR (fun e => by omega) (fun _ => t ▸ hv)
 exact cX (.inr h) _ ((if_neg (no _ (by decide))).trans ((if_neg (no _ (by decide))).trans ((if_neg (no _ (by decide))).trans ((if_neg (no _ (by decide))).trans (if_pos (pY (.inr h) t))))))
theorem a1m (hz : TkZ (hd l)) (h1 : (hd l).kind≠6∧(hd l).kind≠5∧(hd l).kind≠4∧(hd l).kind≠1∧(hd l).kind≠3) (h2 : (hd l).kind=2→(hd l).text≠gL∧(hd l).text≠dG∧(hd l).text≠gS∧(hd l).text≠gP) (h8 : (hd l).kind=8→(hd l).text≠O0) : rd .atom nest l=.error (74,(hd l).pos) :=
 (eY nest l).trans ((if_neg h1.1).trans ((if_neg h1.2.1).trans ((if_neg h1.2.2.1).trans ((if_neg (by omega)).trans ((if_neg (fR (fun e => (h2 e).1) (fun e => (hz.sign e).1))).trans ((if_neg (fR (fun e => (h2 e).2.1) (fun e => (hz.sign e).2.1))).trans
   ((if_neg (fR (fun e => (h2 e).2.2.1) (fun e => (hz.sign e).2.2.1))).trans ((if_neg (fR (fun e => (h2 e).2.2.2) (fun e => (hz.sign e).2.2.2))).trans (if_neg (fR hz.word h8))))))))))
end
end
section
open Lib (hid)
open Go.RowKit
theorem U2 {av : Nat→Prop} {W : World} {k n p : Int} {s : List UInt8} (hk : (Lit.int .i64 k).wf=true) (hs : s.length≤16384) (hn : (Lit.int .i64 n).wf=true) (hp : (Lit.int .i64 p).wf=true) : (mkN k s n [] p).lies av W none 0 :=
 Nd.lies.mk' hk (by show s.toArray.size≤maxLen; unfold maxLen; simp; omega) hn hp (Nat.le_refl _) (by unfold maxLen; decide) trivial
theorem R8 (k : Int) (s : List UInt8) (n p : Int) : j3 (mkN k s n [] p)=1:=by
 unfold mkN; rw [j3,o0]
theorem a1V (k : Int) (s : List UInt8) (n p : Int) (ks : List Nd) : j3 (mkN k s n ks p)=o0 ks + 1:=by
 unfold mkN; rw [j3]
theorem iQ {t : Nd} (h : j3 t≤100) (σ : Sx) : eK t σ=σ:=by
 cases σ with
 | error e => rfl
 | ok r => exact if_neg (by omega)
theorem a4G (P g cap : Nat) (ts : List Tk) (nest : Nat) (σ : Sx) (t : Nd) (w : World) (hn : nest≤300) (h : SP P g cap ts nest σ w) (_hk : t.kids.length=0) (hd : j3 t≤100) (hl : t.lies (fun _ => False) w none 0) :
 Calls Tryz.prog 105 #[.pointer (some ⟨P,0,none⟩),.agg #[.int .i64 t.kind,.string t.text,.int .i64 t.n,.slice none t.kids.length 0,.int .i64 t.place]] w (a3H P g cap ts nest σ t none 0 w) :=
 pP P g cap ts nest σ t none 0 w hn h fun _ _ => ⟨by omega,_,fun _ hb => hb.elim,hl⟩
theorem a0C (P g cap : Nat) (ts : List Tk) (he : bT ts) (htk : ∀ t∈ts,bP t) (htz : ∀ t∈ts,TkZ t) (l : List Tk) (hE : ∀ r,r.length<l.length→CE P g cap ts r) : CA P g cap ts l:=by
 intro nest w hn h
 have P0:=hid h
 have HP:=hid (show w.heap.size≠P∧w.heap.size≠g from ⟨Nat.ne_of_gt h.blocks.1,Nat.ne_of_gt h.blocks.2⟩)
 have HEx:=hid hE
 have HTK:=hid htk
 have HTZ:=hid htz
 obtain ⟨X,hX⟩ : ∃ X,X=rd .atom nest l:=⟨_,rfl⟩
 rw [← hX]
 have HX:=hid hX
 obtain ⟨W1,hW1⟩ : ∃ W,W=w.alloc (.cells #[.int .i64 0,.string ⟨#[]⟩,.int .i64 0,.slice none 0 0,.int .i64 0] 24):=⟨_,rfl⟩
 have B1:=hid (show c6 w.heap.size nd0 none 0 W1 from hW1 ▸ c6.make w nd0 none 0)
 have E1:=hid (show Below w.heap.size w W1 from hW1 ▸ a7 _ _)
 have S1:=hid (c9 (r:=some P) E1)
 have P1:=hid (P0.out.below E1)
 obtain ⟨i,-,hp⟩:=P1.out.ok
 obtain ⟨⟨p0,p1,p2,p3,p4⟩,-⟩:=hp.cells
 have hpl:=hp.plt
 have C2:=hid (fA P g cap ts nest (.ok l) W1 P1)
 clear h hE htk htz hX hp
 subst hW1
 go_enter Tryz.func179,Tryz.ntmps179
 go_wp2_with fail
 (with_reducible refine Calls.mono C2.out ?_)
 rintro e W2 ⟨T,rfl,hb,hT⟩
 obtain ⟨W1,hW1⟩ : ∃ W,W=w.alloc (.cells #[.int .i64 0,.string ⟨#[]⟩,.int .i64 0,.slice none 0 0,.int .i64 0] 24):=⟨_,rfl⟩
 rw [← hW1] at B1 E1 S1 P1 hb
 have HT:=hid (hT l rfl)
 have S2:=hid (c9 (r:=some P) hb)
 have P2:=hid (P1.out.below hb)
 have B2:=hid (B1.out.below hb)
 clear hb hT p0 p1 p2 p3 p4 hpl C2 hW1
 have HT0:=hid (show bP T from HT.out ▸ HTK.out _ P1.out.mem)
 have HTz:=hid (show TkZ T from HT.out ▸ HTZ.out _ P1.out.mem)
 obtain ⟨W3,hW3⟩ : ∃ W,W=W2.alloc (.cells #[.int .i64 T.kind,.string ⟨T.text.toArray⟩,.int .i64 T.n,.int .i64 T.pos] 108):=⟨_,rfl⟩
 have B3:=hid (show E0 W2.heap.size T W3 from hW3 ▸ E0.make W2 T)
 have E3:=hid (show Below W2.heap.size W2 W3 from hW3 ▸ a7 _ _)
 have S3:=hid (c9 (r:=some P) E3)
 have P3:=hid (P2.out.below E3)
 unfold tkV
 go_upto_region 4 with fail
 rw [← hW3]
 clear hW3
 obtain ⟨⟨t0,t1,t2,t3⟩,-⟩:=B3.out.cells
 have hl3 : W2.heap.size<W3.heap.size:=B3.out.lt
 obtain ⟨W4,hW4⟩ : ∃ W,W=W3.alloc (.cells #[.int .i64 0,.string ⟨#[]⟩,.int .i64 T.n,.slice none 0 0,.int .i64 T.pos] 24):=⟨_,rfl⟩
 have B4:=hid (show c6 W3.heap.size (mkN 0 [] T.n [] T.pos) none 0 W4 from hW4 ▸ c6.make W3 (mkN 0 [] T.n [] T.pos) none 0)
 have E4:=hid (show Below W3.heap.size W3 W4 from hW4 ▸ a7 _ _)
 have S4:=hid (c9 (r:=some P) E4)
 have P4:=hid (P3.out.below E4)
 go_upto_region 7 with fail
 rw [← hW4]
 clear hW4 t0 t1 t2 t3 hl3
 have S13:=hid (show w.grownBy W3 (some P) from a6 (a6 S1 S2) S3)
 have T4:=hid (show E0 W2.heap.size T W4 from B3.out.below E4)
 have N4:=hid (show c6 w.heap.size nd0 none 0 W4 from (B2.out.below E3).below E4)
 have hP3:=hid (show P<W2.heap.size∧g<W2.heap.size∧P<W3.heap.size∧g<W3.heap.size by have h2:=P2.out.blocks; have h3:=P3.out.blocks; omega)
 have hLT:=hid (show w.heap.size<W2.heap.size∧W2.heap.size<W3.heap.size from ⟨B2.out.lt,B3.out.lt⟩)
 have hsz : w.heap.size<W2.heap.size∧W2.heap.size<W3.heap.size∧W3.heap.size<W4.heap.size:=⟨hLT.out.1,hLT.out.2,B4.out.lt⟩
 obtain ⟨⟨t0,t1,t2,t3⟩,-⟩:=T4.out.cells
 obtain ⟨⟨n0,n1,n2,n3,n4⟩,⟨e0,e1,e2,e3,e4⟩⟩:=B4.out.cells
 clear S1 S2 S3 S4 P1 P2 P3 B1 B2 B3 E1 E3 HTZ
 rcases a0X T with hk | hk | hk | ⟨hk,ht⟩ | ⟨hk,ht⟩ | ⟨hk,ht⟩ | ⟨hk,ht⟩ | hk | ⟨hk,ht⟩ | ⟨hk,h2,h8⟩
 case' num =>
  have k6 : (T.kind == 6)=true:=by rw [hk]; rfl
  have k5 : (T.kind == 5)=false:=by rw [hk]; rfl
  have k4 : (T.kind == 4)=false:=by rw [hk]; rfl
  have k2 : (T.kind == 2)=false:=by rw [hk]; rfl
  have k1 : (T.kind == 1)=false:=by rw [hk]; rfl
  have k3 : (T.kind == 3)=false:=by rw [hk]; rfl
  have k8 : (T.kind == 8)=false:=by rw [hk]; rfl
  have hz : T.n=T.n:=rfl
  obtain ⟨W5,hW5⟩ : ∃ W,W=(W4.setCell ⟨W3.heap.size,0,none⟩ (.int .i64 5)):=⟨_,rfl⟩
  have hN : c6 W3.heap.size (mkN 5 [] T.n [] T.pos) none 0 W5:=by rw [hW5]; exact (l5 B4 0 (.int .i64 5))
  have G5:=hid (show w.grownBy W5 (some P) from a6 S13 (by rw [hW5]; exact (p9 (c9 (r:=some P) E4) (Nat.le_refl _) 0 (.int .i64 5))))
  have P5:=hid (show SP P g cap ts nest (.ok l) W5 from P4.out.keeps (by rw [hW5]; exact (by have hav : ∀ b,b=P∨b=g→b≠W3.heap.size:=fun b hb e => by { subst e; have:=hP3.out; omega }; exact ((j6.refl _ W4).set hav 0 (.int .i64 5)))) (by rw [hW5]; simp [World.setCell]))
  have N5:=hid (show c6 w.heap.size nd0 none 0 W5 by rw [hW5]; exact (N4.out.set (by have:=hLT.out; omega) 0 (.int .i64 5)))
  have hl5 : W3.heap.size<W5.heap.size:=hN.lt
  have hX : X=.ok (mkN 5 [] T.n [] T.pos,b9 l):=by
   rw [HX.out,a2P (HT.out ▸ hk),← HT.out]
  have HTs:=hid (show (Lit.int .i64 (mkN 5 [] T.n [] T.pos).n).wf=true from HT0.out.1)
  have HND:=hid (show (mkN 5 [] T.n [] T.pos).kids.length=0∧j3 (mkN 5 [] T.n [] T.pos)≤100∧∀ w,(mkN 5 [] T.n [] T.pos).lies (fun _ => False) w none 0 from ⟨rfl,by rw [R8]; decide,fun w => U2 rfl (by decide) HTs HT0.out.2.1⟩)
  clear hk hz HTs
  go_upto_region 37 with fail
  rw [← hW5]
  clear hW5
  obtain ⟨N,hNd⟩ : ∃ N,N=mkN 5 [] T.n [] T.pos:=⟨_,rfl⟩
  rw [← hNd] at hN hX HND
  clear hNd k6 k5 k4 k2 k1 k3 k8
 case' day =>
  have k6 : (T.kind == 6)=false:=by rw [hk]; rfl
  have k5 : (T.kind == 5)=true:=by rw [hk]; rfl
  have k4 : (T.kind == 4)=false:=by rw [hk]; rfl
  have k2 : (T.kind == 2)=false:=by rw [hk]; rfl
  have k1 : (T.kind == 1)=false:=by rw [hk]; rfl
  have k3 : (T.kind == 3)=false:=by rw [hk]; rfl
  have k8 : (T.kind == 8)=false:=by rw [hk]; rfl
  have hz : T.n=T.n:=rfl
  obtain ⟨W5,hW5⟩ : ∃ W,W=(W4.setCell ⟨W3.heap.size,0,none⟩ (.int .i64 6)):=⟨_,rfl⟩
  have hN : c6 W3.heap.size (mkN 6 [] T.n [] T.pos) none 0 W5:=by rw [hW5]; exact (l5 B4 0 (.int .i64 6))
  have G5:=hid (show w.grownBy W5 (some P) from a6 S13 (by rw [hW5]; exact (p9 (c9 (r:=some P) E4) (Nat.le_refl _) 0 (.int .i64 6))))
  have P5:=hid (show SP P g cap ts nest (.ok l) W5 from P4.out.keeps (by rw [hW5]; exact (by have hav : ∀ b,b=P∨b=g→b≠W3.heap.size:=fun b hb e => by { subst e; have:=hP3.out; omega }; exact ((j6.refl _ W4).set hav 0 (.int .i64 6)))) (by rw [hW5]; simp [World.setCell]))
  have N5:=hid (show c6 w.heap.size nd0 none 0 W5 by rw [hW5]; exact (N4.out.set (by have:=hLT.out; omega) 0 (.int .i64 6)))
  have hl5 : W3.heap.size<W5.heap.size:=hN.lt
  have hX : X=.ok (mkN 6 [] T.n [] T.pos,b9 l):=by
   rw [HX.out,a2K (HT.out ▸ hk),← HT.out]
  have HTs:=hid (show (Lit.int .i64 (mkN 6 [] T.n [] T.pos).n).wf=true from HT0.out.1)
  have HND:=hid (show (mkN 6 [] T.n [] T.pos).kids.length=0∧j3 (mkN 6 [] T.n [] T.pos)≤100∧∀ w,(mkN 6 [] T.n [] T.pos).lies (fun _ => False) w none 0 from ⟨rfl,by rw [R8]; decide,fun w => U2 rfl (by decide) HTs HT0.out.2.1⟩)
  clear hk hz HTs
  go_upto_region 37 with fail
  rw [← hW5]
  clear hW5
  obtain ⟨N,hNd⟩ : ∃ N,N=mkN 6 [] T.n [] T.pos:=⟨_,rfl⟩
  rw [← hNd] at hN hX HND
  clear hNd k6 k5 k4 k2 k1 k3 k8
 case' cur =>
  have k6 : (T.kind == 6)=false:=by rw [hk]; rfl
  have k5 : (T.kind == 5)=false:=by rw [hk]; rfl
  have k4 : (T.kind == 4)=true:=by rw [hk]; rfl
  have k2 : (T.kind == 2)=false:=by rw [hk]; rfl
  have k1 : (T.kind == 1)=false:=by rw [hk]; rfl
  have k3 : (T.kind == 3)=false:=by rw [hk]; rfl
  have k8 : (T.kind == 8)=false:=by rw [hk]; rfl
  have hz : T.n=T.n:=rfl
  obtain ⟨W5,hW5⟩ : ∃ W,W=((W4.setCell ⟨W3.heap.size,0,none⟩ (.int .i64 7)).setCell ⟨W3.heap.size,1,none⟩ (.string ⟨T.text.toArray⟩)):=⟨_,rfl⟩
  have hN : c6 W3.heap.size (mkN 7 T.text T.n [] T.pos) none 0 W5:=by rw [hW5]; exact (l5 (l5 B4 0 (.int .i64 7)) 1 (.string ⟨T.text.toArray⟩))
  have G5:=hid (show w.grownBy W5 (some P) from a6 S13 (by rw [hW5]; exact (p9 (p9 (c9 (r:=some P) E4) (Nat.le_refl _) 0 (.int .i64 7)) (Nat.le_refl _) 1 (.string ⟨T.text.toArray⟩))))
  have P5:=hid (show SP P g cap ts nest (.ok l) W5 from P4.out.keeps (by rw [hW5]; exact (by have hav : ∀ b,b=P∨b=g→b≠W3.heap.size:=fun b hb e => by { subst e; have:=hP3.out; omega }; exact (((j6.refl _ W4).set hav 0 (.int .i64 7)).set hav 1 (.string ⟨T.text.toArray⟩)))) (by rw [hW5]; simp [World.setCell]))
  have N5:=hid (show c6 w.heap.size nd0 none 0 W5 by rw [hW5]; exact ((N4.out.set (by have:=hLT.out; omega) 0 (.int .i64 7)).set (by have:=hLT.out; omega) 1 (.string ⟨T.text.toArray⟩)))
  have hl5 : W3.heap.size<W5.heap.size:=hN.lt
  have hX : X=.ok (mkN 7 T.text T.n [] T.pos,b9 l):=by
   rw [HX.out,a3U (HT.out ▸ hk),← HT.out]; rw [(HTz.out.zero (.inl hk))]
  have HTs:=hid (show (Lit.int .i64 (mkN 7 T.text T.n [] T.pos).n).wf=true from HT0.out.1)
  have HND:=hid (show (mkN 7 T.text T.n [] T.pos).kids.length=0∧j3 (mkN 7 T.text T.n [] T.pos)≤100∧∀ w,(mkN 7 T.text T.n [] T.pos).lies (fun _ => False) w none 0 from ⟨rfl,by rw [R8]; decide,fun w => U2 rfl HT0.out.2.2 HTs HT0.out.2.1⟩)
  clear hk hz HTs
  go_upto_region 37 with fail
  rw [← hW5]
  clear hW5
  obtain ⟨N,hNd⟩ : ∃ N,N=mkN 7 T.text T.n [] T.pos:=⟨_,rfl⟩
  rw [← hNd] at hN hX HND
  clear hNd k6 k5 k4 k2 k1 k3 k8
 case' yes =>
  have k6 : (T.kind == 6)=false:=by rw [hk]; rfl
  have k5 : (T.kind == 5)=false:=by rw [hk]; rfl
  have k4 : (T.kind == 4)=false:=by rw [hk]; rfl
  have k2 : (T.kind == 2)=true:=by rw [hk]; rfl
  have k1 : (T.kind == 1)=false:=by rw [hk]; rfl
  have k3 : (T.kind == 3)=false:=by rw [hk]; rfl
  have k8 : (T.kind == 8)=false:=by rw [hk]; rfl
  have x_yes : (T.text == [116,114,117,101])=true:=by rw [ht]; rfl
  have x_no : (T.text == [102,97,108,115,101])=false:=by rw [ht]; rfl
  have x_feed : (T.text == [102,101,101,100])=false:=by rw [ht]; rfl
  have x_pick : (T.text == [112,105,99,107])=false:=by rw [ht]; rfl
  have x_paren : (T.text == [40])=false:=by rw [ht]; rfl
  have hz : T.n=T.n:=rfl
  obtain ⟨W5,hW5⟩ : ∃ W,W=((W4.setCell ⟨W3.heap.size,0,none⟩ (.int .i64 8)).setCell ⟨W3.heap.size,2,none⟩ (.int .i64 1)):=⟨_,rfl⟩
  have hN : c6 W3.heap.size (mkN 8 [] 1 [] T.pos) none 0 W5:=by rw [hW5]; exact (l5 (l5 B4 0 (.int .i64 8)) 2 (.int .i64 1))
  have G5:=hid (show w.grownBy W5 (some P) from a6 S13 (by rw [hW5]; exact (p9 (p9 (c9 (r:=some P) E4) (Nat.le_refl _) 0 (.int .i64 8)) (Nat.le_refl _) 2 (.int .i64 1))))
  have P5:=hid (show SP P g cap ts nest (.ok l) W5 from P4.out.keeps (by rw [hW5]; exact (by have hav : ∀ b,b=P∨b=g→b≠W3.heap.size:=fun b hb e => by { subst e; have:=hP3.out; omega }; exact (((j6.refl _ W4).set hav 0 (.int .i64 8)).set hav 2 (.int .i64 1)))) (by rw [hW5]; simp [World.setCell]))
  have N5:=hid (show c6 w.heap.size nd0 none 0 W5 by rw [hW5]; exact ((N4.out.set (by have:=hLT.out; omega) 0 (.int .i64 8)).set (by have:=hLT.out; omega) 2 (.int .i64 1)))
  have hl5 : W3.heap.size<W5.heap.size:=hN.lt
  have hX : X=.ok (mkN 8 [] 1 [] T.pos,b9 l):=by
   rw [HX.out,a2r (HT.out ▸ hk) (HT.out ▸ ht),← HT.out]
  have HTs:=hid (show (Lit.int .i64 (mkN 8 [] 1 [] T.pos).n).wf=true from rfl)
  have HND:=hid (show (mkN 8 [] 1 [] T.pos).kids.length=0∧j3 (mkN 8 [] 1 [] T.pos)≤100∧∀ w,(mkN 8 [] 1 [] T.pos).lies (fun _ => False) w none 0 from ⟨rfl,by rw [R8]; decide,fun w => U2 rfl (by decide) HTs HT0.out.2.1⟩)
  clear hk ht hz HTs
  go_upto_region 37 with fail
  rw [← hW5]
  clear hW5
  obtain ⟨N,hNd⟩ : ∃ N,N=mkN 8 [] 1 [] T.pos:=⟨_,rfl⟩
  rw [← hNd] at hN hX HND
  clear hNd k6 k5 k4 k2 k1 k3 k8 x_yes x_no x_feed x_pick x_paren
 case' no =>
  have k6 : (T.kind == 6)=false:=by rw [hk]; rfl
  have k5 : (T.kind == 5)=false:=by rw [hk]; rfl
  have k4 : (T.kind == 4)=false:=by rw [hk]; rfl
  have k2 : (T.kind == 2)=true:=by rw [hk]; rfl
  have k1 : (T.kind == 1)=false:=by rw [hk]; rfl
  have k3 : (T.kind == 3)=false:=by rw [hk]; rfl
  have k8 : (T.kind == 8)=false:=by rw [hk]; rfl
  have x_yes : (T.text == [116,114,117,101])=false:=by rw [ht]; rfl
  have x_no : (T.text == [102,97,108,115,101])=true:=by rw [ht]; rfl
  have x_feed : (T.text == [102,101,101,100])=false:=by rw [ht]; rfl
  have x_pick : (T.text == [112,105,99,107])=false:=by rw [ht]; rfl
  have x_paren : (T.text == [40])=false:=by rw [ht]; rfl
  have hz : T.n=T.n:=rfl
  obtain ⟨W5,hW5⟩ : ∃ W,W=(W4.setCell ⟨W3.heap.size,0,none⟩ (.int .i64 8)):=⟨_,rfl⟩
  have hN : c6 W3.heap.size (mkN 8 [] T.n [] T.pos) none 0 W5:=by rw [hW5]; exact (l5 B4 0 (.int .i64 8))
  have G5:=hid (show w.grownBy W5 (some P) from a6 S13 (by rw [hW5]; exact (p9 (c9 (r:=some P) E4) (Nat.le_refl _) 0 (.int .i64 8))))
  have P5:=hid (show SP P g cap ts nest (.ok l) W5 from P4.out.keeps (by rw [hW5]; exact (by have hav : ∀ b,b=P∨b=g→b≠W3.heap.size:=fun b hb e => by { subst e; have:=hP3.out; omega }; exact ((j6.refl _ W4).set hav 0 (.int .i64 8)))) (by rw [hW5]; simp [World.setCell]))
  have N5:=hid (show c6 w.heap.size nd0 none 0 W5 by rw [hW5]; exact (N4.out.set (by have:=hLT.out; omega) 0 (.int .i64 8)))
  have hl5 : W3.heap.size<W5.heap.size:=hN.lt
  have hX : X=.ok (mkN 8 [] T.n [] T.pos,b9 l):=by
   rw [HX.out,a48 (HT.out ▸ hk) (HT.out ▸ ht),← HT.out]; rw [(HTz.out.zero (.inr hk))]
  have HTs:=hid (show (Lit.int .i64 (mkN 8 [] T.n [] T.pos).n).wf=true from HT0.out.1)
  have HND:=hid (show (mkN 8 [] T.n [] T.pos).kids.length=0∧j3 (mkN 8 [] T.n [] T.pos)≤100∧∀ w,(mkN 8 [] T.n [] T.pos).lies (fun _ => False) w none 0 from ⟨rfl,by rw [R8]; decide,fun w => U2 rfl (by decide) HTs HT0.out.2.1⟩)
  clear hk ht hz HTs
  go_upto_region 37 with fail
  rw [← hW5]
  clear hW5
  obtain ⟨N,hNd⟩ : ∃ N,N=mkN 8 [] T.n [] T.pos:=⟨_,rfl⟩
  rw [← hNd] at hN hX HND
  clear hNd k6 k5 k4 k2 k1 k3 k8 x_yes x_no x_feed x_pick x_paren
 case num | day | cur | yes | no =>
  have HX':=hid hX
  have HN:=hid hN
  clear hX hN t0 t1 t2 t3 n0 n1 n2 n3 n4 e0 e1 e2 e3 e4 hsz
  have C6:=hid (O4 P g cap ts nest (.ok l) W5 P5 he)
  go_wp2_with fail
  (with_reducible refine Calls.mono C6.out ?_)
  rintro e W6 ⟨S,rfl,hs,hg,-⟩
  have P6:=hid (show SP P g cap ts nest (.ok (b9 l)) W6 from hs)
  have G6:=hid (a6 G5 hg)
  have N6:=hid (N5.out.grown hg HP.out.1)
  obtain ⟨⟨n0,n1,n2,n3,n4⟩,-⟩:=(HN.out.grown hg (Nat.ne_of_gt hP3.out.2.2.1)).cells
  have CM:=hid (a4G P g cap ts nest (.ok (b9 l)) N W6 hn P6 HND.out.1 HND.out.2.1 (HND.out.2.2 W6))
  clear hs hg C6
  unfold tkV
  go_wp2_with fail
  (with_reducible refine Calls.mono CM.out ?_)
  rintro e W7 ⟨rfl,hs,hg⟩
  rw [iQ HND.out.2.1] at hs
  have P7:=hid hs
  have G7:=hid (a6 G6 hg)
  have N7:=hid (N6.out.grown hg HP.out.1)
  obtain ⟨⟨z0,z1,z2,z3,z4⟩,⟨f0,f1,f2,f3,f4⟩⟩:=N7.out.cells
  have hsz : w.heap.size<W7.heap.size:=N7.out.lt
  clear hs hg CM n0 n1 n2 n3 n4
  unfold Nd.val
  go_wp2_with fail
  refine bodyPost_ret (v:=N.val none 0) (by simp [results,Tryz.results179,go_sem,Nd.val,z0,z1,z2,z3,z4]) rfl ?_
  rw [HX'.out]
  refine RdP.fin P7 G7 HP (Nat.le_refl _) fun t' r hx => ?_
  cases hx
  exact ⟨rfl,⟨_,fun c hc => hc.elim,HND.out.2.2 W7⟩,HND.out.2.1⟩
 case feed =>
  have k6 : (T.kind == 6)=false:=by rw [hk]; rfl
  have k5 : (T.kind == 5)=false:=by rw [hk]; rfl
  have k4 : (T.kind == 4)=false:=by rw [hk]; rfl
  have k2 : (T.kind == 2)=true:=by rw [hk]; rfl
  have k1 : (T.kind == 1)=false:=by rw [hk]; rfl
  have k3 : (T.kind == 3)=false:=by rw [hk]; rfl
  have k8 : (T.kind == 8)=false:=by rw [hk]; rfl
  have x_yes : (T.text == [116,114,117,101])=false:=by rw [ht]; rfl
  have x_no : (T.text == [102,97,108,115,101])=false:=by rw [ht]; rfl
  have x_feed : (T.text == [102,101,101,100])=true:=by rw [ht]; rfl
  have x_pick : (T.text == [112,105,99,107])=false:=by rw [ht]; rfl
  have x_paren : (T.text == [40])=false:=by rw [ht]; rfl
  have HR:=hid (show X=U4 7 (b9 l) fun s r => .ok (mkN 9 s.text 0 [] T.pos,r) by rw [HX.out,a0w (HT.out ▸ hk) (HT.out ▸ ht),HT.out])
  clear hk ht
  have C5:=hid (O4 P g cap ts nest (.ok l) W4 P4 he)
  go_wp2_with fail
  (with_reducible refine Calls.mono C5.out ?_)
  rintro e W5 ⟨S,rfl,hs,hg,-⟩
  have P5:=hid (show SP P g cap ts nest (.ok (b9 l)) W5 from hs)
  have G5:=hid (a6 S13 (a6 (c9 E4) hg))
  have P5g:=hid hg
  have N5:=hid (N4.out.grown hg HP.out.1)
  have T5:=hid (T4.out.grown hg (Nat.ne_of_gt hP3.out.1))
  have hl5:=hid (show W2.heap.size<W5.heap.size from T5.out.lt)
  clear hs hg C5 t0 t1 t2 t3 n0 n1 n2 n3 n4 e0 e1 e2 e3 e4 hsz
  unfold tkV
  clear k6 k5 k4 k2 k1 k3 k8 x_yes x_no x_feed x_pick x_paren
  have C6:=hid (bG P g cap ts nest (.ok (b9 l)) 7 W5 hn P5 he)
  go_wp2_with fail
  (with_reducible refine Calls.mono C6.out ?_)
  rintro e W6 ⟨S,rfl,hs,hg,hS⟩
  have HS:=hid (show S=hd (b9 l) from hS _ rfl)
  have HS0:=hid (show bP S from HS.out ▸ HTK.out _ P5.out.mem)
  obtain ⟨σ1,hσ1⟩ : ∃ σ,σ=x8 7 (.ok (b9 l)):=⟨_,rfl⟩
  rw [← hσ1] at hs
  have Q1:=hid hσ1
  have P6:=hid hs
  have G6:=hid (a6 G5 hg)
  have N6:=hid (N5.out.grown hg HP.out.1)
  have T6:=hid (T5.out.grown hg (Nat.ne_of_gt hP3.out.1))
  clear hs hg hS hσ1 C6
  obtain ⟨W7,hW7⟩ : ∃ W,W=W6.alloc (.cells #[.int .i64 S.kind,.string ⟨S.text.toArray⟩,.int .i64 S.n,.int .i64 S.pos] 108):=⟨_,rfl⟩
  have B7:=hid (show E0 W6.heap.size S W7 from hW7 ▸ E0.make W6 S)
  have E7:=hid (show Below W6.heap.size W6 W7 from hW7 ▸ a7 _ _)
  have P7:=hid (P6.out.below E7)
  have N7:=hid (N6.out.below E7)
  have T7:=hid (T6.out.below E7)
  have G7:=hid (c8 G6 (E7.out.mono G6.out.size))
  have HD:=hid (show j3 (mkN 9 S.text 0 [] T.pos)≤100∧∀ w,(mkN 9 S.text 0 [] T.pos).lies (fun _ => False) w none 0 from ⟨by rw [R8]; decide,fun w => U2 rfl HS0.out.2.2 rfl HT0.out.2.1⟩)
  have CM:=hid (cI P g cap ts nest σ1 9 S.text 0 [] T.pos none 0 0 rfl W7 hn P7 fun r hr => ⟨Nat.le_trans HD.out.1 (by decide),_,fun b hb => hb.elim,HD.out.2 W7⟩)
  obtain ⟨⟨t0,t1,t2,t3⟩,-⟩:=T7.out.cells
  have hl6 : W2.heap.size<W6.heap.size:=T6.out.lt
  unfold tkV
  subst hW7
  go_wp2_with fail
  (with_reducible refine Calls.mono CM.out ?_)
  rintro e W9 ⟨rfl,hs,hg⟩
  have P9:=hid hs
  have G9:=hid (a6 G7 hg)
  have N9:=hid (N7.out.grown hg HP.out.1)
  obtain ⟨⟨z0,z1,z2,z3,z4⟩,⟨f0,f1,f2,f3,f4⟩⟩:=N9.out.cells
  have hsz : w.heap.size<W9.heap.size:=N9.out.lt
  clear hs CM t0 t1 t2 t3
  rw [iQ HD.out.1] at P9; clear hg
  rw [show (mkN 9 S.text 0 [] T.pos).val none 0=.agg #[.int .i64 9,.string ⟨List.toArray S.text⟩,.int .i64 0,.slice none 0 0,.int .i64 T.pos] from rfl]
  go_wp2_with fail
  refine bodyPost_ret (v:=(mkN 9 S.text 0 [] T.pos).val none 0) (by simp [results,Tryz.results179,go_sem,Nd.val,mkN,Nd.kind,Nd.text,Nd.n,Nd.kids,Nd.place,z0,z1,z2,z3,z4]) rfl ?_
  have hX : X=goX σ1 (fun r => .ok (mkN 9 S.text 0 [] T.pos,r)):=by
   rw [HR.out]
   exact (gI (.ok (b9 l)) 7 (fun s r => (.ok (mkN 9 s.text 0 [] T.pos,r) : Rd)) S (fun r h => by cases h; exact HS)).trans (by rw [← Q1.out])
  refine RdP.fin (by rw [hX,aM]; exact P9) G9 HP (Nat.le_refl _) fun t' r' hx => ?_
  rw [hX] at hx
  obtain ⟨r0,-,e2⟩:=T3 hx
  cases e2
  exact ⟨rfl,⟨_,fun c hc => hc.elim,HD.out.2 W9⟩,HD.out.1⟩
 case pick =>
  have k6 : (T.kind == 6)=false:=by rw [hk]; rfl
  have k5 : (T.kind == 5)=false:=by rw [hk]; rfl
  have k4 : (T.kind == 4)=false:=by rw [hk]; rfl
  have k2 : (T.kind == 2)=true:=by rw [hk]; rfl
  have k1 : (T.kind == 1)=false:=by rw [hk]; rfl
  have k3 : (T.kind == 3)=false:=by rw [hk]; rfl
  have k8 : (T.kind == 8)=false:=by rw [hk]; rfl
  have x_yes : (T.text == [116,114,117,101])=false:=by rw [ht]; rfl
  have x_no : (T.text == [102,97,108,115,101])=false:=by rw [ht]; rfl
  have x_feed : (T.text == [102,101,101,100])=false:=by rw [ht]; rfl
  have x_pick : (T.text == [112,105,99,107])=true:=by rw [ht]; rfl
  have x_paren : (T.text == [40])=false:=by rw [ht]; rfl
  have HR:=hid (show X=uD nest (b9 l) T.pos by rw [HX.out,a0j (HT.out ▸ hk) (HT.out ▸ ht),HT.out])
  clear hk ht
  have C5:=hid (O4 P g cap ts nest (.ok l) W4 P4 he)
  go_wp2_with fail
  (with_reducible refine Calls.mono C5.out ?_)
  rintro e W5 ⟨S,rfl,hs,hg,-⟩
  have P5:=hid (show SP P g cap ts nest (.ok (b9 l)) W5 from hs)
  have G5:=hid (a6 S13 (a6 (c9 E4) hg))
  have P5g:=hid hg
  have N5:=hid (N4.out.grown hg HP.out.1)
  have T5:=hid (T4.out.grown hg (Nat.ne_of_gt hP3.out.1))
  have hl5:=hid (show W2.heap.size<W5.heap.size from T5.out.lt)
  clear hs hg C5 t0 t1 t2 t3 n0 n1 n2 n3 n4 e0 e1 e2 e3 e4 hsz
  unfold tkV
  clear k6 k5 k4 k2 k1 k3 k8 x_yes x_no x_feed x_pick x_paren
  have C6:=hid (vE P g cap ts he HTK (b9 l) T.pos HT0.out.2.1 (fun r hr => HEx.out r (Nat.lt_of_lt_of_le hr (J4 l))) nest W5 hn P5)
  rw [← HR.out] at C6
  obtain ⟨⟨t0,t1,t2,t3⟩,-⟩:=T5.out.cells
  go_wp2_with fail
  (with_reducible refine Calls.mono C6.out ?_)
  rintro e W9 ⟨t,a,cp,rfl,hs,hg,hk⟩
  have P9:=hid hs
  have G9:=hid (a6 G5 hg)
  have N9:=hid (N5.out.grown hg HP.out.1)
  have HK:=hid hk
  obtain ⟨⟨z0,z1,z2,z3,z4⟩,⟨f0,f1,f2,f3,f4⟩⟩:=N9.out.cells
  have hsz : w.heap.size<W9.heap.size:=N9.out.lt
  have HL:=hid (show w.heap.size<W5.heap.size from N5.out.lt)
  clear hs hg hk C6 t0 t1 t2 t3
  unfold Nd.val
  go_wp2_with fail
  refine bodyPost_ret (v:=t.val a cp) (by simp [results,Tryz.results179,go_sem,Nd.val,Nd.kind,Nd.text,Nd.n,Nd.kids,Nd.place,z0,z1,z2,z3,z4]) rfl ?_
  refine RdP.fin P9 G9 HP (Nat.le_refl _) fun t' r' hx => ?_
  obtain ⟨e,hl,hd⟩:=HK.out t' r' hx
  exact ⟨e,⟨_,fun c hc => ⟨fun e => by subst e; have:=hc.1; have:=HL.out; omega,by have:=hc.1; have:=HL.out; omega,hc.2⟩,hl⟩,hd⟩
 case name =>
  have k6 : (T.kind == 6)=false:=beq_eq_false_iff_ne.2 (by omega)
  have k5 : (T.kind == 5)=false:=beq_eq_false_iff_ne.2 (by omega)
  have k4 : (T.kind == 4)=false:=beq_eq_false_iff_ne.2 (by omega)
  have k2 : (T.kind == 2)=false:=beq_eq_false_iff_ne.2 (by omega)
  have HR:=hid (show X=if isT O0 (b9 l)=true then (rd (.args []) nest (b9 (b9 l))).then fun a r => made (mkN 11 T.text 0 a.kids T.pos) r else .ok (mkN 10 T.text 0 [] T.pos,b9 l) by rw [HX.out,a0E (HT.out ▸ hk),HT.out])
  have hk' : (T.kind == 1)=true∨(T.kind == 1)=false∧(T.kind == 3)=true:=by
   rcases hk with hk | hk
   ·exact .inl (by rw [hk]; rfl)
   ·exact .inr ⟨by rw [hk]; rfl,by rw [hk]; rfl⟩
  clear hk
  rcases hk' with k1 | ⟨k1,k3⟩
  all_goals
   have C5:=hid (O4 P g cap ts nest (.ok l) W4 P4 he)
   go_wp2_with fail
   (with_reducible refine Calls.mono C5.out ?_)
   rintro e W5 ⟨S,rfl,hs,hg,-⟩
   have P5:=hid (show SP P g cap ts nest (.ok (b9 l)) W5 from hs)
   have G5:=hid (a6 S13 (a6 (c9 E4) hg))
   have P5g:=hid hg
   have N5:=hid (N4.out.grown hg HP.out.1)
   have T5:=hid (T4.out.grown hg (Nat.ne_of_gt hP3.out.1))
   have hl5:=hid (show W2.heap.size<W5.heap.size from T5.out.lt)
   clear hs hg C5 t0 t1 t2 t3 n0 n1 n2 n3 n4 e0 e1 e2 e3 e4 hsz
   unfold tkV
   clear k6 k5 k4 k2 k1
   try clear k3
   have C6:=hid (dA P g cap ts nest (.ok (b9 l)) ⟨#[40]⟩ W5 P5)
   go_wp2_with fail
   (with_reducible refine Calls.mono C6.out ?_)
   rintro e W6 ⟨b,rfl,hb,hbt⟩
   have HB:=hid (show b=isT O0 (b9 l) from hbt _ rfl)
   have P6:=hid (P5.out.below hb)
   have N6:=hid (N5.out.below hb)
   have T6:=hid (T5.out.below hb)
   have G6:=hid (c8 G5 (hb.mono G5.out.size))
   clear hb hbt C6
   obtain ⟨⟨t0,t1,t2,t3⟩,-⟩:=T6.out.cells
   have hl6 : W2.heap.size<W6.heap.size:=T6.out.lt
   cases b
   case false =>
    have hX:=hid (show X=.ok (mkN 10 T.text 0 [] T.pos,b9 l) by rw [HR.out,if_neg (by rw [← HB.out]; decide)])
    have HD:=hid (show j3 (mkN 10 T.text 0 [] T.pos)≤100∧∀ w,(mkN 10 T.text 0 [] T.pos).lies (fun _ => False) w none 0 from ⟨by rw [R8]; decide,fun w => U2 rfl HT0.out.2.2 rfl HT0.out.2.1⟩)
    have CM:=hid (cI P g cap ts nest (.ok (b9 l)) 10 T.text 0 [] T.pos none 0 0 rfl W6 hn P6 fun r hr => ⟨Nat.le_trans HD.out.1 (by decide),_,fun b hb => hb.elim,HD.out.2 W6⟩)
    go_wp2_with fail
    (with_reducible refine Calls.mono CM.out ?_)
    rintro e W9 ⟨rfl,hs,hg⟩
    have P9:=hid hs
    have G9:=hid (a6 G6 hg)
    have N9:=hid (N6.out.grown hg HP.out.1)
    obtain ⟨⟨z0,z1,z2,z3,z4⟩,⟨f0,f1,f2,f3,f4⟩⟩:=N9.out.cells
    have hsz : w.heap.size<W9.heap.size:=N9.out.lt
    clear hs CM t0 t1 t2 t3
    rw [iQ HD.out.1] at P9; clear hg
    rw [show (mkN 10 T.text 0 [] T.pos).val none 0=.agg #[.int .i64 10,.string ⟨List.toArray T.text⟩,.int .i64 0,.slice none 0 0,.int .i64 T.pos] from rfl]
    go_wp2_with fail
    refine bodyPost_ret (v:=(mkN 10 T.text 0 [] T.pos).val none 0) (by simp [results,Tryz.results179,go_sem,Nd.val,mkN,Nd.kind,Nd.text,Nd.n,Nd.kids,Nd.place,z0,z1,z2,z3,z4]) rfl ?_
    rw [hX.out]
    refine RdP.fin P9 G9 HP (Nat.le_refl _) fun t' r' hx => ?_
    cases hx
    exact ⟨rfl,⟨_,fun c hc => hc.elim,HD.out.2 W9⟩,HD.out.1⟩
   case true =>
    obtain ⟨y,hy⟩ : ∃ y,y=rd (.args []) nest (b9 (b9 l)):=⟨_,rfl⟩
    have hX:=hid (show X=y.then fun a r => made (mkN 11 T.text 0 a.kids T.pos) r by rw [HR.out,if_pos HB.out.symm,hy])
    have C7:=hid (a0T P g cap ts he (b9 l) (fun r hr => HEx.out r (Nat.lt_of_lt_of_le hr (J4 l))) nest W6 hn P6 HB.out.symm)
    rw [← hy] at C7
    clear hy
    go_wp2_with fail
    (with_reducible refine Calls.mono C7.out ?_)
    rintro e W7 ⟨ks,v,cp,rfl,hs,hg,hk⟩
    have P7:=hid hs
    have G7:=hid (a6 G6 hg)
    have N7:=hid (N6.out.grown hg HP.out.1)
    have T7:=hid (T6.out.grown hg (Nat.ne_of_gt hP3.out.1))
    have HK:=hid hk
    have HL:=hid (show w.heap.size<W6.heap.size from N6.out.lt)
    clear hs hg hk C7 t0 t1 t2 t3
    have HD:=hid (show ∀ r,l9 y=.ok r→j3 (mkN 11 T.text 0 ks T.pos)≤101∧(mkN 11 T.text 0 ks T.pos).lies (Fr W6.heap.size W7.heap.size) W7 v cp from fun r hr => by
     obtain ⟨t',ht'⟩:=q9 hr
     obtain ⟨-,⟨h1,h2,h3⟩,h4,h5⟩:=HK.out t' r ht'
     exact ⟨by rw [a1V]; omega,Nd.lies.mk' rfl (by have:=HT0.out.2.2; show T.text.toArray.size≤maxLen; unfold maxLen; simp; omega) rfl HT0.out.2.1 h2 h3 h5⟩)
    have CM:=hid (cI P g cap ts nest (l9 y) 11 T.text 0 ks T.pos v ks.length cp rfl W7 hn P7 fun r hr => ⟨(HD.out r hr).1,_,fun b hb => hb.2,(HD.out r hr).2⟩)
    obtain ⟨⟨t0,t1,t2,t3⟩,-⟩:=T7.out.cells
    have hl7 : W2.heap.size<W7.heap.size:=T7.out.lt
    go_wp2_with fail
    (with_reducible refine Calls.mono CM.out ?_)
    rintro e W9 ⟨rfl,hs,hg⟩
    have P9:=hid hs
    have G9:=hid (a6 G7 hg)
    have N9:=hid (N7.out.grown hg HP.out.1)
    obtain ⟨⟨z0,z1,z2,z3,z4⟩,⟨f0,f1,f2,f3,f4⟩⟩:=N9.out.cells
    have hsz : w.heap.size<W9.heap.size:=N9.out.lt
    clear hs CM t0 t1 t2 t3
    have HG9:=hid hg; clear hg
    rw [show (mkN 11 T.text 0 ks T.pos).val v cp=.agg #[.int .i64 11,.string ⟨List.toArray T.text⟩,.int .i64 0,.slice v ks.length cp,.int .i64 T.pos] from rfl]
    go_wp2_with fail
    refine bodyPost_ret (v:=(mkN 11 T.text 0 ks T.pos).val v cp) (by simp [results,Tryz.results179,go_sem,Nd.val,mkN,Nd.kind,Nd.text,Nd.n,Nd.kids,Nd.place,z0,z1,z2,z3,z4]) rfl ?_
    have hX' : X=goX (l9 y) (made (mkN 11 T.text 0 ks T.pos)):=by
     rw [hX.out]
     cases hy : y with
     | error e => rfl
     | ok p =>
       obtain ⟨t',r⟩:=p
       show made (mkN 11 T.text 0 t'.kids T.pos) r=made (mkN 11 T.text 0 ks T.pos) r
       rw [(HK.out t' r hy).1]
    have hO : l9 X=eK (mkN 11 T.text 0 ks T.pos) (l9 y):=by rw [hX',dD]
    refine RdP.fin (by rw [hO]; exact P9) G9 HP (Nat.le_refl _) fun t' r' hx => ?_
    rw [hX'] at hx
    obtain ⟨e1,e2,e3⟩:=dT _ _ hx
    have hp6:=P6.out.blocks.1
    exact ⟨e1,⟨_,fun c hc => ⟨fun e => by subst e; have:=hc.1; have:=HL.out; omega,by have:=hc.1; have:=HL.out; omega,Nat.lt_of_lt_of_le hc.2 HG9.out.size⟩,d8 (HD.out r' e2).2 ((j6.refl _ _).grown HG9 fun b hb => ⟨hb.2,fun e => by subst e; have:=hb.1; omega⟩) fun b hb => hb⟩,e3⟩
 case paren =>
  have k6 : (T.kind == 6)=false:=by rw [hk]; rfl
  have k5 : (T.kind == 5)=false:=by rw [hk]; rfl
  have k4 : (T.kind == 4)=false:=by rw [hk]; rfl
  have k2 : (T.kind == 2)=false:=by rw [hk]; rfl
  have k1 : (T.kind == 1)=false:=by rw [hk]; rfl
  have k3 : (T.kind == 3)=false:=by rw [hk]; rfl
  have k8 : (T.kind == 8)=true:=by rw [hk]; rfl
  have x_yes : (T.text == [116,114,117,101])=false:=by rw [ht]; rfl
  have x_no : (T.text == [102,97,108,115,101])=false:=by rw [ht]; rfl
  have x_feed : (T.text == [102,101,101,100])=false:=by rw [ht]; rfl
  have x_pick : (T.text == [112,105,99,107])=false:=by rw [ht]; rfl
  have x_paren : (T.text == [40])=true:=by rw [ht]; rfl
  have HR:=hid (show X=(rd .expr nest (b9 l)).then fun x r => p5 Q6 r fun r => .ok (x,r) by rw [HX.out,xT (HT.out ▸ HTz.out) (HT.out ▸ hk) (HT.out ▸ ht)])
  have HLn:=hid (show (b9 l).length<l.length from by have:=D8 (pY (l:=l) (.inr (HT.out ▸ hk)) (HT.out ▸ ht)); omega)
  clear hk ht
  have C5:=hid (O4 P g cap ts nest (.ok l) W4 P4 he)
  go_wp2_with fail
  (with_reducible refine Calls.mono C5.out ?_)
  rintro e W5 ⟨S,rfl,hs,hg,-⟩
  have P5:=hid (show SP P g cap ts nest (.ok (b9 l)) W5 from hs)
  have G5:=hid (a6 S13 (a6 (c9 E4) hg))
  have P5g:=hid hg
  have N5:=hid (N4.out.grown hg HP.out.1)
  have T5:=hid (T4.out.grown hg (Nat.ne_of_gt hP3.out.1))
  have hl5:=hid (show W2.heap.size<W5.heap.size from T5.out.lt)
  clear hs hg C5 t0 t1 t2 t3 n0 n1 n2 n3 n4 e0 e1 e2 e3 e4 hsz
  unfold tkV
  clear k6 k5 k4 k2 k1 k3 k8 x_yes x_no x_feed x_pick x_paren
  have B5:=hid (B4.out.grown P5g (Nat.ne_of_gt hP3.out.2.2.1))
  obtain ⟨x,hx⟩ : ∃ x,x=rd .expr nest (b9 l):=⟨_,rfl⟩
  have C6:=hid (HEx.out (b9 l) HLn nest W5 hn P5)
  rw [← hx] at HR C6
  clear hx
  go_wp2_with fail
  (with_reducible refine Calls.mono C6.out ?_)
  rintro e W6 ⟨t,a,cp,rfl,hs,hg,hk⟩
  have HK:=hid hk
  have G6:=hid (a6 G5 hg)
  have N6:=hid (N5.out.grown hg HP.out.1)
  have B6:=hid (B5.out.grown hg (Nat.ne_of_gt hP3.out.2.2.1))
  have P6:=hid hs
  obtain ⟨⟨n0,n1,n2,n3,n4⟩,⟨f0,f1,f2,f3,f4⟩⟩:=B6.out.cells
  have hl6 : W3.heap.size<W6.heap.size:=B6.out.lt
  have HL5:=hid (show W3.heap.size<W5.heap.size from B5.out.lt)
  clear hs hg hk C6
  obtain ⟨W7,hW7⟩ : ∃ W,W=T1 W6 W3.heap.size t a cp:=⟨_,rfl⟩
  have hne : w.heap.size≠W3.heap.size:=by have:=hLT.out; omega
  have N7:=hid (show c6 w.heap.size nd0 none 0 W7 from hW7 ▸ N6.out.oput hne t a cp)
  have B7:=hid (show c6 W3.heap.size t a cp W7 from hW7 ▸ B6.out.put t a cp)
  have P7:=hid (show SP P g cap ts nest (l9 x) W7 from hW7 ▸ P6.out.put (Nat.ne_of_gt hP3.out.2.2.1) (Nat.ne_of_gt hP3.out.2.2.2) t a cp)
  have G7:=hid (show w.grownBy W7 (some P) from hW7 ▸ t8 G6 (by have:=hLT.out; omega) t a cp)
  have C8:=hid (n6 P g cap ts nest (l9 x) ⟨#[41]⟩ W7 hn P7 he)
  have hW7':=hW7
  unfold T1 at hW7'
  unfold Nd.val
  go_wp2_with fail
  rw [← hW7']
  have HW7:=hid hW7
  clear hW7 hW7' n0 n1 n2 n3 n4 f0 f1 f2 f3 f4 hl6
  (with_reducible refine Calls.mono C8.out ?_)
  rintro e W9 ⟨rfl,hs,hg⟩
  have P9:=hid (show SP P g cap ts nest (n8 Q6 (l9 x)) W9 from hs)
  have G9:=hid (a6 G7 hg)
  have N9:=hid (N7.out.grown hg HP.out.1)
  have HG9:=hid hg
  obtain ⟨⟨n0,n1,n2,n3,n4⟩,-⟩:=(B7.out.grown hg (Nat.ne_of_gt hP3.out.2.2.1)).cells
  obtain ⟨⟨z0,z1,z2,z3,z4⟩,⟨f0,f1,f2,f3,f4⟩⟩:=N9.out.cells
  have hsz : w.heap.size<W9.heap.size:=N9.out.lt
  clear hs hg C8
  go_wp2_with fail
  refine bodyPost_ret (v:=t.val a cp) (by simp [results,Tryz.results179,go_sem,Nd.val,Nd.kind,Nd.text,Nd.n,Nd.kids,Nd.place,z0,z1,z2,z3,z4]) rfl ?_
  have hX : X=goX (n8 Q6 (l9 x)) (fun r => .ok (t,r)):=by
   rw [HR.out,F0 (t:=t) (fun t' r h => (HK.out t' r h).1),D6]
  refine RdP.fin (by rw [hX,aM]; exact P9) G9 HP (Nat.le_refl _) fun t' r' hx => ?_
  rw [hX] at hx
  obtain ⟨r0,e1,e2⟩:=T3 hx
  cases e2
  obtain ⟨r1,e3,-,-⟩:=G0 e1
  obtain ⟨t2,e4⟩:=q9 e3
  obtain ⟨rfl,hl,hd⟩:=HK.out t2 r1 e4
  have hp5:=P5.out.blocks.1
  have hsz6 : W6.heap.size=W7.heap.size:=by rw [HW7.out,size_put]
  have k1 : j6 (Fr W5.heap.size W6.heap.size) W6 W7:=by
   rw [HW7.out]
   exact (j6.refl _ W6).put (fun b hb e => by subst e; have:=hb.1; have:=HL5.out; omega) _ _ _
  have h9:=HG9.out.size
  have hlt:=hLT.out
  exact ⟨rfl,⟨_,fun c hc => ⟨fun e => by subst e; have:=hc.1; have:=HL5.out; omega,by have:=hc.1; have:=HL5.out; omega,by have:=hc.2; omega⟩,d8 hl (k1.grown HG9 fun b hb => ⟨by have:=hb.2; omega,fun e => by subst e; have:=hb.1; omega⟩) fun b hb => hb⟩,hd⟩
 case none =>
  have k6 : (T.kind == 6)=false:=beq_eq_false_iff_ne.2 hk.1
  have k5 : (T.kind == 5)=false:=beq_eq_false_iff_ne.2 hk.2.1
  have k4 : (T.kind == 4)=false:=beq_eq_false_iff_ne.2 hk.2.2.1
  have k1 : (T.kind == 1)=false:=beq_eq_false_iff_ne.2 hk.2.2.2.1
  have k3 : (T.kind == 3)=false:=beq_eq_false_iff_ne.2 hk.2.2.2.2
  have hX:=hid (show X=.error (74,T.pos) by rw [HX.out,a1m (HT.out ▸ HTz.out) (HT.out ▸ hk) (HT.out ▸ h2) (HT.out ▸ h8),HT.out])
  obtain ⟨i,-,hp⟩:=P4.out.ok
  have C5:=hid (J6 P g cap ts i nest W4 74 T.pos hp)
  clear hp
  have q2 : ((T.kind == 2)=true∧(T.text == [116,114,117,101])=false∧(T.text == [102,97,108,115,101])=false∧(T.text == [102,101,101,100])=false∧(T.text == [112,105,99,107])=false)∨(T.kind == 2)=false:=by
   by_cases k : T.kind=2
   ·exact .inl ⟨by rw [k]; rfl,beq_eq_false_iff_ne.2 (h2 k).1,beq_eq_false_iff_ne.2 (h2 k).2.1,beq_eq_false_iff_ne.2 (h2 k).2.2.1,beq_eq_false_iff_ne.2 (h2 k).2.2.2⟩
   ·exact .inr (beq_eq_false_iff_ne.2 k)
  have q8 : ((T.kind == 8)=true∧(T.text == [40])=false)∨(T.kind == 8)=false:=by
   by_cases k : T.kind=8
   ·exact .inl ⟨by rw [k]; rfl,beq_eq_false_iff_ne.2 (h8 k)⟩
   ·exact .inr (beq_eq_false_iff_ne.2 k)
  clear hk h2 h8
  rcases q2 with ⟨k2,x_yes,x_no,x_feed,x_pick⟩ | k2 <;> rcases q8 with ⟨k8,x_paren⟩ | k8
  all_goals
   go_wp2_with fail
   (with_reducible refine Calls.mono C5.out ?_)
   rintro e W9 ⟨rfl,hp9,hg⟩
   have P9:=hid (show SP P g cap ts nest (.error (74,T.pos)) W9 from SP.of_error hp9 (by decide) (Int.le_refl _) (by omega))
   have G9:=hid (a6 S13 (a6 (c9 E4) hg))
   have N9:=hid (N4.out.grown hg HP.out.1)
   have B9:=hid (B4.out.grown hg (Nat.ne_of_gt hP3.out.2.2.1))
   clear hp9 hg C5 t0 t1 t2 t3 n0 n1 n2 n3 n4 e0 e1 e2 e3 e4 hsz
   obtain ⟨⟨n0,n1,n2,n3,n4⟩,-⟩:=B9.out.cells
   obtain ⟨⟨z0,z1,z2,z3,z4⟩,⟨f0,f1,f2,f3,f4⟩⟩:=N9.out.cells
   have hsz : w.heap.size<W9.heap.size∧W3.heap.size<W9.heap.size:=⟨N9.out.lt,B9.out.lt⟩
   go_wp2_with fail
   refine bodyPost_ret (v:=(mkN 0 [] T.n [] T.pos).val none 0) (by simp [results,Tryz.results179,go_sem,Nd.val,mkN,Nd.kind,Nd.text,Nd.n,Nd.kids,Nd.place,z0,z1,z2,z3,z4]) rfl ?_
   rw [hX.out]
   exact RdP.fin (x:=.error (74,T.pos)) P9 G9 HP (Nat.le_refl _) (fun _ _ h => by cases h)
end
end Go.Proofs.YtppcfebnaieciaaGreatDoor
