/-
  Laws that the proof rests on.
-/
import Derived.Test.YtppcfebnaieciaaGreatDoorF03
import Derived.Test.YtppcfebnaieciaaGreatDoorF14
import Derived.Test.YtppcfebnaieciaaGreatDoorF01
import Derived.Deep.AppendLies
import Derived.IntWalk
namespace Go.Proofs.YtppcfebnaieciaaGreatDoor
set_option maxRecDepth 100000
set_option maxHeartbeats 16000000
section
open Go.RowKit
theorem a5u {k : IntKind} {a b : Int} (h : a=b) : Ending.returned (.int k a)=.returned (.int k b):=by rw [h]
theorem sE {W : World} {B T k g n cap : Nat} {xs : List Value} (h : W.ownsRow B T k (.slice (some ⟨g,0,none⟩) n cap) n xs) (j : Nat) (v : Value) : (W.setCell ⟨g,j,none⟩ v).ownsRow B T k (.slice (some ⟨g,0,none⟩) n cap) n (xs.set j v):=by
 obtain ⟨h1,h2⟩:=h
 refine ⟨by rw [List.length_set]; exact h1,.inr ?_⟩
 rcases h2 with ⟨e,-⟩ | ⟨g',cap',cur,e,hb,hg,h3,h4,h5,h6⟩
 ·obtain ⟨e,-⟩:=Value.slice.inj e; cases e
 ·obtain ⟨e1,-,e2⟩:=Value.slice.inj e
  cases e1; subst e2
  refine ⟨g,cap,cur.set! j v,rfl,hb,j9 hg j v,h3,h4,by simpa using h5,?_⟩
  rw [Array.set!_eq_setIfInBounds,Array.toList_setIfInBounds,List.take_set,h6]
theorem rV {W : World} {B T k g n cap : Nat} {xs : List Value} (h : W.ownsRow B T k (.slice (some ⟨g,0,none⟩) n cap) n xs) : ∃ cur,W.heap[g]?=some (.cells cur T (0,0)):=by
 obtain ⟨-,h2⟩:=h
 rcases h2 with ⟨e,-⟩ | ⟨g',cap',cur,e,hb,hg,-⟩
 ·obtain ⟨e,-⟩:=Value.slice.inj e; cases e
 ·obtain ⟨e1,-,e2⟩:=Value.slice.inj e
  cases e1
  exact ⟨cur,hg⟩
structure CM where
 m0 : Value
 m1 : Value
 m2 : Value
 m3 : Value
 ua : Option Addr
 uc : Nat
 ka : Option Addr
 kc : Nat
 up : List Nat
 ps : List (Option Addr)
def CM.box (c : CM) : Obj:=.cells #[c.m0,c.m1,c.m2,c.m3,.slice c.ua c.up.length c.uc,.slice c.ka c.ps.length c.kc] 63 (0,0)
def CM.u (c : CM) : Option Nat:=(Value.slice c.ua c.up.length c.uc).ownBlock
def CM.k (c : CM) : Option Nat:=(Value.slice c.ka c.ps.length c.kc).ownBlock
structure CM.In (B F : Nat) (c : CM) (kn : List (Option Int)) (W : World) : Prop where
 box : W.heap[F]?=some c.box
 lt : F<B
 le : B≤W.heap.size
 rowU : W.ownsRow B 3 1 (.slice c.ua c.up.length c.uc) c.up.length (c.up.map fun (n : Nat) => .int .i64 n)
 rowK : W.ownsRow B 94 1 (.slice c.ka c.ps.length c.kc) c.ps.length (c.ps.map .pointer)
 ne : ∀ d,c.u=some d→c.k≠some d
 len : kn.length=c.ps.length
 got : ∀ (i : Nat) (x : Int),kn[i]?=some (some x)→∃ b,c.ps[i]?=some (some (⟨b,0,none⟩ : Addr))∧B≤b∧b<W.heap.size∧c.u≠some b∧c.k≠some b∧W.cell? ⟨b,0,none⟩=some (.int .i64 x)
 free : ∀ (i : Nat),kn[i]?=some none→c.ps[i]?=some none
def CM.withUp (c : CM) (up : List Nat) : CM:=⟨c.m0,c.m1,c.m2,c.m3,c.ua,c.uc,c.ka,c.kc,up,c.ps⟩
theorem CM.In.cells {B F : Nat} {c : CM} {kn : List (Option Int)} {W : World} (h : c.In B F kn W) : W.cell? ⟨F,4,none⟩=some (.slice c.ua c.up.length c.uc)∧W.cell? ⟨F,5,none⟩=some (.slice c.ka c.ps.length c.kc)∧F<W.heap.size:=by
 have hb:=h.box
 unfold CM.box at hb
 exact ⟨by simp [World.cell?,hb],by simp [World.cell?,hb],Nat.lt_of_lt_of_le h.lt h.le⟩
theorem CM.In.row {B F : Nat} {c : CM} {kn : List (Option Int)} {W : World} (h : c.In B F kn W) (hl : 0<c.up.length) : ∃ g,c.ua=some ⟨g,0,none⟩∧B≤g∧g<W.heap.size∧c.up.length≤c.uc∧c.uc≤maxLen∧(∀ j (hj : j<c.up.length),W.cell? ⟨g,j,none⟩=some (.int .i64 (c.up[j] : Nat)))∧∀ j,W.frozen? ⟨g,j,none⟩=false:=by
 obtain ⟨g,cap,e,hb,hg⟩:=h.rowU.form hl
 obtain ⟨e1,-,rfl⟩:=Value.slice.inj e
 have hr:=h.rowU
 rw [e1] at hr
 obtain ⟨cur,hc⟩:=rV hr
 have hcap : c.up.length≤c.uc∧c.uc≤maxLen:=by
  rcases hr.2 with ⟨e,-⟩ | ⟨g',cap',cur,e,-,-,h3,h4,-⟩
  ·obtain ⟨e,-⟩:=Value.slice.inj e; cases e
  ·obtain ⟨-,-,rfl⟩:=Value.slice.inj e; exact ⟨h3,h4⟩
 refine ⟨g,e1,hb,hg,hcap.1,hcap.2,fun j hj => ?_,fun j => by simp [World.frozen?,hc]⟩
 have:=hr.cells (g:=g) rfl j (.int .i64 (c.up[j] : Nat)) (by rw [List.getElem?_map,List.getElem?_eq_getElem hj]; rfl)
 rwa [Go.WideShapes.add_plain,Nat.zero_add] at this
theorem CM.In.setUp {B F : Nat} {c : CM} {kn : List (Option Int)} {W : World} (h : c.In B F kn W) {g : Nat} (hg : c.ua=some ⟨g,0,none⟩) (j p : Nat) : (c.withUp (c.up.set j p)).In B F kn (W.setCell ⟨g,j,none⟩ (.int .i64 p))∧W.grownBy (W.setCell ⟨g,j,none⟩ (.int .i64 p)) c.u:=by
 have hu : c.u=some g:=by unfold CM.u; rw [hg]; rfl
 have hr:=h.rowU
 rw [hg] at hr
 have hgB : B≤g:=(hr.lt g rfl).1
 have hbk : ∀ d,d≠g→(W.setCell ⟨g,j,none⟩ (.int .i64 p)).heap[d]?=W.heap[d]?:=fun d hd => Below.heap_setCell _ _ _ _ hd
 have hgr : W.grownBy (W.setCell ⟨g,j,none⟩ (.int .i64 p)) c.u:=hu ▸ F4 W g j _
 refine ⟨⟨?_,h.lt,by have:=h.le; simpa [World.setCell] using this,?_,?_,fun d hd => ?_,h.len,fun i x hx => ?_,h.free⟩,hgr⟩
 ·rw [hbk F (by have:=h.lt; omega),h.box]
  unfold CM.box CM.withUp
  simp
 ·show (W.setCell ⟨g,j,none⟩ (.int .i64 p)).ownsRow B 3 1 (.slice c.ua (c.up.set j p).length c.uc) (c.up.set j p).length ((c.up.set j p).map fun (n : Nat) => .int .i64 n)
  rw [hg,List.length_set,List.map_set]
  exact sE hr j _
 ·refine h.rowK.kept hgr ?_
  cases hk : (Value.slice c.ka c.ps.length c.kc).ownBlock with
  | none => exact .inl rfl
  | some d => exact .inr (fun e => h.ne g hu (by unfold CM.k; rw [hk]; rw [hu] at e; exact e))
 ·have hd' : c.u=some d:=by unfold CM.u CM.withUp at hd; simp only [List.length_set] at hd; exact hd
  exact h.ne d hd'
 ·obtain ⟨b,h1,h2,h3,h4,h5,h6⟩:=h.got i x hx
  have hbg : b≠g:=fun e => h4 (by rw [hu,e])
  refine ⟨b,h1,h2,by simpa [World.setCell] using h3,?_,h5,(World.cell?_of_block (hbk b hbg)).trans h6⟩
  unfold CM.u CM.withUp
  simp only [List.length_set]
  exact h4
theorem CM.In.drewIn {B F : Nat} {c : CM} {kn : List (Option Int)} {W : World} (h : c.In B F kn W) : c.In B F kn W.drew:=⟨h.box,h.lt,h.le,h.rowU,h.rowK,h.ne,h.len,h.got,h.free⟩
end
section
open Lib (hid)
open Go.RowKit
structure TopI (B F : Nat) (c : CM) (kn : List (Option Int)) (ro rk : Nat→Nat) (i : Nat) (w : World) (j : Nat) (up : List Nat) (wr : World) : Prop where
 lt : j<up.length
 root : ro j=ro i
 len : up.length=c.up.length
 uf : Uf up ro rk
 hin : (c.withUp up).In B F kn wr
 grown : w.grownBy wr c.u
 size : wr.heap.size=w.heap.size
theorem a1K (B F : Nat) (c : CM) (kn : List (Option Int)) (ro rk : Nat→Nat) (i : Nat) (w : World) (h : c.In B F kn w) (u : Uf c.up ro rk) (hi : i<c.up.length) :
 Calls Tryz.prog 55 #[.pointer (some ⟨F,4,none⟩),.int .i64 i] w fun e w' => ∃ up',e=.returned (.int .i64 (ro i : Nat))∧up'.length=c.up.length∧Uf up' ro rk∧(c.withUp up').In B F kn w'∧w.grownBy w' c.u∧w'.heap.size=w.heap.size:=by
 have T0:=hid (show TopI B F c kn ro rk i w i c.up w from ⟨hi,rfl,rfl,u,h,⟨rfl,rfl,rfl,Nat.le_refl _,fun _ _ _ => rfl⟩,rfl⟩)
 clear h u hi
 go_enter Tryz.func55,Tryz.ntmps55
 go_wp2_with fail
 go_loopw [1] (fun i' wr => ∃ (j : Nat) (up : List Nat),i'=.int .i64 j∧Hid (TopI B F c kn ro rk i w j up wr)) (fun i' _ => rk (intOf i').toNat)
 case atStart => exact ⟨i,c.up,rfl,T0⟩
 case round =>
  obtain ⟨j,up,rfl,HT⟩:=hrel
  obtain ⟨g,hg,hB,hgl,hcap,hmax,hcell,hfz⟩:=HT.out.hin.row (Nat.lt_of_le_of_lt (Nat.zero_le _) HT.out.lt)
  have hF:=HT.out.hin.cells
  rw [hg] at hF
  obtain ⟨f4,-,hFl⟩:=hF
  have f4' : wr.cell? ⟨F,4,none⟩=some (.slice (some ⟨g,0,none⟩) up.length c.uc):=f4
  clear f4
  have hlt : j<up.length:=HT.out.lt
  have hup:=HT.out.uf.lt j hlt
  obtain ⟨p,hpe⟩ : ∃ p,p=up[j]:=⟨_,rfl⟩
  obtain ⟨q,hqe⟩ : ∃ q,q=up[up[j]]:=⟨_,rfl⟩
  have hp : p<up.length:=hpe ▸ hup
  have cj : wr.cell? ⟨g,j,none⟩=some (.int .i64 (p : Nat)):=hpe ▸ hcell j hlt
  have cp : wr.cell? ⟨g,p,none⟩=some (.int .i64 (q : Nat)):=by subst hpe; exact hqe ▸ hcell _ hup
  have HG:=hid hg
  have HE:=hid (show p=up[j]∧q=up[up[j]] from ⟨hpe,hqe⟩)
  have HM:=hid (show c.uc≤maxLen∧up.length≤c.uc from ⟨hmax,hcap⟩)
  have ml : up.length≤9223372036854775807:=by have:=HM.out; unfold maxLen at this; omega
  have hz:=hfz j
  clear hcell hmax hcap hg hpe hqe hfz
  by_cases e : p=j
  ·have e1 : ((p : Int) != (j : Int))=false:=by rw [e]; exact bne_self_eq_false _
   have HI:=hid e
   clear e
   go_wp2_with fail
   go_ret
   have hr : j=ro i:=by
    have:=HT.out.uf.fix j hlt (by rw [← HE.out.1]; exact HI)
    rw [← this]; exact HT.out.root
   exact ⟨up,a5u (by rw [← hr]),HT.out.len,HT.out.uf,HT.out.hin,HT.out.grown,HT.out.size⟩
  ·have e1 : ((p : Int) != (j : Int))=true:=bne_iff_ne.2 (fun h => e (Int.ofNat.inj h))
   have HI:=hid e
   clear e
   go_wp2_with fail
   refine s3 (S:=(fun cur : World => cur.cell? ⟨F,4,none⟩=some (.slice (some ⟨g,0,none⟩) up.length c.uc)∧cur.cell? ⟨g,j,none⟩=some (.int .i64 (p : Nat))∧cur.cell? ⟨g,p,none⟩=some (.int .i64 (q : Nat)))) (z:=19) (by kernel_rfl) ?_ (fun hHeld => ?_)
   ·exact ⟨f4',cj,cp⟩
   refine b8.t 0 ?_; refine b8.t 1 ?_; refine b8.t 2 ?_; refine b8.t 3 ?_; refine b8.t 4 ?_; refine b8.t 5 ?_; refine b8.t 6 ?_; refine b8.t 7 ?_; refine b8.t 8 ?_; refine b8.t 9 ?_
   refine b8.t 10 ?_; refine b8.t 11 ?_; refine b8.t 12 ?_; refine b8.t 13 ?_; refine b8.t 14 ?_; refine b8.t 15 ?_; refine b8.t 16 ?_; refine b8.t 17 ?_; refine b8.t 18 ?_
   have cj' : wr.drew.cell? ⟨g,j,none⟩=some (.int .i64 (p : Nat)):=cj
   have hz' : wr.drew.frozen? ⟨g,j,none⟩=false:=hz
   refine b8.la fun K hK => ?_
   go_simp
   refine hK.out _ _ ?_
   clear hK K hHeld cj' hz'
   obtain ⟨W,hW⟩ : ∃ W,W=(wr.setCell ⟨g,j,none⟩ (.int .i64 (q : Nat))).drew:=⟨_,rfl⟩
   have H2:=hid (show (c.withUp (up.set j q)).In B F kn W∧wr.grownBy W c.u from hW ▸ (by
    have:=HT.out.hin.setUp HG j q
    have hu : (c.withUp up).u=c.u:=by unfold CM.u CM.withUp; simp only [HT.out.len]
    rw [hu] at this
    exact ⟨this.1.drewIn,⟨this.2.os,this.2.tape,this.2.output,this.2.size,this.2.block⟩⟩))
   have HZ:=hid (show W.heap.size=wr.heap.size by rw [hW]; show (wr.setCell _ _).heap.size=_; simp [World.setCell])
   rw [← hW]
   clear hW
   have hc2:=H2.out.1.cells
   have hg2 : (c.withUp (up.set j q)).ua=some ⟨g,0,none⟩:=HG.out
   have hl2 : (c.withUp (up.set j q)).up.length=up.length:=List.length_set
   rw [hg2,hl2] at hc2
   have k4 : W.cell? ⟨F,4,none⟩=some (.slice (some ⟨g,0,none⟩) up.length c.uc):=hc2.1
   have hq : q<up.length:=by have:=HE.out; rw [this.2]; exact HT.out.uf.lt _ hup
   have kj : W.cell? ⟨g,j,none⟩=some (.int .i64 (q : Nat)):=by
    obtain ⟨g',e',-,-,-,-,hcell,-⟩:=H2.out.1.row (by rw [hl2]; omega)
    rw [hg2] at e'
    cases e'
    have:=hcell j (by rw [hl2]; exact hlt)
    have e3 : (c.withUp (up.set j q)).up[j]'(by rw [hl2]; exact hlt)=q:=List.getElem_set_self ..
    rw [e3] at this
    exact this
   have hFl2:=hc2.2.2
   have hgl2 : g<W.heap.size:=by have:=HZ.out; omega
   clear hc2 hg2 hl2 cj cp f4'
   go_wp2_with fail
   go_roundw
   case rel =>
    refine ⟨q,up.set j q,rfl,?_⟩
    have:=HE.out
    have hne : up[j]≠j:=by rw [← this.1]; exact HI
    have hset:=HT.out.uf.halve hlt hne
    rw [← this.2] at hset
    have hroot : ro q=ro i:=by rw [this.2,HT.out.uf.step _ (HT.out.uf.lt j hlt),HT.out.uf.step _ hlt]; exact HT.out.root
    exact hid ⟨by rw [List.length_set]; exact hq,hroot,by rw [List.length_set]; exact HT.out.len,hset,H2.out.1,a6 HT.out.grown H2.out.2,by rw [HZ.out]; exact HT.out.size⟩
   case measure =>
    have:=HE.out
    have hne : up[j]≠j:=by rw [← this.1]; exact HI
    have r1:=HT.out.uf.rank j hlt hne
    have r2 : rk q≤rk p:=by
     rw [this.2,this.1]
     by_cases e : up[up[j]]'(HT.out.uf.lt j hlt)=up[j]
     ·rw [e]; exact Nat.le_refl _
     ·exact Nat.le_of_lt (HT.out.uf.rank _ (HT.out.uf.lt j hlt) e)
    rw [← this.1] at r1
    simp [intOf]; omega
end
section
open Lib (hid)
open Go.RowKit
structure Mv (F : Nat) (c c' : CM) (w w' : World) : Prop where
 os : w'.os=w.os
 tape : w'.tape=w.tape
 output : w'.output=w.output
 size : w.heap.size≤w'.heap.size
 block : ∀ d,d<w.heap.size→d≠F→c.u≠some d→c.k≠some d→w'.heap[d]?=w.heap[d]?
 u : ∀ d,c'.u=some d→c.u=some d∨w.heap.size≤d
 k : ∀ d,c'.k=some d→c.k=some d∨w.heap.size≤d
 maps : c'.m0=c.m0∧c'.m1=c.m1∧c'.m2=c.m2∧c'.m3=c.m3
theorem Mv.trans {F : Nat} {c c' c'' : CM} {w w' w'' : World} (h : Mv F c c' w w') (k : Mv F c' c'' w' w'') : Mv F c c'' w w'':=by
 refine ⟨k.os.trans h.os,k.tape.trans h.tape,k.output.trans h.output,Nat.le_trans h.size k.size,fun d hd hF hu hk => ?_,fun d hd => ?_,fun d hd => ?_,?_⟩
 ·refine (k.block d (Nat.lt_of_lt_of_le hd h.size) hF (fun e => ?_) (fun e => ?_)).trans (h.block d hd hF hu hk)
  ·rcases h.u d e with e | e
   ·exact hu e
   ·omega
  ·rcases h.k d e with e | e
   ·exact hk e
   ·omega
 ·rcases k.u d hd with e | e
  ·exact h.u d e
  ·have:=h.size; exact .inr (by omega)
 ·rcases k.k d hd with e | e
  ·exact h.k d e
  ·have:=h.size; exact .inr (by omega)
 ·obtain ⟨a1,a2,a3,a4⟩:=h.maps
  obtain ⟨b1,b2,b3,b4⟩:=k.maps
  exact ⟨b1.trans a1,b2.trans a2,b3.trans a3,b4.trans a4⟩
theorem Mv.of {F : Nat} {c : CM} {w w' : World} (h : Below w.heap.size w w') : Mv F c c w w':=⟨h.os,h.tape,h.output,h.size,fun d hd _ _ _ => h.block d hd,fun _ e => .inl e,fun _ e => .inl e,rfl,rfl,rfl,rfl⟩
def Far (F : Nat) (c : CM) (w : World) (d : Nat) : Prop:=d<w.heap.size∧d≠F∧c.u≠some d∧c.k≠some d
theorem Mv.far {F : Nat} {c c' : CM} {w w' : World} (h : Mv F c c' w w') {d : Nat} (hd : Far F c w d) : Far F c' w' d∧w'.heap[d]?=w.heap[d]?:=by
 obtain ⟨h1,h2,h3,h4⟩:=hd
 refine ⟨⟨Nat.lt_of_lt_of_le h1 h.size,h2,fun e => ?_,fun e => ?_⟩,h.block d h1 h2 h3 h4⟩
 ·rcases h.u d e with e | e
  ·exact h3 e
  ·omega
 ·rcases h.k d e with e | e
  ·exact h4 e
  ·omega
theorem CM.In.below {B F : Nat} {c : CM} {kn : List (Option Int)} {w w' : World} (h : c.In B F kn w) (hb : Below w.heap.size w w') : c.In B F kn w':=by
 refine ⟨(hb.block F (Nat.lt_of_lt_of_le h.lt h.le)).trans h.box,h.lt,Nat.le_trans h.le hb.size,n8 h.rowU hb,n8 h.rowK hb,h.ne,h.len,fun i x hx => ?_,h.free⟩
 ·obtain ⟨b,h1,h2,h3,h4,h5,h6⟩:=h.got i x hx
  exact ⟨b,h1,h2,Nat.lt_of_lt_of_le h3 hb.size,h4,h5,(hb.cell (p:=⟨b,0,none⟩) h3).trans h6⟩
def gS (B F : Nat) (c : CM) (k : Option Int) (p : Option Addr) (w : World) : Prop:=match k with
 | none => p=none
 | some x => ∃ b,p=some ⟨b,0,none⟩∧B≤b∧Far F c w b∧w.cell? ⟨b,0,none⟩=some (.int .i64 x)
def CM.withU (c : CM) (g cap : Nat) (x : Nat) : CM:=⟨c.m0,c.m1,c.m2,c.m3,some ⟨g,0,none⟩,cap,c.ka,c.kc,c.up ++ [x],c.ps⟩
def CM.withK (c : CM) (g cap : Nat) (p : Option Addr) : CM:=⟨c.m0,c.m1,c.m2,c.m3,c.ua,c.uc,some ⟨g,0,none⟩,cap,c.up,c.ps ++ [p]⟩
theorem CM.In.u_lt {B F : Nat} {c : CM} {kn : List (Option Int)} {w : World} (h : c.In B F kn w) {d : Nat} (e : c.u=some d) : B≤d∧d<w.heap.size:=h.rowU.lt d e
theorem CM.In.k_lt {B F : Nat} {c : CM} {kn : List (Option Int)} {w : World} (h : c.In B F kn w) {d : Nat} (e : c.k=some d) : B≤d∧d<w.heap.size:=h.rowK.lt d e
theorem CM.In.addUp {B F : Nat} {c : CM} {kn : List (Option Int)} {w W1 w6 : World} (h : c.In B F kn w) (hb : Below w.heap.size w W1) {g cap x : Nat} (hown : w6.ownsRow B 3 1 (.slice (some ⟨g,0,none⟩) (c.up.length + 1) cap) (c.up.length + 1) ((c.up.map fun (n : Nat) => .int .i64 n) ++ [.int .i64 x]))
 (hgrow : W1.grownBy w6 c.u) (hat : c.u=some g∨g=W1.heap.size) : (c.withU g cap x).In B F kn (w6.setCell ⟨F,4,none⟩ (.slice (some ⟨g,0,none⟩) (c.up.length + 1) cap))∧Mv F c (c.withU g cap x) w (w6.setCell ⟨F,4,none⟩ (.slice (some ⟨g,0,none⟩) (c.up.length + 1) cap)):=by
 have hFB:=h.lt
 have hBw:=h.le
 have hgB : B≤g:=(hown.lt g rfl).1
 have hw1:=hb.size
 have h16:=hgrow.size
 have hbk : ∀ d,d≠F→(w6.setCell ⟨F,4,none⟩ (.slice (some ⟨g,0,none⟩) (c.up.length + 1) cap)).heap[d]?=w6.heap[d]?:=fun d hd => Below.heap_setCell _ _ _ _ hd
 have hold : ∀ d,d<w.heap.size→c.u≠some d→w6.heap[d]?=w.heap[d]?:=fun d hd hu => (hgrow.block d (by omega) (fun e => hu e.symm)).trans (hb.block d hd)
 have hFu : c.u≠some F:=fun e => by have:=(h.u_lt e).1; omega
 have hbox : w6.heap[F]?=some c.box:=(hold F (by omega) hFu).trans h.box
 have hgk : ∀ d,c.k=some d→d≠g:=fun d e e2 => by
  subst e2
  rcases hat with g | g
  ·exact h.ne _ g e
  ·have:=(h.k_lt e).2; omega
 have hgr : w6.grownBy (w6.setCell ⟨F,4,none⟩ (.slice (some ⟨g,0,none⟩) (c.up.length + 1) cap)) (some F):=F4 w6 F 4 _
 refine ⟨⟨?_,hFB,?_,?_,?_,fun d hd => ?_,h.len,fun i x hx => ?_,h.free⟩,⟨?_,?_,?_,?_,fun d h1 h2 h3 h4 => ?_,fun d hd => ?_,fun d hd => .inl hd,rfl,rfl,rfl,rfl⟩⟩
 ·have:=j9 (b:=F) (W:=w6) (cs:=#[c.m0,c.m1,c.m2,c.m3,.slice c.ua c.up.length c.uc,.slice c.ka c.ps.length c.kc]) (T:=63) (fr:=(0,0)) hbox 4 (.slice (some ⟨g,0,none⟩) (c.up.length + 1) cap)
  rw [this]
  unfold CM.box CM.withU
  simp
 ·simp [World.setCell]; omega
 ·have:=hown.kept hgr (.inr (fun e => by have e2 : g=F:=Option.some.inj e; omega))
  show (w6.setCell ⟨F,4,none⟩ _).ownsRow B 3 1 (.slice (some ⟨g,0,none⟩) (c.up ++ [x]).length cap) (c.up ++ [x]).length ((c.up ++ [x]).map fun (n : Nat) => .int .i64 n)
  rw [List.length_append,List.map_append]
  exact this
 ·refine ((n8 h.rowK hb).kept hgrow ?_).kept hgr ?_
  ·cases hk : (Value.slice c.ka c.ps.length c.kc).ownBlock with
   | none => exact .inl rfl
   | some d => exact .inr (fun e => h.ne d e.symm (by unfold CM.k; rw [hk]))
  ·cases hk : (Value.slice c.ka c.ps.length c.kc).ownBlock with
   | none => exact .inl rfl
   | some d => exact .inr (fun e => by have e2:=Option.some.inj e; have:=(h.k_lt (d:=d) (by unfold CM.k; rw [hk])).1; omega)
 ·have e : g=d:=Option.some.inj (show some g=some d from hd)
  exact fun e2 => hgk d e2 e.symm
 ·obtain ⟨b,h1,h2,h3,h4,h5,h6⟩:=h.got i x hx
  refine ⟨b,h1,h2,by simp [World.setCell]; omega,fun e => ?_,h5,?_⟩
  ·have e2 : g=b:=Option.some.inj (show some g=some b from e)
   subst e2
   rcases hat with e3 | e3
   ·exact h4 e3
   ·omega
  ·exact (World.cell?_of_block (hbk b (by omega))).trans ((World.cell?_of_block (hold b h3 h4)).trans h6)
 ·exact hgrow.os.trans hb.os
 ·exact hgrow.tape.trans hb.tape
 ·exact hgrow.output.trans hb.output
 ·simp [World.setCell]; omega
 ·exact (hbk d h2).trans (hold d h1 h3)
 ·have e : g=d:=Option.some.inj (show some g=some d from hd)
  subst e
  rcases hat with e3 | e3
  ·exact .inl e3
  ·exact .inr (by omega)
theorem CM.In.addKn {B F : Nat} {c : CM} {kn : List (Option Int)} {w W1 w6 : World} (h : c.In B F kn w) (hb : Below w.heap.size w W1) {g cap : Nat} {k : Option Int} {p : Option Addr} (hk : gS B F c k p w) (hown : w6.ownsRow B 94 1 (.slice (some ⟨g,0,none⟩) (c.ps.length + 1) cap) (c.ps.length + 1) (c.ps.map .pointer ++ [.pointer p]))
 (hgrow : W1.grownBy w6 c.k) (hat : c.k=some g∨g=W1.heap.size) : (c.withK g cap p).In B F (kn ++ [k]) (w6.setCell ⟨F,5,none⟩ (.slice (some ⟨g,0,none⟩) (c.ps.length + 1) cap))∧Mv F c (c.withK g cap p) w (w6.setCell ⟨F,5,none⟩ (.slice (some ⟨g,0,none⟩) (c.ps.length + 1) cap)):=by
 have hFB:=h.lt
 have hBw:=h.le
 have hgB : B≤g:=(hown.lt g rfl).1
 have hw1:=hb.size
 have h16:=hgrow.size
 have hbk : ∀ d,d≠F→(w6.setCell ⟨F,5,none⟩ (.slice (some ⟨g,0,none⟩) (c.ps.length + 1) cap)).heap[d]?=w6.heap[d]?:=fun d hd => Below.heap_setCell _ _ _ _ hd
 have hold : ∀ d,d<w.heap.size→c.k≠some d→w6.heap[d]?=w.heap[d]?:=fun d hd hu => (hgrow.block d (by omega) (fun e => hu e.symm)).trans (hb.block d hd)
 have hFu : c.k≠some F:=fun e => by have:=(h.k_lt e).1; omega
 have hbox : w6.heap[F]?=some c.box:=(hold F (by omega) hFu).trans h.box
 have hgk : ∀ d,c.u=some d→d≠g:=fun d e e2 => by
  subst e2
  rcases hat with g | g
  ·exact h.ne _ e g
  ·have:=(h.u_lt e).2; omega
 have hgr : w6.grownBy (w6.setCell ⟨F,5,none⟩ (.slice (some ⟨g,0,none⟩) (c.ps.length + 1) cap)) (some F):=F4 w6 F 5 _
 have hfar : ∀ b,b<w.heap.size→b≠F→c.k≠some b→g≠b:=fun b hb' _ hkb e => by
  subst e
  rcases hat with e3 | e3
  ·exact hkb e3
  ·omega
 refine ⟨⟨?_,hFB,?_,?_,?_,fun d hd e2 => ?_,by simp [CM.withK,h.len],fun i x hx => ?_,fun i hx => ?_⟩,⟨?_,?_,?_,?_,fun d h1 h2 h3 h4 => ?_,fun d hd => .inl hd,fun d hd => ?_,rfl,rfl,rfl,rfl⟩⟩
 ·have:=j9 (b:=F) (W:=w6) (cs:=#[c.m0,c.m1,c.m2,c.m3,.slice c.ua c.up.length c.uc,.slice c.ka c.ps.length c.kc]) (T:=63) (fr:=(0,0)) hbox 5 (.slice (some ⟨g,0,none⟩) (c.ps.length + 1) cap)
  rw [this]
  unfold CM.box CM.withK
  simp
 ·simp [World.setCell]; omega
 ·refine ((n8 h.rowU hb).kept hgrow ?_).kept hgr ?_
  ·cases hk : (Value.slice c.ua c.up.length c.uc).ownBlock with
   | none => exact .inl rfl
   | some d => exact .inr (fun e => h.ne d (by unfold CM.u; rw [hk]) e.symm)
  ·cases hk : (Value.slice c.ua c.up.length c.uc).ownBlock with
   | none => exact .inl rfl
   | some d => exact .inr (fun e => by have e2:=Option.some.inj e; have:=(h.u_lt (d:=d) (by unfold CM.u; rw [hk])).1; omega)
 ·have:=hown.kept hgr (.inr (fun e => by have e2 : g=F:=Option.some.inj e; omega))
  show (w6.setCell ⟨F,5,none⟩ _).ownsRow B 94 1 (.slice (some ⟨g,0,none⟩) (c.ps ++ [p]).length cap) (c.ps ++ [p]).length ((c.ps ++ [p]).map .pointer)
  rw [List.length_append,List.map_append]
  exact this
 ·have e : g=d:=Option.some.inj (show some g=some d from e2)
  exact hgk d hd e.symm
 ·rcases Nat.lt_or_ge i kn.length with hi | hi
  ·rw [List.getElem?_append_left hi] at hx
   obtain ⟨b,h1,h2,h3,h4,h5,h6⟩:=h.got i x hx
   refine ⟨b,?_,h2,by simp [World.setCell]; omega,h4,fun e => ?_,?_⟩
   ·show (c.ps ++ [p])[i]?=_
    rw [List.getElem?_append_left (by rw [← h.len]; exact hi)]; exact h1
   ·exact hfar b h3 (by omega) h5 (Option.some.inj (show some g=some b from e))
   ·exact (World.cell?_of_block (hbk b (by omega))).trans ((World.cell?_of_block (hold b h3 h5)).trans h6)
  ·have hi' : i=kn.length:=by
    rcases Nat.lt_or_ge i (kn.length + 1) with g | g
    ·omega
    ·rw [List.getElem?_eq_none (by simp; omega)] at hx; cases hx
   subst hi'
   rw [List.getElem?_append_right (Nat.le_refl _),Nat.sub_self] at hx
   obtain rfl : k=some x:=by simpa using hx
   obtain ⟨b,rfl,hB2,⟨f1,f2,f3,f4⟩,f5⟩:=hk
   refine ⟨b,?_,hB2,by simp [World.setCell]; omega,f3,fun e => ?_,?_⟩
   ·show (c.ps ++ [some ⟨b,0,none⟩])[kn.length]?=_
    rw [h.len]; simp
   ·exact hfar b f1 f2 f4 (Option.some.inj (show some g=some b from e))
   ·exact (World.cell?_of_block (hbk b f2)).trans ((World.cell?_of_block (hold b f1 f4)).trans f5)
 ·rcases Nat.lt_or_ge i kn.length with hi | hi
  ·rw [List.getElem?_append_left hi] at hx
   show (c.ps ++ [p])[i]?=_
   rw [List.getElem?_append_left (by rw [← h.len]; exact hi)]; exact h.free i hx
  ·have hi' : i=kn.length:=by
    rcases Nat.lt_or_ge i (kn.length + 1) with g | g
    ·omega
    ·rw [List.getElem?_eq_none (by simp; omega)] at hx; cases hx
   subst hi'
   rw [List.getElem?_append_right (Nat.le_refl _),Nat.sub_self] at hx
   obtain rfl : k=none:=by simpa using hx
   obtain rfl : p=none:=hk
   show (c.ps ++ [none])[kn.length]?=_
   rw [h.len]; simp
 ·exact hgrow.os.trans hb.os
 ·exact hgrow.tape.trans hb.tape
 ·exact hgrow.output.trans hb.output
 ·simp [World.setCell]; omega
 ·exact (hbk d h2).trans (hold d h1 h4)
 ·have e : g=d:=Option.some.inj (show some g=some d from hd)
  subst e
  rcases hat with e3 | e3
  ·exact .inl e3
  ·exact .inr (by omega)
theorem sS (B F : Nat) (c : CM) (kn : List (Option Int)) (k : Option Int) (p : Option Addr) (w : World) (h : c.In B F kn w) (hl : c.up.length≤1000000) (hlk : c.ps.length≤1000000) (hk : gS B F c k p w) :
 Calls Tryz.prog 53 #[.pointer (some ⟨F,4,none⟩),.pointer p] w fun e w' => ∃ c' : CM,e=.returned (.int .i64 (c.up.length : Nat))∧c'.up=c.up ++ [c.up.length]∧c'.ps=c.ps ++ [p]∧c'.In B F (kn ++ [k]) w'∧Mv F c c' w w':=by
 have f4:=h.cells.1
 have f5:=h.cells.2.1
 have hFl:=h.cells.2.2
 have HI:=hid h
 have HK:=hid hk
 clear h hk
 generalize hn : c.up.length=n at f4 hl
 go_enter Tryz.func53,Tryz.ntmps53
 go_wp2_with fail
 refine s3 (S:=(fun cur : World => cur.cell? ⟨F,4,none⟩=some (.slice c.ua n c.uc))) (z:=14) (by kernel_rfl) ?_ (fun hHeld => ?_)
 ·exact f4
 refine b8.t 0 ?_; refine b8.t 1 ?_; refine b8.t 2 ?_; refine b8.t 3 ?_; refine b8.t 4 ?_; refine b8.t 5 ?_; refine b8.t 6 ?_; refine b8.t 7 ?_; refine b8.t 8 ?_
 refine b8.t 9 ?_
 refine b8.nx 10 fun K hK => ?_
 go_simp
 obtain ⟨W1,hW1⟩ : ∃ W,W=(w.alloc (.cells #[.int .i64 (n : Nat)] 3)).drew:=⟨_,rfl⟩
 have B1:=hid (show Below w.heap.size w W1 from hW1 ▸ r8 (a7 _ _))
 have N1:=hid (show W1.cell? ⟨w.heap.size,0,none⟩=some (.int .i64 (n : Nat)) by rw [hW1]; show (w.alloc _).cell? _=_; simp)
 have hz1 : W1.heap.size=w.heap.size + 1:=by rw [hW1]; show (w.alloc _).heap.size=_; simp
 rw [← hW1]
 clear hW1
 obtain ⟨i0,hi,hq0,hq1,hq2⟩:=info_parts (show (Tryz.prog.info? 3).map (fun i => (i.zero,i.size,i.bytes))=some (some (.int .i64 0),1,8) by kernel_rfl)
 refine hK.out _ _ ?_ (fun hHeld => ?_)
 ·exact (B1.out.cell (p:=⟨F,4,none⟩) hFl).trans f4
 clear hK K
 try simp only [Act.put,j6,v6,v7]
 refine b8.nx 11 fun K hK => ?_
 refine step_append_lies _ rfl _ _ 34 rfl B 3 i0 (.int .i64 0) 1 8 Tryz.underlying34 hi hq0 hq1 hq2 rfl (by decide) (.slice c.ua n c.uc) _ _ rfl (n8 (hn ▸ HI.out.rowU) B1) ⟨w.heap.size,0,none⟩ 1 1 [.int .i64 (n : Nat)] rfl rfl ?_ (by simp [Value.oneCell']) (by decide) (by unfold maxLen; omega) (by omega) (by have:=HI.out.le; omega) _ rfl ?_
 ·intro j u hu
  cases j with
  | zero => cases hu; exact N1
  | succ j => cases hu
 intro gb cap' w6 hown' hgrow' hat' hltg
 have hcu : (Value.slice c.ua n c.uc).ownBlock=c.u:=by unfold CM.u; rw [hn]
 rw [hcu] at hgrow' hat'
 clear hcu
 have HF6:=hid (show w6.heap[F]?=some c.box from (hgrow'.block F (by omega) (fun e => by have:=HI.out.u_lt e.symm; have:=HI.out.lt; omega)).trans ((B1.out.block F hFl).trans HI.out.box))
 have HU:=hid (HI.out.addUp B1 (x:=n) (by rw [hn]; exact hown') hgrow' hat')
 have h6:=hgrow'.size
 clear hown' hgrow' hat'
 have g4 : w6.cell? ⟨F,4,none⟩=some (.slice c.ua n c.uc):=by have:=HF6.out; unfold CM.box at this; simp [World.cell?,this,hn]
 have z4 : w6.frozen? ⟨F,4,none⟩=false:=by have:=HF6.out; unfold CM.box at this; simp [World.frozen?,this]
 have hF6 : F<w6.heap.size:=by omega
 refine hK.out _ _ ?_ (fun hHeld => ?_)
 ·exact g4
 clear hK K
 try simp only [Act.put,j6,v6,v7]
 refine b8.nx 12 fun K hK => ?_
 go_simp
 refine hK.out _ _ ?_ (fun hHeld => ?_)
 ·exact hHeld
 clear hK K
 try simp only [Act.put,j6,v6,v7]
 refine b8.t 13 ?_
 refine b8.la fun K hK => ?_
 go_simp
 refine hK.out _ _ ?_
 clear hK K hHeld g4 z4 f4
 rw [hn] at HU
 obtain ⟨W7,hW7⟩ : ∃ W,W=w6.setCell ⟨F,4,none⟩ (.slice (some ⟨gb,0,none⟩) (n + 1) cap'):=⟨_,rfl⟩
 have H7:=hid (show (c.withU gb cap' n).In B F kn W7∧Mv F c (c.withU gb cap' n) w W7 from hW7 ▸ HU.out)
 rw [← hW7]
 clear hW7 HU HF6 hz1 h6 hF6 hltg
 have HK7:=hid (show gS B F (c.withU gb cap' n) k p W7 from by
  have h1:=HK.out
  unfold gS at h1 ⊢
  cases k with
  | none => exact h1
  | some x =>
    obtain ⟨b,e,hB,hf,hc⟩:=h1
    obtain ⟨f1,f2⟩:=H7.out.2.far hf
    exact ⟨b,e,hB,f1,(World.cell?_of_block f2).trans hc⟩)
 have k5 : W7.cell? ⟨F,5,none⟩=some (.slice c.ka c.ps.length c.kc):=H7.out.1.cells.2.1
 have hF7 : F<W7.heap.size:=H7.out.1.cells.2.2
 clear hi hq0 hq1 hq2 f5 hFl
 obtain ⟨i1,hi,hq0,hq1,hq2⟩:=info_parts (show (Tryz.prog.info? 94).map (fun i => (i.zero,i.size,i.bytes))=some (some (.pointer none),1,8) by kernel_rfl)
 have HI1:=hid (show _∧_∧_∧_ from ⟨hi,hq0,hq1,hq2⟩)
 clear hi hq0 hq1 hq2
 obtain ⟨W8,hW8⟩ : ∃ W,W=W7.alloc (.cells #[.pointer p] 94):=⟨_,rfl⟩
 have B8:=hid (show Below W7.heap.size W7 W8 from hW8 ▸ a7 _ _)
 have N8' : W8.cell? ⟨W7.heap.size,0,none⟩=some (.pointer p):=by rw [hW8]; simp
 have N8:=hid (show ∀ j u,[Value.pointer p][j]?=some u→W8.cell? ((⟨W7.heap.size,0,none⟩ : Addr).add j)=some u from fun j u hu => by
  cases j with
  | zero => cases hu; exact N8'
  | succ j => cases hu)
 have hz8 : W8.heap.size=W7.heap.size + 1:=by rw [hW8]; simp
 have HZ8:=hid hz8
 have HW8:=hid hW8
 clear hW8 hz8 N8'
 go_wp2_with (at_builtin; rw [← HW8.out]; refine wpList_append_lies _ rfl _ _ 59 rfl B 94 i1 (.pointer none) 1 8 Tryz.underlying59 HI1.out.1 HI1.out.2.1 HI1.out.2.2.1 HI1.out.2.2.2 rfl (by decide) (.slice c.ka c.ps.length c.kc) c.ps.length (c.ps.map .pointer) rfl (n8 H7.out.1.rowK B8) ⟨W7.heap.size,0,none⟩ 1 1 [.pointer p] rfl rfl N8 (by simp [Value.oneCell']) (by decide) (by show c.ps.length + 1≤_; unfold maxLen; omega) (by show (c.ps.length + 1) * 8≤_; omega) (by have:=H7.out.1.le; have:=B8.out.size; omega) _ rfl ?_)
 intro gk capk w9 hown' hgrow' hat' hltg
 have HF9:=hid (show w9.heap[F]?=some (c.withU gb cap' n).box from (hgrow'.block F (by have:=HZ8.out; omega) (fun e => by have:=H7.out.1.k_lt e.symm; have:=H7.out.1.lt; omega)).trans ((B8.out.block F hF7).trans H7.out.1.box))
 have HU:=hid (H7.out.1.addKn B8 HK7 hown' hgrow' hat')
 have h9:=hgrow'.size
 clear hown' hgrow' hat'
 have g5 : w9.cell? ⟨F,5,none⟩=some (.slice c.ka c.ps.length c.kc):=by have:=HF9.out; unfold CM.box CM.withU at this; simp [World.cell?,this]
 have z5 : w9.frozen? ⟨F,5,none⟩=false:=by have:=HF9.out; unfold CM.box CM.withU at this; simp [World.frozen?,this]
 have hF9 : F<w9.heap.size:=by have:=HZ8.out; omega
 clear h9 hltg
 go_upto_region 3 with fail
 obtain ⟨W10,hW10⟩ : ∃ W,W=w9.setCell ⟨F,5,none⟩ (.slice (some ⟨gk,0,none⟩) (c.ps.length + 1) capk):=⟨_,rfl⟩
 have H10:=hid (show ((c.withU gb cap' n).withK gk capk p).In B F (kn ++ [k]) W10∧Mv F (c.withU gb cap' n) ((c.withU gb cap' n).withK gk capk p) W7 W10 from hW10 ▸ HU.out)
 rw [← hW10]
 clear hW10 HU HF9
 have hu10 : ((c.withU gb cap' n).withK gk capk p).up.length=n + 1:=by show (c.up ++ [n]).length=_; simp [hn]
 have l4 : W10.cell? ⟨F,4,none⟩=some (.slice (some ⟨gb,0,none⟩) (n + 1) cap'):=by have:=H10.out.1.cells.1; rw [hu10] at this; exact this
 have hF10 : F<W10.heap.size:=H10.out.1.cells.2.2
 have e1 : IntKind.i64.wrap (((n + 1 : Nat) : Int) - 1)=n:=by rw [show ((n + 1 : Nat) : Int) - 1=n by omega]; exact IntWalk.i64_in _ (by omega)
 go_wp2_with fail
 go_ret
 refine ⟨(c.withU gb cap' n).withK gk capk p,a5u (by omega),rfl,rfl,H10.out.1,H7.out.2.trans H10.out.2⟩
end
end Go.Proofs.YtppcfebnaieciaaGreatDoor
