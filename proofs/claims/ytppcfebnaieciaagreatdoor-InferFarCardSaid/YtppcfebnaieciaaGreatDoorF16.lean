/-
  Laws that the proof rests on.
-/
import Derived.Test.YtppcfebnaieciaaGreatDoorF15
import Derived.Test.YtppcfebnaieciaaGreatDoorF01
import Derived.Test.YtppcfebnaieciaaGreatDoorF04
import Derived.Deep.AppendLies
import Derived.IntWalk
import Derived.Test.YtppcfebnaieciaaGreatDoorF05
import Derived.Test.YtppcfebnaieciaaGreatDoorF14
import Derived.Test.YtppcfebnaieciaaGreatDoorF07
namespace Go.Proofs.YtppcfebnaieciaaGreatDoor
set_option maxRecDepth 100000
set_option maxHeartbeats 16000000
section
open Lib (hid)
open Go.RowKit
theorem CM.In.krow {B F : Nat} {c : CM} {kn : List (Option Int)} {W : World} (h : c.In B F kn W) (hl : 0<c.ps.length) : ∃ g,c.ka=some ⟨g,0,none⟩∧g<W.heap.size∧c.ps.length≤9223372036854775807∧(∀ j (hj : j<c.ps.length),W.cell? ⟨g,j,none⟩=some (.pointer c.ps[j])):=by
 obtain ⟨g,cap,e,hb,hg⟩:=h.rowK.form hl
 obtain ⟨e1,-,rfl⟩:=Value.slice.inj e
 have hr:=h.rowK
 rw [e1] at hr
 have hcap : c.ps.length≤c.kc∧c.kc≤maxLen:=by
  rcases hr.2 with ⟨e,-⟩ | ⟨g',cap',cur,e,-,-,h3,h4,-⟩
  ·obtain ⟨e,-⟩:=Value.slice.inj e; cases e
  ·obtain ⟨-,-,rfl⟩:=Value.slice.inj e; exact ⟨h3,h4⟩
 refine ⟨g,e1,hg,by have:=hcap; unfold maxLen at this; omega,fun j hj => ?_⟩
 have:=hr.cells (g:=g) rfl j (.pointer c.ps[j]) (by rw [List.getElem?_map,List.getElem?_eq_getElem hj]; rfl)
 rwa [Go.WideShapes.add_plain,Nat.zero_add] at this
theorem Mv.ofU {F : Nat} {c : CM} {up : List Nat} {w w' : World} (hl : up.length=c.up.length) (h : w.grownBy w' c.u) : Mv F c (c.withUp up) w w':=by
 have e : (c.withUp up).u=c.u:=by unfold CM.u CM.withUp; simp only [hl]
 exact ⟨h.os,h.tape,h.output,h.size,fun d hd _ hu _ => h.block d hd (fun e => hu e.symm),fun d hd => .inl (e ▸ hd),fun d hd => .inl hd,rfl,rfl,rfl,rfl⟩
structure Cls (B F : Nat) (c : CM) (kn : List (Option Int)) (ro rk : Nat→Nat) (S φ : List Int) (w : World) : Prop where
 hin : c.In B F kn w
 uf : Uf c.up ro rk
 sim : Sim c.up.length kn ro S φ
 norm : Q3 S
 ps : c.ps.length=c.up.length
def a5o (B F : Nat) (c : CM) (kn : List (Option Int)) (φ : List Int) (w : World) (x : Option (List Int)) (e : Ending) (w' : World) : Prop:=∃ (c' : CM),c'.up.length=c.up.length∧c'.ps=c.ps∧Mv F c c' w w'∧match x with
 | some S' => e=.returned (.bool true)∧∃ ro' rk',Cls B F c' kn ro' rk' S' φ w'
 | none => e=.returned (.bool false)
theorem Cls.top {B F : Nat} {c : CM} {kn : List (Option Int)} {ro rk : Nat→Nat} {S φ : List Int} {w : World} (h : Cls B F c kn ro rk S φ w) {x : Nat} (hx : x<c.up.length) :
 Calls Tryz.prog 55 #[.pointer (some ⟨F,4,none⟩),.int .i64 x] w fun e w' => ∃ up',e=.returned (.int .i64 (ro x : Nat))∧up'.length=c.up.length∧Cls B F (c.withUp up') kn ro rk S φ w'∧Mv F c (c.withUp up') w w' :=
 (a1K B F c kn ro rk x w h.hin h.uf hx).mono fun _ _ ⟨up',h1,h2,h3,h4,h5,_⟩ => ⟨up',h1,h2,⟨h4,h3,by show Sim up'.length kn ro S φ; rw [h2]; exact h.sim,h.norm,by show c.ps.length=up'.length; rw [h2]; exact h.ps⟩,Mv.ofU h2 h5⟩
theorem Cls.linked {B F : Nat} {c : CM} {kn : List (Option Int)} {ro rk : Nat→Nat} {S S' φ : List Int} {w : World} (h : Cls B F c kn ro rk S φ w) {a b g : Nat} (ha : a<c.up.length) (ra : ro a=a) (rb : ro b=b) (hne : b≠a) (hg : c.ua=some ⟨g,0,none⟩)
 (hs : Sim c.up.length kn (fun z => if ro z=b then a else ro z) S' φ) (hS : Q3 S') : ∃ c' ro' rk',c'.up.length=c.up.length∧c'.ps=c.ps∧Mv F c c' w (w.setCell ⟨g,b,none⟩ (.int .i64 (a : Nat)))∧Cls B F c' kn ro' rk' S' φ (w.setCell ⟨g,b,none⟩ (.int .i64 (a : Nat))):=by
 obtain ⟨h1,h2⟩:=h.hin.setUp hg b a
 have hl : (c.up.set b a).length=c.up.length:=List.length_set
 exact ⟨c.withUp (c.up.set b a),_,_,hl,rfl,Mv.ofU hl h2,h1,h.uf.link ha rb ra hne,by show Sim (c.up.set b a).length _ _ _ _; rw [hl]; exact hs,hS,by show c.ps.length=(c.up.set b a).length; rw [hl]; exact h.ps⟩
theorem Cls.drew {B F : Nat} {c : CM} {kn : List (Option Int)} {ro rk : Nat→Nat} {S φ : List Int} {w : World} (h : Cls B F c kn ro rk S φ w) : Cls B F c kn ro rk S φ w.drew:=⟨h.hin.drewIn,h.uf,h.sim,h.norm,h.ps⟩
theorem Mv.drew {F : Nat} {c c' : CM} {w w' : World} (h : Mv F c c' w w') : Mv F c c' w w'.drew:=⟨h.os,h.tape,h.output,h.size,h.block,h.u,h.k,h.maps⟩
theorem a04 (B F : Nat) (c : CM) (kn : List (Option Int)) (ro rk : Nat→Nat) (S φ : List Int) (x y : Nat) (w : World) (h : Cls B F c kn ro rk S φ w) (hx : x<φ.length) (hy : y<φ.length) :
 Calls Tryz.prog 156 #[.pointer (some ⟨F,4,none⟩),.int .i64 x,.int .i64 y] w (a5o B F c kn φ w (cE S φ[x] φ[y])):=by
 have hlφ:=h.sim.len.2
 have hxu : x<c.up.length:=by omega
 have hyu : y<c.up.length:=by omega
 have C1:=hid (h.top hxu)
 have HU:=hid h.uf
 have HSim:=hid h.sim
 have HN:=hid h.norm
 clear h
 go_enter Tryz.func156,Tryz.ntmps156
 go_wp2_with fail
 (with_reducible refine Calls.mono C1.out ?_)
 rintro e w1 ⟨up1,rfl,hl1,h1,hm1⟩
 have H1:=hid h1
 have M1:=hid hm1
 have C2:=hid (h1.top (x:=y) (by show y<up1.length; omega))
 clear h1 hm1 C1
 go_wp2_with fail
 (with_reducible refine Calls.mono C2.out ?_)
 rintro e w2 ⟨up2,rfl,hl2,h2,hm2⟩
 obtain ⟨c2,hc2⟩ : ∃ c2,c2=c.withUp up2:=⟨_,rfl⟩
 have H2:=hid (show Cls B F c2 kn ro rk S φ w2 from hc2 ▸ h2)
 have M2:=hid (show Mv F c c2 w w2 from hc2 ▸ M1.out.trans hm2)
 have HL2:=hid (show c2.up.length=c.up.length from hc2 ▸ hl2.trans hl1)
 have HP2:=hid (show c2.ps=c.ps from hc2 ▸ rfl)
 clear h2 hm2 C2 H1 M1 hl1 hl2 hc2 up1 up2
 have ha:=HU.out.root_lt hxu
 have hb:=HU.out.root_lt hyu
 have HR:=hid (show ro (ro x)=ro x∧ro (ro y)=ro y from ⟨HU.out.root_root hxu,HU.out.root_root hyu⟩)
 obtain ⟨g,hg,-,hgl,hcap,hmax,hcell,hfz⟩:=H2.out.hin.row (by have:=HL2.out; omega)
 obtain ⟨gk,hgk,hgkl,hpl,hkcell⟩:=H2.out.hin.krow (by have:=H2.out.ps; have:=HL2.out; omega)
 obtain ⟨f4,f5,hFl⟩:=H2.out.hin.cells
 have hps:=H2.out.ps
 have hl2':=HL2.out
 rw [hg] at f4
 rw [hgk] at f5
 have hul : c2.up.length≤9223372036854775807:=by have:=hcap; unfold maxLen at hmax; omega
 have HG:=hid hg
 obtain ⟨pa,hpa,ka⟩ : ∃ pa,c2.ps[ro x]?=some pa∧w2.cell? ⟨gk,ro x,none⟩=some (.pointer pa):=⟨_,List.getElem?_eq_getElem (by omega),hkcell (ro x) (by omega)⟩
 obtain ⟨pb,hpb,kb⟩ : ∃ pb,c2.ps[ro y]?=some pb∧w2.cell? ⟨gk,ro y,none⟩=some (.pointer pb):=⟨_,List.getElem?_eq_getElem (by omega),hkcell (ro y) (by omega)⟩
 have HPA:=hid hpa
 have HPB:=hid hpb
 obtain ⟨va,ca⟩ : ∃ v,w2.cell? ⟨g,ro x,none⟩=some (.int .i64 v):=⟨_,hcell (ro x) (by omega)⟩
 obtain ⟨vb,cb⟩ : ∃ v,w2.cell? ⟨g,ro y,none⟩=some (.int .i64 v):=⟨_,hcell (ro y) (by omega)⟩
 have za:=hfz (ro x)
 have zb:=hfz (ro y)
 have hap : ro x<c2.ps.length:=by omega
 have hbp : ro y<c2.ps.length:=by omega
 have hau : ro x<c2.up.length:=by omega
 have hbu : ro y<c2.up.length:=by omega
 have HPS:=hid hps
 clear hcell hfz hkcell hcap hmax hg hgk hps hl2' hpa hpb
 by_cases hab : ro x=ro y
 ·have e1 : ((ro x : Int) == (ro y : Int))=true:=by rw [hab]; exact beq_self_eq_true _
  have HE:=hid hab
  clear hab
  go_wp2_with fail
  go_ret
  refine ⟨c2,HL2,HP2,M2,?_⟩
  rw [HSim.out.one hx hy HE.out]
  exact ⟨rfl,ro,rk,H2⟩
 ·have e1 : ((ro x : Int) == (ro y : Int))=false:=beq_eq_false_iff_ne.2 (fun h => hab (Int.ofNat.inj h))
  have HE:=hid hab
  clear hab
  have la:=HSim.out.look hxu
  have lb:=HSim.out.look hyu
  have HS2:=hid H2.out.sim
  rcases la with na | ⟨u,sa⟩
  ·obtain rfl : pa=none:=by
    have:=H2.out.hin.free _ na
    rw [HPA.out] at this
    exact Option.some.inj this
   have HA:=hid na
   clear na lb kb
   go_wp2_with fail
   go_ret
   obtain ⟨S',hS',hsim⟩:=HSim.out.two hx hy HE HA
   obtain ⟨c',ro',rk',l1,p1,m1,q1⟩:=H2.out.linked hbu HR.out.2 HR.out.1 HE HG (HL2.out.symm ▸ hsim) (iU HN (HSim.out.val x hx) (HSim.out.val y hy) hS')
   refine ⟨c',l1.trans HL2,p1.trans HP2,M2.out.trans m1,?_⟩
   rw [hS']
   exact ⟨rfl,ro',rk',q1⟩
  ·obtain ⟨ba,ea,-,hba1,-,-,cu⟩:=H2.out.hin.got _ u sa
   obtain rfl : pa=some ⟨ba,0,none⟩:=by
    rw [HPA.out] at ea
    exact Option.some.inj ea
   have HA:=hid sa
   clear sa ea
   rcases lb with nb | ⟨v,sb⟩
   ·obtain rfl : pb=none:=by
     have:=H2.out.hin.free _ nb
     rw [HPB.out] at this
     exact Option.some.inj this
    have HB:=hid nb
    clear nb
    go_upto_region 6 with fail
    refine wp_region_held_drew (S:=(fun cur => cur.cell? ⟨F,5,none⟩=some (.slice (some ⟨gk,0,none⟩) c2.ps.length c2.kc)∧cur.cell? ⟨gk,ro y,none⟩=some (.pointer none))) (by kernel_rfl) ?_ (fun hHeld => ?_)
    ·exact ⟨f5,kb⟩
    refine a8 0 ?_; refine a8 1 ?_; refine a8 2 ?_; refine a8 3 ?_; refine a8 4 ?_; refine a8 5 ?_; refine a8 6 ?_; refine a8 7 ?_; refine a8 8 ?_
    refine D9 9 ?_; refine D9 10 ?_; refine D9 11 ?_; refine D9 12 ?_; refine D9 13 ?_; refine D9 14 ?_; refine D9 15 ?_; refine D9 16 ?_; refine D9 17 ?_; refine D9 18 ?_
    refine D9 19 ?_; refine D9 20 ?_; refine D9 21 ?_; refine D9 22 ?_; refine D9 23 ?_; refine D9 24 ?_; refine D9 25 ?_; refine D9 26 ?_; refine D9 27 ?_
    refine a8 28 ?_; refine a8 29 ?_
    refine wpAnyH_done (by kernel_rfl) ?_ _
    have f4' : w2.drew.cell? ⟨F,4,none⟩=some (.slice (some ⟨g,0,none⟩) c2.up.length c2.uc):=f4
    have cb' : w2.drew.cell? ⟨g,ro y,none⟩=some (.int .i64 vb):=cb
    have zb' : w2.drew.frozen? ⟨g,ro y,none⟩=false:=zb
    clear hHeld
    go_wp2_with fail
    go_ret
    obtain ⟨S',hS',hsim⟩:=HSim.out.three hx hy HA HB
    obtain ⟨c',ro',rk',l1,p1,m1,q1⟩:=H2.out.linked hau HR.out.1 HR.out.2 (fun e => HE.out e.symm) HG (HL2.out.symm ▸ hsim) (iU HN (HSim.out.val x hx) (HSim.out.val y hy) hS')
    refine ⟨c',l1.trans HL2,p1.trans HP2,M2.out.trans m1.drew,?_⟩
    rw [hS']
    exact ⟨rfl,ro',rk',q1.drew⟩
   ·obtain ⟨bb,eb,-,hbb1,-,-,cv⟩:=H2.out.hin.got _ v sb
    obtain rfl : pb=some ⟨bb,0,none⟩:=by
     rw [HPB.out] at eb
     exact Option.some.inj eb
    have HB:=hid sb
    clear sb eb
    by_cases huv : u=v
    all_goals
     first
      | (have e2 : (u != v)=false:=by rw [huv]; exact bne_self_eq_false _)
      | (have e2 : (u != v)=true:=bne_iff_ne.2 huv)
     have HUV:=hid huv
     clear huv
     go_upto_region 6 with fail
     refine wp_region_held_drew (S:=(fun cur => cur.cell? ⟨F,5,none⟩=some (.slice (some ⟨gk,0,none⟩) c2.ps.length c2.kc)∧cur.cell? ⟨gk,ro x,none⟩=some (.pointer (some ⟨ba,0,none⟩))∧cur.cell? ⟨gk,ro y,none⟩=some (.pointer (some ⟨bb,0,none⟩))∧cur.cell? ⟨ba,0,none⟩=some (.int .i64 u)∧cur.cell? ⟨bb,0,none⟩=some (.int .i64 v))) (by kernel_rfl) ?_ (fun hHeld => ?_)
     ·exact ⟨f5,ka,kb,cu,cv⟩
     refine a8 0 ?_; refine a8 1 ?_; refine a8 2 ?_; refine a8 3 ?_; refine a8 4 ?_; refine a8 5 ?_; refine a8 6 ?_; refine a8 7 ?_; refine a8 8 ?_; refine a8 9 ?_
     refine a8 10 ?_; refine a8 11 ?_; refine a8 12 ?_; refine a8 13 ?_; refine a8 14 ?_; refine a8 15 ?_; refine a8 16 ?_; refine a8 17 ?_; refine a8 18 ?_; refine a8 19 ?_
     refine a8 20 ?_; refine a8 21 ?_; refine a8 22 ?_; refine a8 23 ?_; refine a8 24 ?_; refine a8 25 ?_; refine a8 26 ?_; refine a8 27 ?_; refine a8 28 ?_; refine a8 29 ?_
     refine wpAnyH_done (by kernel_rfl) ?_ _
     have f4' : w2.drew.cell? ⟨F,4,none⟩=some (.slice (some ⟨g,0,none⟩) c2.up.length c2.uc):=f4
     have cb' : w2.drew.cell? ⟨g,ro y,none⟩=some (.int .i64 vb):=cb
     have zb' : w2.drew.frozen? ⟨g,ro y,none⟩=false:=zb
     clear hHeld
     go_wp2_with fail
     go_ret
    ·obtain ⟨hS',hsim⟩:=HSim.out.like hx hy HA (HUV.out ▸ HB.out)
     obtain ⟨c',ro',rk',l1,p1,m1,q1⟩:=H2.out.linked hau HR.out.1 HR.out.2 (fun e => HE.out e.symm) HG (HL2.out.symm ▸ hsim) HN
     refine ⟨c',l1.trans HL2,p1.trans HP2,M2.out.trans m1.drew,?_⟩
     rw [hS']
     exact ⟨rfl,ro',rk',q1.drew⟩
    ·refine ⟨c2,HL2,HP2,M2.out.drew,?_⟩
     rw [HSim.out.no hx hy HA.out HB.out HUV.out]
     rfl
end
section
open Lib (hid)
open Go.RowKit
def V4 (c c' : CM) (w : World) : Prop:=∀ a : Addr,some a∈c'.ps→some a∈c.ps∨w.heap.size≤a.block
theorem V4.refl (c : CM) (w : World) : V4 c c w:=fun _ h => .inl h
theorem V4.trans {c c' c'' : CM} {w w' : World} (h : V4 c c' w) (k : V4 c' c'' w') (hs : w.heap.size≤w'.heap.size) : V4 c c'' w:=fun a ha => by
 rcases k a ha with g | g
 ·exact h a g
 ·exact .inr (Nat.le_trans hs g)
def yG (B F : Nat) (c : CM) (S' φ' : List Int) (w : World) (e : Ending) (w' : World) : Prop:=∃ (c' : CM) (kn' : List (Option Int)) (ro' rk' : Nat→Nat),e=.returned (.int .i64 (c.up.length : Nat))∧c'.up.length=c.up.length + 1∧Cls B F c' kn' ro' rk' S' φ' w'∧Mv F c c' w w'∧V4 c c' w
theorem CM.In.far_new {B F : Nat} {c : CM} {kn : List (Option Int)} {w : World} (h : c.In B F kn w) (o : Obj) : Far F c (w.alloc o) w.heap.size :=
 ⟨by simp,by have:=h.lt; have:=h.le; omega,fun e => by have:=(h.u_lt e).2; omega,fun e => by have:=(h.k_lt e).2; omega⟩
theorem Cls.below {B F : Nat} {c : CM} {kn : List (Option Int)} {ro rk : Nat→Nat} {S φ : List Int} {w w' : World} (h : Cls B F c kn ro rk S φ w) (hb : Below w.heap.size w w') : Cls B F c kn ro rk S φ w':=⟨h.hin.below hb,h.uf,h.sim,h.norm,h.ps⟩
theorem yX {B F : Nat} {c : CM} {kn : List (Option Int)} {ro rk : Nat→Nat} {S φ : List Int} {w : World} (h : Cls B F c kn ro rk S φ w) (hl : c.up.length≤1000000) :
 Calls Tryz.prog 53 #[.pointer (some ⟨F,4,none⟩),.pointer none] w (yG B F c (frT S) (φ ++ [5 + (S.length : Int)]) w) :=
 (sS B F c kn none none w h.hin hl (by rw [h.ps]; exact hl) rfl).mono fun _ _ ⟨c',h1,h2,h3,h4,h5⟩ => by
   have hl' : c'.up.length=c.up.length + 1:=by rw [h2]; simp
   exact ⟨c',kn ++ [none],_,rk,h1,hl',⟨h4,h2 ▸ h.uf.add,by rw [hl']; exact h.sim.addN h.norm,mT h.norm,by rw [h3,hl',List.length_append,h.ps]; rfl⟩,h5,fun a ha => .inl (by rw [h3] at ha; simpa using ha)⟩
theorem eL {B F : Nat} {c : CM} {kn : List (Option Int)} {ro rk : Nat→Nat} {S φ : List Int} {w : World} (h : Cls B F c kn ro rk S φ w) (hl : c.up.length≤1000000) (t : Int) (ht : 0≤t∧t<5) :
 Calls Tryz.prog 90 #[.pointer (some ⟨F,0,none⟩),.int .i64 t] w (yG B F c S (φ ++ [t]) w):=by
 obtain ⟨W1,hW1⟩ : ∃ W,W=w.alloc (.cells #[.int .i64 t] 3):=⟨_,rfl⟩
 have B1:=hid (show Below w.heap.size w W1 from hW1 ▸ a7 _ _)
 have K1:=hid (show gS B F c (some t) (some ⟨w.heap.size,0,none⟩) W1 from ⟨w.heap.size,rfl,h.hin.le,hW1 ▸ h.hin.far_new _,by rw [hW1]; simp⟩)
 have H1:=hid (h.below B1)
 have hFl:=H1.out.hin.cells.2.2
 have C:=hid (sS B F c kn (some t) (some ⟨w.heap.size,0,none⟩) W1 H1.out.hin hl (by rw [h.ps]; exact hl) K1)
 have HP:=hid h.ps
 clear h hl
 go_enter Tryz.func90,Tryz.ntmps90
 go_wp2_with fail
 rw [← hW1]
 clear hW1
 (with_reducible refine Calls.mono C.out ?_)
 rintro e w2 ⟨c',rfl,h2,h3,h4,h5⟩
 have HQ:=hid (show c'.up.length=c.up.length + 1∧Cls B F c' (kn ++ [some t]) (fun z => if z<c.up.length then ro z else z) rk S (φ ++ [t]) w2 from by
  have hl' : c'.up.length=c.up.length + 1:=by rw [h2]; simp
  exact ⟨hl',h4,h2 ▸ H1.out.uf.add,by rw [hl']; exact H1.out.sim.addK ht,H1.out.norm,by rw [h3,hl',List.length_append,HP.out]; rfl⟩)
 have HM:=hid ((Mv.of B1).trans h5)
 have HN:=hid (show V4 c c' w from fun a ha => by
  rw [h3,List.mem_append] at ha
  rcases ha with ha | ha
  ·exact .inl ha
  ·rw [List.mem_singleton] at ha; cases ha; exact .inr (Nat.le_refl _))
 clear h2 h3 h4 h5 C
 go_wp2_with fail
 go_ret
 exact ⟨c',_,_,rk,rfl,HQ.out.1,HQ.out.2,HM,HN⟩
end
section
open Go.RowKit
def y6 (av : Nat→Prop) (W : World) (a : Option Addr) (l : List Int) : Prop:=∀ j (h : j<l.length),∃ b off,a=some ⟨b,off,none⟩∧av b∧W.cell? ⟨b,off + j,none⟩=some (.int .i64 l[j])
def bsA (l : List UInt8) : ByteArray:=⟨l.toArray⟩
def Sch.At (av : Nat→Prop) (W : World) (b off : Nat) (d : Sch) : Prop:=∃ pa pc,W.cell? ⟨b,off,none⟩=some (.string (bsA d.name))∧W.cell? ⟨b,off + 1,none⟩=some (.slice pa d.params.length pc)∧W.cell? ⟨b,off + 2,none⟩=some (.int .i64 d.result)∧y6 av W pa d.params∧d.params.length≤pc∧pc≤maxLen∧(pa=none→pc=0)
def bS (av : Nat→Prop) (W : World) (a : Option Addr) (l : List Sch) : Prop:=∀ j (h : j<l.length),∃ b off,a=some ⟨b,off,none⟩∧av b∧b<W.heap.size∧l[j].At av W b (off + j * 3)
theorem y6.move {av av' : Nat→Prop} {W W' : World} {a : Option Addr} {l : List Int} (h : y6 av W a l) (hk : ∀ b,av b→W'.heap[b]?=W.heap[b]?) (ha : ∀ b,av b→av' b) : y6 av' W' a l:=fun j hj => by
 obtain ⟨b,off,h1,h2,h3⟩:=h j hj
 exact ⟨b,off,h1,ha b h2,(World.cell?_of_block (hk b h2)).trans h3⟩
theorem Sch.At.move {av av' : Nat→Prop} {W W' : World} {b off : Nat} {d : Sch} (h : d.At av W b off) (hb : av b) (hk : ∀ b,av b→W'.heap[b]?=W.heap[b]?) (ha : ∀ b,av b→av' b) : d.At av' W' b off:=by
 obtain ⟨pa,pc,h1,h2,h3,h4,h5,h6⟩:=h
 exact ⟨pa,pc,(World.cell?_of_block (hk b hb)).trans h1,(World.cell?_of_block (hk b hb)).trans h2,(World.cell?_of_block (hk b hb)).trans h3,h4.move hk ha,h5,h6⟩
theorem bS.move {av av' : Nat→Prop} {W W' : World} {a : Option Addr} {l : List Sch} (h : bS av W a l) (hk : ∀ b,av b→W'.heap[b]?=W.heap[b]?) (ha : ∀ b,av b→av' b) (hs : W.heap.size≤W'.heap.size) : bS av' W' a l:=fun j hj => by
 obtain ⟨b,off,h1,h2,h3,h4⟩:=h j hj
 exact ⟨b,off,h1,ha b h2,Nat.lt_of_lt_of_le h3 hs,h4.move h2 hk ha⟩
def cU (av : Nat→Prop) (W : World) (x : Option Sch) (v : Value) : Prop:=match x with
 | some d => ∃ pa pc,v=.agg #[.string (bsA d.name),.slice pa d.params.length pc,.int .i64 d.result]∧y6 av W pa d.params∧d.params.length≤pc∧pc≤maxLen∧(pa=none→pc=0)
 | none => v=.agg #[.string ⟨#[]⟩,.slice none 0 0,.int .i64 0]
theorem mE {l : List Sch} {s : List UInt8} (h : ∀ j (hj : j<l.length),l[j].name≠s) : j4 l s=none:=by
 unfold j4
 rw [List.find?_eq_none]
 intro x hx
 obtain ⟨j,hj,rfl⟩:=List.getElem_of_mem hx
 simpa using h j hj
end
section
open Go.RowKit
theorem U6 (w : World) (o : Obj) : (w.alloc o).heap[w.heap.size]?=some o:=by show (w.heap.push o)[w.heap.size]?=_; exact Array.getElem?_push_size
theorem dJ {w : World} {o : Obj} {i : Nat} {x : Option Obj} (hi : i<w.heap.size) (h : w.heap[i]?=x) : (w.alloc o).heap[i]?=x:=by
 rw [← h]; show (w.heap.push o)[i]?=_; rw [Array.getElem?_push,if_neg (by omega)]
theorem O0 (w : World) (o : Obj) {i : Nat} (h : i=w.heap.size) : (w.alloc o).heap[i]?=some o:=by rw [h]; exact U6 w o
theorem yY (w : World) (o : Obj) : (w.alloc o).heap.size=w.heap.size + 1:=by simp
theorem eH {W W' : World} {B T k g n cap : Nat} {xs : List Value} (h : W.ownsRow B T k (.slice (some ⟨g,0,none⟩) n cap) n xs) (e : W'.heap[g]?=W.heap[g]?) : W'.ownsRow B T k (.slice (some ⟨g,0,none⟩) n cap) n xs:=by
 obtain ⟨h1,h2⟩:=h
 refine ⟨h1,.inr ?_⟩
 rcases h2 with ⟨e,-⟩ | ⟨g',cap',cur,e',hb,hg,h3⟩
 ·obtain ⟨e,-⟩:=Value.slice.inj e; cases e
 ·obtain ⟨e1,-,e2⟩:=Value.slice.inj e'
  cases e1; subst e2
  exact ⟨g,cap,cur,rfl,hb,e.trans hg,h3⟩
theorem pI {t : Int} {ts : List Int} {m : List (Int × Int)} {S : List Int} (h : t<5) : o5 (t :: ts) m S=(t :: (o5 ts m S).1,(o5 ts m S).2):=by
 rw [o5,if_pos h]
theorem yH {t x : Int} {ts : List Int} {m : List (Int × Int)} {S : List Int} (h : ¬ t<5) (e : m.lookup t=some x) : o5 (t :: ts) m S=(x :: (o5 ts m S).1,(o5 ts m S).2):=by
 rw [o5,if_neg h,e]
theorem xW {t : Int} {ts : List Int} {m : List (Int × Int)} {S : List Int} (h : ¬ t<5) (e : m.lookup t=none) : o5 (t :: ts) m S=((5 + (S.length : Int)) :: (o5 ts ((t,5 + (S.length : Int)) :: m) (frT S)).1,(o5 ts ((t,5 + (S.length : Int)) :: m) (frT S)).2):=by
 rw [o5,if_neg h,e]
theorem a39 {L outs : List Int} {k : Nat} (x : Int) (hk : k<L.length) (h : outs.length=k) : (outs ++ L.drop k).set k x=outs ++ [x] ++ L.drop (k + 1):=by
 subst h
 rw [List.set_append_right _ _ (Nat.le_refl _),Nat.sub_self,List.drop_eq_getElem_cons hk,List.set_cons_zero,List.append_assoc]
 rfl
theorem a3X (l : List Int) (m : List (Int × Int)) (S : List Int) : (o5 l m S).1.length=l.length:=by
 induction l generalizing m S with
 | nil => simp [o5]
 | cons t ts ih =>
   by_cases h : t<5
   ·rw [pI h]; simp [ih]
   ·cases e : m.lookup t with
    | none => rw [xW h e]; simp [ih]
    | some x => rw [yH h e]; simp [ih]
end
section
open Go.RowKit
theorem a1D {s : List UInt8} {j : Nat} (hj : j<s.length) : Lib.occAt s [46] j=(s[j] == 46):=by
 unfold Lib.occAt
 rw [List.drop_eq_getElem_cons hj]
 simp [List.isPrefixOf,BEq.comm]
theorem a5G {s : List UInt8} {i : Nat} (hi : i<s.length) (he : s[i]=46) (hn : ∀ j (hj : j<s.length),j<i→s[j]≠46) : Lib.cut s [46]=(s.take i,s.drop (i + 1),true):=by
 have h : Lib.index s [46]=i:=Lib.index_first (by omega) (by rw [a1D hi,he]; rfl) (fun j hj => by rw [a1D (by omega)]; exact beq_eq_false_iff_ne.2 (hn j (by omega) hj))
 unfold Lib.cut
 rw [h,if_pos (by omega)]
 rfl
theorem cU.move {av av' : Nat→Prop} {W W' : World} {x : Option Sch} {v : Value} (h : cU av W x v) (hk : ∀ b,av b→W'.heap[b]?=W.heap[b]?) (ha : ∀ b,av b→av' b) : cU av' W' x v:=by
 cases x with
 | none => exact h
 | some d =>
   obtain ⟨pa,pc,h1,h2,h3⟩:=h
   exact ⟨pa,pc,h1,h2.move hk ha,h3⟩
end
section
open Lib (hid)
open Go.RowKit
theorem kP (P g cap : Nat) (ts : List Tk) (nest : Nat) (r : List Tk) (w : World) (hn : nest≤300) (h : SP P g cap ts nest (.ok r) w) :
 Calls Tryz.prog 102 #[.pointer (some ⟨P,0,none⟩)] w (a4y P g cap ts (nest + 1) (dL nest (.ok r)) w):=by
 obtain ⟨a,rfl,hp⟩:=h.ok
 obtain ⟨⟨p0,p1,p2,p3,p4⟩,⟨g0,g1,g2,g3,g4⟩⟩:=hp.cells
 have HG:=hid (F4 w P 2 (.int .i64 ((nest : Int) + 1)))
 have H1:=hid (hp.set_nest ((nest : Int) + 1))
 have R:=hid (show dL nest (.ok (ts.drop a))=if 300<nest + 1 then .error (75,(hd (ts.drop a)).pos) else .ok (ts.drop a) from rfl)
 have D:=hid (gC hp.pos)
 have C1:=hid (X9 P g cap ts a _ 0 0 _ H1)
 have hpos:=hp.pos
 generalize ts[a]'hpos=T at C1 D
 clear h hp
 go_enter Tryz.func102,Tryz.ntmps102
 by_cases hb : 300<nest + 1
 ·have hb' : (300 : Int)<(nest : Int) + 1:=by omega
  have R2:=hid (show dL nest (.ok (ts.drop a))=.error (75,(hd (ts.drop a)).pos) by rw [R.out,if_pos hb])
  clear hb
  go_wp2_with fail
  (with_reducible refine Calls.mono C1.out ?_)
  rintro e w2 ⟨rfl,hb⟩
  have H2:=hid (H1.out.below hb)
  have HB2:=hid hb
  clear hb
  have C3:=hid (J0 P g cap ts a _ w2 75 T.pos H2)
  unfold tkV
  have hfd:=Y9 T.kind T.n T.pos ⟨T.text.toArray⟩
  go_wp2_with fail
  (with_reducible refine Calls.mono C3.out ?_)
  rintro e w3 ⟨rfl,hp,hg⟩
  go_wp2_with fail
  (first | (refine bodyPost_end (results_none rfl _ _ _) rfl ?_) | (refine bodyPost_ret (results_none rfl _ _ _) rfl ?_))
  refine ⟨rfl,?_,a6 HG (a6 (c9 HB2) hg)⟩
  rw [R2.out,D.out]
  exact SP.of_error hp (by decide) (by omega) (by omega)
 ·have hb' : ¬ (300 : Int)<(nest : Int) + 1:=by omega
  have R2:=hid (show dL nest (.ok (ts.drop a))=.ok (ts.drop a) by rw [R.out,if_neg hb])
  clear hb
  go_wp2_with fail
  (first | (refine bodyPost_end (results_none rfl _ _ _) rfl ?_) | (refine bodyPost_ret (results_none rfl _ _ _) rfl ?_))
  refine ⟨rfl,?_,HG⟩
  rw [R2.out]
  exact SP.of_ok (by have:=H1.out; rw [Int.natCast_add]; exact this) rfl
def TkP (P g cap : Nat) (ts : List Tk) (nest : Nat) (σ σ' : Sx) (w : World) (e : Ending) (w' : World) : Prop:=∃ t : Tk,e=.returned (tkV t)∧SP P g cap ts nest σ' w'∧w.grownBy w' (some P)∧∀ r,σ=.ok r→t=hd r
theorem aX (P g cap : Nat) (ts : List Tk) (nest : Nat) (σ : Sx) (k : Int) (w : World) (hn : nest≤300) (h : SP P g cap ts nest σ w) (he : bJ ts) :
 Calls Tryz.prog 98 #[.pointer (some ⟨P,0,none⟩),.int .i64 k] w (TkP P g cap ts nest σ (x6 k σ) w):=by
 obtain ⟨V,hV⟩ : ∃ V,V=w.alloc (.cells #[.int .i64 0,.string ⟨#[]⟩,.int .i64 0,.int .i64 0] 108):=⟨_,rfl⟩
 have HBV:=hid (show Below w.heap.size w V from hV ▸ a7 _ _)
 have hsV:=hid (show V.heap.size=w.heap.size + 1 by rw [hV]; simp)
 have Z0:=hid (show bI w.heap.size V from hV ▸ bI.make w)
 have hwl : w.heap.size<V.heap.size:=by rw [hsV.out]; omega
 have hS:=hid (h.below HBV)
 have hb0:=hid h.blocks
 cases σ with
 | error q =>
   obtain ⟨c,p⟩:=q
   obtain ⟨hk,a,n,hp,h1,h2⟩:=hS.out.error
   have C:=hid (X9 P g cap ts a n c p V hp)
   have ek : (c != 0)=true:=bne_iff_ne.2 hk
   have HK:=hid hk
   have H:=hid hp
   have hpos:=hp.pos
   generalize ts[a]'hpos=T at C
   clear h hp hk
   go_enter Tryz.func98,Tryz.ntmps98
   go_wp2_with fail
   rw [← hV]
   clear hV
   (with_reducible refine Calls.mono C.out ?_)
   rintro e w1 ⟨rfl,hb⟩
   have H1:=hid (H.out.below hb)
   obtain ⟨⟨p0,p1,p2,p3,p4⟩,-⟩:=H1.out.cells
   obtain ⟨c0,c1,c2,c3,f0,f1,f2,f3⟩:=(Z0.out.below hb).cells
   have hpl:=H1.out.plt
   have hwl1 : w.heap.size<w1.heap.size:=Nat.lt_of_lt_of_le hwl hb.size
   have HB:=hid hb
   clear hb
   unfold tkV
   go_wp2_with fail
   refine bodyPost_ret (v:=tkV T) (by simp [results,Tryz.results98,go_sem,tkV,c0,c1,c2,c3,hwl1]) rfl ?_
   have HF:=((d8 (Below.refl w.heap.size w1) (.int .i64 T.kind) (.string ⟨T.text.toArray⟩) (.int .i64 T.n) (.int .i64 T.pos)).alloc (by simpa using (HBV.out.trans (HB.out.mono HBV.out.size)).size) (.cells #[.int .i64 T.kind,.string ⟨T.text.toArray⟩,.int .i64 T.n,.int .i64 T.pos] 108))
   exact ⟨T,rfl,(SP.of_error H1 HK h1 h2).later HF hb0.out.1 hb0.out.2,c8 (c9 (HBV.out.trans (HB.out.mono HBV.out.size))) HF,fun _ h => by cases h⟩
 | ok r =>
   obtain ⟨a,rfl,hp⟩:=hS.out.ok
   have C:=hid (X9 P g cap ts a nest 0 0 V hp)
   have H:=hid hp
   have hpos:=hp.pos
   have D:=hid (gC hpos)
   generalize ts[a]'hpos=T at C D
   clear h hp
   go_enter Tryz.func98,Tryz.ntmps98
   go_wp2_with fail
   rw [← hV]
   clear hV
   (with_reducible refine Calls.mono C.out ?_)
   rintro e w1 ⟨rfl,hb⟩
   have H1:=hid (H.out.below hb)
   obtain ⟨⟨p0,p1,p2,p3,p4⟩,-⟩:=H1.out.cells
   have hpl:=H1.out.plt
   have hwl1 : w.heap.size<w1.heap.size:=Nat.lt_of_lt_of_le hwl hb.size
   have HZ1:=hid (Z0.out.below hb)
   have HB:=hid (HBV.out.trans (hb.mono HBV.out.size))
   clear hb
   obtain ⟨W2,hW2⟩ : ∃ W,W=w1.alloc (.cells #[.int .i64 T.kind,.string ⟨T.text.toArray⟩,.int .i64 T.n,.int .i64 T.pos] 108):=⟨_,rfl⟩
   have HB2:=hid (show Below w1.heap.size w1 W2 from hW2 ▸ a7 _ _)
   have HZ2:=hid (HZ1.out.below HB2)
   have HT2:=hid (show D5 w1.heap.size T W2 from hW2 ▸ D5.make w1 T)
   have H2:=hid (H1.out.below HB2)
   have HS2:=hid (HB.out.trans (HB2.out.mono HB.out.size))
   unfold tkV
   by_cases hk : T.kind=k
   ·have e0 : (T.kind != k)=false:=by rw [hk]; exact bne_self_eq_false k
    have R:=hid (show x6 k (.ok (ts.drop a))=.ok (b9 (ts.drop a)) from if_pos (D.out ▸ hk))
    have C2:=hid (iL P g cap ts a nest 0 0 W2 H2 he)
    clear hk
    go_wp2_with fail
    rw [← hW2]
    (with_reducible refine Calls.mono C2.out ?_)
    rintro e w3 ⟨a',⟨hpa,rfl⟩,hp3,hs,hg,-⟩
    have hDT:=D.out
    rw [gC hpa] at hDT
    subst hDT
    have hne : w.heap.size≠P:=Nat.ne_of_gt hb0.out.1
    have hwl3 : w.heap.size<w3.heap.size:=Nat.lt_of_lt_of_le hwl1 (Nat.le_trans HB2.out.size hg.size)
    have HZ3:=((hg.block w.heap.size (Nat.lt_of_lt_of_le hwl1 HB2.out.size) (fun e => hne (Option.some.inj e))).trans HZ2)
    obtain ⟨c0,c1,c2,c3,f0,f1,f2,f3⟩:=bI.cells HZ3
    have H3:=hid hp3
    have G3:=hid (a6 (c9 HS2) hg)
    clear hW2 hp3 hg HZ3
    unfold tkV
    go_wp2_with fail
    refine bodyPost_ret (v:=tkV (ts[a]'hpa)) (by simp [results,Tryz.results98,go_sem,tkV,c0,c1,c2,c3]) rfl ?_
    have HF:=(d8 (Below.refl w.heap.size w3) (.int .i64 (ts[a]'hpa).kind) (.string ⟨(ts[a]'hpa).text.toArray⟩) (.int .i64 (ts[a]'hpa).n) (.int .i64 (ts[a]'hpa).pos))
    refine ⟨_,rfl,?_,c8 G3 HF,fun r h => ?_⟩
    ·rw [R.out,hs]
     exact (SP.of_ok H3 rfl).later HF hb0.out.1 hb0.out.2
    ·cases h
     exact (gC hpa).symm
   ·have e0 : (T.kind != k)=true:=bne_iff_ne.2 hk
    have R:=hid (show x6 k (.ok (ts.drop a))=.error (74,T.pos) by
     show (if (hd (ts.drop a)).kind=k then Except.ok (b9 (ts.drop a)) else .error (74,(hd (ts.drop a)).pos) : Sx)=_
     rw [D.out,if_neg hk])
    have C2:=hid (J0 P g cap ts a nest W2 74 T.pos H2)
    clear hk
    go_wp2_with fail
    rw [← hW2]
    (with_reducible refine Calls.mono C2.out ?_)
    rintro e w3 ⟨rfl,hp3,hg⟩
    have hne : w.heap.size≠P:=Nat.ne_of_gt hb0.out.1
    have hne1 : w1.heap.size≠P:=Nat.ne_of_gt hpl
    have hwl3 : w.heap.size<w3.heap.size:=Nat.lt_of_lt_of_le hwl1 (Nat.le_trans HB2.out.size hg.size)
    have HZ3:=((hg.block w.heap.size (Nat.lt_of_lt_of_le hwl1 HB2.out.size) (fun e => hne (Option.some.inj e))).trans HZ2)
    obtain ⟨c0,c1,c2,c3,f0,f1,f2,f3⟩:=bI.cells HZ3
    obtain ⟨⟨t0,t1,t2,t3⟩,-⟩:=(HT2.out.grown hg hne1).cells
    have hwl4 : w1.heap.size<w3.heap.size:=(HT2.out.grown hg hne1).lt
    have H3:=hid hp3
    have G3:=hid (a6 (c9 HS2) hg)
    clear hW2 hp3 hg HZ3
    go_wp2_with fail
    refine bodyPost_ret (v:=tkV T) (by simp [results,Tryz.results98,go_sem,tkV,c0,c1,c2,c3]) rfl ?_
    have HF:=(d8 (Below.refl w.heap.size w3) (.int .i64 T.kind) (.string ⟨T.text.toArray⟩) (.int .i64 T.n) (.int .i64 T.pos))
    refine ⟨T,rfl,?_,c8 G3 HF,fun r h => ?_⟩
    ·rw [R.out]
     exact (SP.of_error H3 (by decide) (Int.le_refl _) (by omega)).later HF hb0.out.1 hb0.out.2
    ·cases h
     exact D.out.symm
end
end Go.Proofs.YtppcfebnaieciaaGreatDoor
