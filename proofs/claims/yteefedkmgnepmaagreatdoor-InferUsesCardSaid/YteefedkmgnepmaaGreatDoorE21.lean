/-
  Laws that the proof rests on.
-/
import Derived.Test.YteefedkmgnepmaaGreatDoorE20
import Derived.Test.YteefedkmgnepmaaGreatDoorE13
namespace Go.Proofs.YteefedkmgnepmaaGreatDoor
set_option maxRecDepth 100000
set_option maxHeartbeats 16000000
section
open Lib (hid)
open Go.RowKit Go.Maps
def fK (E : Env7) (t : Nd) (S : List Int) : Ty Int:=match aM E t.text.data.toList with
 | some T => if t.kids.length=0 then .ok (T,S) else .error (114,t.place)
 | none => match y5 E t.text.data.toList with
   | none => .error (113,t.place)
   | some d => if d.params.length=t.kids.length then dX E t.kids (d.params ++ [d.result]) S else .error (114,t.place)
theorem gU (s : ByteArray) : bsA s.data.toList=s:=by
 cases s with
 | mk d => unfold bsA; simp
def X5 (d : Sch) : Prop:=d.params.length≤8∧∀ t∈d.params ++ [d.result],0≤t∧t≤20
theorem a2n {E : Env7} {t : Nd} {S : List Int} {i : Nat} (h : (E.params.findIdx? fun p => p == t.text.data.toList)=some i) : fK E t S=if t.kids.length=0 then .ok (5 + (i : Int),S) else .error (114,t.place):=by
 unfold fK aM
 rw [h]
 rfl
theorem a1l {E : Env7} {t : Nd} {S : List Int} (h : (E.params.findIdx? fun p => p == t.text.data.toList)=none) : fK E t S=match y5 E t.text.data.toList with
 | none => .error (113,t.place)
 | some d => if d.params.length=t.kids.length then dX E t.kids (d.params ++ [d.result]) S else .error (114,t.place):=by
 unfold fK aM
 rw [h]
 rfl
theorem z8.make (w : World) (nm : ByteArray) (pa : Option Addr) (pn pc : Nat) (r : Int) : z8 w.heap.size nm pa pn pc r (w.alloc (.cells #[.string nm,.slice pa pn pc,.int .i64 r] 34)):=O7 _ _
theorem uK {B F : Nat} {c : CM} {φ : List Int} {n : Nat} {x : Ty Int} {w w' : World} {k p : Int} (hx : x=.error (k,p)) (ho : Off B F w w') : n8 B F c φ n x w (vC k p) w':=by subst hx; exact ⟨rfl,ho⟩
theorem sA (B F n₀ : Nat) (E : Env7) (t : Nd) (IH : ∀ k∈t.kids,pI B F n₀ E k) (h1 : n₀≤B) (h2 : n₀≤F) (hM : ∀ d,y5 E t.text.data.toList=some d→X5 d) (a : Option Addr) (cap : Nat) (c : CM) (kn : List (Option Int)) (ro rk : Nat→Nat) (S φ : List Int) (w : World) (hh : t.hold n₀ w a cap) (hc : Cls B F c kn ro rk S φ w) (he : PEnv E B F c w)
 (hp : ∀ i,i<E.params.length→φ[i]?=some (5 + (i : Int))) (hs : c.up.length + 10 * j3 t≤900000) (hts : t.text.data.toList.length≤1000000) :
 Calls Tryz.prog 64 #[.pointer (some ⟨F,0,none⟩),.agg #[.int .i64 t.kind,.string t.text,.int .i64 t.n,.slice a t.kids.length cap,.int .i64 t.place]] w (n8 B F c φ (10 * j3 t) (fK E t S) w):=by
 have hkc:=hh.bounds.2.2.2.2
 have hkl : t.kids.length≤9223372036854775807:=Nat.le_trans hkc.1 hkc.2
 obtain ⟨W1,hW1⟩ : ∃ W,W=w.alloc (.cells #[.int .i64 t.kind,.string t.text,.int .i64 t.n,.slice a t.kids.length cap,.int .i64 t.place] 24):=⟨_,rfl⟩
 have B1:=hid (show Below w.heap.size w W1.drew from hW1 ▸ A8 (a7 _ _))
 have N1:=hid (show c9 w.heap.size t a cap W1.drew from hW1 ▸ c9.make w t a cap)
 have HC:=hid (hc.below B1)
 have HE:=hid (he.below B1 hc.hin.le)
 have HWB:=hid (show B≤w.heap.size from hc.hin.le)
 have HH:=hid (hh.below (B1.out.mono (show n₀≤w.heap.size by have:=hc.hin.le; omega)))
 have HIH:=hid IH
 have HA1:=hid (show v6 F c W1.drew w.heap.size from hc.apart_new (Nat.le_refl _) N1.out.lt)
 have HP:=hid hp
 have HS:=hid hs
 have HB12:=hid (show n₀≤B∧n₀≤F from ⟨h1,h2⟩)
 have HTS:=hid hts
 have HMO:=hid hM
 have hbt:=gU t.text
 obtain ⟨b3,n3',f3,em3,hav3,hm3,hf3⟩:=HE.out.params
 have hlk:=(hm3.look iI Tryz.underlying53 (lG W1.drew) (eB (s:=t.text.data.toList) (by unfold maxLen; omega))).1
 rw [hf3] at hlk
 rw [hbt] at hlk
 have hmap:=HC.out.hin.maps.2.2.2.1
 rw [em3] at hmap
 have hFl:=HC.out.hin.maps.2.2.2.2
 obtain ⟨⟨n0,n1,n2,n3,n4⟩,-⟩:=N1.out.cells
 have hb0:=N1.out.lt
 clear hh hc he hp hs IH h1 h2 hts hM hm3 hf3 em3 hav3 hkc
 go_enter Tryz.func64,Tryz.ntmps64
 go_upto_region 1 with fail
 rw [← hW1]
 clear hW1
 cases hfi : E.params.findIdx? (fun p => p == t.text.data.toList) with
 | some i =>
   rw [hfi] at hlk
   have hx:=a2n (S:=S) hfi
   have hi : i<E.params.length:=(List.findIdx?_eq_some_iff_getElem.1 hfi).1
   have HX:=hid hx
   have HI:=hid hi
   clear hx hi hfi
   by_cases hz : t.kids.length=0
   ·have hx2:=HX.out
    rw [if_pos hz] at hx2
    have HX2:=hid hx2
    have hng : ¬ 0<t.kids.length:=by omega
    clear hx2 HX
    have HZ:=hid hz
    clear hz
    refine wp_region_held_drew (S:=fun cur => cur.cell? ⟨F,3,none⟩=some (.map (some b3))∧cur.cell? ⟨w.heap.size,1,none⟩=some (.string t.text)∧(Instr.lookup 53 (.map (some b3)) (.string t.text) true).run Tryz.prog cur=.ok (.tuple #[.int .i64 (i : Nat),.bool true]) cur) (by kernel_rfl) ?_ (fun hHeld => ?_)
    ·exact ⟨hmap,n1,hlk⟩
    refine a8 0 ?_; refine a8 1 ?_; refine a8 2 ?_; refine a8 3 ?_; refine a8 4 ?_; refine a8 5 ?_; refine a8 6 ?_; refine a8 7 ?_; refine a8 8 ?_; refine a8 9 ?_; refine a8 10 ?_; refine a8 11 ?_
    refine wpAnyH_done (by kernel_rfl) ?_ _
    go_wp2_with fail
    go_ret
    rw [HX2.out]
    exact ⟨c,kn,ro,rk,[],i,rfl,bQ (HP.out i HI),by rw [List.append_nil]; exact HC,Mv.of B1,aD.refl _ _,by omega⟩
   ·have hx2:=HX.out
    rw [if_neg hz] at hx2
    have HX2:=hid hx2
    have hng : 0<t.kids.length:=by omega
    clear hx2 HX hz
    refine wp_region_held_drew (S:=fun cur => cur.cell? ⟨F,3,none⟩=some (.map (some b3))∧cur.cell? ⟨w.heap.size,1,none⟩=some (.string t.text)∧(Instr.lookup 53 (.map (some b3)) (.string t.text) true).run Tryz.prog cur=.ok (.tuple #[.int .i64 (i : Nat),.bool true]) cur) (by kernel_rfl) ?_ (fun hHeld => ?_)
    ·exact ⟨hmap,n1,hlk⟩
    refine a8 0 ?_; refine a8 1 ?_; refine a8 2 ?_; refine a8 3 ?_; refine a8 4 ?_; refine a8 5 ?_; refine a8 6 ?_; refine a8 7 ?_; refine a8 8 ?_; refine a8 9 ?_; refine a8 10 ?_; refine a8 11 ?_
    refine wpAnyH_done (by kernel_rfl) ?_ _
    go_wp2_with fail
    (with_reducible refine Calls.mono (Y6 114 t.place W1.drew) ?_)
    rintro e w8 ⟨rfl,rfl⟩
    exact And.intro rfl (uK HX2 (Off.of B1 HWB))
 | none =>
   rw [hfi] at hlk
   have hx:=a1l (S:=S) hfi
   have HX:=hid hx
   clear hx hfi
   have CM:=hid (uW E B F c kn t.text.data.toList W1.drew HC.out.hin HE HTS)
   rw [hbt] at CM
   refine wp_region_held_drew (S:=fun cur => cur.cell? ⟨F,3,none⟩=some (.map (some b3))∧cur.cell? ⟨w.heap.size,1,none⟩=some (.string t.text)∧(Instr.lookup 53 (.map (some b3)) (.string t.text) true).run Tryz.prog cur=.ok (.tuple #[.int .i64 0,.bool false]) cur) (by kernel_rfl) ?_ (fun hHeld => ?_)
   ·exact ⟨hmap,n1,hlk⟩
   refine a8 0 ?_; refine a8 1 ?_; refine a8 2 ?_; refine a8 3 ?_; refine a8 4 ?_; refine a8 5 ?_; refine a8 6 ?_; refine a8 7 ?_; refine a8 8 ?_; refine a8 9 ?_; refine a8 10 ?_; refine a8 11 ?_
   refine wpAnyH_done (by kernel_rfl) ?_ _
   go_wp2_with fail
   (with_reducible refine Calls.mono CM.out ?_)
   rintro e w2 ⟨nm,pa,pn,pc,r,rfl,hv,hb⟩
   obtain ⟨W3,hW3⟩ : ∃ W,W=w2.alloc (.cells #[.string nm,.slice pa pn pc,.int .i64 r] 34):=⟨_,rfl⟩
   have hb3:=hb.trans ((hW3 ▸ a7 _ _ : Below w2.heap.size w2 W3).mono hb.size)
   have B3:=hid (B1.out.trans (hb3.mono B1.out.size))
   have K3:=hid (show z8 w2.heap.size nm pa pn pc r W3 from hW3 ▸ z8.make _ _ _ _ _ _)
   have N3:=hid (N1.out.below hb3)
   have HAl:=hid (show v6 F c W3 w.heap.size∧v6 F c W3 w2.heap.size from ⟨HA1.out.grown hb3.size,(HC.out.below hb).apart_new (Nat.le_refl _) K3.out.cells.2.2⟩)
   have HC3:=hid (HC.out.below hb3)
   have HE3:=hid (HE.out.below hb3 (Nat.le_trans HWB B1.out.size))
   have HH3:=hid (HH.out.below (hb3.mono (show n₀≤W1.drew.heap.size by have:=HB12.out; have:=HWB.out; have:=B1.out.size; omega)))
   have hv3:=hv.move (W':=W3) (av':=Av B F) (fun b hb' => hW3 ▸ (a7 w2 _).block b (by have:=hb'.1; have:=HWB.out; have:=B1.out.size; have:=hb.size; omega)) fun _ h => h
   have HV:=hid hv3
   have hbz:=K3.out.cells.2.2
   clear hb hv hv3 hb3 n0 n1 n2 n3 n4 hmap hlk
   obtain ⟨⟨n0,n1,n2,n3,n4⟩,-⟩:=N3.out.cells
   obtain ⟨⟨k0,k1,k2⟩,-⟩:=K3.out.cells
   have hb03:=N3.out.lt
   cases hme : y5 E t.text.data.toList with
   | none =>
     have hx:=HX.out
     rw [hme] at hx
     have HX2:=hid hx
     clear hx hme CM HX
     go_upto_region 7 with fail
     rw [← hW3]
     clear hW3
     go_wp2_with fail
     (with_reducible refine Calls.mono (Y6 113 t.place W3) ?_)
     rintro e w8 ⟨rfl,rfl⟩
     exact And.intro rfl (uK HX2 (Off.of B3 HWB))
   | some d =>
     have hx:=HX.out
     have hv:=HV.out
     rw [hme] at hx hv
     have HO:=hid (HMO.out d hme)
     obtain ⟨pa',pc',e,hI,hpc⟩:=hv
     obtain ⟨rfl,⟨rfl,rfl,rfl⟩,rfl⟩ : nm=bsA d.name∧(pa=pa'∧pn=d.params.length∧pc=pc')∧r=d.result:=by
      have h:=congrArg Array.toList (Value.agg.inj e)
      simp at h
      exact ⟨h.1,h.2.1,h.2.2⟩
     have HII:=hid hI
     have HPC:=hid hpc
     have hpl : d.params.length≤9223372036854775807:=by have:=HO.out.1; omega
     by_cases hk : d.params.length=t.kids.length
     ·have hx2 : fK E t S=dX E t.kids (d.params ++ [d.result]) S:=hx.trans (if_pos hk)
      have HX2:=hid hx2
      have e1 : ((d.params.length : Int) != (t.kids.length : Int))=false:=by rw [hk]; exact bne_self_eq_false _
      have HK:=hid hk
      clear hx hx2 hme CM HX HV e hI hpc hk
      have BD:=hid (show Below W3.heap.size W3 W3.drew from A8 (Below.refl _ _))
      have HC4:=hid (HC3.out.below BD)
      have HE4:=hid (HE3.out.below BD (Nat.le_trans HWB B3.out.size))
      have HH4:=hid (HH3.out.below (BD.out.mono (show n₀≤W3.heap.size by have:=HB12.out; have:=HWB.out; have:=B3.out.size; omega)))
      have B4:=hid (show Below w.heap.size w W3.drew from A8 B3)
      have HAv:=hid (show ∀ b,Av B F b→b<W3.drew.heap.size from fun b hb => by have:=hb.1; have:=HWB.out; have:=B4.out.size; omega)
      have HI4:=hid (show H5 (Av B F) W3.drew pa d.params from HII.out.move (fun _ _ => rfl) fun _ h => h)
      have hsz9:=hid (show c.up.length + 10≤1000000 by have:=HS.out; omega)
      have C:=hid (sX (Av B F) B F c kn ro rk S φ (bsA d.name) d.params d.result pa pc W3.drew HC4 hsz9 HI4 HPC.out.2.2 HAv HO.out.1 HO.out.2)
      have HUK:=hid (fun e w' hu => sJ (e:=e) (w':=w') HIH HB12.out.1 HB12.out.2 HH4 HC4 HE4 HP HS (L:=d.params ++ [d.result]) (by simp [HK.out]) (by have:=HO.out.1; simp; omega) hu)
      have HAl4:=hid (show v6 F c W3.drew w.heap.size∧v6 F c W3.drew w2.heap.size from ⟨HAl.out.1.grown BD.out.size,HAl.out.2.grown BD.out.size⟩)
      have N4:=hid (show c9 w.heap.size t a cap W3.drew from N3)
      have K4:=hid (show z8 w2.heap.size (bsA d.name) pa d.params.length pc d.result W3.drew from K3)
      go_upto_region 7 with fail
      rw [← hW3]
      clear hW3
      go_upto_region 11 with fail
      clear n0 n1 n2 n3 n4 k0 k1 k2
      obtain ⟨⟨n0,n1,n2,n3,n4⟩,-⟩:=N4.out.cells
      obtain ⟨⟨k0,k1,k2⟩,-⟩:=K4.out.cells
      generalize dX E t.kids (d.params ++ [d.result]) S=X at HUK HX2
      refine wp_region_held_drew (S:=fun cur => (cur.cell? ⟨w2.heap.size,0,none⟩=some (.string (bsA d.name))∧cur.cell? ⟨w2.heap.size,1,none⟩=some (.slice pa d.params.length pc)∧cur.cell? ⟨w2.heap.size,2,none⟩=some (.int .i64 d.result))∧cur.cell? ⟨w.heap.size,0,none⟩=some (.int .i64 t.kind)∧cur.cell? ⟨w.heap.size,1,none⟩=some (.string t.text)∧cur.cell? ⟨w.heap.size,2,none⟩=some (.int .i64 t.n)∧cur.cell? ⟨w.heap.size,3,none⟩=some (.slice a t.kids.length cap)∧cur.cell? ⟨w.heap.size,4,none⟩=some (.int .i64 t.place)) (by kernel_rfl) ?_ (fun hHeld => ?_)
      ·exact ⟨⟨k0,k1,k2⟩,n0,n1,n2,n3,n4⟩
      refine a8 0 ?_; refine a8 1 ?_; refine a8 2 ?_; refine a8 3 ?_
      refine wpAnyH_ready (rs:=[4]) (by kernel_rfl) (by simp) ?_
      refine AllReadyH.cons (j5 rfl) (fun K hK => ?_) AllReadyH.nil
      go_simp
      (with_reducible refine Calls.mono C.out ?_)
      intro e w6 hu
      obtain ⟨g2,cp2,rfl,hkeep,hsz,C2⟩:=HUK.out _ _ hu
      have N6:=hid (show c9 w.heap.size t a cap w6 from (hkeep _ HAl4.out.1).trans N4)
      have K6:=hid (show z8 w2.heap.size (bsA d.name) pa d.params.length pc d.result w6 from (hkeep _ HAl4.out.2).trans K4)
      have HC2:=hid C2
      obtain ⟨⟨m0,m1,m2,m3,m4⟩,-⟩:=N6.out.cells
      obtain ⟨⟨l0,l1,l2⟩,-⟩:=K6.out.cells
      refine hK.out _ _ ⟨⟨l0,l1,l2⟩,m0,m1,m2,m3,m4⟩ (fun hHeld => ?_)
      clear hK K hu C2 hkeep C HUK
      try simp only [Act.put,d8,m8,m9]
      refine wpAnyH_ready (rs:=[5]) (by kernel_rfl) (by simp) ?_
      refine AllReadyH.cons (j5 rfl) (fun K hK => ?_) AllReadyH.nil
      go_simp
      (with_reducible refine Calls.mono HC2.out ?_)
      intro e w7 hr
      cases X with
      | error q =>
        obtain ⟨k0,p0⟩:=q
        have hr2:=n8.from hr B4 HWB
        obtain ⟨rfl,ho⟩:=hr2
        exact And.intro rfl (uK HX2 ho)
      | ok q =>
        obtain ⟨T,S2⟩:=q
        have hr2:=n8.from hr B4 HWB
        obtain ⟨c',kn',ro',rk',l',y,rfl,-,-,hm,-⟩:=hr
        have N7:=hid (show c9 w.heap.size t a cap w7 from (hm.far HAl4.out.1.1).2.trans N4)
        have K7:=hid (show z8 w2.heap.size (bsA d.name) pa d.params.length pc d.result w7 from (hm.far HAl4.out.2.1).2.trans K4)
        obtain ⟨⟨q0,q1,q2,q3,q4⟩,-⟩:=N7.out.cells
        obtain ⟨⟨g0,g1,g2⟩,-⟩:=K7.out.cells
        have HR:=hid hr2
        clear hr2 hm
        refine hK.out _ _ ⟨⟨g0,g1,g2⟩,q0,q1,q2,q3,q4⟩ (fun hHeld => ?_)
        clear hK K
        try simp only [Act.put,d8,m8,m9]
        refine a8 6 ?_
        refine wpAnyH_done (by kernel_rfl) ?_ _
        go_wp2_with fail
        go_ret
        rw [HX2.out]
        exact HR
     ·have hx2 : fK E t S=.error (114,t.place):=hx.trans (if_neg hk)
      have HX2:=hid hx2
      have e1 : ((d.params.length : Int) != (t.kids.length : Int))=true:=bne_iff_ne.2 (fun h => hk (Int.ofNat.inj h))
      clear hx hx2 hme CM HX HV e hI hpc hk
      go_upto_region 7 with fail
      rw [← hW3]
      clear hW3
      go_wp2_with fail
      (with_reducible refine Calls.mono (Y6 114 t.place W3) ?_)
      rintro e w8 ⟨rfl,rfl⟩
      exact And.intro rfl (uK HX2 (Off.of B3 HWB))
end
section
open Lib (hid)
open Go.RowKit
structure QIn (B F n₀ : Nat) (E : Env7) (t : Nd) (a : Option Addr) (cap : Nat) (c : CM) (kn : List (Option Int)) (ro rk : Nat→Nat) (S φ : List Int) (w : World) : Prop where
 ih : ∀ k∈t.kids,pI B F n₀ E k
 n1 : n₀≤B
 n2 : n₀≤F
 hh : t.hold n₀ w a cap
 hc : Cls B F c kn ro rk S φ w
 he : PEnv E B F c w
 hp : ∀ i,i<E.params.length→φ[i]?=some (5 + (i : Int))
 hs : c.up.length + 10 * j3 t≤900000
theorem QIn.below {B F n₀ : Nat} {E : Env7} {t : Nd} {a : Option Addr} {cap : Nat} {c : CM} {kn : List (Option Int)} {ro rk : Nat→Nat} {S φ : List Int} {w w' : World} (h : QIn B F n₀ E t a cap c kn ro rk S φ w) (hb : Below w.heap.size w w') : QIn B F n₀ E t a cap c kn ro rk S φ w' :=
 ⟨h.ih,h.n1,h.n2,h.hh.below (hb.mono (Nat.le_trans h.n1 h.hc.hin.le)),h.hc.below hb,h.he.below hb h.hc.hin.le,h.hp,h.hs⟩
theorem V3 (w : World) (l : List Int) (j : Nat) (hj : j<l.length) : (w.alloc (.cells (l.map fun (n : Int) => Value.int .i64 n).toArray 3)).cell? ⟨w.heap.size,j,none⟩=some (.int .i64 l[j]):=by
 simp only [World.cell?,O7]
 simp [hj]
theorem kK {B F : Nat} {c : CM} {φ : List Int} {n : Nat} {x : Ty Int} {T : Int} {S' : List Int} {w w' : World} {e : Ending} (hx : x=.ok (T,S')) (h : n8 B F c φ n (.ok (T,S')) w e w') : n8 B F c φ n x w e w':=hx ▸ h
theorem oL {t : Nd} (h : t.kids.length=0) : t.kids=[]:=List.length_eq_zero_iff.1 h
section
variable {B F n₀ : Nat} {E : Env7} {t : Nd} {a : Option Addr} {cap : Nat} {c : CM} {kn : List (Option Int)} {ro rk : Nat→Nat} {S φ : List Int} {w : World}
theorem a7q (hk : t.kind=5) (h0 : t.kids=[]) : g9 E t S=.ok (0,S):=by
 cases t with
 | mk kd s n ks p =>
   obtain rfl : kd=5:=hk
   obtain rfl : ks=[]:=h0
   rfl
theorem a6Z (h : QIn B F n₀ E t a cap c kn ro rk S φ w) (hk : t.kind=5) (h0 : t.kids.length=0) :
 Calls Tryz.prog 36 #[.pointer (some ⟨F,0,none⟩),.agg #[.int .i64 t.kind,.string t.text,.int .i64 t.n,.slice a t.kids.length cap,.int .i64 t.place]] w (n8 B F c φ (10 * j3 t) (g9 E t S) w):=by
 obtain ⟨W1,hW1⟩ : ∃ W,W=w.alloc (.cells #[.int .i64 5,.string t.text,.int .i64 t.n,.slice a t.kids.length cap,.int .i64 t.place] 24):=⟨_,rfl⟩
 have B1:=hid (show Below w.heap.size w W1 from hW1 ▸ a7 _ _)
 have N1:=hid (show c9 w.heap.size t a cap W1 by rw [hW1]; have:=c9.make w t a cap; rwa [hk] at this)
 have HN:=hid (v8 t)
 have HX:=hid (a7q (E:=E) (S:=S) hk (oL h0))
 have HL:=hid (show φ.length=c.up.length from h.hc.sim.len.2)
 have C:=hid (hZ (h.hc.below B1) (by have:=h.hs; omega) 0 (by decide))
 obtain ⟨⟨n0,n1,n2,n3,n4⟩,-⟩:=N1.out.cells
 have hb0:=N1.out.lt
 rw [hk] at n0 ⊢
 clear h h0
 go_enter Tryz.func36,Tryz.ntmps36
 go_upto_region 1 with fail
 rw [← hW1]
 clear hW1 hk
 go_wp2_with fail
 (with_reducible refine Calls.mono C.out ?_)
 rintro e w2 ⟨c2,kn2,ro2,rk2,rfl,hl2,hcl,hm,hnp⟩
 have HR:=hid (show n8 B F c φ (10 * j3 t) (g9 E t S) w (.returned (.int .i64 (c.up.length : Nat))) w2 from kK HX ⟨c2,kn2,ro2,rk2,[0],c.up.length,rfl,by rw [← HL.out]; simp,hcl,(Mv.of B1).trans hm,(aD.refl c w).trans hnp B1.out.size,by have:=HN.out; omega⟩)
 clear hl2 hcl hm hnp C
 go_wp2_with fail
 go_ret
 exact HR
theorem a7s (hk : t.kind=9) (h0 : t.kids=[]) : g9 E t S=.ok (0,S):=by
 cases t with
 | mk kd s n ks p =>
   obtain rfl : kd=9:=hk
   obtain rfl : ks=[]:=h0
   rfl
theorem a6c (h : QIn B F n₀ E t a cap c kn ro rk S φ w) (hk : t.kind=9) (h0 : t.kids.length=0) :
 Calls Tryz.prog 36 #[.pointer (some ⟨F,0,none⟩),.agg #[.int .i64 t.kind,.string t.text,.int .i64 t.n,.slice a t.kids.length cap,.int .i64 t.place]] w (n8 B F c φ (10 * j3 t) (g9 E t S) w):=by
 obtain ⟨W1,hW1⟩ : ∃ W,W=w.alloc (.cells #[.int .i64 9,.string t.text,.int .i64 t.n,.slice a t.kids.length cap,.int .i64 t.place] 24):=⟨_,rfl⟩
 have B1:=hid (show Below w.heap.size w W1 from hW1 ▸ a7 _ _)
 have N1:=hid (show c9 w.heap.size t a cap W1 by rw [hW1]; have:=c9.make w t a cap; rwa [hk] at this)
 have HN:=hid (v8 t)
 have HX:=hid (a7s (E:=E) (S:=S) hk (oL h0))
 have HL:=hid (show φ.length=c.up.length from h.hc.sim.len.2)
 have C:=hid (hZ (h.hc.below B1) (by have:=h.hs; omega) 0 (by decide))
 obtain ⟨⟨n0,n1,n2,n3,n4⟩,-⟩:=N1.out.cells
 have hb0:=N1.out.lt
 rw [hk] at n0 ⊢
 clear h h0
 go_enter Tryz.func36,Tryz.ntmps36
 go_upto_region 1 with fail
 rw [← hW1]
 clear hW1 hk
 go_wp2_with fail
 (with_reducible refine Calls.mono C.out ?_)
 rintro e w2 ⟨c2,kn2,ro2,rk2,rfl,hl2,hcl,hm,hnp⟩
 have HR:=hid (show n8 B F c φ (10 * j3 t) (g9 E t S) w (.returned (.int .i64 (c.up.length : Nat))) w2 from kK HX ⟨c2,kn2,ro2,rk2,[0],c.up.length,rfl,by rw [← HL.out]; simp,hcl,(Mv.of B1).trans hm,(aD.refl c w).trans hnp B1.out.size,by have:=HN.out; omega⟩)
 clear hl2 hcl hm hnp C
 go_wp2_with fail
 go_ret
 exact HR
theorem a7z (hk : t.kind=8) (h0 : t.kids=[]) : g9 E t S=.ok (1,S):=by
 cases t with
 | mk kd s n ks p =>
   obtain rfl : kd=8:=hk
   obtain rfl : ks=[]:=h0
   rfl
theorem a6i (h : QIn B F n₀ E t a cap c kn ro rk S φ w) (hk : t.kind=8) (h0 : t.kids.length=0) :
 Calls Tryz.prog 36 #[.pointer (some ⟨F,0,none⟩),.agg #[.int .i64 t.kind,.string t.text,.int .i64 t.n,.slice a t.kids.length cap,.int .i64 t.place]] w (n8 B F c φ (10 * j3 t) (g9 E t S) w):=by
 obtain ⟨W1,hW1⟩ : ∃ W,W=w.alloc (.cells #[.int .i64 8,.string t.text,.int .i64 t.n,.slice a t.kids.length cap,.int .i64 t.place] 24):=⟨_,rfl⟩
 have B1:=hid (show Below w.heap.size w W1 from hW1 ▸ a7 _ _)
 have N1:=hid (show c9 w.heap.size t a cap W1 by rw [hW1]; have:=c9.make w t a cap; rwa [hk] at this)
 have HN:=hid (v8 t)
 have HX:=hid (a7z (E:=E) (S:=S) hk (oL h0))
 have HL:=hid (show φ.length=c.up.length from h.hc.sim.len.2)
 have C:=hid (hZ (h.hc.below B1) (by have:=h.hs; omega) 1 (by decide))
 obtain ⟨⟨n0,n1,n2,n3,n4⟩,-⟩:=N1.out.cells
 have hb0:=N1.out.lt
 rw [hk] at n0 ⊢
 clear h h0
 go_enter Tryz.func36,Tryz.ntmps36
 go_upto_region 1 with fail
 rw [← hW1]
 clear hW1 hk
 go_wp2_with fail
 (with_reducible refine Calls.mono C.out ?_)
 rintro e w2 ⟨c2,kn2,ro2,rk2,rfl,hl2,hcl,hm,hnp⟩
 have HR:=hid (show n8 B F c φ (10 * j3 t) (g9 E t S) w (.returned (.int .i64 (c.up.length : Nat))) w2 from kK HX ⟨c2,kn2,ro2,rk2,[1],c.up.length,rfl,by rw [← HL.out]; simp,hcl,(Mv.of B1).trans hm,(aD.refl c w).trans hnp B1.out.size,by have:=HN.out; omega⟩)
 clear hl2 hcl hm hnp C
 go_wp2_with fail
 go_ret
 exact HR
theorem a7K (hk : t.kind=6) (h0 : t.kids=[]) : g9 E t S=.ok (2,S):=by
 cases t with
 | mk kd s n ks p =>
   obtain rfl : kd=6:=hk
   obtain rfl : ks=[]:=h0
   rfl
theorem a7h (h : QIn B F n₀ E t a cap c kn ro rk S φ w) (hk : t.kind=6) (h0 : t.kids.length=0) :
 Calls Tryz.prog 36 #[.pointer (some ⟨F,0,none⟩),.agg #[.int .i64 t.kind,.string t.text,.int .i64 t.n,.slice a t.kids.length cap,.int .i64 t.place]] w (n8 B F c φ (10 * j3 t) (g9 E t S) w):=by
 obtain ⟨W1,hW1⟩ : ∃ W,W=w.alloc (.cells #[.int .i64 6,.string t.text,.int .i64 t.n,.slice a t.kids.length cap,.int .i64 t.place] 24):=⟨_,rfl⟩
 have B1:=hid (show Below w.heap.size w W1 from hW1 ▸ a7 _ _)
 have N1:=hid (show c9 w.heap.size t a cap W1 by rw [hW1]; have:=c9.make w t a cap; rwa [hk] at this)
 have HN:=hid (v8 t)
 have HX:=hid (a7K (E:=E) (S:=S) hk (oL h0))
 have HL:=hid (show φ.length=c.up.length from h.hc.sim.len.2)
 have C:=hid (hZ (h.hc.below B1) (by have:=h.hs; omega) 2 (by decide))
 obtain ⟨⟨n0,n1,n2,n3,n4⟩,-⟩:=N1.out.cells
 have hb0:=N1.out.lt
 rw [hk] at n0 ⊢
 clear h h0
 go_enter Tryz.func36,Tryz.ntmps36
 go_upto_region 1 with fail
 rw [← hW1]
 clear hW1 hk
 go_wp2_with fail
 (with_reducible refine Calls.mono C.out ?_)
 rintro e w2 ⟨c2,kn2,ro2,rk2,rfl,hl2,hcl,hm,hnp⟩
 have HR:=hid (show n8 B F c φ (10 * j3 t) (g9 E t S) w (.returned (.int .i64 (c.up.length : Nat))) w2 from kK HX ⟨c2,kn2,ro2,rk2,[2],c.up.length,rfl,by rw [← HL.out]; simp,hcl,(Mv.of B1).trans hm,(aD.refl c w).trans hnp B1.out.size,by have:=HN.out; omega⟩)
 clear hl2 hcl hm hnp C
 go_wp2_with fail
 go_ret
 exact HR
theorem a7x (hk : t.kind=7) (h0 : t.kids=[]) : g9 E t S=.ok (3,S):=by
 cases t with
 | mk kd s n ks p =>
   obtain rfl : kd=7:=hk
   obtain rfl : ks=[]:=h0
   rfl
theorem a6S (h : QIn B F n₀ E t a cap c kn ro rk S φ w) (hk : t.kind=7) (h0 : t.kids.length=0) :
 Calls Tryz.prog 36 #[.pointer (some ⟨F,0,none⟩),.agg #[.int .i64 t.kind,.string t.text,.int .i64 t.n,.slice a t.kids.length cap,.int .i64 t.place]] w (n8 B F c φ (10 * j3 t) (g9 E t S) w):=by
 obtain ⟨W1,hW1⟩ : ∃ W,W=w.alloc (.cells #[.int .i64 7,.string t.text,.int .i64 t.n,.slice a t.kids.length cap,.int .i64 t.place] 24):=⟨_,rfl⟩
 have B1:=hid (show Below w.heap.size w W1 from hW1 ▸ a7 _ _)
 have N1:=hid (show c9 w.heap.size t a cap W1 by rw [hW1]; have:=c9.make w t a cap; rwa [hk] at this)
 have HN:=hid (v8 t)
 have HX:=hid (a7x (E:=E) (S:=S) hk (oL h0))
 have HL:=hid (show φ.length=c.up.length from h.hc.sim.len.2)
 have C:=hid (hZ (h.hc.below B1) (by have:=h.hs; omega) 3 (by decide))
 obtain ⟨⟨n0,n1,n2,n3,n4⟩,-⟩:=N1.out.cells
 have hb0:=N1.out.lt
 rw [hk] at n0 ⊢
 clear h h0
 go_enter Tryz.func36,Tryz.ntmps36
 go_upto_region 1 with fail
 rw [← hW1]
 clear hW1 hk
 go_wp2_with fail
 (with_reducible refine Calls.mono C.out ?_)
 rintro e w2 ⟨c2,kn2,ro2,rk2,rfl,hl2,hcl,hm,hnp⟩
 have HR:=hid (show n8 B F c φ (10 * j3 t) (g9 E t S) w (.returned (.int .i64 (c.up.length : Nat))) w2 from kK HX ⟨c2,kn2,ro2,rk2,[3],c.up.length,rfl,by rw [← HL.out]; simp,hcl,(Mv.of B1).trans hm,(aD.refl c w).trans hnp B1.out.size,by have:=HN.out; omega⟩)
 clear hl2 hcl hm hnp C
 go_wp2_with fail
 go_ret
 exact HR
theorem a6b (hk : t.kind=14) : g9 E t S=dX E t.kids ([1,5,5] ++ [5]) S:=by
 cases t with
 | mk kd s n ks p =>
   obtain rfl : kd=14:=hk
   rfl
theorem a35 (h : QIn B F n₀ E t a cap c kn ro rk S φ w) (hk : t.kind=14) (hn : t.kids.length=3) :
 Calls Tryz.prog 36 #[.pointer (some ⟨F,0,none⟩),.agg #[.int .i64 t.kind,.string t.text,.int .i64 t.n,.slice a t.kids.length cap,.int .i64 t.place]] w (n8 B F c φ (10 * j3 t) (g9 E t S) w):=by
 obtain ⟨W1,hW1⟩ : ∃ W,W=w.alloc (.cells #[.int .i64 14,.string t.text,.int .i64 t.n,.slice a 3 cap,.int .i64 t.place] 24):=⟨_,rfl⟩
 obtain ⟨W2,hW2⟩ : ∃ W,W=W1.alloc (.cells #[.int .i64 1,.int .i64 5,.int .i64 5,.int .i64 5] 3):=⟨_,rfl⟩
 have B1:=hid (show Below w.heap.size w W1 from hW1 ▸ a7 _ _)
 have B2:=hid (show Below W1.heap.size W1 W2 from hW2 ▸ a7 _ _)
 have hlt2 : W1.heap.size<W2.heap.size:=by rw [hW2]; simp
 have N1:=hid (show c9 w.heap.size t a cap W1 by rw [hW1]; have:=c9.make w t a cap; rwa [hk,hn] at this)
 have HX:=hid (a6b (E:=E) (S:=S) hk)
 have B12:=hid (B1.out.trans (B2.out.mono B1.out.size))
 have HWB:=hid (show B≤w.heap.size from h.hc.hin.le)
 have h2:=h.below B12
 have C:=hid (z7 B F n₀ E t h2.ih h2.n1 h2.n2 a cap c kn ro rk S φ [1,5,5] 5 W1.heap.size 4 W2 h2.hh h2.hc h2.he h2.hp h2.hs (by rw [hn]; rfl) (by decide) (by decide) ((h.hc.below B1).apart_new (Nat.le_refl _) hlt2) (by decide) (fun j hj => by rw [hW2]; exact V3 W1 ([1,5,5] ++ [5]) j hj))
 rw [← HX.out] at C
 obtain ⟨⟨n0,n1,n2,n3,n4⟩,-⟩:=N1.out.cells
 have hb0:=N1.out.lt
 rw [hk] at n0
 rw [hn] at n3
 rw [hk,hn] at C ⊢
 rw [show ([1,5,5] : List Int).length + 1=4 from rfl] at C
 generalize g9 E t S=X at C
 clear h h2 HX
 go_enter Tryz.func36,Tryz.ntmps36
 go_upto_region 1 with fail
 rw [← hW1]
 clear hW1 hk hn
 go_wp2_with fail
 rw [← hW2]
 clear hW2
 (with_reducible refine Calls.mono C.out ?_)
 intro e w6 hr
 have hr2:=n8.from hr B12 HWB
 cases X with
 | error q =>
   obtain ⟨k0,p0⟩:=q
   obtain ⟨rfl,ho⟩:=hr2
   exact And.intro rfl ⟨rfl,ho⟩
 | ok q =>
   obtain ⟨T,S2⟩:=q
   have HR:=hid hr2
   obtain ⟨c',kn',ro',rk',l',y,rfl,-⟩:=hr
   clear hr2 C
   go_wp2_with fail
   go_ret
   exact HR
theorem a6R (hk : t.kind=15) : g9 E t S=dX E t.kids ([2,4,4] ++ [4]) S:=by
 cases t with
 | mk kd s n ks p =>
   obtain rfl : kd=15:=hk
   rfl
theorem a3X (h : QIn B F n₀ E t a cap c kn ro rk S φ w) (hk : t.kind=15) (hn : t.kids.length=3) :
 Calls Tryz.prog 36 #[.pointer (some ⟨F,0,none⟩),.agg #[.int .i64 t.kind,.string t.text,.int .i64 t.n,.slice a t.kids.length cap,.int .i64 t.place]] w (n8 B F c φ (10 * j3 t) (g9 E t S) w):=by
 obtain ⟨W1,hW1⟩ : ∃ W,W=w.alloc (.cells #[.int .i64 15,.string t.text,.int .i64 t.n,.slice a 3 cap,.int .i64 t.place] 24):=⟨_,rfl⟩
 obtain ⟨W2,hW2⟩ : ∃ W,W=W1.alloc (.cells #[.int .i64 2,.int .i64 4,.int .i64 4,.int .i64 4] 3):=⟨_,rfl⟩
 have B1:=hid (show Below w.heap.size w W1 from hW1 ▸ a7 _ _)
 have B2:=hid (show Below W1.heap.size W1 W2 from hW2 ▸ a7 _ _)
 have hlt2 : W1.heap.size<W2.heap.size:=by rw [hW2]; simp
 have N1:=hid (show c9 w.heap.size t a cap W1 by rw [hW1]; have:=c9.make w t a cap; rwa [hk,hn] at this)
 have HX:=hid (a6R (E:=E) (S:=S) hk)
 have B12:=hid (B1.out.trans (B2.out.mono B1.out.size))
 have HWB:=hid (show B≤w.heap.size from h.hc.hin.le)
 have h2:=h.below B12
 have C:=hid (z7 B F n₀ E t h2.ih h2.n1 h2.n2 a cap c kn ro rk S φ [2,4,4] 4 W1.heap.size 4 W2 h2.hh h2.hc h2.he h2.hp h2.hs (by rw [hn]; rfl) (by decide) (by decide) ((h.hc.below B1).apart_new (Nat.le_refl _) hlt2) (by decide) (fun j hj => by rw [hW2]; exact V3 W1 ([2,4,4] ++ [4]) j hj))
 rw [← HX.out] at C
 obtain ⟨⟨n0,n1,n2,n3,n4⟩,-⟩:=N1.out.cells
 have hb0:=N1.out.lt
 rw [hk] at n0
 rw [hn] at n3
 rw [hk,hn] at C ⊢
 rw [show ([2,4,4] : List Int).length + 1=4 from rfl] at C
 generalize g9 E t S=X at C
 clear h h2 HX
 go_enter Tryz.func36,Tryz.ntmps36
 go_upto_region 1 with fail
 rw [← hW1]
 clear hW1 hk hn
 go_wp2_with fail
 rw [← hW2]
 clear hW2
 (with_reducible refine Calls.mono C.out ?_)
 intro e w6 hr
 have hr2:=n8.from hr B12 HWB
 cases X with
 | error q =>
   obtain ⟨k0,p0⟩:=q
   obtain ⟨rfl,ho⟩:=hr2
   exact And.intro rfl ⟨rfl,ho⟩
 | ok q =>
   obtain ⟨T,S2⟩:=q
   have HR:=hid hr2
   obtain ⟨c',kn',ro',rk',l',y,rfl,-⟩:=hr
   clear hr2 C
   go_wp2_with fail
   go_ret
   exact HR
theorem a5b (hk : t.kind=12) (ht : t.text=⟨#[45]⟩) : g9 E t S=dX E t.kids ([0] ++ [0]) S:=by
 cases t with
 | mk kd s n ks p =>
   obtain rfl : kd=12:=hk
   obtain rfl : s=⟨#[45]⟩:=ht
   rfl
theorem a3f (h : QIn B F n₀ E t a cap c kn ro rk S φ w) (hk : t.kind=12) (ht : t.text=⟨#[45]⟩) (hn : t.kids.length=1) :
 Calls Tryz.prog 36 #[.pointer (some ⟨F,0,none⟩),.agg #[.int .i64 t.kind,.string t.text,.int .i64 t.n,.slice a t.kids.length cap,.int .i64 t.place]] w (n8 B F c φ (10 * j3 t) (g9 E t S) w):=by
 obtain ⟨W1,hW1⟩ : ∃ W,W=w.alloc (.cells #[.int .i64 12,.string ⟨#[45]⟩,.int .i64 t.n,.slice a 1 cap,.int .i64 t.place] 24):=⟨_,rfl⟩
 obtain ⟨W2,hW2⟩ : ∃ W,W=W1.alloc (.cells #[.int .i64 0,.int .i64 0] 3):=⟨_,rfl⟩
 have B1:=hid (show Below w.heap.size w W1 from hW1 ▸ a7 _ _)
 have B2:=hid (show Below W1.heap.size W1 W2 from hW2 ▸ a7 _ _)
 have hlt2 : W1.heap.size<W2.heap.size:=by rw [hW2]; simp
 have N1:=hid (show c9 w.heap.size t a cap W1 by rw [hW1]; have:=c9.make w t a cap; rwa [hk,hn,ht] at this)
 have HX:=hid (a5b (E:=E) (S:=S) hk ht)
 have B12:=hid (B1.out.trans (B2.out.mono B1.out.size))
 have HWB:=hid (show B≤w.heap.size from h.hc.hin.le)
 have h2:=h.below B12
 have C:=hid (z7 B F n₀ E t h2.ih h2.n1 h2.n2 a cap c kn ro rk S φ [0] 0 W1.heap.size 2 W2 h2.hh h2.hc h2.he h2.hp h2.hs (by rw [hn]; rfl) (by decide) (by decide) ((h.hc.below B1).apart_new (Nat.le_refl _) hlt2) (by decide) (fun j hj => by rw [hW2]; exact V3 W1 ([0] ++ [0]) j hj))
 rw [← HX.out] at C
 obtain ⟨⟨n0,n1,n2,n3,n4⟩,-⟩:=N1.out.cells
 have hb0:=N1.out.lt
 rw [hk] at n0
 rw [hn] at n3
 rw [ht] at n1
 rw [hk,hn,ht] at C ⊢
 rw [show ([0] : List Int).length + 1=2 from rfl] at C
 generalize g9 E t S=X at C
 clear h h2 HX
 go_enter Tryz.func36,Tryz.ntmps36
 go_upto_region 1 with fail
 rw [← hW1]
 clear hW1 hk hn ht
 go_wp2_with fail
 rw [← hW2]
 clear hW2
 (with_reducible refine Calls.mono C.out ?_)
 intro e w6 hr
 have hr2:=n8.from hr B12 HWB
 cases X with
 | error q =>
   obtain ⟨k0,p0⟩:=q
   obtain ⟨rfl,ho⟩:=hr2
   exact And.intro rfl ⟨rfl,ho⟩
 | ok q =>
   obtain ⟨T,S2⟩:=q
   have HR:=hid hr2
   obtain ⟨c',kn',ro',rk',l',y,rfl,-⟩:=hr
   clear hr2 C
   go_wp2_with fail
   go_ret
   exact HR
theorem a5q (hk : t.kind=12) (ht : t.text=⟨#[110,111,116]⟩) : g9 E t S=dX E t.kids ([1] ++ [1]) S:=by
 cases t with
 | mk kd s n ks p =>
   obtain rfl : kd=12:=hk
   obtain rfl : s=⟨#[110,111,116]⟩:=ht
   rfl
theorem a24 (h : QIn B F n₀ E t a cap c kn ro rk S φ w) (hk : t.kind=12) (ht : t.text=⟨#[110,111,116]⟩) (hn : t.kids.length=1) :
 Calls Tryz.prog 36 #[.pointer (some ⟨F,0,none⟩),.agg #[.int .i64 t.kind,.string t.text,.int .i64 t.n,.slice a t.kids.length cap,.int .i64 t.place]] w (n8 B F c φ (10 * j3 t) (g9 E t S) w):=by
 obtain ⟨W1,hW1⟩ : ∃ W,W=w.alloc (.cells #[.int .i64 12,.string ⟨#[110,111,116]⟩,.int .i64 t.n,.slice a 1 cap,.int .i64 t.place] 24):=⟨_,rfl⟩
 obtain ⟨W2,hW2⟩ : ∃ W,W=W1.alloc (.cells #[.int .i64 1,.int .i64 1] 3):=⟨_,rfl⟩
 have B1:=hid (show Below w.heap.size w W1 from hW1 ▸ a7 _ _)
 have B2:=hid (show Below W1.heap.size W1 W2 from hW2 ▸ a7 _ _)
 have hlt2 : W1.heap.size<W2.heap.size:=by rw [hW2]; simp
 have N1:=hid (show c9 w.heap.size t a cap W1 by rw [hW1]; have:=c9.make w t a cap; rwa [hk,hn,ht] at this)
 have HX:=hid (a5q (E:=E) (S:=S) hk ht)
 have B12:=hid (B1.out.trans (B2.out.mono B1.out.size))
 have HWB:=hid (show B≤w.heap.size from h.hc.hin.le)
 have h2:=h.below B12
 have C:=hid (z7 B F n₀ E t h2.ih h2.n1 h2.n2 a cap c kn ro rk S φ [1] 1 W1.heap.size 2 W2 h2.hh h2.hc h2.he h2.hp h2.hs (by rw [hn]; rfl) (by decide) (by decide) ((h.hc.below B1).apart_new (Nat.le_refl _) hlt2) (by decide) (fun j hj => by rw [hW2]; exact V3 W1 ([1] ++ [1]) j hj))
 rw [← HX.out] at C
 obtain ⟨⟨n0,n1,n2,n3,n4⟩,-⟩:=N1.out.cells
 have hb0:=N1.out.lt
 rw [hk] at n0
 rw [hn] at n3
 rw [ht] at n1
 rw [hk,hn,ht] at C ⊢
 rw [show ([1] : List Int).length + 1=2 from rfl] at C
 generalize g9 E t S=X at C
 clear h h2 HX
 go_enter Tryz.func36,Tryz.ntmps36
 go_upto_region 1 with fail
 rw [← hW1]
 clear hW1 hk hn ht
 go_wp2_with fail
 rw [← hW2]
 clear hW2
 (with_reducible refine Calls.mono C.out ?_)
 intro e w6 hr
 have hr2:=n8.from hr B12 HWB
 cases X with
 | error q =>
   obtain ⟨k0,p0⟩:=q
   obtain ⟨rfl,ho⟩:=hr2
   exact And.intro rfl ⟨rfl,ho⟩
 | ok q =>
   obtain ⟨T,S2⟩:=q
   have HR:=hid hr2
   obtain ⟨c',kn',ro',rk',l',y,rfl,-⟩:=hr
   clear hr2 C
   go_wp2_with fail
   go_ret
   exact HR
theorem a41 (hk : t.kind=13) (ht : t.text=⟨#[111,114]⟩) : g9 E t S=dX E t.kids ([1,1] ++ [1]) S:=by
 cases t with
 | mk kd s n ks p =>
   obtain rfl : kd=13:=hk
   obtain rfl : s=⟨#[111,114]⟩:=ht
   rfl
theorem a2x (h : QIn B F n₀ E t a cap c kn ro rk S φ w) (hk : t.kind=13) (ht : t.text=⟨#[111,114]⟩) (hn : t.kids.length=2) :
 Calls Tryz.prog 36 #[.pointer (some ⟨F,0,none⟩),.agg #[.int .i64 t.kind,.string t.text,.int .i64 t.n,.slice a t.kids.length cap,.int .i64 t.place]] w (n8 B F c φ (10 * j3 t) (g9 E t S) w):=by
 obtain ⟨W1,hW1⟩ : ∃ W,W=w.alloc (.cells #[.int .i64 13,.string ⟨#[111,114]⟩,.int .i64 t.n,.slice a 2 cap,.int .i64 t.place] 24):=⟨_,rfl⟩
 obtain ⟨W2,hW2⟩ : ∃ W,W=W1.alloc (.cells #[.int .i64 1,.int .i64 1,.int .i64 1] 3):=⟨_,rfl⟩
 have B1:=hid (show Below w.heap.size w W1 from hW1 ▸ a7 _ _)
 have B2:=hid (show Below W1.heap.size W1 W2 from hW2 ▸ a7 _ _)
 have hlt2 : W1.heap.size<W2.heap.size:=by rw [hW2]; simp
 have N1:=hid (show c9 w.heap.size t a cap W1 by rw [hW1]; have:=c9.make w t a cap; rwa [hk,hn,ht] at this)
 have HX:=hid (a41 (E:=E) (S:=S) hk ht)
 have B12:=hid (B1.out.trans (B2.out.mono B1.out.size))
 have HWB:=hid (show B≤w.heap.size from h.hc.hin.le)
 have h2:=h.below B12
 have C:=hid (z7 B F n₀ E t h2.ih h2.n1 h2.n2 a cap c kn ro rk S φ [1,1] 1 W1.heap.size 3 W2 h2.hh h2.hc h2.he h2.hp h2.hs (by rw [hn]; rfl) (by decide) (by decide) ((h.hc.below B1).apart_new (Nat.le_refl _) hlt2) (by decide) (fun j hj => by rw [hW2]; exact V3 W1 ([1,1] ++ [1]) j hj))
 rw [← HX.out] at C
 obtain ⟨⟨n0,n1,n2,n3,n4⟩,-⟩:=N1.out.cells
 have hb0:=N1.out.lt
 rw [hk] at n0
 rw [hn] at n3
 rw [ht] at n1
 rw [hk,hn,ht] at C ⊢
 rw [show ([1,1] : List Int).length + 1=3 from rfl] at C
 generalize g9 E t S=X at C
 clear h h2 HX
 go_enter Tryz.func36,Tryz.ntmps36
 go_upto_region 1 with fail
 rw [← hW1]
 clear hW1 hk hn ht
 go_wp2_with fail
 rw [← hW2]
 clear hW2
 (with_reducible refine Calls.mono C.out ?_)
 intro e w6 hr
 have hr2:=n8.from hr B12 HWB
 cases X with
 | error q =>
   obtain ⟨k0,p0⟩:=q
   obtain ⟨rfl,ho⟩:=hr2
   exact And.intro rfl ⟨rfl,ho⟩
 | ok q =>
   obtain ⟨T,S2⟩:=q
   have HR:=hid hr2
   obtain ⟨c',kn',ro',rk',l',y,rfl,-⟩:=hr
   clear hr2 C
   go_wp2_with fail
   go_ret
   exact HR
theorem a4e (hk : t.kind=13) (ht : t.text=⟨#[97,110,100]⟩) : g9 E t S=dX E t.kids ([1,1] ++ [1]) S:=by
 cases t with
 | mk kd s n ks p =>
   obtain rfl : kd=13:=hk
   obtain rfl : s=⟨#[97,110,100]⟩:=ht
   rfl
theorem a18 (h : QIn B F n₀ E t a cap c kn ro rk S φ w) (hk : t.kind=13) (ht : t.text=⟨#[97,110,100]⟩) (hn : t.kids.length=2) :
 Calls Tryz.prog 36 #[.pointer (some ⟨F,0,none⟩),.agg #[.int .i64 t.kind,.string t.text,.int .i64 t.n,.slice a t.kids.length cap,.int .i64 t.place]] w (n8 B F c φ (10 * j3 t) (g9 E t S) w):=by
 obtain ⟨W1,hW1⟩ : ∃ W,W=w.alloc (.cells #[.int .i64 13,.string ⟨#[97,110,100]⟩,.int .i64 t.n,.slice a 2 cap,.int .i64 t.place] 24):=⟨_,rfl⟩
 obtain ⟨W2,hW2⟩ : ∃ W,W=W1.alloc (.cells #[.int .i64 1,.int .i64 1,.int .i64 1] 3):=⟨_,rfl⟩
 have B1:=hid (show Below w.heap.size w W1 from hW1 ▸ a7 _ _)
 have B2:=hid (show Below W1.heap.size W1 W2 from hW2 ▸ a7 _ _)
 have hlt2 : W1.heap.size<W2.heap.size:=by rw [hW2]; simp
 have N1:=hid (show c9 w.heap.size t a cap W1 by rw [hW1]; have:=c9.make w t a cap; rwa [hk,hn,ht] at this)
 have HX:=hid (a4e (E:=E) (S:=S) hk ht)
 have B12:=hid (B1.out.trans (B2.out.mono B1.out.size))
 have HWB:=hid (show B≤w.heap.size from h.hc.hin.le)
 have h2:=h.below B12
 have C:=hid (z7 B F n₀ E t h2.ih h2.n1 h2.n2 a cap c kn ro rk S φ [1,1] 1 W1.heap.size 3 W2 h2.hh h2.hc h2.he h2.hp h2.hs (by rw [hn]; rfl) (by decide) (by decide) ((h.hc.below B1).apart_new (Nat.le_refl _) hlt2) (by decide) (fun j hj => by rw [hW2]; exact V3 W1 ([1,1] ++ [1]) j hj))
 rw [← HX.out] at C
 obtain ⟨⟨n0,n1,n2,n3,n4⟩,-⟩:=N1.out.cells
 have hb0:=N1.out.lt
 rw [hk] at n0
 rw [hn] at n3
 rw [ht] at n1
 rw [hk,hn,ht] at C ⊢
 rw [show ([1,1] : List Int).length + 1=3 from rfl] at C
 generalize g9 E t S=X at C
 clear h h2 HX
 go_enter Tryz.func36,Tryz.ntmps36
 go_upto_region 1 with fail
 rw [← hW1]
 clear hW1 hk hn ht
 go_wp2_with fail
 rw [← hW2]
 clear hW2
 (with_reducible refine Calls.mono C.out ?_)
 intro e w6 hr
 have hr2:=n8.from hr B12 HWB
 cases X with
 | error q =>
   obtain ⟨k0,p0⟩:=q
   obtain ⟨rfl,ho⟩:=hr2
   exact And.intro rfl ⟨rfl,ho⟩
 | ok q =>
   obtain ⟨T,S2⟩:=q
   have HR:=hid hr2
   obtain ⟨c',kn',ro',rk',l',y,rfl,-⟩:=hr
   clear hr2 C
   go_wp2_with fail
   go_ret
   exact HR
theorem a5w (hk : t.kind=13) (ht : t.text=⟨#[60]⟩) : g9 E t S=dX E t.kids ([0,0] ++ [1]) S:=by
 cases t with
 | mk kd s n ks p =>
   obtain rfl : kd=13:=hk
   obtain rfl : s=⟨#[60]⟩:=ht
   rfl
theorem a2L (h : QIn B F n₀ E t a cap c kn ro rk S φ w) (hk : t.kind=13) (ht : t.text=⟨#[60]⟩) (hn : t.kids.length=2) :
 Calls Tryz.prog 36 #[.pointer (some ⟨F,0,none⟩),.agg #[.int .i64 t.kind,.string t.text,.int .i64 t.n,.slice a t.kids.length cap,.int .i64 t.place]] w (n8 B F c φ (10 * j3 t) (g9 E t S) w):=by
 obtain ⟨W1,hW1⟩ : ∃ W,W=w.alloc (.cells #[.int .i64 13,.string ⟨#[60]⟩,.int .i64 t.n,.slice a 2 cap,.int .i64 t.place] 24):=⟨_,rfl⟩
 obtain ⟨W2,hW2⟩ : ∃ W,W=W1.alloc (.cells #[.int .i64 0,.int .i64 0,.int .i64 1] 3):=⟨_,rfl⟩
 have B1:=hid (show Below w.heap.size w W1 from hW1 ▸ a7 _ _)
 have B2:=hid (show Below W1.heap.size W1 W2 from hW2 ▸ a7 _ _)
 have hlt2 : W1.heap.size<W2.heap.size:=by rw [hW2]; simp
 have N1:=hid (show c9 w.heap.size t a cap W1 by rw [hW1]; have:=c9.make w t a cap; rwa [hk,hn,ht] at this)
 have HX:=hid (a5w (E:=E) (S:=S) hk ht)
 have B12:=hid (B1.out.trans (B2.out.mono B1.out.size))
 have HWB:=hid (show B≤w.heap.size from h.hc.hin.le)
 have h2:=h.below B12
 have C:=hid (z7 B F n₀ E t h2.ih h2.n1 h2.n2 a cap c kn ro rk S φ [0,0] 1 W1.heap.size 3 W2 h2.hh h2.hc h2.he h2.hp h2.hs (by rw [hn]; rfl) (by decide) (by decide) ((h.hc.below B1).apart_new (Nat.le_refl _) hlt2) (by decide) (fun j hj => by rw [hW2]; exact V3 W1 ([0,0] ++ [1]) j hj))
 rw [← HX.out] at C
 obtain ⟨⟨n0,n1,n2,n3,n4⟩,-⟩:=N1.out.cells
 have hb0:=N1.out.lt
 rw [hk] at n0
 rw [hn] at n3
 rw [ht] at n1
 rw [hk,hn,ht] at C ⊢
 rw [show ([0,0] : List Int).length + 1=3 from rfl] at C
 generalize g9 E t S=X at C
 clear h h2 HX
 go_enter Tryz.func36,Tryz.ntmps36
 go_upto_region 1 with fail
 rw [← hW1]
 clear hW1 hk hn ht
 go_wp2_with fail
 rw [← hW2]
 clear hW2
 (with_reducible refine Calls.mono C.out ?_)
 intro e w6 hr
 have hr2:=n8.from hr B12 HWB
 cases X with
 | error q =>
   obtain ⟨k0,p0⟩:=q
   obtain ⟨rfl,ho⟩:=hr2
   exact And.intro rfl ⟨rfl,ho⟩
 | ok q =>
   obtain ⟨T,S2⟩:=q
   have HR:=hid hr2
   obtain ⟨c',kn',ro',rk',l',y,rfl,-⟩:=hr
   clear hr2 C
   go_wp2_with fail
   go_ret
   exact HR
theorem a4f (hk : t.kind=13) (ht : t.text=⟨#[60,61]⟩) : g9 E t S=dX E t.kids ([0,0] ++ [1]) S:=by
 cases t with
 | mk kd s n ks p =>
   obtain rfl : kd=13:=hk
   obtain rfl : s=⟨#[60,61]⟩:=ht
   rfl
theorem a2X (h : QIn B F n₀ E t a cap c kn ro rk S φ w) (hk : t.kind=13) (ht : t.text=⟨#[60,61]⟩) (hn : t.kids.length=2) :
 Calls Tryz.prog 36 #[.pointer (some ⟨F,0,none⟩),.agg #[.int .i64 t.kind,.string t.text,.int .i64 t.n,.slice a t.kids.length cap,.int .i64 t.place]] w (n8 B F c φ (10 * j3 t) (g9 E t S) w):=by
 obtain ⟨W1,hW1⟩ : ∃ W,W=w.alloc (.cells #[.int .i64 13,.string ⟨#[60,61]⟩,.int .i64 t.n,.slice a 2 cap,.int .i64 t.place] 24):=⟨_,rfl⟩
 obtain ⟨W2,hW2⟩ : ∃ W,W=W1.alloc (.cells #[.int .i64 0,.int .i64 0,.int .i64 1] 3):=⟨_,rfl⟩
 have B1:=hid (show Below w.heap.size w W1 from hW1 ▸ a7 _ _)
 have B2:=hid (show Below W1.heap.size W1 W2 from hW2 ▸ a7 _ _)
 have hlt2 : W1.heap.size<W2.heap.size:=by rw [hW2]; simp
 have N1:=hid (show c9 w.heap.size t a cap W1 by rw [hW1]; have:=c9.make w t a cap; rwa [hk,hn,ht] at this)
 have HX:=hid (a4f (E:=E) (S:=S) hk ht)
 have B12:=hid (B1.out.trans (B2.out.mono B1.out.size))
 have HWB:=hid (show B≤w.heap.size from h.hc.hin.le)
 have h2:=h.below B12
 have C:=hid (z7 B F n₀ E t h2.ih h2.n1 h2.n2 a cap c kn ro rk S φ [0,0] 1 W1.heap.size 3 W2 h2.hh h2.hc h2.he h2.hp h2.hs (by rw [hn]; rfl) (by decide) (by decide) ((h.hc.below B1).apart_new (Nat.le_refl _) hlt2) (by decide) (fun j hj => by rw [hW2]; exact V3 W1 ([0,0] ++ [1]) j hj))
 rw [← HX.out] at C
 obtain ⟨⟨n0,n1,n2,n3,n4⟩,-⟩:=N1.out.cells
 have hb0:=N1.out.lt
 rw [hk] at n0
 rw [hn] at n3
 rw [ht] at n1
 rw [hk,hn,ht] at C ⊢
 rw [show ([0,0] : List Int).length + 1=3 from rfl] at C
 generalize g9 E t S=X at C
 clear h h2 HX
 go_enter Tryz.func36,Tryz.ntmps36
 go_upto_region 1 with fail
 rw [← hW1]
 clear hW1 hk hn ht
 go_wp2_with fail
 rw [← hW2]
 clear hW2
 (with_reducible refine Calls.mono C.out ?_)
 intro e w6 hr
 have hr2:=n8.from hr B12 HWB
 cases X with
 | error q =>
   obtain ⟨k0,p0⟩:=q
   obtain ⟨rfl,ho⟩:=hr2
   exact And.intro rfl ⟨rfl,ho⟩
 | ok q =>
   obtain ⟨T,S2⟩:=q
   have HR:=hid hr2
   obtain ⟨c',kn',ro',rk',l',y,rfl,-⟩:=hr
   clear hr2 C
   go_wp2_with fail
   go_ret
   exact HR
theorem a5Y (hk : t.kind=13) (ht : t.text=⟨#[61]⟩) : g9 E t S=dX E t.kids ([0,0] ++ [1]) S:=by
 cases t with
 | mk kd s n ks p =>
   obtain rfl : kd=13:=hk
   obtain rfl : s=⟨#[61]⟩:=ht
   rfl
theorem a28 (h : QIn B F n₀ E t a cap c kn ro rk S φ w) (hk : t.kind=13) (ht : t.text=⟨#[61]⟩) (hn : t.kids.length=2) :
 Calls Tryz.prog 36 #[.pointer (some ⟨F,0,none⟩),.agg #[.int .i64 t.kind,.string t.text,.int .i64 t.n,.slice a t.kids.length cap,.int .i64 t.place]] w (n8 B F c φ (10 * j3 t) (g9 E t S) w):=by
 obtain ⟨W1,hW1⟩ : ∃ W,W=w.alloc (.cells #[.int .i64 13,.string ⟨#[61]⟩,.int .i64 t.n,.slice a 2 cap,.int .i64 t.place] 24):=⟨_,rfl⟩
 obtain ⟨W2,hW2⟩ : ∃ W,W=W1.alloc (.cells #[.int .i64 0,.int .i64 0,.int .i64 1] 3):=⟨_,rfl⟩
 have B1:=hid (show Below w.heap.size w W1 from hW1 ▸ a7 _ _)
 have B2:=hid (show Below W1.heap.size W1 W2 from hW2 ▸ a7 _ _)
 have hlt2 : W1.heap.size<W2.heap.size:=by rw [hW2]; simp
 have N1:=hid (show c9 w.heap.size t a cap W1 by rw [hW1]; have:=c9.make w t a cap; rwa [hk,hn,ht] at this)
 have HX:=hid (a5Y (E:=E) (S:=S) hk ht)
 have B12:=hid (B1.out.trans (B2.out.mono B1.out.size))
 have HWB:=hid (show B≤w.heap.size from h.hc.hin.le)
 have h2:=h.below B12
 have C:=hid (z7 B F n₀ E t h2.ih h2.n1 h2.n2 a cap c kn ro rk S φ [0,0] 1 W1.heap.size 3 W2 h2.hh h2.hc h2.he h2.hp h2.hs (by rw [hn]; rfl) (by decide) (by decide) ((h.hc.below B1).apart_new (Nat.le_refl _) hlt2) (by decide) (fun j hj => by rw [hW2]; exact V3 W1 ([0,0] ++ [1]) j hj))
 rw [← HX.out] at C
 obtain ⟨⟨n0,n1,n2,n3,n4⟩,-⟩:=N1.out.cells
 have hb0:=N1.out.lt
 rw [hk] at n0
 rw [hn] at n3
 rw [ht] at n1
 rw [hk,hn,ht] at C ⊢
 rw [show ([0,0] : List Int).length + 1=3 from rfl] at C
 generalize g9 E t S=X at C
 clear h h2 HX
 go_enter Tryz.func36,Tryz.ntmps36
 go_upto_region 1 with fail
 rw [← hW1]
 clear hW1 hk hn ht
 go_wp2_with fail
 rw [← hW2]
 clear hW2
 (with_reducible refine Calls.mono C.out ?_)
 intro e w6 hr
 have hr2:=n8.from hr B12 HWB
 cases X with
 | error q =>
   obtain ⟨k0,p0⟩:=q
   obtain ⟨rfl,ho⟩:=hr2
   exact And.intro rfl ⟨rfl,ho⟩
 | ok q =>
   obtain ⟨T,S2⟩:=q
   have HR:=hid hr2
   obtain ⟨c',kn',ro',rk',l',y,rfl,-⟩:=hr
   clear hr2 C
   go_wp2_with fail
   go_ret
   exact HR
theorem a5p (hk : t.kind=13) (ht : t.text=⟨#[43]⟩) : g9 E t S=dX E t.kids ([0,0] ++ [0]) S:=by
 cases t with
 | mk kd s n ks p =>
   obtain rfl : kd=13:=hk
   obtain rfl : s=⟨#[43]⟩:=ht
   rfl
theorem a2h (h : QIn B F n₀ E t a cap c kn ro rk S φ w) (hk : t.kind=13) (ht : t.text=⟨#[43]⟩) (hn : t.kids.length=2) :
 Calls Tryz.prog 36 #[.pointer (some ⟨F,0,none⟩),.agg #[.int .i64 t.kind,.string t.text,.int .i64 t.n,.slice a t.kids.length cap,.int .i64 t.place]] w (n8 B F c φ (10 * j3 t) (g9 E t S) w):=by
 obtain ⟨W1,hW1⟩ : ∃ W,W=w.alloc (.cells #[.int .i64 13,.string ⟨#[43]⟩,.int .i64 t.n,.slice a 2 cap,.int .i64 t.place] 24):=⟨_,rfl⟩
 obtain ⟨W2,hW2⟩ : ∃ W,W=W1.alloc (.cells #[.int .i64 0,.int .i64 0,.int .i64 0] 3):=⟨_,rfl⟩
 have B1:=hid (show Below w.heap.size w W1 from hW1 ▸ a7 _ _)
 have B2:=hid (show Below W1.heap.size W1 W2 from hW2 ▸ a7 _ _)
 have hlt2 : W1.heap.size<W2.heap.size:=by rw [hW2]; simp
 have N1:=hid (show c9 w.heap.size t a cap W1 by rw [hW1]; have:=c9.make w t a cap; rwa [hk,hn,ht] at this)
 have HX:=hid (a5p (E:=E) (S:=S) hk ht)
 have B12:=hid (B1.out.trans (B2.out.mono B1.out.size))
 have HWB:=hid (show B≤w.heap.size from h.hc.hin.le)
 have h2:=h.below B12
 have C:=hid (z7 B F n₀ E t h2.ih h2.n1 h2.n2 a cap c kn ro rk S φ [0,0] 0 W1.heap.size 3 W2 h2.hh h2.hc h2.he h2.hp h2.hs (by rw [hn]; rfl) (by decide) (by decide) ((h.hc.below B1).apart_new (Nat.le_refl _) hlt2) (by decide) (fun j hj => by rw [hW2]; exact V3 W1 ([0,0] ++ [0]) j hj))
 rw [← HX.out] at C
 obtain ⟨⟨n0,n1,n2,n3,n4⟩,-⟩:=N1.out.cells
 have hb0:=N1.out.lt
 rw [hk] at n0
 rw [hn] at n3
 rw [ht] at n1
 rw [hk,hn,ht] at C ⊢
 rw [show ([0,0] : List Int).length + 1=3 from rfl] at C
 generalize g9 E t S=X at C
 clear h h2 HX
 go_enter Tryz.func36,Tryz.ntmps36
 go_upto_region 1 with fail
 rw [← hW1]
 clear hW1 hk hn ht
 go_wp2_with fail
 rw [← hW2]
 clear hW2
 (with_reducible refine Calls.mono C.out ?_)
 intro e w6 hr
 have hr2:=n8.from hr B12 HWB
 cases X with
 | error q =>
   obtain ⟨k0,p0⟩:=q
   obtain ⟨rfl,ho⟩:=hr2
   exact And.intro rfl ⟨rfl,ho⟩
 | ok q =>
   obtain ⟨T,S2⟩:=q
   have HR:=hid hr2
   obtain ⟨c',kn',ro',rk',l',y,rfl,-⟩:=hr
   clear hr2 C
   go_wp2_with fail
   go_ret
   exact HR
theorem a5D (hk : t.kind=13) (ht : t.text=⟨#[45]⟩) : g9 E t S=dX E t.kids ([0,0] ++ [0]) S:=by
 cases t with
 | mk kd s n ks p =>
   obtain rfl : kd=13:=hk
   obtain rfl : s=⟨#[45]⟩:=ht
   rfl
theorem a25 (h : QIn B F n₀ E t a cap c kn ro rk S φ w) (hk : t.kind=13) (ht : t.text=⟨#[45]⟩) (hn : t.kids.length=2) :
 Calls Tryz.prog 36 #[.pointer (some ⟨F,0,none⟩),.agg #[.int .i64 t.kind,.string t.text,.int .i64 t.n,.slice a t.kids.length cap,.int .i64 t.place]] w (n8 B F c φ (10 * j3 t) (g9 E t S) w):=by
 obtain ⟨W1,hW1⟩ : ∃ W,W=w.alloc (.cells #[.int .i64 13,.string ⟨#[45]⟩,.int .i64 t.n,.slice a 2 cap,.int .i64 t.place] 24):=⟨_,rfl⟩
 obtain ⟨W2,hW2⟩ : ∃ W,W=W1.alloc (.cells #[.int .i64 0,.int .i64 0,.int .i64 0] 3):=⟨_,rfl⟩
 have B1:=hid (show Below w.heap.size w W1 from hW1 ▸ a7 _ _)
 have B2:=hid (show Below W1.heap.size W1 W2 from hW2 ▸ a7 _ _)
 have hlt2 : W1.heap.size<W2.heap.size:=by rw [hW2]; simp
 have N1:=hid (show c9 w.heap.size t a cap W1 by rw [hW1]; have:=c9.make w t a cap; rwa [hk,hn,ht] at this)
 have HX:=hid (a5D (E:=E) (S:=S) hk ht)
 have B12:=hid (B1.out.trans (B2.out.mono B1.out.size))
 have HWB:=hid (show B≤w.heap.size from h.hc.hin.le)
 have h2:=h.below B12
 have C:=hid (z7 B F n₀ E t h2.ih h2.n1 h2.n2 a cap c kn ro rk S φ [0,0] 0 W1.heap.size 3 W2 h2.hh h2.hc h2.he h2.hp h2.hs (by rw [hn]; rfl) (by decide) (by decide) ((h.hc.below B1).apart_new (Nat.le_refl _) hlt2) (by decide) (fun j hj => by rw [hW2]; exact V3 W1 ([0,0] ++ [0]) j hj))
 rw [← HX.out] at C
 obtain ⟨⟨n0,n1,n2,n3,n4⟩,-⟩:=N1.out.cells
 have hb0:=N1.out.lt
 rw [hk] at n0
 rw [hn] at n3
 rw [ht] at n1
 rw [hk,hn,ht] at C ⊢
 rw [show ([0,0] : List Int).length + 1=3 from rfl] at C
 generalize g9 E t S=X at C
 clear h h2 HX
 go_enter Tryz.func36,Tryz.ntmps36
 go_upto_region 1 with fail
 rw [← hW1]
 clear hW1 hk hn ht
 go_wp2_with fail
 rw [← hW2]
 clear hW2
 (with_reducible refine Calls.mono C.out ?_)
 intro e w6 hr
 have hr2:=n8.from hr B12 HWB
 cases X with
 | error q =>
   obtain ⟨k0,p0⟩:=q
   obtain ⟨rfl,ho⟩:=hr2
   exact And.intro rfl ⟨rfl,ho⟩
 | ok q =>
   obtain ⟨T,S2⟩:=q
   have HR:=hid hr2
   obtain ⟨c',kn',ro',rk',l',y,rfl,-⟩:=hr
   clear hr2 C
   go_wp2_with fail
   go_ret
   exact HR
theorem a4z (hk : t.kind=13) (ht : t.text=⟨#[42]⟩) : g9 E t S=dX E t.kids ([0,0] ++ [0]) S:=by
 cases t with
 | mk kd s n ks p =>
   obtain rfl : kd=13:=hk
   obtain rfl : s=⟨#[42]⟩:=ht
   rfl
theorem a2l (h : QIn B F n₀ E t a cap c kn ro rk S φ w) (hk : t.kind=13) (ht : t.text=⟨#[42]⟩) (hn : t.kids.length=2) :
 Calls Tryz.prog 36 #[.pointer (some ⟨F,0,none⟩),.agg #[.int .i64 t.kind,.string t.text,.int .i64 t.n,.slice a t.kids.length cap,.int .i64 t.place]] w (n8 B F c φ (10 * j3 t) (g9 E t S) w):=by
 obtain ⟨W1,hW1⟩ : ∃ W,W=w.alloc (.cells #[.int .i64 13,.string ⟨#[42]⟩,.int .i64 t.n,.slice a 2 cap,.int .i64 t.place] 24):=⟨_,rfl⟩
 obtain ⟨W2,hW2⟩ : ∃ W,W=W1.alloc (.cells #[.int .i64 0,.int .i64 0,.int .i64 0] 3):=⟨_,rfl⟩
 have B1:=hid (show Below w.heap.size w W1 from hW1 ▸ a7 _ _)
 have B2:=hid (show Below W1.heap.size W1 W2 from hW2 ▸ a7 _ _)
 have hlt2 : W1.heap.size<W2.heap.size:=by rw [hW2]; simp
 have N1:=hid (show c9 w.heap.size t a cap W1 by rw [hW1]; have:=c9.make w t a cap; rwa [hk,hn,ht] at this)
 have HX:=hid (a4z (E:=E) (S:=S) hk ht)
 have B12:=hid (B1.out.trans (B2.out.mono B1.out.size))
 have HWB:=hid (show B≤w.heap.size from h.hc.hin.le)
 have h2:=h.below B12
 have C:=hid (z7 B F n₀ E t h2.ih h2.n1 h2.n2 a cap c kn ro rk S φ [0,0] 0 W1.heap.size 3 W2 h2.hh h2.hc h2.he h2.hp h2.hs (by rw [hn]; rfl) (by decide) (by decide) ((h.hc.below B1).apart_new (Nat.le_refl _) hlt2) (by decide) (fun j hj => by rw [hW2]; exact V3 W1 ([0,0] ++ [0]) j hj))
 rw [← HX.out] at C
 obtain ⟨⟨n0,n1,n2,n3,n4⟩,-⟩:=N1.out.cells
 have hb0:=N1.out.lt
 rw [hk] at n0
 rw [hn] at n3
 rw [ht] at n1
 rw [hk,hn,ht] at C ⊢
 rw [show ([0,0] : List Int).length + 1=3 from rfl] at C
 generalize g9 E t S=X at C
 clear h h2 HX
 go_enter Tryz.func36,Tryz.ntmps36
 go_upto_region 1 with fail
 rw [← hW1]
 clear hW1 hk hn ht
 go_wp2_with fail
 rw [← hW2]
 clear hW2
 (with_reducible refine Calls.mono C.out ?_)
 intro e w6 hr
 have hr2:=n8.from hr B12 HWB
 cases X with
 | error q =>
   obtain ⟨k0,p0⟩:=q
   obtain ⟨rfl,ho⟩:=hr2
   exact And.intro rfl ⟨rfl,ho⟩
 | ok q =>
   obtain ⟨T,S2⟩:=q
   have HR:=hid hr2
   obtain ⟨c',kn',ro',rk',l',y,rfl,-⟩:=hr
   clear hr2 C
   go_wp2_with fail
   go_ret
   exact HR
theorem a57 (hk : t.kind=13) (ht : t.text=⟨#[47]⟩) : g9 E t S=dX E t.kids ([0,0] ++ [0]) S:=by
 cases t with
 | mk kd s n ks p =>
   obtain rfl : kd=13:=hk
   obtain rfl : s=⟨#[47]⟩:=ht
   rfl
theorem a2t (h : QIn B F n₀ E t a cap c kn ro rk S φ w) (hk : t.kind=13) (ht : t.text=⟨#[47]⟩) (hn : t.kids.length=2) :
 Calls Tryz.prog 36 #[.pointer (some ⟨F,0,none⟩),.agg #[.int .i64 t.kind,.string t.text,.int .i64 t.n,.slice a t.kids.length cap,.int .i64 t.place]] w (n8 B F c φ (10 * j3 t) (g9 E t S) w):=by
 obtain ⟨W1,hW1⟩ : ∃ W,W=w.alloc (.cells #[.int .i64 13,.string ⟨#[47]⟩,.int .i64 t.n,.slice a 2 cap,.int .i64 t.place] 24):=⟨_,rfl⟩
 obtain ⟨W2,hW2⟩ : ∃ W,W=W1.alloc (.cells #[.int .i64 0,.int .i64 0,.int .i64 0] 3):=⟨_,rfl⟩
 have B1:=hid (show Below w.heap.size w W1 from hW1 ▸ a7 _ _)
 have B2:=hid (show Below W1.heap.size W1 W2 from hW2 ▸ a7 _ _)
 have hlt2 : W1.heap.size<W2.heap.size:=by rw [hW2]; simp
 have N1:=hid (show c9 w.heap.size t a cap W1 by rw [hW1]; have:=c9.make w t a cap; rwa [hk,hn,ht] at this)
 have HX:=hid (a57 (E:=E) (S:=S) hk ht)
 have B12:=hid (B1.out.trans (B2.out.mono B1.out.size))
 have HWB:=hid (show B≤w.heap.size from h.hc.hin.le)
 have h2:=h.below B12
 have C:=hid (z7 B F n₀ E t h2.ih h2.n1 h2.n2 a cap c kn ro rk S φ [0,0] 0 W1.heap.size 3 W2 h2.hh h2.hc h2.he h2.hp h2.hs (by rw [hn]; rfl) (by decide) (by decide) ((h.hc.below B1).apart_new (Nat.le_refl _) hlt2) (by decide) (fun j hj => by rw [hW2]; exact V3 W1 ([0,0] ++ [0]) j hj))
 rw [← HX.out] at C
 obtain ⟨⟨n0,n1,n2,n3,n4⟩,-⟩:=N1.out.cells
 have hb0:=N1.out.lt
 rw [hk] at n0
 rw [hn] at n3
 rw [ht] at n1
 rw [hk,hn,ht] at C ⊢
 rw [show ([0,0] : List Int).length + 1=3 from rfl] at C
 generalize g9 E t S=X at C
 clear h h2 HX
 go_enter Tryz.func36,Tryz.ntmps36
 go_upto_region 1 with fail
 rw [← hW1]
 clear hW1 hk hn ht
 go_wp2_with fail
 rw [← hW2]
 clear hW2
 (with_reducible refine Calls.mono C.out ?_)
 intro e w6 hr
 have hr2:=n8.from hr B12 HWB
 cases X with
 | error q =>
   obtain ⟨k0,p0⟩:=q
   obtain ⟨rfl,ho⟩:=hr2
   exact And.intro rfl ⟨rfl,ho⟩
 | ok q =>
   obtain ⟨T,S2⟩:=q
   have HR:=hid hr2
   obtain ⟨c',kn',ro',rk',l',y,rfl,-⟩:=hr
   clear hr2 C
   go_wp2_with fail
   go_ret
   exact HR
theorem sL (hk : t.kind=10∨t.kind=11) : g9 E t S=fK E t S:=by
 cases t with
 | mk kd s n ks p =>
   have hk' : kd=10∨kd=11:=hk
   rw [g9]
   unfold R7 fK
   rw [if_neg (by omega),if_neg (by omega),if_neg (by omega),if_neg (by omega),if_neg (by omega),if_neg (by omega),if_neg (by omega),if_neg (by omega)]
   show Ty.then (match aM E s.data.toList with
    | some T => if ks.length=0 then .ok (([],T),S) else .error (114,p)
    | none => _) _=(match aM E s.data.toList with
    | some T => if ks.length=0 then .ok (T,S) else .error (114,p)
    | none => _)
   cases aM E s.data.toList with
   | some T =>
     by_cases h0 : ks.length=0
     ·obtain rfl : ks=[]:=List.length_eq_zero_iff.1 h0
      rfl
     ·simp only [if_neg h0]; rfl
   | none =>
     show Ty.then (match y5 E s.data.toList with
      | none => .error (113,p)
      | some d => _) _=(match y5 E s.data.toList with
      | none => .error (113,p)
      | some d => _)
     cases y5 E s.data.toList with
     | none => rfl
     | some d =>
       by_cases h0 : d.params.length=ks.length
       ·simp only [if_pos h0]; exact (if_pos (show d.params.length=(Nd.mk kd s n ks p).kids.length from h0)).symm
       ·simp only [if_neg h0]; exact (if_neg (show ¬ d.params.length=(Nd.mk kd s n ks p).kids.length from h0)).symm
theorem a4T (h : QIn B F n₀ E t a cap c kn ro rk S φ w) (hk : t.kind=10) (hts : t.text.data.toList.length≤1000000) (hM : ∀ d,y5 E t.text.data.toList=some d→X5 d) :
 Calls Tryz.prog 36 #[.pointer (some ⟨F,0,none⟩),.agg #[.int .i64 t.kind,.string t.text,.int .i64 t.n,.slice a t.kids.length cap,.int .i64 t.place]] w (n8 B F c φ (10 * j3 t) (g9 E t S) w):=by
 obtain ⟨W1,hW1⟩ : ∃ W,W=w.alloc (.cells #[.int .i64 10,.string t.text,.int .i64 t.n,.slice a t.kids.length cap,.int .i64 t.place] 24):=⟨_,rfl⟩
 have B1:=hid (show Below w.heap.size w W1 from hW1 ▸ a7 _ _)
 have N1:=hid (show c9 w.heap.size t a cap W1 by rw [hW1]; have:=c9.make w t a cap; rwa [hk] at this)
 have HX:=hid (sL (E:=E) (S:=S) (t:=t) (by omega))
 have HWB:=hid (show B≤w.heap.size from h.hc.hin.le)
 have h2:=h.below B1
 have C:=hid (sA B F n₀ E t h2.ih h2.n1 h2.n2 hM a cap c kn ro rk S φ W1 h2.hh h2.hc h2.he h2.hp h2.hs hts)
 rw [← HX.out] at C
 obtain ⟨⟨n0,n1,n2,n3,n4⟩,-⟩:=N1.out.cells
 have hb0:=N1.out.lt
 rw [hk] at n0 C ⊢
 generalize g9 E t S=X at C
 clear h h2 HX hts hM
 go_enter Tryz.func36,Tryz.ntmps36
 go_upto_region 1 with fail
 rw [← hW1]
 clear hW1 hk
 go_wp2_with fail
 (with_reducible refine Calls.mono C.out ?_)
 intro e w6 hr
 have hr2:=n8.from hr B1 HWB
 cases X with
 | error q =>
   obtain ⟨k0,p0⟩:=q
   obtain ⟨rfl,ho⟩:=hr2
   exact And.intro rfl ⟨rfl,ho⟩
 | ok q =>
   obtain ⟨T,S2⟩:=q
   have HR:=hid hr2
   obtain ⟨c',kn',ro',rk',l',y,rfl,-⟩:=hr
   clear hr2 C
   go_wp2_with fail
   go_ret
   exact HR
theorem a5r (h : QIn B F n₀ E t a cap c kn ro rk S φ w) (hk : t.kind=11) (hts : t.text.data.toList.length≤1000000) (hM : ∀ d,y5 E t.text.data.toList=some d→X5 d) :
 Calls Tryz.prog 36 #[.pointer (some ⟨F,0,none⟩),.agg #[.int .i64 t.kind,.string t.text,.int .i64 t.n,.slice a t.kids.length cap,.int .i64 t.place]] w (n8 B F c φ (10 * j3 t) (g9 E t S) w):=by
 obtain ⟨W1,hW1⟩ : ∃ W,W=w.alloc (.cells #[.int .i64 11,.string t.text,.int .i64 t.n,.slice a t.kids.length cap,.int .i64 t.place] 24):=⟨_,rfl⟩
 have B1:=hid (show Below w.heap.size w W1 from hW1 ▸ a7 _ _)
 have N1:=hid (show c9 w.heap.size t a cap W1 by rw [hW1]; have:=c9.make w t a cap; rwa [hk] at this)
 have HX:=hid (sL (E:=E) (S:=S) (t:=t) (by omega))
 have HWB:=hid (show B≤w.heap.size from h.hc.hin.le)
 have h2:=h.below B1
 have C:=hid (sA B F n₀ E t h2.ih h2.n1 h2.n2 hM a cap c kn ro rk S φ W1 h2.hh h2.hc h2.he h2.hp h2.hs hts)
 rw [← HX.out] at C
 obtain ⟨⟨n0,n1,n2,n3,n4⟩,-⟩:=N1.out.cells
 have hb0:=N1.out.lt
 rw [hk] at n0 C ⊢
 generalize g9 E t S=X at C
 clear h h2 HX hts hM
 go_enter Tryz.func36,Tryz.ntmps36
 go_upto_region 1 with fail
 rw [← hW1]
 clear hW1 hk
 go_wp2_with fail
 (with_reducible refine Calls.mono C.out ?_)
 intro e w6 hr
 have hr2:=n8.from hr B1 HWB
 cases X with
 | error q =>
   obtain ⟨k0,p0⟩:=q
   obtain ⟨rfl,ho⟩:=hr2
   exact And.intro rfl ⟨rfl,ho⟩
 | ok q =>
   obtain ⟨T,S2⟩:=q
   have HR:=hid hr2
   obtain ⟨c',kn',ro',rk',l',y,rfl,-⟩:=hr
   clear hr2 C
   go_wp2_with fail
   go_ret
   exact HR
end
theorem aK {s : ByteArray} {l : List UInt8} (h : s.data.toList=l) : s=⟨l.toArray⟩:=by rw [← h]
theorem a3C {B F n₀ : Nat} {E : Env7} (h1 : n₀≤B) (h2 : n₀≤F) (hM : ∀ s d,y5 E s=some d→X5 d) (N : Nat) : ∀ t : Nd,SizeOf.sizeOf t<N→∀ d : Int,d5 t d=true→pI B F n₀ E t:=by
 induction N with
 | zero => intro t ht; omega
 | succ N ih =>
   intro t ht d hr a cap c kn ro rk S φ w hh hc he hp hs
   have hkd : ∀ k∈t.kids,pI B F n₀ E k:=by
    cases t with
    | mk kd s n ks p =>
      intro k hk
      obtain ⟨j,hj,rfl⟩:=List.getElem_of_mem hk
      rw [tU,Bool.and_eq_true] at hr
      exact ih _ (eR hj ht) (d + 1) (by have:=hr.2; rw [Z3] at this; exact List.all_eq_true.1 this _ hk)
   have Q : QIn B F n₀ E t a cap c kn ro rk S φ w:=⟨hkd,h1,h2,hh,hc,he,hp,hs⟩
   rw [tU] at hr
   simp only [Bool.and_eq_true] at hr
   obtain ⟨⟨⟨⟨-,hko⟩,hto⟩,-⟩,-⟩:=hr
   have hk : t.kind=5∨t.kind=6∨t.kind=7∨t.kind=8∨t.kind=9∨t.kind=10∨t.kind=11∨t.kind=12∨t.kind=13∨t.kind=14∨t.kind=15:=by
    unfold o2 at hko
    split at hko
    ·omega
    split at hko
    ·omega
    split at hko
    ·omega
    split at hko
    ·omega
    split at hko
    ·omega
    ·cases hko
   have hname : t.kind=10∨t.kind=11→t.text.data.toList.length≤1000000:=fun h => by
    unfold x9 at hto
    rw [if_neg (by omega),if_neg (by omega),if_pos h] at hto
    have:=a1u hto
    omega
   rcases hk with hk | hk | hk | hk | hk | hk | hk | hk | hk | hk | hk
   ·exact a6Z Q hk (by rw [hk] at hko; simpa [o2] using hko)
   ·exact a7h Q hk (by rw [hk] at hko; simpa [o2] using hko)
   ·exact a6S Q hk (by rw [hk] at hko; simpa [o2] using hko)
   ·exact a6i Q hk (by rw [hk] at hko; simpa [o2] using hko)
   ·exact a6c Q hk (by rw [hk] at hko; simpa [o2] using hko)
   ·exact a4T Q hk (hname (.inl hk)) (hM _)
   ·exact a5r Q hk (hname (.inr hk)) (hM _)
   ·have hn : t.kids.length=1:=by rw [hk] at hko; simpa [o2] using hko
    rw [hk] at hto
    have ht : t.text.data.toList=[45]∨t.text.data.toList=[110,111,116]:=by simpa [x9] using hto
    rcases ht with ht | ht
    ·exact a3f Q hk (aK ht) hn
    ·exact a24 Q hk (aK ht) hn
   ·have hn : t.kids.length=2:=by rw [hk] at hko; simpa [o2] using hko
    rw [hk] at hto
    have ht : t.text.data.toList∈aP:=List.contains_iff_mem.1 (show eW t.text.data.toList=true by simpa [x9] using hto)
    simp only [aP,List.mem_cons,List.not_mem_nil,or_false] at ht
    rcases ht with ht | ht | ht | ht | ht | ht | ht | ht | ht
    ·exact a2x Q hk (aK ht) hn
    ·exact a18 Q hk (aK ht) hn
    ·exact a2L Q hk (aK ht) hn
    ·exact a2X Q hk (aK ht) hn
    ·exact a28 Q hk (aK ht) hn
    ·exact a2h Q hk (aK ht) hn
    ·exact a25 Q hk (aK ht) hn
    ·exact a2l Q hk (aK ht) hn
    ·exact a2t Q hk (aK ht) hn
   ·exact a35 Q hk (by rw [hk] at hko; simpa [o2] using hko)
   ·exact a3X Q hk (by rw [hk] at hko; simpa [o2] using hko)
end
end Go.Proofs.YteefedkmgnepmaaGreatDoor
