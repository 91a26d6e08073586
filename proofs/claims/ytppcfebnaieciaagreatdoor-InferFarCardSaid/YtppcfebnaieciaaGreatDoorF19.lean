/-
  Laws that the proof rests on.
-/
import Derived.Test.YtppcfebnaieciaaGreatDoorF18
import Derived.Test.YtppcfebnaieciaaGreatDoorF12
namespace Go.Proofs.YtppcfebnaieciaaGreatDoor
set_option maxRecDepth 100000
set_option maxHeartbeats 16000000
section
open Lib (hid)
open Go.RowKit Go.Maps
def cA (E : Env7) (ks : List Nd) (L S : List Int) : Ty Int:=(o4 E ks (o5 L [] S).1.dropLast (o5 L [] S).2).then fun _ S' => .ok ((o5 L [] S).1.getLastD 0,S')
theorem a1s {α : Type} {f : Nat→Option α} {xs : List Nat} {ts : List α} (h : xs.map f=ts.map some) (i : Nat) (h1 : i<xs.length) (h2 : i<ts.length) : f xs[i]=some ts[i]:=by
 have:=congrArg (fun l => l[i]?) h
 simp only [List.getElem?_map,List.getElem?_eq_getElem h1,List.getElem?_eq_getElem h2,Option.map_some] at this
 exact Option.some.inj this
theorem qX {l : List Int} {n : Nat} (h : l.length=n + 1) : l.getLastD 0=l[n]'(by omega):=by
 rw [List.getLastD_eq_getLast?,List.getLast?_eq_getElem?]
 simp [h]
theorem l9.from {B F : Nat} {c : CM} {φ : List Int} {n : Nat} {x : Ty Int} {w w1 w' : World} {e : Ending} (h : l9 B F c φ n x w1 e w') (hb : Below w.heap.size w w1) (hB : B≤w.heap.size) : l9 B F c φ n x w e w':=by
 cases x with
 | error q =>
   obtain ⟨k,p⟩:=q
   obtain ⟨h1,h2⟩:=h
   exact ⟨h1,(Off.of hb hB).trans h2⟩
 | ok q =>
   obtain ⟨t,S'⟩:=q
   obtain ⟨c',kn',ro',rk',l,y,h1,h2,h3,h4,h5,h6⟩:=h
   exact ⟨c',kn',ro',rk',l,y,h1,h2,h3,(Mv.of hb).trans h4,(V4.refl c w).trans h5 hb.size,h6⟩
theorem nW {B F n₀ : Nat} {E : Env7} {t : Nd} (IH : ∀ k∈t.kids,lY B F n₀ E k) (h1 : n₀≤B) (h2 : n₀≤F) {a : Option Addr} {cap : Nat} {c : CM} {kn : List (Option Int)} {ro rk : Nat→Nat} {S φ L : List Int} {w w' : World} {e : Ending} (hh : t.hold n₀ w a cap) (hc : Cls B F c kn ro rk S φ w) (he : PEnv E B F c w)
 (hp : ∀ i,i<E.params.length→φ[i]?=some (5 + (i : Int))) (hs : c.up.length + 10 * i7 t≤900000) (hL : L.length=t.kids.length + 1) (h9 : L.length≤9) (hu : a4w B F c φ L S w e w') :
 ∃ g cap2,e=.returned (.slice (some ⟨g,0,none⟩) (t.kids.length + 1) cap2)∧(∀ d,s7 F c w d→w'.heap[d]?=w.heap[d]?)∧w.heap.size≤w'.heap.size ∧
  Calls Tryz.prog 123 #[.pointer (some ⟨F,0,none⟩),.agg #[.int .i64 t.kind,.string t.text,.int .i64 t.n,.slice a t.kids.length cap,.int .i64 t.place],.slice (some ⟨g,0,none⟩) (t.kids.length + 1) cap2] w' (l9 B F c φ (10 * i7 t) (cA E t.kids L S) w):=by
 obtain ⟨c',kn',ro',rk',l,xs,g,cap2,rfl,hx,hcl,hm,hmv,hnp,hsz,hA,-,hcp1,hcp2,hall⟩:=hu
 have hn:=t8 t
 have htl : (o5 L [] S).1.length=L.length:=a3X _ _ _
 have hxl : xs.length=t.kids.length + 1:=by omega
 refine ⟨g,cap2,by rw [hL],fun d hd => (hd.mv hmv hnp).2,hmv.size,?_⟩
 refine (a2t B F n₀ E t IH h1 h2 a cap c' kn' ro' rk' (o5 L [] S).2 (φ ++ l) (o5 L [] S).1.dropLast xs g cap2 w' (hh.below ((hmv.off hc.hin).low h1 h2)) hcl (he.off (hmv.off hc.hin) hmv.maps) (fun i hi => Z8 (hp i hi)) (by omega) hxl (by rw [List.length_dropLast,htl,hL]; rfl) (fun i hi hi' => ?_) hA ⟨by omega,hcp2⟩ hall).mono ?_
 ·rw [List.getElem_dropLast]
  exact a1s hm i hi' _
 ·intro e w'' hk
  unfold cA
  generalize hty : o4 E t.kids (o5 L [] S).1.dropLast (o5 L [] S).2=x at hk
  cases x with
  | error q =>
    obtain ⟨k,p⟩:=q
    obtain ⟨rfl,ho⟩:=hk
    exact ⟨rfl,(hmv.off hc.hin).trans ho⟩
  | ok q =>
    obtain ⟨u,S'⟩:=q
    obtain ⟨c2,kn2,ro2,rk2,l2,rfl,k1,k2,k3,k4⟩:=hk
    rw [List.append_assoc] at k1
    refine ⟨c2,kn2,ro2,rk2,l ++ l2,_,rfl,?_,k1,hmv.trans k2,hnp.trans k3 hmv.size,by omega⟩
    rw [← List.append_assoc]
    refine Z8 ?_
    have hlast : (o5 L [] S).1.getLastD 0=(o5 L [] S).1[t.kids.length]'(by omega):=qX (by omega)
    rw [hlast]
    exact a1s hm t.kids.length _ _
theorem tE {av : Nat→Prop} {w : World} {g : Nat} {l : List Int} (ha : av g) (h : ∀ j (hj : j<l.length),w.cell? ⟨g,j,none⟩=some (.int .i64 l[j])) : y6 av w (some ⟨g,0,none⟩) l:=fun j hj => ⟨g,0,rfl,ha,by rw [Nat.zero_add]; exact h j hj⟩
theorem y4 (B F n₀ : Nat) (E : Env7) (t : Nd) (IH : ∀ k∈t.kids,lY B F n₀ E k) (h1 : n₀≤B) (h2 : n₀≤F) (a : Option Addr) (cap : Nat) (c : CM) (kn : List (Option Int)) (ro rk : Nat→Nat) (S φ l : List Int) (r : Int) (g cap2 : Nat) (w : World) (hh : t.hold n₀ w a cap) (hc : Cls B F c kn ro rk S φ w) (he : PEnv E B F c w)
 (hp : ∀ i,i<E.params.length→φ[i]?=some (5 + (i : Int))) (hs : c.up.length + 10 * i7 t≤900000) (hl : l.length=t.kids.length) (h8 : l.length≤8) (hT : ∀ t∈l ++ [r],0≤t∧t≤20) (hg : s7 F c w g) (hcap : l.length + 1≤cap2∧cap2≤1000) (hall : ∀ j (hj : j<(l ++ [r]).length),w.cell? ⟨g,j,none⟩=some (.int .i64 (l ++ [r])[j])) :
 Calls Tryz.prog 91 #[.pointer (some ⟨F,0,none⟩),.agg #[.int .i64 t.kind,.string t.text,.int .i64 t.n,.slice a t.kids.length cap,.int .i64 t.place],.slice (some ⟨g,0,none⟩) (l.length + 1) cap2] w (l9 B F c φ (10 * i7 t) (cA E t.kids (l ++ [r]) S) w):=by
 obtain ⟨W1,hW1⟩ : ∃ W,W=w.alloc (.cells #[.int .i64 t.kind,.string t.text,.int .i64 t.n,.slice a t.kids.length cap,.int .i64 t.place] 24):=⟨_,rfl⟩
 have B1:=hid (show Below w.heap.size w W1.drew from hW1 ▸ r8 (a7 _ _))
 have N1:=hid (show c6 w.heap.size t a cap W1.drew from hW1 ▸ c6.make w t a cap)
 have HC:=hid (hc.below B1)
 have HA:=hid (show s7 F c W1.drew w.heap.size from hc.apart_new (Nat.le_refl _) N1.out.lt)
 have HWB:=hid (show B≤w.heap.size from hc.hin.le)
 have HH:=hid (hh.below (B1.out.mono (show n₀≤w.heap.size by have:=hc.hin.le; omega)))
 have HE:=hid (he.below B1 hc.hin.le)
 have HAll:=hid (show ∀ j (hj : j<(l ++ [r]).length),W1.drew.cell? ⟨g,j,none⟩=some (.int .i64 (l ++ [r])[j]) from fun j hj => (B1.out.cell (p:=⟨g,j,none⟩) hg.1.1).trans (hall j hj))
 have cr:=HAll.out l.length (by simp)
 rw [List.getElem_concat_length rfl] at cr
 have C:=hid (pG (fun b => b=g) B F c kn ro rk S φ ⟨#[]⟩ l r (some ⟨g,0,none⟩) cap2 W1.drew HC (by have:=t8 t; omega) (tE rfl fun j hj => by
  have:=HAll.out j (by simp; omega)
  rwa [List.getElem_append_left hj] at this) (fun e => by cases e) (fun b hb => by subst hb; exact (hg.grown B1.out.size).1.1) h8 hT)
 have HUK:=hid (fun e w' hu => nW (e:=e) (w':=w') IH h1 h2 HH HC HE hp hs (L:=l ++ [r]) (by simp [hl]) (by simp; omega) hu)
 have HGA:=hid (hg.grown B1.out.size)
 have hgl:=HGA.out.1.1
 have e1 : IntKind.i64.wrap ((l.length : Nat) : Int)=(l.length : Int):=IntWalk.i64_in _ (by omega)
 have hb0:=N1.out.lt
 obtain ⟨⟨n0,n1,n2,n3,n4⟩,-⟩:=N1.out.cells
 have HL:=hid hl
 clear hh hc he hp hs IH h1 h2 hT hall hg hl
 generalize cA E t.kids (l ++ [r]) S=X at HUK
 obtain ⟨N,hN⟩ : ∃ N,N=l.length:=⟨_,rfl⟩
 rw [← hN] at cr e1 C h8 hcap ⊢
 have hle : (0 : Int)≤(N : Nat)∧((N : Nat) : Int)≤(cap2 : Nat):=by omega
 have hN1 : ((N : Nat) : Int)<(N : Int) + 1:=by omega
 have hN2 : N + 1≤9223372036854775807:=by omega
 have HN:=hid hN
 clear hN
 go_enter Tryz.func91,Tryz.ntmps91
 go_upto_region 1 with fail
 rw [← hW1]
 clear hW1
 refine wp_region_held_drew (S:=fun cur => cur.cell? ⟨g,N,none⟩=some (.int .i64 r)∧cur.cell? ⟨w.heap.size,0,none⟩=some (.int .i64 t.kind)∧cur.cell? ⟨w.heap.size,1,none⟩=some (.string t.text)∧cur.cell? ⟨w.heap.size,2,none⟩=some (.int .i64 t.n)∧cur.cell? ⟨w.heap.size,3,none⟩=some (.slice a t.kids.length cap)∧cur.cell? ⟨w.heap.size,4,none⟩=some (.int .i64 t.place)) (by kernel_rfl) ?_ (fun hHeld => ?_)
 ·exact ⟨cr,n0,n1,n2,n3,n4⟩
 refine a8 0 ?_; refine a8 1 ?_; refine a8 2 ?_; refine a8 3 ?_; refine a8 4 ?_; refine a8 5 ?_; refine a8 6 ?_; refine a8 7 ?_; refine a8 8 ?_; refine a8 9 ?_; refine a8 10 ?_; refine a8 11 ?_; refine a8 12 ?_; refine a8 13 ?_; refine a8 14 ?_
 refine wpAnyH_ready (rs:=[15]) (by kernel_rfl) (by simp) ?_
 refine AllReadyH.cons (r6 rfl) (fun K hK => ?_) AllReadyH.nil
 go_simp
 (with_reducible refine Calls.mono C.out ?_)
 intro e w6 hu
 obtain ⟨g2,cp2,rfl,hkeep,hsz,C2⟩:=HUK.out _ _ hu
 have N6:=hid (show c6 w.heap.size t a cap w6 from (hkeep _ HA).trans N1)
 have HC2:=hid C2
 have hg6:=(World.cell?_of_block (hkeep g HGA)).trans cr
 obtain ⟨⟨m0,m1,m2,m3,m4⟩,-⟩:=N6.out.cells
 refine hK.out _ _ ⟨hg6,m0,m1,m2,m3,m4⟩ (fun hHeld => ?_)
 clear hK K hu C2 hkeep C HUK
 try simp only [Act.put,j6,v6,v7]
 refine wpAnyH_ready (rs:=[16]) (by kernel_rfl) (by simp) ?_
 refine AllReadyH.cons (r6 rfl) (fun K hK => ?_) AllReadyH.nil
 go_simp
 (with_reducible refine Calls.mono HC2.out ?_)
 intro e w7 hr
 cases X with
 | error q =>
   obtain ⟨k0,p0⟩:=q
   have hr2:=l9.from hr B1 HWB
   obtain ⟨rfl,ho⟩:=hr2
   exact And.intro rfl ⟨rfl,ho⟩
 | ok q =>
   obtain ⟨T,S2⟩:=q
   have hr2:=l9.from hr B1 HWB
   obtain ⟨c',kn',ro',rk',l',y,rfl,-,-,hm,-⟩:=hr
   have N7:=hid (show c6 w.heap.size t a cap w7 from (hm.far HA.out.1).2.trans N1)
   have hg7:=(World.cell?_of_block (hm.far HGA.out.1).2).trans cr
   obtain ⟨⟨q0,q1,q2,q3,q4⟩,-⟩:=N7.out.cells
   have HR:=hid hr2
   clear hr2 hm
   refine hK.out _ _ ⟨hg7,q0,q1,q2,q3,q4⟩ (fun hHeld => ?_)
   clear hK K
   try simp only [Act.put,j6,v6,v7]
   refine a8 17 ?_
   refine wpAnyH_done (by kernel_rfl) ?_ _
   go_wp2_with fail
   go_ret
   exact HR
end
section
open Lib (hid)
open Go.RowKit Go.Maps
def cY (E : Env7) (t : Nd) (S : List Int) : Ty Int:=match cG E t.text.data.toList with
 | some T => if t.kids.length=0 then .ok (T,S) else .error (114,t.place)
 | none => match E8 E t.text.data.toList with
   | none => .error (113,t.place)
   | some d => if d.params.length=t.kids.length then cA E t.kids (d.params ++ [d.result]) S else .error (114,t.place)
theorem bR (s : ByteArray) : bsA s.data.toList=s:=by
 cases s with
 | mk d => unfold bsA; simp
def O8 (d : Sch) : Prop:=d.params.length≤8∧∀ t∈d.params ++ [d.result],0≤t∧t≤20
theorem a0d {E : Env7} {t : Nd} {S : List Int} {i : Nat} (h : (E.params.findIdx? fun p => p == t.text.data.toList)=some i) : cY E t S=if t.kids.length=0 then .ok (5 + (i : Int),S) else .error (114,t.place):=by
 unfold cY cG
 rw [h]
 rfl
theorem wI {E : Env7} {t : Nd} {S : List Int} (h : (E.params.findIdx? fun p => p == t.text.data.toList)=none) : cY E t S=match E8 E t.text.data.toList with
 | none => .error (113,t.place)
 | some d => if d.params.length=t.kids.length then cA E t.kids (d.params ++ [d.result]) S else .error (114,t.place):=by
 unfold cY cG
 rw [h]
 rfl
theorem y5.make (w : World) (nm : ByteArray) (pa : Option Addr) (pn pc : Nat) (r : Int) : y5 w.heap.size nm pa pn pc r (w.alloc (.cells #[.string nm,.slice pa pn pc,.int .i64 r] 36)):=U6 _ _
theorem qC {B F : Nat} {c : CM} {φ : List Int} {n : Nat} {x : Ty Int} {w w' : World} {k p : Int} (hx : x=.error (k,p)) (ho : Off B F w w') : l9 B F c φ n x w (pY k p) w':=by subst hx; exact ⟨rfl,ho⟩
theorem nY (B F n₀ : Nat) (E : Env7) (t : Nd) (IH : ∀ k∈t.kids,lY B F n₀ E k) (h1 : n₀≤B) (h2 : n₀≤F) (hM : ∀ d,E8 E t.text.data.toList=some d→O8 d) (a : Option Addr) (cap : Nat) (c : CM) (kn : List (Option Int)) (ro rk : Nat→Nat) (S φ : List Int) (w : World) (hh : t.hold n₀ w a cap) (hc : Cls B F c kn ro rk S φ w) (he : PEnv E B F c w)
 (hp : ∀ i,i<E.params.length→φ[i]?=some (5 + (i : Int))) (hs : c.up.length + 10 * i7 t≤900000) (hts : t.text.data.toList.length≤1000000) :
 Calls Tryz.prog 92 #[.pointer (some ⟨F,0,none⟩),.agg #[.int .i64 t.kind,.string t.text,.int .i64 t.n,.slice a t.kids.length cap,.int .i64 t.place]] w (l9 B F c φ (10 * i7 t) (cY E t S) w):=by
 have hkc:=hh.bounds.2.2.2.2
 have hkl : t.kids.length≤9223372036854775807:=Nat.le_trans hkc.1 hkc.2
 obtain ⟨W1,hW1⟩ : ∃ W,W=w.alloc (.cells #[.int .i64 t.kind,.string t.text,.int .i64 t.n,.slice a t.kids.length cap,.int .i64 t.place] 24):=⟨_,rfl⟩
 have B1:=hid (show Below w.heap.size w W1.drew from hW1 ▸ r8 (a7 _ _))
 have N1:=hid (show c6 w.heap.size t a cap W1.drew from hW1 ▸ c6.make w t a cap)
 have HC:=hid (hc.below B1)
 have HE:=hid (he.below B1 hc.hin.le)
 have HWB:=hid (show B≤w.heap.size from hc.hin.le)
 have HH:=hid (hh.below (B1.out.mono (show n₀≤w.heap.size by have:=hc.hin.le; omega)))
 have HIH:=hid IH
 have HA1:=hid (show s7 F c W1.drew w.heap.size from hc.apart_new (Nat.le_refl _) N1.out.lt)
 have HP:=hid hp
 have HS:=hid hs
 have HB12:=hid (show n₀≤B∧n₀≤F from ⟨h1,h2⟩)
 have HTS:=hid hts
 have HMO:=hid hM
 have hbt:=bR t.text
 obtain ⟨b3,n3',f3,em3,hav3,hm3,hf3⟩:=HE.out.params
 have hlk:=(hm3.look dE Tryz.underlying58 (iP W1.drew) (bC (s:=t.text.data.toList) (by unfold maxLen; omega))).1
 rw [hf3] at hlk
 rw [hbt] at hlk
 have hmap:=HC.out.hin.maps.2.2.2.1
 rw [em3] at hmap
 have hFl:=HC.out.hin.maps.2.2.2.2
 obtain ⟨⟨n0,n1,n2,n3,n4⟩,-⟩:=N1.out.cells
 have hb0:=N1.out.lt
 clear hh hc he hp hs IH h1 h2 hts hM hm3 hf3 em3 hav3 hkc
 go_enter Tryz.func92,Tryz.ntmps92
 go_upto_region 1 with fail
 rw [← hW1]
 clear hW1
 cases hfi : E.params.findIdx? (fun p => p == t.text.data.toList) with
 | some i =>
   rw [hfi] at hlk
   have hx:=a0d (S:=S) hfi
   have hi : i<E.params.length:=(List.findIdx?_eq_some_iff_getElem.1 hfi).1
   have HX:=hid hx
   have HI:=hid hi
   clear hx hi hfi
   by_cases hz : t.kids.length=0
   ·have hx2:=HX.out
    rw [if_pos hz] at hx2
    have HX2:=hid hx2
    have hng : ¬ 0<t.kids.length:=by omega
    clear hx2 HX
    have HZ:=hid hz
    clear hz
    refine wp_region_held_drew (S:=fun cur => cur.cell? ⟨F,3,none⟩=some (.map (some b3))∧cur.cell? ⟨w.heap.size,1,none⟩=some (.string t.text)∧(Instr.lookup 58 (.map (some b3)) (.string t.text) true).run Tryz.prog cur=.ok (.tuple #[.int .i64 (i : Nat),.bool true]) cur) (by kernel_rfl) ?_ (fun hHeld => ?_)
    ·exact ⟨hmap,n1,hlk⟩
    refine a8 0 ?_; refine a8 1 ?_; refine a8 2 ?_; refine a8 3 ?_; refine a8 4 ?_; refine a8 5 ?_; refine a8 6 ?_; refine a8 7 ?_; refine a8 8 ?_; refine a8 9 ?_; refine a8 10 ?_; refine a8 11 ?_
    refine wpAnyH_done (by kernel_rfl) ?_ _
    go_wp2_with fail
    go_ret
    rw [HX2.out]
    exact ⟨c,kn,ro,rk,[],i,rfl,Z8 (HP.out i HI),by rw [List.append_nil]; exact HC,Mv.of B1,V4.refl _ _,by omega⟩
   ·have hx2:=HX.out
    rw [if_neg hz] at hx2
    have HX2:=hid hx2
    have hng : 0<t.kids.length:=by omega
    clear hx2 HX hz
    refine wp_region_held_drew (S:=fun cur => cur.cell? ⟨F,3,none⟩=some (.map (some b3))∧cur.cell? ⟨w.heap.size,1,none⟩=some (.string t.text)∧(Instr.lookup 58 (.map (some b3)) (.string t.text) true).run Tryz.prog cur=.ok (.tuple #[.int .i64 (i : Nat),.bool true]) cur) (by kernel_rfl) ?_ (fun hHeld => ?_)
    ·exact ⟨hmap,n1,hlk⟩
    refine a8 0 ?_; refine a8 1 ?_; refine a8 2 ?_; refine a8 3 ?_; refine a8 4 ?_; refine a8 5 ?_; refine a8 6 ?_; refine a8 7 ?_; refine a8 8 ?_; refine a8 9 ?_; refine a8 10 ?_; refine a8 11 ?_
    refine wpAnyH_done (by kernel_rfl) ?_ _
    go_wp2_with fail
    (with_reducible refine Calls.mono (I9 114 t.place W1.drew) ?_)
    rintro e w8 ⟨rfl,rfl⟩
    exact And.intro rfl (qC HX2 (Off.of B1 HWB))
 | none =>
   rw [hfi] at hlk
   have hx:=wI (S:=S) hfi
   have HX:=hid hx
   clear hx hfi
   have CM:=hid (qZ E B F c kn t.text.data.toList W1.drew HC.out.hin HE HTS)
   rw [hbt] at CM
   refine wp_region_held_drew (S:=fun cur => cur.cell? ⟨F,3,none⟩=some (.map (some b3))∧cur.cell? ⟨w.heap.size,1,none⟩=some (.string t.text)∧(Instr.lookup 58 (.map (some b3)) (.string t.text) true).run Tryz.prog cur=.ok (.tuple #[.int .i64 0,.bool false]) cur) (by kernel_rfl) ?_ (fun hHeld => ?_)
   ·exact ⟨hmap,n1,hlk⟩
   refine a8 0 ?_; refine a8 1 ?_; refine a8 2 ?_; refine a8 3 ?_; refine a8 4 ?_; refine a8 5 ?_; refine a8 6 ?_; refine a8 7 ?_; refine a8 8 ?_; refine a8 9 ?_; refine a8 10 ?_; refine a8 11 ?_
   refine wpAnyH_done (by kernel_rfl) ?_ _
   go_wp2_with fail
   (with_reducible refine Calls.mono CM.out ?_)
   rintro e w2 ⟨nm,pa,pn,pc,r,rfl,hv,hb⟩
   obtain ⟨W3,hW3⟩ : ∃ W,W=w2.alloc (.cells #[.string nm,.slice pa pn pc,.int .i64 r] 36):=⟨_,rfl⟩
   have hb3:=hb.trans ((hW3 ▸ a7 _ _ : Below w2.heap.size w2 W3).mono hb.size)
   have B3:=hid (B1.out.trans (hb3.mono B1.out.size))
   have K3:=hid (show y5 w2.heap.size nm pa pn pc r W3 from hW3 ▸ y5.make _ _ _ _ _ _)
   have N3:=hid (N1.out.below hb3)
   have HAl:=hid (show s7 F c W3 w.heap.size∧s7 F c W3 w2.heap.size from ⟨HA1.out.grown hb3.size,(HC.out.below hb).apart_new (Nat.le_refl _) K3.out.cells.2.2⟩)
   have HC3:=hid (HC.out.below hb3)
   have HE3:=hid (HE.out.below hb3 (Nat.le_trans HWB B1.out.size))
   have HH3:=hid (HH.out.below (hb3.mono (show n₀≤W1.drew.heap.size by have:=HB12.out; have:=HWB.out; have:=B1.out.size; omega)))
   have hv3:=hv.move (W':=W3) (av':=Av B F) (fun b hb' => hW3 ▸ (a7 w2 _).block b (by have:=hb'.1; have:=HWB.out; have:=B1.out.size; have:=hb.size; omega)) fun _ h => h
   have HV:=hid hv3
   have hbz:=K3.out.cells.2.2
   clear hb hv hv3 hb3 n0 n1 n2 n3 n4 hmap hlk
   obtain ⟨⟨n0,n1,n2,n3,n4⟩,-⟩:=N3.out.cells
   obtain ⟨⟨k0,k1,k2⟩,-⟩:=K3.out.cells
   have hb03:=N3.out.lt
   cases hme : E8 E t.text.data.toList with
   | none =>
     have hx:=HX.out
     rw [hme] at hx
     have HX2:=hid hx
     clear hx hme CM HX
     go_upto_region 7 with fail
     rw [← hW3]
     clear hW3
     go_wp2_with fail
     (with_reducible refine Calls.mono (I9 113 t.place W3) ?_)
     rintro e w8 ⟨rfl,rfl⟩
     exact And.intro rfl (qC HX2 (Off.of B3 HWB))
   | some d =>
     have hx:=HX.out
     have hv:=HV.out
     rw [hme] at hx hv
     have HO:=hid (HMO.out d hme)
     obtain ⟨pa',pc',e,hI,hpc⟩:=hv
     obtain ⟨rfl,⟨rfl,rfl,rfl⟩,rfl⟩ : nm=bsA d.name∧(pa=pa'∧pn=d.params.length∧pc=pc')∧r=d.result:=by
      have h:=congrArg Array.toList (Value.agg.inj e)
      simp at h
      exact ⟨h.1,h.2.1,h.2.2⟩
     have HII:=hid hI
     have HPC:=hid hpc
     have hpl : d.params.length≤9223372036854775807:=by have:=HO.out.1; omega
     by_cases hk : d.params.length=t.kids.length
     ·have hx2 : cY E t S=cA E t.kids (d.params ++ [d.result]) S:=hx.trans (if_pos hk)
      have HX2:=hid hx2
      have e1 : ((d.params.length : Int) != (t.kids.length : Int))=false:=by rw [hk]; exact bne_self_eq_false _
      have HK:=hid hk
      clear hx hx2 hme CM HX HV e hI hpc hk
      have BD:=hid (show Below W3.heap.size W3 W3.drew from r8 (Below.refl _ _))
      have HC4:=hid (HC3.out.below BD)
      have HE4:=hid (HE3.out.below BD (Nat.le_trans HWB B3.out.size))
      have HH4:=hid (HH3.out.below (BD.out.mono (show n₀≤W3.heap.size by have:=HB12.out; have:=HWB.out; have:=B3.out.size; omega)))
      have B4:=hid (show Below w.heap.size w W3.drew from r8 B3)
      have HAv:=hid (show ∀ b,Av B F b→b<W3.drew.heap.size from fun b hb => by have:=hb.1; have:=HWB.out; have:=B4.out.size; omega)
      have HI4:=hid (show y6 (Av B F) W3.drew pa d.params from HII.out.move (fun _ _ => rfl) fun _ h => h)
      have hsz9:=hid (show c.up.length + 10≤1000000 by have:=HS.out; omega)
      have C:=hid (pG (Av B F) B F c kn ro rk S φ (bsA d.name) d.params d.result pa pc W3.drew HC4 hsz9 HI4 HPC.out.2.2 HAv HO.out.1 HO.out.2)
      have HUK:=hid (fun e w' hu => nW (e:=e) (w':=w') HIH HB12.out.1 HB12.out.2 HH4 HC4 HE4 HP HS (L:=d.params ++ [d.result]) (by simp [HK.out]) (by have:=HO.out.1; simp; omega) hu)
      have HAl4:=hid (show s7 F c W3.drew w.heap.size∧s7 F c W3.drew w2.heap.size from ⟨HAl.out.1.grown BD.out.size,HAl.out.2.grown BD.out.size⟩)
      have N4:=hid (show c6 w.heap.size t a cap W3.drew from N3)
      have K4:=hid (show y5 w2.heap.size (bsA d.name) pa d.params.length pc d.result W3.drew from K3)
      go_upto_region 7 with fail
      rw [← hW3]
      clear hW3
      go_upto_region 11 with fail
      clear n0 n1 n2 n3 n4 k0 k1 k2
      obtain ⟨⟨n0,n1,n2,n3,n4⟩,-⟩:=N4.out.cells
      obtain ⟨⟨k0,k1,k2⟩,-⟩:=K4.out.cells
      generalize cA E t.kids (d.params ++ [d.result]) S=X at HUK HX2
      refine wp_region_held_drew (S:=fun cur => (cur.cell? ⟨w2.heap.size,0,none⟩=some (.string (bsA d.name))∧cur.cell? ⟨w2.heap.size,1,none⟩=some (.slice pa d.params.length pc)∧cur.cell? ⟨w2.heap.size,2,none⟩=some (.int .i64 d.result))∧cur.cell? ⟨w.heap.size,0,none⟩=some (.int .i64 t.kind)∧cur.cell? ⟨w.heap.size,1,none⟩=some (.string t.text)∧cur.cell? ⟨w.heap.size,2,none⟩=some (.int .i64 t.n)∧cur.cell? ⟨w.heap.size,3,none⟩=some (.slice a t.kids.length cap)∧cur.cell? ⟨w.heap.size,4,none⟩=some (.int .i64 t.place)) (by kernel_rfl) ?_ (fun hHeld => ?_)
      ·exact ⟨⟨k0,k1,k2⟩,n0,n1,n2,n3,n4⟩
      refine a8 0 ?_; refine a8 1 ?_; refine a8 2 ?_; refine a8 3 ?_
      refine wpAnyH_ready (rs:=[4]) (by kernel_rfl) (by simp) ?_
      refine AllReadyH.cons (r6 rfl) (fun K hK => ?_) AllReadyH.nil
      go_simp
      (with_reducible refine Calls.mono C.out ?_)
      intro e w6 hu
      obtain ⟨g2,cp2,rfl,hkeep,hsz,C2⟩:=HUK.out _ _ hu
      have N6:=hid (show c6 w.heap.size t a cap w6 from (hkeep _ HAl4.out.1).trans N4)
      have K6:=hid (show y5 w2.heap.size (bsA d.name) pa d.params.length pc d.result w6 from (hkeep _ HAl4.out.2).trans K4)
      have HC2:=hid C2
      obtain ⟨⟨m0,m1,m2,m3,m4⟩,-⟩:=N6.out.cells
      obtain ⟨⟨l0,l1,l2⟩,-⟩:=K6.out.cells
      refine hK.out _ _ ⟨⟨l0,l1,l2⟩,m0,m1,m2,m3,m4⟩ (fun hHeld => ?_)
      clear hK K hu C2 hkeep C HUK
      try simp only [Act.put,j6,v6,v7]
      refine wpAnyH_ready (rs:=[5]) (by kernel_rfl) (by simp) ?_
      refine AllReadyH.cons (r6 rfl) (fun K hK => ?_) AllReadyH.nil
      go_simp
      (with_reducible refine Calls.mono HC2.out ?_)
      intro e w7 hr
      cases X with
      | error q =>
        obtain ⟨k0,p0⟩:=q
        have hr2:=l9.from hr B4 HWB
        obtain ⟨rfl,ho⟩:=hr2
        exact And.intro rfl (qC HX2 ho)
      | ok q =>
        obtain ⟨T,S2⟩:=q
        have hr2:=l9.from hr B4 HWB
        obtain ⟨c',kn',ro',rk',l',y,rfl,-,-,hm,-⟩:=hr
        have N7:=hid (show c6 w.heap.size t a cap w7 from (hm.far HAl4.out.1.1).2.trans N4)
        have K7:=hid (show y5 w2.heap.size (bsA d.name) pa d.params.length pc d.result w7 from (hm.far HAl4.out.2.1).2.trans K4)
        obtain ⟨⟨q0,q1,q2,q3,q4⟩,-⟩:=N7.out.cells
        obtain ⟨⟨g0,g1,g2⟩,-⟩:=K7.out.cells
        have HR:=hid hr2
        clear hr2 hm
        refine hK.out _ _ ⟨⟨g0,g1,g2⟩,q0,q1,q2,q3,q4⟩ (fun hHeld => ?_)
        clear hK K
        try simp only [Act.put,j6,v6,v7]
        refine a8 6 ?_
        refine wpAnyH_done (by kernel_rfl) ?_ _
        go_wp2_with fail
        go_ret
        rw [HX2.out]
        exact HR
     ·have hx2 : cY E t S=.error (114,t.place):=hx.trans (if_neg hk)
      have HX2:=hid hx2
      have e1 : ((d.params.length : Int) != (t.kids.length : Int))=true:=bne_iff_ne.2 (fun h => hk (Int.ofNat.inj h))
      clear hx hx2 hme CM HX HV e hI hpc hk
      go_upto_region 7 with fail
      rw [← hW3]
      clear hW3
      go_wp2_with fail
      (with_reducible refine Calls.mono (I9 114 t.place W3) ?_)
      rintro e w8 ⟨rfl,rfl⟩
      exact And.intro rfl (qC HX2 (Off.of B3 HWB))
end
section
open Lib (hid)
open Go.RowKit
structure QIn (B F n₀ : Nat) (E : Env7) (t : Nd) (a : Option Addr) (cap : Nat) (c : CM) (kn : List (Option Int)) (ro rk : Nat→Nat) (S φ : List Int) (w : World) : Prop where
 ih : ∀ k∈t.kids,lY B F n₀ E k
 n1 : n₀≤B
 n2 : n₀≤F
 hh : t.hold n₀ w a cap
 hc : Cls B F c kn ro rk S φ w
 he : PEnv E B F c w
 hp : ∀ i,i<E.params.length→φ[i]?=some (5 + (i : Int))
 hs : c.up.length + 10 * i7 t≤900000
theorem QIn.below {B F n₀ : Nat} {E : Env7} {t : Nd} {a : Option Addr} {cap : Nat} {c : CM} {kn : List (Option Int)} {ro rk : Nat→Nat} {S φ : List Int} {w w' : World} (h : QIn B F n₀ E t a cap c kn ro rk S φ w) (hb : Below w.heap.size w w') : QIn B F n₀ E t a cap c kn ro rk S φ w' :=
 ⟨h.ih,h.n1,h.n2,h.hh.below (hb.mono (Nat.le_trans h.n1 h.hc.hin.le)),h.hc.below hb,h.he.below hb h.hc.hin.le,h.hp,h.hs⟩
theorem O2 (w : World) (l : List Int) (j : Nat) (hj : j<l.length) : (w.alloc (.cells (l.map fun (n : Int) => Value.int .i64 n).toArray 3)).cell? ⟨w.heap.size,j,none⟩=some (.int .i64 l[j]):=by
 simp only [World.cell?,U6]
 simp [hj]
theorem gD {B F : Nat} {c : CM} {φ : List Int} {n : Nat} {x : Ty Int} {T : Int} {S' : List Int} {w w' : World} {e : Ending} (hx : x=.ok (T,S')) (h : l9 B F c φ n (.ok (T,S')) w e w') : l9 B F c φ n x w e w':=hx ▸ h
theorem mV {t : Nd} (h : t.kids.length=0) : t.kids=[]:=List.length_eq_zero_iff.1 h
section
variable {B F n₀ : Nat} {E : Env7} {t : Nd} {a : Option Addr} {cap : Nat} {c : CM} {kn : List (Option Int)} {ro rk : Nat→Nat} {S φ : List Int} {w : World}
theorem a4E (hk : t.kind=5) (h0 : t.kids=[]) : g9 E t S=.ok (0,S):=by
 cases t with
 | mk kd s n ks p =>
   obtain rfl : kd=5:=hk
   obtain rfl : ks=[]:=h0
   rfl
theorem a3A (h : QIn B F n₀ E t a cap c kn ro rk S φ w) (hk : t.kind=5) (h0 : t.kids.length=0) :
 Calls Tryz.prog 54 #[.pointer (some ⟨F,0,none⟩),.agg #[.int .i64 t.kind,.string t.text,.int .i64 t.n,.slice a t.kids.length cap,.int .i64 t.place]] w (l9 B F c φ (10 * i7 t) (g9 E t S) w):=by
 obtain ⟨W1,hW1⟩ : ∃ W,W=w.alloc (.cells #[.int .i64 5,.string t.text,.int .i64 t.n,.slice a t.kids.length cap,.int .i64 t.place] 24):=⟨_,rfl⟩
 have B1:=hid (show Below w.heap.size w W1 from hW1 ▸ a7 _ _)
 have N1:=hid (show c6 w.heap.size t a cap W1 by rw [hW1]; have:=c6.make w t a cap; rwa [hk] at this)
 have HN:=hid (t8 t)
 have HX:=hid (a4E (E:=E) (S:=S) hk (mV h0))
 have HL:=hid (show φ.length=c.up.length from h.hc.sim.len.2)
 have C:=hid (eL (h.hc.below B1) (by have:=h.hs; omega) 0 (by decide))
 obtain ⟨⟨n0,n1,n2,n3,n4⟩,-⟩:=N1.out.cells
 have hb0:=N1.out.lt
 rw [hk] at n0 ⊢
 clear h h0
 go_enter Tryz.func54,Tryz.ntmps54
 go_upto_region 1 with fail
 rw [← hW1]
 clear hW1 hk
 go_wp2_with fail
 (with_reducible refine Calls.mono C.out ?_)
 rintro e w2 ⟨c2,kn2,ro2,rk2,rfl,hl2,hcl,hm,hnp⟩
 have HR:=hid (show l9 B F c φ (10 * i7 t) (g9 E t S) w (.returned (.int .i64 (c.up.length : Nat))) w2 from gD HX ⟨c2,kn2,ro2,rk2,[0],c.up.length,rfl,by rw [← HL.out]; simp,hcl,(Mv.of B1).trans hm,(V4.refl c w).trans hnp B1.out.size,by have:=HN.out; omega⟩)
 clear hl2 hcl hm hnp C
 go_wp2_with fail
 go_ret
 exact HR
theorem a5a (hk : t.kind=9) (h0 : t.kids=[]) : g9 E t S=.ok (0,S):=by
 cases t with
 | mk kd s n ks p =>
   obtain rfl : kd=9:=hk
   obtain rfl : ks=[]:=h0
   rfl
theorem a3G (h : QIn B F n₀ E t a cap c kn ro rk S φ w) (hk : t.kind=9) (h0 : t.kids.length=0) :
 Calls Tryz.prog 54 #[.pointer (some ⟨F,0,none⟩),.agg #[.int .i64 t.kind,.string t.text,.int .i64 t.n,.slice a t.kids.length cap,.int .i64 t.place]] w (l9 B F c φ (10 * i7 t) (g9 E t S) w):=by
 obtain ⟨W1,hW1⟩ : ∃ W,W=w.alloc (.cells #[.int .i64 9,.string t.text,.int .i64 t.n,.slice a t.kids.length cap,.int .i64 t.place] 24):=⟨_,rfl⟩
 have B1:=hid (show Below w.heap.size w W1 from hW1 ▸ a7 _ _)
 have N1:=hid (show c6 w.heap.size t a cap W1 by rw [hW1]; have:=c6.make w t a cap; rwa [hk] at this)
 have HN:=hid (t8 t)
 have HX:=hid (a5a (E:=E) (S:=S) hk (mV h0))
 have HL:=hid (show φ.length=c.up.length from h.hc.sim.len.2)
 have C:=hid (eL (h.hc.below B1) (by have:=h.hs; omega) 0 (by decide))
 obtain ⟨⟨n0,n1,n2,n3,n4⟩,-⟩:=N1.out.cells
 have hb0:=N1.out.lt
 rw [hk] at n0 ⊢
 clear h h0
 go_enter Tryz.func54,Tryz.ntmps54
 go_upto_region 1 with fail
 rw [← hW1]
 clear hW1 hk
 go_wp2_with fail
 (with_reducible refine Calls.mono C.out ?_)
 rintro e w2 ⟨c2,kn2,ro2,rk2,rfl,hl2,hcl,hm,hnp⟩
 have HR:=hid (show l9 B F c φ (10 * i7 t) (g9 E t S) w (.returned (.int .i64 (c.up.length : Nat))) w2 from gD HX ⟨c2,kn2,ro2,rk2,[0],c.up.length,rfl,by rw [← HL.out]; simp,hcl,(Mv.of B1).trans hm,(V4.refl c w).trans hnp B1.out.size,by have:=HN.out; omega⟩)
 clear hl2 hcl hm hnp C
 go_wp2_with fail
 go_ret
 exact HR
theorem a4B (hk : t.kind=8) (h0 : t.kids=[]) : g9 E t S=.ok (1,S):=by
 cases t with
 | mk kd s n ks p =>
   obtain rfl : kd=8:=hk
   obtain rfl : ks=[]:=h0
   rfl
theorem a3K (h : QIn B F n₀ E t a cap c kn ro rk S φ w) (hk : t.kind=8) (h0 : t.kids.length=0) :
 Calls Tryz.prog 54 #[.pointer (some ⟨F,0,none⟩),.agg #[.int .i64 t.kind,.string t.text,.int .i64 t.n,.slice a t.kids.length cap,.int .i64 t.place]] w (l9 B F c φ (10 * i7 t) (g9 E t S) w):=by
 obtain ⟨W1,hW1⟩ : ∃ W,W=w.alloc (.cells #[.int .i64 8,.string t.text,.int .i64 t.n,.slice a t.kids.length cap,.int .i64 t.place] 24):=⟨_,rfl⟩
 have B1:=hid (show Below w.heap.size w W1 from hW1 ▸ a7 _ _)
 have N1:=hid (show c6 w.heap.size t a cap W1 by rw [hW1]; have:=c6.make w t a cap; rwa [hk] at this)
 have HN:=hid (t8 t)
 have HX:=hid (a4B (E:=E) (S:=S) hk (mV h0))
 have HL:=hid (show φ.length=c.up.length from h.hc.sim.len.2)
 have C:=hid (eL (h.hc.below B1) (by have:=h.hs; omega) 1 (by decide))
 obtain ⟨⟨n0,n1,n2,n3,n4⟩,-⟩:=N1.out.cells
 have hb0:=N1.out.lt
 rw [hk] at n0 ⊢
 clear h h0
 go_enter Tryz.func54,Tryz.ntmps54
 go_upto_region 1 with fail
 rw [← hW1]
 clear hW1 hk
 go_wp2_with fail
 (with_reducible refine Calls.mono C.out ?_)
 rintro e w2 ⟨c2,kn2,ro2,rk2,rfl,hl2,hcl,hm,hnp⟩
 have HR:=hid (show l9 B F c φ (10 * i7 t) (g9 E t S) w (.returned (.int .i64 (c.up.length : Nat))) w2 from gD HX ⟨c2,kn2,ro2,rk2,[1],c.up.length,rfl,by rw [← HL.out]; simp,hcl,(Mv.of B1).trans hm,(V4.refl c w).trans hnp B1.out.size,by have:=HN.out; omega⟩)
 clear hl2 hcl hm hnp C
 go_wp2_with fail
 go_ret
 exact HR
theorem a41 (hk : t.kind=6) (h0 : t.kids=[]) : g9 E t S=.ok (2,S):=by
 cases t with
 | mk kd s n ks p =>
   obtain rfl : kd=6:=hk
   obtain rfl : ks=[]:=h0
   rfl
theorem a4i (h : QIn B F n₀ E t a cap c kn ro rk S φ w) (hk : t.kind=6) (h0 : t.kids.length=0) :
 Calls Tryz.prog 54 #[.pointer (some ⟨F,0,none⟩),.agg #[.int .i64 t.kind,.string t.text,.int .i64 t.n,.slice a t.kids.length cap,.int .i64 t.place]] w (l9 B F c φ (10 * i7 t) (g9 E t S) w):=by
 obtain ⟨W1,hW1⟩ : ∃ W,W=w.alloc (.cells #[.int .i64 6,.string t.text,.int .i64 t.n,.slice a t.kids.length cap,.int .i64 t.place] 24):=⟨_,rfl⟩
 have B1:=hid (show Below w.heap.size w W1 from hW1 ▸ a7 _ _)
 have N1:=hid (show c6 w.heap.size t a cap W1 by rw [hW1]; have:=c6.make w t a cap; rwa [hk] at this)
 have HN:=hid (t8 t)
 have HX:=hid (a41 (E:=E) (S:=S) hk (mV h0))
 have HL:=hid (show φ.length=c.up.length from h.hc.sim.len.2)
 have C:=hid (eL (h.hc.below B1) (by have:=h.hs; omega) 2 (by decide))
 obtain ⟨⟨n0,n1,n2,n3,n4⟩,-⟩:=N1.out.cells
 have hb0:=N1.out.lt
 rw [hk] at n0 ⊢
 clear h h0
 go_enter Tryz.func54,Tryz.ntmps54
 go_upto_region 1 with fail
 rw [← hW1]
 clear hW1 hk
 go_wp2_with fail
 (with_reducible refine Calls.mono C.out ?_)
 rintro e w2 ⟨c2,kn2,ro2,rk2,rfl,hl2,hcl,hm,hnp⟩
 have HR:=hid (show l9 B F c φ (10 * i7 t) (g9 E t S) w (.returned (.int .i64 (c.up.length : Nat))) w2 from gD HX ⟨c2,kn2,ro2,rk2,[2],c.up.length,rfl,by rw [← HL.out]; simp,hcl,(Mv.of B1).trans hm,(V4.refl c w).trans hnp B1.out.size,by have:=HN.out; omega⟩)
 clear hl2 hcl hm hnp C
 go_wp2_with fail
 go_ret
 exact HR
theorem a44 (hk : t.kind=7) (h0 : t.kids=[]) : g9 E t S=.ok (3,S):=by
 cases t with
 | mk kd s n ks p =>
   obtain rfl : kd=7:=hk
   obtain rfl : ks=[]:=h0
   rfl
theorem a3E (h : QIn B F n₀ E t a cap c kn ro rk S φ w) (hk : t.kind=7) (h0 : t.kids.length=0) :
 Calls Tryz.prog 54 #[.pointer (some ⟨F,0,none⟩),.agg #[.int .i64 t.kind,.string t.text,.int .i64 t.n,.slice a t.kids.length cap,.int .i64 t.place]] w (l9 B F c φ (10 * i7 t) (g9 E t S) w):=by
 obtain ⟨W1,hW1⟩ : ∃ W,W=w.alloc (.cells #[.int .i64 7,.string t.text,.int .i64 t.n,.slice a t.kids.length cap,.int .i64 t.place] 24):=⟨_,rfl⟩
 have B1:=hid (show Below w.heap.size w W1 from hW1 ▸ a7 _ _)
 have N1:=hid (show c6 w.heap.size t a cap W1 by rw [hW1]; have:=c6.make w t a cap; rwa [hk] at this)
 have HN:=hid (t8 t)
 have HX:=hid (a44 (E:=E) (S:=S) hk (mV h0))
 have HL:=hid (show φ.length=c.up.length from h.hc.sim.len.2)
 have C:=hid (eL (h.hc.below B1) (by have:=h.hs; omega) 3 (by decide))
 obtain ⟨⟨n0,n1,n2,n3,n4⟩,-⟩:=N1.out.cells
 have hb0:=N1.out.lt
 rw [hk] at n0 ⊢
 clear h h0
 go_enter Tryz.func54,Tryz.ntmps54
 go_upto_region 1 with fail
 rw [← hW1]
 clear hW1 hk
 go_wp2_with fail
 (with_reducible refine Calls.mono C.out ?_)
 rintro e w2 ⟨c2,kn2,ro2,rk2,rfl,hl2,hcl,hm,hnp⟩
 have HR:=hid (show l9 B F c φ (10 * i7 t) (g9 E t S) w (.returned (.int .i64 (c.up.length : Nat))) w2 from gD HX ⟨c2,kn2,ro2,rk2,[3],c.up.length,rfl,by rw [← HL.out]; simp,hcl,(Mv.of B1).trans hm,(V4.refl c w).trans hnp B1.out.size,by have:=HN.out; omega⟩)
 clear hl2 hcl hm hnp C
 go_wp2_with fail
 go_ret
 exact HR
theorem a34 (hk : t.kind=14) : g9 E t S=cA E t.kids ([1,5,5] ++ [5]) S:=by
 cases t with
 | mk kd s n ks p =>
   obtain rfl : kd=14:=hk
   rfl
theorem a1C (h : QIn B F n₀ E t a cap c kn ro rk S φ w) (hk : t.kind=14) (hn : t.kids.length=3) :
 Calls Tryz.prog 54 #[.pointer (some ⟨F,0,none⟩),.agg #[.int .i64 t.kind,.string t.text,.int .i64 t.n,.slice a t.kids.length cap,.int .i64 t.place]] w (l9 B F c φ (10 * i7 t) (g9 E t S) w):=by
 obtain ⟨W1,hW1⟩ : ∃ W,W=w.alloc (.cells #[.int .i64 14,.string t.text,.int .i64 t.n,.slice a 3 cap,.int .i64 t.place] 24):=⟨_,rfl⟩
 obtain ⟨W2,hW2⟩ : ∃ W,W=W1.alloc (.cells #[.int .i64 1,.int .i64 5,.int .i64 5,.int .i64 5] 3):=⟨_,rfl⟩
 have B1:=hid (show Below w.heap.size w W1 from hW1 ▸ a7 _ _)
 have B2:=hid (show Below W1.heap.size W1 W2 from hW2 ▸ a7 _ _)
 have hlt2 : W1.heap.size<W2.heap.size:=by rw [hW2]; simp
 have N1:=hid (show c6 w.heap.size t a cap W1 by rw [hW1]; have:=c6.make w t a cap; rwa [hk,hn] at this)
 have HX:=hid (a34 (E:=E) (S:=S) hk)
 have B12:=hid (B1.out.trans (B2.out.mono B1.out.size))
 have HWB:=hid (show B≤w.heap.size from h.hc.hin.le)
 have h2:=h.below B12
 have C:=hid (y4 B F n₀ E t h2.ih h2.n1 h2.n2 a cap c kn ro rk S φ [1,5,5] 5 W1.heap.size 4 W2 h2.hh h2.hc h2.he h2.hp h2.hs (by rw [hn]; rfl) (by decide) (by decide) ((h.hc.below B1).apart_new (Nat.le_refl _) hlt2) (by decide) (fun j hj => by rw [hW2]; exact O2 W1 ([1,5,5] ++ [5]) j hj))
 rw [← HX.out] at C
 obtain ⟨⟨n0,n1,n2,n3,n4⟩,-⟩:=N1.out.cells
 have hb0:=N1.out.lt
 rw [hk] at n0
 rw [hn] at n3
 rw [hk,hn] at C ⊢
 rw [show ([1,5,5] : List Int).length + 1=4 from rfl] at C
 generalize g9 E t S=X at C
 clear h h2 HX
 go_enter Tryz.func54,Tryz.ntmps54
 go_upto_region 1 with fail
 rw [← hW1]
 clear hW1 hk hn
 go_wp2_with fail
 rw [← hW2]
 clear hW2
 (with_reducible refine Calls.mono C.out ?_)
 intro e w6 hr
 have hr2:=l9.from hr B12 HWB
 cases X with
 | error q =>
   obtain ⟨k0,p0⟩:=q
   obtain ⟨rfl,ho⟩:=hr2
   exact And.intro rfl ⟨rfl,ho⟩
 | ok q =>
   obtain ⟨T,S2⟩:=q
   have HR:=hid hr2
   obtain ⟨c',kn',ro',rk',l',y,rfl,-⟩:=hr
   clear hr2 C
   go_wp2_with fail
   go_ret
   exact HR
theorem a4a (hk : t.kind=15) : g9 E t S=cA E t.kids ([2,4,4] ++ [4]) S:=by
 cases t with
 | mk kd s n ks p =>
   obtain rfl : kd=15:=hk
   rfl
theorem a1V (h : QIn B F n₀ E t a cap c kn ro rk S φ w) (hk : t.kind=15) (hn : t.kids.length=3) :
 Calls Tryz.prog 54 #[.pointer (some ⟨F,0,none⟩),.agg #[.int .i64 t.kind,.string t.text,.int .i64 t.n,.slice a t.kids.length cap,.int .i64 t.place]] w (l9 B F c φ (10 * i7 t) (g9 E t S) w):=by
 obtain ⟨W1,hW1⟩ : ∃ W,W=w.alloc (.cells #[.int .i64 15,.string t.text,.int .i64 t.n,.slice a 3 cap,.int .i64 t.place] 24):=⟨_,rfl⟩
 obtain ⟨W2,hW2⟩ : ∃ W,W=W1.alloc (.cells #[.int .i64 2,.int .i64 4,.int .i64 4,.int .i64 4] 3):=⟨_,rfl⟩
 have B1:=hid (show Below w.heap.size w W1 from hW1 ▸ a7 _ _)
 have B2:=hid (show Below W1.heap.size W1 W2 from hW2 ▸ a7 _ _)
 have hlt2 : W1.heap.size<W2.heap.size:=by rw [hW2]; simp
 have N1:=hid (show c6 w.heap.size t a cap W1 by rw [hW1]; have:=c6.make w t a cap; rwa [hk,hn] at this)
 have HX:=hid (a4a (E:=E) (S:=S) hk)
 have B12:=hid (B1.out.trans (B2.out.mono B1.out.size))
 have HWB:=hid (show B≤w.heap.size from h.hc.hin.le)
 have h2:=h.below B12
 have C:=hid (y4 B F n₀ E t h2.ih h2.n1 h2.n2 a cap c kn ro rk S φ [2,4,4] 4 W1.heap.size 4 W2 h2.hh h2.hc h2.he h2.hp h2.hs (by rw [hn]; rfl) (by decide) (by decide) ((h.hc.below B1).apart_new (Nat.le_refl _) hlt2) (by decide) (fun j hj => by rw [hW2]; exact O2 W1 ([2,4,4] ++ [4]) j hj))
 rw [← HX.out] at C
 obtain ⟨⟨n0,n1,n2,n3,n4⟩,-⟩:=N1.out.cells
 have hb0:=N1.out.lt
 rw [hk] at n0
 rw [hn] at n3
 rw [hk,hn] at C ⊢
 rw [show ([2,4,4] : List Int).length + 1=4 from rfl] at C
 generalize g9 E t S=X at C
 clear h h2 HX
 go_enter Tryz.func54,Tryz.ntmps54
 go_upto_region 1 with fail
 rw [← hW1]
 clear hW1 hk hn
 go_wp2_with fail
 rw [← hW2]
 clear hW2
 (with_reducible refine Calls.mono C.out ?_)
 intro e w6 hr
 have hr2:=l9.from hr B12 HWB
 cases X with
 | error q =>
   obtain ⟨k0,p0⟩:=q
   obtain ⟨rfl,ho⟩:=hr2
   exact And.intro rfl ⟨rfl,ho⟩
 | ok q =>
   obtain ⟨T,S2⟩:=q
   have HR:=hid hr2
   obtain ⟨c',kn',ro',rk',l',y,rfl,-⟩:=hr
   clear hr2 C
   go_wp2_with fail
   go_ret
   exact HR
theorem a2P (hk : t.kind=12) (ht : t.text=⟨#[45]⟩) : g9 E t S=cA E t.kids ([0] ++ [0]) S:=by
 cases t with
 | mk kd s n ks p =>
   obtain rfl : kd=12:=hk
   obtain rfl : s=⟨#[45]⟩:=ht
   rfl
theorem a0T (h : QIn B F n₀ E t a cap c kn ro rk S φ w) (hk : t.kind=12) (ht : t.text=⟨#[45]⟩) (hn : t.kids.length=1) :
 Calls Tryz.prog 54 #[.pointer (some ⟨F,0,none⟩),.agg #[.int .i64 t.kind,.string t.text,.int .i64 t.n,.slice a t.kids.length cap,.int .i64 t.place]] w (l9 B F c φ (10 * i7 t) (g9 E t S) w):=by
 obtain ⟨W1,hW1⟩ : ∃ W,W=w.alloc (.cells #[.int .i64 12,.string ⟨#[45]⟩,.int .i64 t.n,.slice a 1 cap,.int .i64 t.place] 24):=⟨_,rfl⟩
 obtain ⟨W2,hW2⟩ : ∃ W,W=W1.alloc (.cells #[.int .i64 0,.int .i64 0] 3):=⟨_,rfl⟩
 have B1:=hid (show Below w.heap.size w W1 from hW1 ▸ a7 _ _)
 have B2:=hid (show Below W1.heap.size W1 W2 from hW2 ▸ a7 _ _)
 have hlt2 : W1.heap.size<W2.heap.size:=by rw [hW2]; simp
 have N1:=hid (show c6 w.heap.size t a cap W1 by rw [hW1]; have:=c6.make w t a cap; rwa [hk,hn,ht] at this)
 have HX:=hid (a2P (E:=E) (S:=S) hk ht)
 have B12:=hid (B1.out.trans (B2.out.mono B1.out.size))
 have HWB:=hid (show B≤w.heap.size from h.hc.hin.le)
 have h2:=h.below B12
 have C:=hid (y4 B F n₀ E t h2.ih h2.n1 h2.n2 a cap c kn ro rk S φ [0] 0 W1.heap.size 2 W2 h2.hh h2.hc h2.he h2.hp h2.hs (by rw [hn]; rfl) (by decide) (by decide) ((h.hc.below B1).apart_new (Nat.le_refl _) hlt2) (by decide) (fun j hj => by rw [hW2]; exact O2 W1 ([0] ++ [0]) j hj))
 rw [← HX.out] at C
 obtain ⟨⟨n0,n1,n2,n3,n4⟩,-⟩:=N1.out.cells
 have hb0:=N1.out.lt
 rw [hk] at n0
 rw [hn] at n3
 rw [ht] at n1
 rw [hk,hn,ht] at C ⊢
 rw [show ([0] : List Int).length + 1=2 from rfl] at C
 generalize g9 E t S=X at C
 clear h h2 HX
 go_enter Tryz.func54,Tryz.ntmps54
 go_upto_region 1 with fail
 rw [← hW1]
 clear hW1 hk hn ht
 go_wp2_with fail
 rw [← hW2]
 clear hW2
 (with_reducible refine Calls.mono C.out ?_)
 intro e w6 hr
 have hr2:=l9.from hr B12 HWB
 cases X with
 | error q =>
   obtain ⟨k0,p0⟩:=q
   obtain ⟨rfl,ho⟩:=hr2
   exact And.intro rfl ⟨rfl,ho⟩
 | ok q =>
   obtain ⟨T,S2⟩:=q
   have HR:=hid hr2
   obtain ⟨c',kn',ro',rk',l',y,rfl,-⟩:=hr
   clear hr2 C
   go_wp2_with fail
   go_ret
   exact HR
theorem a1J (hk : t.kind=12) (ht : t.text=⟨#[110,111,116]⟩) : g9 E t S=cA E t.kids ([1] ++ [1]) S:=by
 cases t with
 | mk kd s n ks p =>
   obtain rfl : kd=12:=hk
   obtain rfl : s=⟨#[110,111,116]⟩:=ht
   rfl
theorem a1l (h : QIn B F n₀ E t a cap c kn ro rk S φ w) (hk : t.kind=12) (ht : t.text=⟨#[110,111,116]⟩) (hn : t.kids.length=1) :
 Calls Tryz.prog 54 #[.pointer (some ⟨F,0,none⟩),.agg #[.int .i64 t.kind,.string t.text,.int .i64 t.n,.slice a t.kids.length cap,.int .i64 t.place]] w (l9 B F c φ (10 * i7 t) (g9 E t S) w):=by
 obtain ⟨W1,hW1⟩ : ∃ W,W=w.alloc (.cells #[.int .i64 12,.string ⟨#[110,111,116]⟩,.int .i64 t.n,.slice a 1 cap,.int .i64 t.place] 24):=⟨_,rfl⟩
 obtain ⟨W2,hW2⟩ : ∃ W,W=W1.alloc (.cells #[.int .i64 1,.int .i64 1] 3):=⟨_,rfl⟩
 have B1:=hid (show Below w.heap.size w W1 from hW1 ▸ a7 _ _)
 have B2:=hid (show Below W1.heap.size W1 W2 from hW2 ▸ a7 _ _)
 have hlt2 : W1.heap.size<W2.heap.size:=by rw [hW2]; simp
 have N1:=hid (show c6 w.heap.size t a cap W1 by rw [hW1]; have:=c6.make w t a cap; rwa [hk,hn,ht] at this)
 have HX:=hid (a1J (E:=E) (S:=S) hk ht)
 have B12:=hid (B1.out.trans (B2.out.mono B1.out.size))
 have HWB:=hid (show B≤w.heap.size from h.hc.hin.le)
 have h2:=h.below B12
 have C:=hid (y4 B F n₀ E t h2.ih h2.n1 h2.n2 a cap c kn ro rk S φ [1] 1 W1.heap.size 2 W2 h2.hh h2.hc h2.he h2.hp h2.hs (by rw [hn]; rfl) (by decide) (by decide) ((h.hc.below B1).apart_new (Nat.le_refl _) hlt2) (by decide) (fun j hj => by rw [hW2]; exact O2 W1 ([1] ++ [1]) j hj))
 rw [← HX.out] at C
 obtain ⟨⟨n0,n1,n2,n3,n4⟩,-⟩:=N1.out.cells
 have hb0:=N1.out.lt
 rw [hk] at n0
 rw [hn] at n3
 rw [ht] at n1
 rw [hk,hn,ht] at C ⊢
 rw [show ([1] : List Int).length + 1=2 from rfl] at C
 generalize g9 E t S=X at C
 clear h h2 HX
 go_enter Tryz.func54,Tryz.ntmps54
 go_upto_region 1 with fail
 rw [← hW1]
 clear hW1 hk hn ht
 go_wp2_with fail
 rw [← hW2]
 clear hW2
 (with_reducible refine Calls.mono C.out ?_)
 intro e w6 hr
 have hr2:=l9.from hr B12 HWB
 cases X with
 | error q =>
   obtain ⟨k0,p0⟩:=q
   obtain ⟨rfl,ho⟩:=hr2
   exact And.intro rfl ⟨rfl,ho⟩
 | ok q =>
   obtain ⟨T,S2⟩:=q
   have HR:=hid hr2
   obtain ⟨c',kn',ro',rk',l',y,rfl,-⟩:=hr
   clear hr2 C
   go_wp2_with fail
   go_ret
   exact HR
theorem a11 (hk : t.kind=13) (ht : t.text=⟨#[111,114]⟩) : g9 E t S=cA E t.kids ([1,1] ++ [1]) S:=by
 cases t with
 | mk kd s n ks p =>
   obtain rfl : kd=13:=hk
   obtain rfl : s=⟨#[111,114]⟩:=ht
   rfl
theorem zH (h : QIn B F n₀ E t a cap c kn ro rk S φ w) (hk : t.kind=13) (ht : t.text=⟨#[111,114]⟩) (hn : t.kids.length=2) :
 Calls Tryz.prog 54 #[.pointer (some ⟨F,0,none⟩),.agg #[.int .i64 t.kind,.string t.text,.int .i64 t.n,.slice a t.kids.length cap,.int .i64 t.place]] w (l9 B F c φ (10 * i7 t) (g9 E t S) w):=by
 obtain ⟨W1,hW1⟩ : ∃ W,W=w.alloc (.cells #[.int .i64 13,.string ⟨#[111,114]⟩,.int .i64 t.n,.slice a 2 cap,.int .i64 t.place] 24):=⟨_,rfl⟩
 obtain ⟨W2,hW2⟩ : ∃ W,W=W1.alloc (.cells #[.int .i64 1,.int .i64 1,.int .i64 1] 3):=⟨_,rfl⟩
 have B1:=hid (show Below w.heap.size w W1 from hW1 ▸ a7 _ _)
 have B2:=hid (show Below W1.heap.size W1 W2 from hW2 ▸ a7 _ _)
 have hlt2 : W1.heap.size<W2.heap.size:=by rw [hW2]; simp
 have N1:=hid (show c6 w.heap.size t a cap W1 by rw [hW1]; have:=c6.make w t a cap; rwa [hk,hn,ht] at this)
 have HX:=hid (a11 (E:=E) (S:=S) hk ht)
 have B12:=hid (B1.out.trans (B2.out.mono B1.out.size))
 have HWB:=hid (show B≤w.heap.size from h.hc.hin.le)
 have h2:=h.below B12
 have C:=hid (y4 B F n₀ E t h2.ih h2.n1 h2.n2 a cap c kn ro rk S φ [1,1] 1 W1.heap.size 3 W2 h2.hh h2.hc h2.he h2.hp h2.hs (by rw [hn]; rfl) (by decide) (by decide) ((h.hc.below B1).apart_new (Nat.le_refl _) hlt2) (by decide) (fun j hj => by rw [hW2]; exact O2 W1 ([1,1] ++ [1]) j hj))
 rw [← HX.out] at C
 obtain ⟨⟨n0,n1,n2,n3,n4⟩,-⟩:=N1.out.cells
 have hb0:=N1.out.lt
 rw [hk] at n0
 rw [hn] at n3
 rw [ht] at n1
 rw [hk,hn,ht] at C ⊢
 rw [show ([1,1] : List Int).length + 1=3 from rfl] at C
 generalize g9 E t S=X at C
 clear h h2 HX
 go_enter Tryz.func54,Tryz.ntmps54
 go_upto_region 1 with fail
 rw [← hW1]
 clear hW1 hk hn ht
 go_wp2_with fail
 rw [← hW2]
 clear hW2
 (with_reducible refine Calls.mono C.out ?_)
 intro e w6 hr
 have hr2:=l9.from hr B12 HWB
 cases X with
 | error q =>
   obtain ⟨k0,p0⟩:=q
   obtain ⟨rfl,ho⟩:=hr2
   exact And.intro rfl ⟨rfl,ho⟩
 | ok q =>
   obtain ⟨T,S2⟩:=q
   have HR:=hid hr2
   obtain ⟨c',kn',ro',rk',l',y,rfl,-⟩:=hr
   clear hr2 C
   go_wp2_with fail
   go_ret
   exact HR
theorem a19 (hk : t.kind=13) (ht : t.text=⟨#[97,110,100]⟩) : g9 E t S=cA E t.kids ([1,1] ++ [1]) S:=by
 cases t with
 | mk kd s n ks p =>
   obtain rfl : kd=13:=hk
   obtain rfl : s=⟨#[97,110,100]⟩:=ht
   rfl
theorem zW (h : QIn B F n₀ E t a cap c kn ro rk S φ w) (hk : t.kind=13) (ht : t.text=⟨#[97,110,100]⟩) (hn : t.kids.length=2) :
 Calls Tryz.prog 54 #[.pointer (some ⟨F,0,none⟩),.agg #[.int .i64 t.kind,.string t.text,.int .i64 t.n,.slice a t.kids.length cap,.int .i64 t.place]] w (l9 B F c φ (10 * i7 t) (g9 E t S) w):=by
 obtain ⟨W1,hW1⟩ : ∃ W,W=w.alloc (.cells #[.int .i64 13,.string ⟨#[97,110,100]⟩,.int .i64 t.n,.slice a 2 cap,.int .i64 t.place] 24):=⟨_,rfl⟩
 obtain ⟨W2,hW2⟩ : ∃ W,W=W1.alloc (.cells #[.int .i64 1,.int .i64 1,.int .i64 1] 3):=⟨_,rfl⟩
 have B1:=hid (show Below w.heap.size w W1 from hW1 ▸ a7 _ _)
 have B2:=hid (show Below W1.heap.size W1 W2 from hW2 ▸ a7 _ _)
 have hlt2 : W1.heap.size<W2.heap.size:=by rw [hW2]; simp
 have N1:=hid (show c6 w.heap.size t a cap W1 by rw [hW1]; have:=c6.make w t a cap; rwa [hk,hn,ht] at this)
 have HX:=hid (a19 (E:=E) (S:=S) hk ht)
 have B12:=hid (B1.out.trans (B2.out.mono B1.out.size))
 have HWB:=hid (show B≤w.heap.size from h.hc.hin.le)
 have h2:=h.below B12
 have C:=hid (y4 B F n₀ E t h2.ih h2.n1 h2.n2 a cap c kn ro rk S φ [1,1] 1 W1.heap.size 3 W2 h2.hh h2.hc h2.he h2.hp h2.hs (by rw [hn]; rfl) (by decide) (by decide) ((h.hc.below B1).apart_new (Nat.le_refl _) hlt2) (by decide) (fun j hj => by rw [hW2]; exact O2 W1 ([1,1] ++ [1]) j hj))
 rw [← HX.out] at C
 obtain ⟨⟨n0,n1,n2,n3,n4⟩,-⟩:=N1.out.cells
 have hb0:=N1.out.lt
 rw [hk] at n0
 rw [hn] at n3
 rw [ht] at n1
 rw [hk,hn,ht] at C ⊢
 rw [show ([1,1] : List Int).length + 1=3 from rfl] at C
 generalize g9 E t S=X at C
 clear h h2 HX
 go_enter Tryz.func54,Tryz.ntmps54
 go_upto_region 1 with fail
 rw [← hW1]
 clear hW1 hk hn ht
 go_wp2_with fail
 rw [← hW2]
 clear hW2
 (with_reducible refine Calls.mono C.out ?_)
 intro e w6 hr
 have hr2:=l9.from hr B12 HWB
 cases X with
 | error q =>
   obtain ⟨k0,p0⟩:=q
   obtain ⟨rfl,ho⟩:=hr2
   exact And.intro rfl ⟨rfl,ho⟩
 | ok q =>
   obtain ⟨T,S2⟩:=q
   have HR:=hid hr2
   obtain ⟨c',kn',ro',rk',l',y,rfl,-⟩:=hr
   clear hr2 C
   go_wp2_with fail
   go_ret
   exact HR
theorem a14 (hk : t.kind=13) (ht : t.text=⟨#[60]⟩) : g9 E t S=cA E t.kids ([0,0] ++ [1]) S:=by
 cases t with
 | mk kd s n ks p =>
   obtain rfl : kd=13:=hk
   obtain rfl : s=⟨#[60]⟩:=ht
   rfl
theorem a0i (h : QIn B F n₀ E t a cap c kn ro rk S φ w) (hk : t.kind=13) (ht : t.text=⟨#[60]⟩) (hn : t.kids.length=2) :
 Calls Tryz.prog 54 #[.pointer (some ⟨F,0,none⟩),.agg #[.int .i64 t.kind,.string t.text,.int .i64 t.n,.slice a t.kids.length cap,.int .i64 t.place]] w (l9 B F c φ (10 * i7 t) (g9 E t S) w):=by
 obtain ⟨W1,hW1⟩ : ∃ W,W=w.alloc (.cells #[.int .i64 13,.string ⟨#[60]⟩,.int .i64 t.n,.slice a 2 cap,.int .i64 t.place] 24):=⟨_,rfl⟩
 obtain ⟨W2,hW2⟩ : ∃ W,W=W1.alloc (.cells #[.int .i64 0,.int .i64 0,.int .i64 1] 3):=⟨_,rfl⟩
 have B1:=hid (show Below w.heap.size w W1 from hW1 ▸ a7 _ _)
 have B2:=hid (show Below W1.heap.size W1 W2 from hW2 ▸ a7 _ _)
 have hlt2 : W1.heap.size<W2.heap.size:=by rw [hW2]; simp
 have N1:=hid (show c6 w.heap.size t a cap W1 by rw [hW1]; have:=c6.make w t a cap; rwa [hk,hn,ht] at this)
 have HX:=hid (a14 (E:=E) (S:=S) hk ht)
 have B12:=hid (B1.out.trans (B2.out.mono B1.out.size))
 have HWB:=hid (show B≤w.heap.size from h.hc.hin.le)
 have h2:=h.below B12
 have C:=hid (y4 B F n₀ E t h2.ih h2.n1 h2.n2 a cap c kn ro rk S φ [0,0] 1 W1.heap.size 3 W2 h2.hh h2.hc h2.he h2.hp h2.hs (by rw [hn]; rfl) (by decide) (by decide) ((h.hc.below B1).apart_new (Nat.le_refl _) hlt2) (by decide) (fun j hj => by rw [hW2]; exact O2 W1 ([0,0] ++ [1]) j hj))
 rw [← HX.out] at C
 obtain ⟨⟨n0,n1,n2,n3,n4⟩,-⟩:=N1.out.cells
 have hb0:=N1.out.lt
 rw [hk] at n0
 rw [hn] at n3
 rw [ht] at n1
 rw [hk,hn,ht] at C ⊢
 rw [show ([0,0] : List Int).length + 1=3 from rfl] at C
 generalize g9 E t S=X at C
 clear h h2 HX
 go_enter Tryz.func54,Tryz.ntmps54
 go_upto_region 1 with fail
 rw [← hW1]
 clear hW1 hk hn ht
 go_wp2_with fail
 rw [← hW2]
 clear hW2
 (with_reducible refine Calls.mono C.out ?_)
 intro e w6 hr
 have hr2:=l9.from hr B12 HWB
 cases X with
 | error q =>
   obtain ⟨k0,p0⟩:=q
   obtain ⟨rfl,ho⟩:=hr2
   exact And.intro rfl ⟨rfl,ho⟩
 | ok q =>
   obtain ⟨T,S2⟩:=q
   have HR:=hid hr2
   obtain ⟨c',kn',ro',rk',l',y,rfl,-⟩:=hr
   clear hr2 C
   go_wp2_with fail
   go_ret
   exact HR
theorem a17 (hk : t.kind=13) (ht : t.text=⟨#[60,61]⟩) : g9 E t S=cA E t.kids ([0,0] ++ [1]) S:=by
 cases t with
 | mk kd s n ks p =>
   obtain rfl : kd=13:=hk
   obtain rfl : s=⟨#[60,61]⟩:=ht
   rfl
theorem zI (h : QIn B F n₀ E t a cap c kn ro rk S φ w) (hk : t.kind=13) (ht : t.text=⟨#[60,61]⟩) (hn : t.kids.length=2) :
 Calls Tryz.prog 54 #[.pointer (some ⟨F,0,none⟩),.agg #[.int .i64 t.kind,.string t.text,.int .i64 t.n,.slice a t.kids.length cap,.int .i64 t.place]] w (l9 B F c φ (10 * i7 t) (g9 E t S) w):=by
 obtain ⟨W1,hW1⟩ : ∃ W,W=w.alloc (.cells #[.int .i64 13,.string ⟨#[60,61]⟩,.int .i64 t.n,.slice a 2 cap,.int .i64 t.place] 24):=⟨_,rfl⟩
 obtain ⟨W2,hW2⟩ : ∃ W,W=W1.alloc (.cells #[.int .i64 0,.int .i64 0,.int .i64 1] 3):=⟨_,rfl⟩
 have B1:=hid (show Below w.heap.size w W1 from hW1 ▸ a7 _ _)
 have B2:=hid (show Below W1.heap.size W1 W2 from hW2 ▸ a7 _ _)
 have hlt2 : W1.heap.size<W2.heap.size:=by rw [hW2]; simp
 have N1:=hid (show c6 w.heap.size t a cap W1 by rw [hW1]; have:=c6.make w t a cap; rwa [hk,hn,ht] at this)
 have HX:=hid (a17 (E:=E) (S:=S) hk ht)
 have B12:=hid (B1.out.trans (B2.out.mono B1.out.size))
 have HWB:=hid (show B≤w.heap.size from h.hc.hin.le)
 have h2:=h.below B12
 have C:=hid (y4 B F n₀ E t h2.ih h2.n1 h2.n2 a cap c kn ro rk S φ [0,0] 1 W1.heap.size 3 W2 h2.hh h2.hc h2.he h2.hp h2.hs (by rw [hn]; rfl) (by decide) (by decide) ((h.hc.below B1).apart_new (Nat.le_refl _) hlt2) (by decide) (fun j hj => by rw [hW2]; exact O2 W1 ([0,0] ++ [1]) j hj))
 rw [← HX.out] at C
 obtain ⟨⟨n0,n1,n2,n3,n4⟩,-⟩:=N1.out.cells
 have hb0:=N1.out.lt
 rw [hk] at n0
 rw [hn] at n3
 rw [ht] at n1
 rw [hk,hn,ht] at C ⊢
 rw [show ([0,0] : List Int).length + 1=3 from rfl] at C
 generalize g9 E t S=X at C
 clear h h2 HX
 go_enter Tryz.func54,Tryz.ntmps54
 go_upto_region 1 with fail
 rw [← hW1]
 clear hW1 hk hn ht
 go_wp2_with fail
 rw [← hW2]
 clear hW2
 (with_reducible refine Calls.mono C.out ?_)
 intro e w6 hr
 have hr2:=l9.from hr B12 HWB
 cases X with
 | error q =>
   obtain ⟨k0,p0⟩:=q
   obtain ⟨rfl,ho⟩:=hr2
   exact And.intro rfl ⟨rfl,ho⟩
 | ok q =>
   obtain ⟨T,S2⟩:=q
   have HR:=hid hr2
   obtain ⟨c',kn',ro',rk',l',y,rfl,-⟩:=hr
   clear hr2 C
   go_wp2_with fail
   go_ret
   exact HR
theorem a1B (hk : t.kind=13) (ht : t.text=⟨#[61]⟩) : g9 E t S=cA E t.kids ([0,0] ++ [1]) S:=by
 cases t with
 | mk kd s n ks p =>
   obtain rfl : kd=13:=hk
   obtain rfl : s=⟨#[61]⟩:=ht
   rfl
theorem a0V (h : QIn B F n₀ E t a cap c kn ro rk S φ w) (hk : t.kind=13) (ht : t.text=⟨#[61]⟩) (hn : t.kids.length=2) :
 Calls Tryz.prog 54 #[.pointer (some ⟨F,0,none⟩),.agg #[.int .i64 t.kind,.string t.text,.int .i64 t.n,.slice a t.kids.length cap,.int .i64 t.place]] w (l9 B F c φ (10 * i7 t) (g9 E t S) w):=by
 obtain ⟨W1,hW1⟩ : ∃ W,W=w.alloc (.cells #[.int .i64 13,.string ⟨#[61]⟩,.int .i64 t.n,.slice a 2 cap,.int .i64 t.place] 24):=⟨_,rfl⟩
 obtain ⟨W2,hW2⟩ : ∃ W,W=W1.alloc (.cells #[.int .i64 0,.int .i64 0,.int .i64 1] 3):=⟨_,rfl⟩
 have B1:=hid (show Below w.heap.size w W1 from hW1 ▸ a7 _ _)
 have B2:=hid (show Below W1.heap.size W1 W2 from hW2 ▸ a7 _ _)
 have hlt2 : W1.heap.size<W2.heap.size:=by rw [hW2]; simp
 have N1:=hid (show c6 w.heap.size t a cap W1 by rw [hW1]; have:=c6.make w t a cap; rwa [hk,hn,ht] at this)
 have HX:=hid (a1B (E:=E) (S:=S) hk ht)
 have B12:=hid (B1.out.trans (B2.out.mono B1.out.size))
 have HWB:=hid (show B≤w.heap.size from h.hc.hin.le)
 have h2:=h.below B12
 have C:=hid (y4 B F n₀ E t h2.ih h2.n1 h2.n2 a cap c kn ro rk S φ [0,0] 1 W1.heap.size 3 W2 h2.hh h2.hc h2.he h2.hp h2.hs (by rw [hn]; rfl) (by decide) (by decide) ((h.hc.below B1).apart_new (Nat.le_refl _) hlt2) (by decide) (fun j hj => by rw [hW2]; exact O2 W1 ([0,0] ++ [1]) j hj))
 rw [← HX.out] at C
 obtain ⟨⟨n0,n1,n2,n3,n4⟩,-⟩:=N1.out.cells
 have hb0:=N1.out.lt
 rw [hk] at n0
 rw [hn] at n3
 rw [ht] at n1
 rw [hk,hn,ht] at C ⊢
 rw [show ([0,0] : List Int).length + 1=3 from rfl] at C
 generalize g9 E t S=X at C
 clear h h2 HX
 go_enter Tryz.func54,Tryz.ntmps54
 go_upto_region 1 with fail
 rw [← hW1]
 clear hW1 hk hn ht
 go_wp2_with fail
 rw [← hW2]
 clear hW2
 (with_reducible refine Calls.mono C.out ?_)
 intro e w6 hr
 have hr2:=l9.from hr B12 HWB
 cases X with
 | error q =>
   obtain ⟨k0,p0⟩:=q
   obtain ⟨rfl,ho⟩:=hr2
   exact And.intro rfl ⟨rfl,ho⟩
 | ok q =>
   obtain ⟨T,S2⟩:=q
   have HR:=hid hr2
   obtain ⟨c',kn',ro',rk',l',y,rfl,-⟩:=hr
   clear hr2 C
   go_wp2_with fail
   go_ret
   exact HR
theorem a2c (hk : t.kind=13) (ht : t.text=⟨#[43]⟩) : g9 E t S=cA E t.kids ([0,0] ++ [0]) S:=by
 cases t with
 | mk kd s n ks p =>
   obtain rfl : kd=13:=hk
   obtain rfl : s=⟨#[43]⟩:=ht
   rfl
theorem a0v (h : QIn B F n₀ E t a cap c kn ro rk S φ w) (hk : t.kind=13) (ht : t.text=⟨#[43]⟩) (hn : t.kids.length=2) :
 Calls Tryz.prog 54 #[.pointer (some ⟨F,0,none⟩),.agg #[.int .i64 t.kind,.string t.text,.int .i64 t.n,.slice a t.kids.length cap,.int .i64 t.place]] w (l9 B F c φ (10 * i7 t) (g9 E t S) w):=by
 obtain ⟨W1,hW1⟩ : ∃ W,W=w.alloc (.cells #[.int .i64 13,.string ⟨#[43]⟩,.int .i64 t.n,.slice a 2 cap,.int .i64 t.place] 24):=⟨_,rfl⟩
 obtain ⟨W2,hW2⟩ : ∃ W,W=W1.alloc (.cells #[.int .i64 0,.int .i64 0,.int .i64 0] 3):=⟨_,rfl⟩
 have B1:=hid (show Below w.heap.size w W1 from hW1 ▸ a7 _ _)
 have B2:=hid (show Below W1.heap.size W1 W2 from hW2 ▸ a7 _ _)
 have hlt2 : W1.heap.size<W2.heap.size:=by rw [hW2]; simp
 have N1:=hid (show c6 w.heap.size t a cap W1 by rw [hW1]; have:=c6.make w t a cap; rwa [hk,hn,ht] at this)
 have HX:=hid (a2c (E:=E) (S:=S) hk ht)
 have B12:=hid (B1.out.trans (B2.out.mono B1.out.size))
 have HWB:=hid (show B≤w.heap.size from h.hc.hin.le)
 have h2:=h.below B12
 have C:=hid (y4 B F n₀ E t h2.ih h2.n1 h2.n2 a cap c kn ro rk S φ [0,0] 0 W1.heap.size 3 W2 h2.hh h2.hc h2.he h2.hp h2.hs (by rw [hn]; rfl) (by decide) (by decide) ((h.hc.below B1).apart_new (Nat.le_refl _) hlt2) (by decide) (fun j hj => by rw [hW2]; exact O2 W1 ([0,0] ++ [0]) j hj))
 rw [← HX.out] at C
 obtain ⟨⟨n0,n1,n2,n3,n4⟩,-⟩:=N1.out.cells
 have hb0:=N1.out.lt
 rw [hk] at n0
 rw [hn] at n3
 rw [ht] at n1
 rw [hk,hn,ht] at C ⊢
 rw [show ([0,0] : List Int).length + 1=3 from rfl] at C
 generalize g9 E t S=X at C
 clear h h2 HX
 go_enter Tryz.func54,Tryz.ntmps54
 go_upto_region 1 with fail
 rw [← hW1]
 clear hW1 hk hn ht
 go_wp2_with fail
 rw [← hW2]
 clear hW2
 (with_reducible refine Calls.mono C.out ?_)
 intro e w6 hr
 have hr2:=l9.from hr B12 HWB
 cases X with
 | error q =>
   obtain ⟨k0,p0⟩:=q
   obtain ⟨rfl,ho⟩:=hr2
   exact And.intro rfl ⟨rfl,ho⟩
 | ok q =>
   obtain ⟨T,S2⟩:=q
   have HR:=hid hr2
   obtain ⟨c',kn',ro',rk',l',y,rfl,-⟩:=hr
   clear hr2 C
   go_wp2_with fail
   go_ret
   exact HR
theorem a16 (hk : t.kind=13) (ht : t.text=⟨#[45]⟩) : g9 E t S=cA E t.kids ([0,0] ++ [0]) S:=by
 cases t with
 | mk kd s n ks p =>
   obtain rfl : kd=13:=hk
   obtain rfl : s=⟨#[45]⟩:=ht
   rfl
theorem zZ (h : QIn B F n₀ E t a cap c kn ro rk S φ w) (hk : t.kind=13) (ht : t.text=⟨#[45]⟩) (hn : t.kids.length=2) :
 Calls Tryz.prog 54 #[.pointer (some ⟨F,0,none⟩),.agg #[.int .i64 t.kind,.string t.text,.int .i64 t.n,.slice a t.kids.length cap,.int .i64 t.place]] w (l9 B F c φ (10 * i7 t) (g9 E t S) w):=by
 obtain ⟨W1,hW1⟩ : ∃ W,W=w.alloc (.cells #[.int .i64 13,.string ⟨#[45]⟩,.int .i64 t.n,.slice a 2 cap,.int .i64 t.place] 24):=⟨_,rfl⟩
 obtain ⟨W2,hW2⟩ : ∃ W,W=W1.alloc (.cells #[.int .i64 0,.int .i64 0,.int .i64 0] 3):=⟨_,rfl⟩
 have B1:=hid (show Below w.heap.size w W1 from hW1 ▸ a7 _ _)
 have B2:=hid (show Below W1.heap.size W1 W2 from hW2 ▸ a7 _ _)
 have hlt2 : W1.heap.size<W2.heap.size:=by rw [hW2]; simp
 have N1:=hid (show c6 w.heap.size t a cap W1 by rw [hW1]; have:=c6.make w t a cap; rwa [hk,hn,ht] at this)
 have HX:=hid (a16 (E:=E) (S:=S) hk ht)
 have B12:=hid (B1.out.trans (B2.out.mono B1.out.size))
 have HWB:=hid (show B≤w.heap.size from h.hc.hin.le)
 have h2:=h.below B12
 have C:=hid (y4 B F n₀ E t h2.ih h2.n1 h2.n2 a cap c kn ro rk S φ [0,0] 0 W1.heap.size 3 W2 h2.hh h2.hc h2.he h2.hp h2.hs (by rw [hn]; rfl) (by decide) (by decide) ((h.hc.below B1).apart_new (Nat.le_refl _) hlt2) (by decide) (fun j hj => by rw [hW2]; exact O2 W1 ([0,0] ++ [0]) j hj))
 rw [← HX.out] at C
 obtain ⟨⟨n0,n1,n2,n3,n4⟩,-⟩:=N1.out.cells
 have hb0:=N1.out.lt
 rw [hk] at n0
 rw [hn] at n3
 rw [ht] at n1
 rw [hk,hn,ht] at C ⊢
 rw [show ([0,0] : List Int).length + 1=3 from rfl] at C
 generalize g9 E t S=X at C
 clear h h2 HX
 go_enter Tryz.func54,Tryz.ntmps54
 go_upto_region 1 with fail
 rw [← hW1]
 clear hW1 hk hn ht
 go_wp2_with fail
 rw [← hW2]
 clear hW2
 (with_reducible refine Calls.mono C.out ?_)
 intro e w6 hr
 have hr2:=l9.from hr B12 HWB
 cases X with
 | error q =>
   obtain ⟨k0,p0⟩:=q
   obtain ⟨rfl,ho⟩:=hr2
   exact And.intro rfl ⟨rfl,ho⟩
 | ok q =>
   obtain ⟨T,S2⟩:=q
   have HR:=hid hr2
   obtain ⟨c',kn',ro',rk',l',y,rfl,-⟩:=hr
   clear hr2 C
   go_wp2_with fail
   go_ret
   exact HR
theorem a1m (hk : t.kind=13) (ht : t.text=⟨#[42]⟩) : g9 E t S=cA E t.kids ([0,0] ++ [0]) S:=by
 cases t with
 | mk kd s n ks p =>
   obtain rfl : kd=13:=hk
   obtain rfl : s=⟨#[42]⟩:=ht
   rfl
theorem a0e (h : QIn B F n₀ E t a cap c kn ro rk S φ w) (hk : t.kind=13) (ht : t.text=⟨#[42]⟩) (hn : t.kids.length=2) :
 Calls Tryz.prog 54 #[.pointer (some ⟨F,0,none⟩),.agg #[.int .i64 t.kind,.string t.text,.int .i64 t.n,.slice a t.kids.length cap,.int .i64 t.place]] w (l9 B F c φ (10 * i7 t) (g9 E t S) w):=by
 obtain ⟨W1,hW1⟩ : ∃ W,W=w.alloc (.cells #[.int .i64 13,.string ⟨#[42]⟩,.int .i64 t.n,.slice a 2 cap,.int .i64 t.place] 24):=⟨_,rfl⟩
 obtain ⟨W2,hW2⟩ : ∃ W,W=W1.alloc (.cells #[.int .i64 0,.int .i64 0,.int .i64 0] 3):=⟨_,rfl⟩
 have B1:=hid (show Below w.heap.size w W1 from hW1 ▸ a7 _ _)
 have B2:=hid (show Below W1.heap.size W1 W2 from hW2 ▸ a7 _ _)
 have hlt2 : W1.heap.size<W2.heap.size:=by rw [hW2]; simp
 have N1:=hid (show c6 w.heap.size t a cap W1 by rw [hW1]; have:=c6.make w t a cap; rwa [hk,hn,ht] at this)
 have HX:=hid (a1m (E:=E) (S:=S) hk ht)
 have B12:=hid (B1.out.trans (B2.out.mono B1.out.size))
 have HWB:=hid (show B≤w.heap.size from h.hc.hin.le)
 have h2:=h.below B12
 have C:=hid (y4 B F n₀ E t h2.ih h2.n1 h2.n2 a cap c kn ro rk S φ [0,0] 0 W1.heap.size 3 W2 h2.hh h2.hc h2.he h2.hp h2.hs (by rw [hn]; rfl) (by decide) (by decide) ((h.hc.below B1).apart_new (Nat.le_refl _) hlt2) (by decide) (fun j hj => by rw [hW2]; exact O2 W1 ([0,0] ++ [0]) j hj))
 rw [← HX.out] at C
 obtain ⟨⟨n0,n1,n2,n3,n4⟩,-⟩:=N1.out.cells
 have hb0:=N1.out.lt
 rw [hk] at n0
 rw [hn] at n3
 rw [ht] at n1
 rw [hk,hn,ht] at C ⊢
 rw [show ([0,0] : List Int).length + 1=3 from rfl] at C
 generalize g9 E t S=X at C
 clear h h2 HX
 go_enter Tryz.func54,Tryz.ntmps54
 go_upto_region 1 with fail
 rw [← hW1]
 clear hW1 hk hn ht
 go_wp2_with fail
 rw [← hW2]
 clear hW2
 (with_reducible refine Calls.mono C.out ?_)
 intro e w6 hr
 have hr2:=l9.from hr B12 HWB
 cases X with
 | error q =>
   obtain ⟨k0,p0⟩:=q
   obtain ⟨rfl,ho⟩:=hr2
   exact And.intro rfl ⟨rfl,ho⟩
 | ok q =>
   obtain ⟨T,S2⟩:=q
   have HR:=hid hr2
   obtain ⟨c',kn',ro',rk',l',y,rfl,-⟩:=hr
   clear hr2 C
   go_wp2_with fail
   go_ret
   exact HR
theorem a28 (hk : t.kind=13) (ht : t.text=⟨#[47]⟩) : g9 E t S=cA E t.kids ([0,0] ++ [0]) S:=by
 cases t with
 | mk kd s n ks p =>
   obtain rfl : kd=13:=hk
   obtain rfl : s=⟨#[47]⟩:=ht
   rfl
theorem zS (h : QIn B F n₀ E t a cap c kn ro rk S φ w) (hk : t.kind=13) (ht : t.text=⟨#[47]⟩) (hn : t.kids.length=2) :
 Calls Tryz.prog 54 #[.pointer (some ⟨F,0,none⟩),.agg #[.int .i64 t.kind,.string t.text,.int .i64 t.n,.slice a t.kids.length cap,.int .i64 t.place]] w (l9 B F c φ (10 * i7 t) (g9 E t S) w):=by
 obtain ⟨W1,hW1⟩ : ∃ W,W=w.alloc (.cells #[.int .i64 13,.string ⟨#[47]⟩,.int .i64 t.n,.slice a 2 cap,.int .i64 t.place] 24):=⟨_,rfl⟩
 obtain ⟨W2,hW2⟩ : ∃ W,W=W1.alloc (.cells #[.int .i64 0,.int .i64 0,.int .i64 0] 3):=⟨_,rfl⟩
 have B1:=hid (show Below w.heap.size w W1 from hW1 ▸ a7 _ _)
 have B2:=hid (show Below W1.heap.size W1 W2 from hW2 ▸ a7 _ _)
 have hlt2 : W1.heap.size<W2.heap.size:=by rw [hW2]; simp
 have N1:=hid (show c6 w.heap.size t a cap W1 by rw [hW1]; have:=c6.make w t a cap; rwa [hk,hn,ht] at this)
 have HX:=hid (a28 (E:=E) (S:=S) hk ht)
 have B12:=hid (B1.out.trans (B2.out.mono B1.out.size))
 have HWB:=hid (show B≤w.heap.size from h.hc.hin.le)
 have h2:=h.below B12
 have C:=hid (y4 B F n₀ E t h2.ih h2.n1 h2.n2 a cap c kn ro rk S φ [0,0] 0 W1.heap.size 3 W2 h2.hh h2.hc h2.he h2.hp h2.hs (by rw [hn]; rfl) (by decide) (by decide) ((h.hc.below B1).apart_new (Nat.le_refl _) hlt2) (by decide) (fun j hj => by rw [hW2]; exact O2 W1 ([0,0] ++ [0]) j hj))
 rw [← HX.out] at C
 obtain ⟨⟨n0,n1,n2,n3,n4⟩,-⟩:=N1.out.cells
 have hb0:=N1.out.lt
 rw [hk] at n0
 rw [hn] at n3
 rw [ht] at n1
 rw [hk,hn,ht] at C ⊢
 rw [show ([0,0] : List Int).length + 1=3 from rfl] at C
 generalize g9 E t S=X at C
 clear h h2 HX
 go_enter Tryz.func54,Tryz.ntmps54
 go_upto_region 1 with fail
 rw [← hW1]
 clear hW1 hk hn ht
 go_wp2_with fail
 rw [← hW2]
 clear hW2
 (with_reducible refine Calls.mono C.out ?_)
 intro e w6 hr
 have hr2:=l9.from hr B12 HWB
 cases X with
 | error q =>
   obtain ⟨k0,p0⟩:=q
   obtain ⟨rfl,ho⟩:=hr2
   exact And.intro rfl ⟨rfl,ho⟩
 | ok q =>
   obtain ⟨T,S2⟩:=q
   have HR:=hid hr2
   obtain ⟨c',kn',ro',rk',l',y,rfl,-⟩:=hr
   clear hr2 C
   go_wp2_with fail
   go_ret
   exact HR
theorem oM (hk : t.kind=10∨t.kind=11) : g9 E t S=cY E t S:=by
 cases t with
 | mk kd s n ks p =>
   have hk' : kd=10∨kd=11:=hk
   rw [g9]
   unfold bX cY
   rw [if_neg (by omega),if_neg (by omega),if_neg (by omega),if_neg (by omega),if_neg (by omega),if_neg (by omega),if_neg (by omega),if_neg (by omega)]
   show Ty.then (match cG E s.data.toList with
    | some T => if ks.length=0 then .ok (([],T),S) else .error (114,p)
    | none => _) _=(match cG E s.data.toList with
    | some T => if ks.length=0 then .ok (T,S) else .error (114,p)
    | none => _)
   cases cG E s.data.toList with
   | some T =>
     by_cases h0 : ks.length=0
     ·obtain rfl : ks=[]:=List.length_eq_zero_iff.1 h0
      rfl
     ·simp only [if_neg h0]; rfl
   | none =>
     show Ty.then (match E8 E s.data.toList with
      | none => .error (113,p)
      | some d => _) _=(match E8 E s.data.toList with
      | none => .error (113,p)
      | some d => _)
     cases E8 E s.data.toList with
     | none => rfl
     | some d =>
       by_cases h0 : d.params.length=ks.length
       ·simp only [if_pos h0]; exact (if_pos (show d.params.length=(Nd.mk kd s n ks p).kids.length from h0)).symm
       ·simp only [if_neg h0]; exact (if_neg (show ¬ d.params.length=(Nd.mk kd s n ks p).kids.length from h0)).symm
theorem a2T (h : QIn B F n₀ E t a cap c kn ro rk S φ w) (hk : t.kind=10) (hts : t.text.data.toList.length≤1000000) (hM : ∀ d,E8 E t.text.data.toList=some d→O8 d) :
 Calls Tryz.prog 54 #[.pointer (some ⟨F,0,none⟩),.agg #[.int .i64 t.kind,.string t.text,.int .i64 t.n,.slice a t.kids.length cap,.int .i64 t.place]] w (l9 B F c φ (10 * i7 t) (g9 E t S) w):=by
 obtain ⟨W1,hW1⟩ : ∃ W,W=w.alloc (.cells #[.int .i64 10,.string t.text,.int .i64 t.n,.slice a t.kids.length cap,.int .i64 t.place] 24):=⟨_,rfl⟩
 have B1:=hid (show Below w.heap.size w W1 from hW1 ▸ a7 _ _)
 have N1:=hid (show c6 w.heap.size t a cap W1 by rw [hW1]; have:=c6.make w t a cap; rwa [hk] at this)
 have HX:=hid (oM (E:=E) (S:=S) (t:=t) (by omega))
 have HWB:=hid (show B≤w.heap.size from h.hc.hin.le)
 have h2:=h.below B1
 have C:=hid (nY B F n₀ E t h2.ih h2.n1 h2.n2 hM a cap c kn ro rk S φ W1 h2.hh h2.hc h2.he h2.hp h2.hs hts)
 rw [← HX.out] at C
 obtain ⟨⟨n0,n1,n2,n3,n4⟩,-⟩:=N1.out.cells
 have hb0:=N1.out.lt
 rw [hk] at n0 C ⊢
 generalize g9 E t S=X at C
 clear h h2 HX hts hM
 go_enter Tryz.func54,Tryz.ntmps54
 go_upto_region 1 with fail
 rw [← hW1]
 clear hW1 hk
 go_wp2_with fail
 (with_reducible refine Calls.mono C.out ?_)
 intro e w6 hr
 have hr2:=l9.from hr B1 HWB
 cases X with
 | error q =>
   obtain ⟨k0,p0⟩:=q
   obtain ⟨rfl,ho⟩:=hr2
   exact And.intro rfl ⟨rfl,ho⟩
 | ok q =>
   obtain ⟨T,S2⟩:=q
   have HR:=hid hr2
   obtain ⟨c',kn',ro',rk',l',y,rfl,-⟩:=hr
   clear hr2 C
   go_wp2_with fail
   go_ret
   exact HR
theorem a2a (h : QIn B F n₀ E t a cap c kn ro rk S φ w) (hk : t.kind=11) (hts : t.text.data.toList.length≤1000000) (hM : ∀ d,E8 E t.text.data.toList=some d→O8 d) :
 Calls Tryz.prog 54 #[.pointer (some ⟨F,0,none⟩),.agg #[.int .i64 t.kind,.string t.text,.int .i64 t.n,.slice a t.kids.length cap,.int .i64 t.place]] w (l9 B F c φ (10 * i7 t) (g9 E t S) w):=by
 obtain ⟨W1,hW1⟩ : ∃ W,W=w.alloc (.cells #[.int .i64 11,.string t.text,.int .i64 t.n,.slice a t.kids.length cap,.int .i64 t.place] 24):=⟨_,rfl⟩
 have B1:=hid (show Below w.heap.size w W1 from hW1 ▸ a7 _ _)
 have N1:=hid (show c6 w.heap.size t a cap W1 by rw [hW1]; have:=c6.make w t a cap; rwa [hk] at this)
 have HX:=hid (oM (E:=E) (S:=S) (t:=t) (by omega))
 have HWB:=hid (show B≤w.heap.size from h.hc.hin.le)
 have h2:=h.below B1
 have C:=hid (nY B F n₀ E t h2.ih h2.n1 h2.n2 hM a cap c kn ro rk S φ W1 h2.hh h2.hc h2.he h2.hp h2.hs hts)
 rw [← HX.out] at C
 obtain ⟨⟨n0,n1,n2,n3,n4⟩,-⟩:=N1.out.cells
 have hb0:=N1.out.lt
 rw [hk] at n0 C ⊢
 generalize g9 E t S=X at C
 clear h h2 HX hts hM
 go_enter Tryz.func54,Tryz.ntmps54
 go_upto_region 1 with fail
 rw [← hW1]
 clear hW1 hk
 go_wp2_with fail
 (with_reducible refine Calls.mono C.out ?_)
 intro e w6 hr
 have hr2:=l9.from hr B1 HWB
 cases X with
 | error q =>
   obtain ⟨k0,p0⟩:=q
   obtain ⟨rfl,ho⟩:=hr2
   exact And.intro rfl ⟨rfl,ho⟩
 | ok q =>
   obtain ⟨T,S2⟩:=q
   have HR:=hid hr2
   obtain ⟨c',kn',ro',rk',l',y,rfl,-⟩:=hr
   clear hr2 C
   go_wp2_with fail
   go_ret
   exact HR
end
theorem V7 {s : ByteArray} {l : List UInt8} (h : s.data.toList=l) : s=⟨l.toArray⟩:=by rw [← h]
theorem a08 {B F n₀ : Nat} {E : Env7} (h1 : n₀≤B) (h2 : n₀≤F) (hM : ∀ s d,E8 E s=some d→O8 d) (N : Nat) : ∀ t : Nd,SizeOf.sizeOf t<N→∀ d : Int,d9 t d=true→lY B F n₀ E t:=by
 induction N with
 | zero => intro t ht; omega
 | succ N ih =>
   intro t ht d hr a cap c kn ro rk S φ w hh hc he hp hs
   have hkd : ∀ k∈t.kids,lY B F n₀ E k:=by
    cases t with
    | mk kd s n ks p =>
      intro k hk
      obtain ⟨j,hj,rfl⟩:=List.getElem_of_mem hk
      rw [oL,Bool.and_eq_true] at hr
      exact ih _ (eD hj ht) (d + 1) (by have:=hr.2; rw [bU] at this; exact List.all_eq_true.1 this _ hk)
   have Q : QIn B F n₀ E t a cap c kn ro rk S φ w:=⟨hkd,h1,h2,hh,hc,he,hp,hs⟩
   rw [oL] at hr
   simp only [Bool.and_eq_true] at hr
   obtain ⟨⟨⟨⟨-,hko⟩,hto⟩,-⟩,-⟩:=hr
   have hk : t.kind=5∨t.kind=6∨t.kind=7∨t.kind=8∨t.kind=9∨t.kind=10∨t.kind=11∨t.kind=12∨t.kind=13∨t.kind=14∨t.kind=15:=by
    unfold y7 at hko
    split at hko
    ·omega
    split at hko
    ·omega
    split at hko
    ·omega
    split at hko
    ·omega
    split at hko
    ·omega
    ·cases hko
   have hname : t.kind=10∨t.kind=11→t.text.data.toList.length≤1000000:=fun h => by
    unfold G0 at hto
    rw [if_neg (by omega),if_neg (by omega),if_pos h] at hto
    have:=xS hto
    omega
   rcases hk with hk | hk | hk | hk | hk | hk | hk | hk | hk | hk | hk
   ·exact a3A Q hk (by rw [hk] at hko; simpa [y7] using hko)
   ·exact a4i Q hk (by rw [hk] at hko; simpa [y7] using hko)
   ·exact a3E Q hk (by rw [hk] at hko; simpa [y7] using hko)
   ·exact a3K Q hk (by rw [hk] at hko; simpa [y7] using hko)
   ·exact a3G Q hk (by rw [hk] at hko; simpa [y7] using hko)
   ·exact a2T Q hk (hname (.inl hk)) (hM _)
   ·exact a2a Q hk (hname (.inr hk)) (hM _)
   ·have hn : t.kids.length=1:=by rw [hk] at hko; simpa [y7] using hko
    rw [hk] at hto
    have ht : t.text.data.toList=[45]∨t.text.data.toList=[110,111,116]:=by simpa [G0] using hto
    rcases ht with ht | ht
    ·exact a0T Q hk (V7 ht) hn
    ·exact a1l Q hk (V7 ht) hn
   ·have hn : t.kids.length=2:=by rw [hk] at hko; simpa [y7] using hko
    rw [hk] at hto
    have ht : t.text.data.toList∈Y5:=List.contains_iff_mem.1 (show eX t.text.data.toList=true by simpa [G0] using hto)
    simp only [Y5,List.mem_cons,List.not_mem_nil,or_false] at ht
    rcases ht with ht | ht | ht | ht | ht | ht | ht | ht | ht
    ·exact zH Q hk (V7 ht) hn
    ·exact zW Q hk (V7 ht) hn
    ·exact a0i Q hk (V7 ht) hn
    ·exact zI Q hk (V7 ht) hn
    ·exact a0V Q hk (V7 ht) hn
    ·exact a0v Q hk (V7 ht) hn
    ·exact zZ Q hk (V7 ht) hn
    ·exact a0e Q hk (V7 ht) hn
    ·exact zS Q hk (V7 ht) hn
   ·exact a1C Q hk (by rw [hk] at hko; simpa [y7] using hko)
   ·exact a1V Q hk (by rw [hk] at hko; simpa [y7] using hko)
end
end Go.Proofs.YtppcfebnaieciaaGreatDoor
