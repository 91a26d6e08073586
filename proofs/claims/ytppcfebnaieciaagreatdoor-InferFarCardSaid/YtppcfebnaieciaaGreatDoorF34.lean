/-
  Laws that the proof rests on.
-/
import Derived.Test.YtppcfebnaieciaaGreatDoorF33
import Derived.Test.YtppcfebnaieciaaGreatDoorF32
namespace Go.Proofs.YtppcfebnaieciaaGreatDoor
set_option maxRecDepth 100000
set_option maxHeartbeats 16000000
section
open Lib (hid)
open Go.RowKit Go.Maps Go.WideMaps
theorem wK (all : List Sht) (ia : Option Addr) (ic A : Nat) (hic : all.length≤ic∧ic≤maxLen) (F b0 b1 b2 n0 n1 n2 : Nat) (sheets : List Sht) (defs : List Sch) (own : ByteArray) (v : Value) (t : Nd) (a : Option Addr) (cap : Nat) (w : World)
 (hA : A≤b0∧A≤b1∧A≤b2) (hbare : m5 2 t=true) (hI : bB (fun b => b<A) w ia all) (hE : ModE F b0 b1 b2 n0 n1 n2 sheets defs v w) (q : Int × Int) (hbad : p8 own.data.toList all sheets t=.error q) :
 Calls Tryz.prog 29 #[.pointer (some ⟨F,0,none⟩),.agg #[.int .i64 t.kind,.string t.text,.int .i64 t.n,.slice a t.kids.length cap,.int .i64 t.place],.string own,.slice ia all.length ic] w (cH F b0 b1 b2 n0 n1 n2 own.data.toList all sheets defs v t w):=by
 have hts : t.text.data.toList.length≤24:=o0 (E0 hbare).1
 obtain ⟨mo,hlk⟩:=hE.ss.all (s:=t.text) (by unfold maxLen; omega)
 obtain ⟨W1,hW1⟩ : ∃ W,W=(w.alloc (.cells #[.pointer (some ⟨F,0,none⟩)] 54)).alloc (.cells #[.int .i64 t.kind,.string t.text,.int .i64 t.n,.slice a t.kids.length cap,.int .i64 t.place] 24):=⟨_,rfl⟩
 have B1:=hid (show Below w.heap.size w W1 from hW1 ▸ ((a7 _ _).alloc (by simp) _))
 have Z1:=hid (show W1.heap.size=w.heap.size + 2 by rw [hW1]; simp)
 have p1 : W1.heap[w.heap.size]?=some (.cells #[.pointer (some ⟨F,0,none⟩)] 54 (0,0)):=by rw [hW1]; exact dJ (by simp) (O0 _ _ rfl)
 have N1:=hid (show c6 (w.heap.size + 1) t a cap W1 by
  have:=c6.make (w.alloc (.cells #[.pointer (some ⟨F,0,none⟩)] 54)) t a cap
  rw [show (w.alloc (.cells #[.pointer (some ⟨F,0,none⟩)] 54)).heap.size=w.heap.size + 1 by simp] at this
  rwa [← hW1] at this)
 have HS:=hid (show ∀ cur,Below W1.heap.size W1 cur→cur.cell? ⟨w.heap.size,0,none⟩=some (.pointer (some ⟨F,0,none⟩))∧cur.cell? ⟨F,0,none⟩=some (.map (some b0))∧c6 (w.heap.size + 1) t a cap cur∧(Instr.lookup 55 (.map (some b0)) (.string t.text) true).run Tryz.prog cur=.ok (.tuple #[.map mo,.bool (j8 sheets t.text.data.toList).isSome]) cur from fun cur hb => by
  have hb0:=hE.ss.in
  have h1:=hb.block w.heap.size (by have:=Z1.out; omega)
  refine ⟨by simp [World.cell?,h1.trans p1],((hE.fb.below B1).below hb).cells.1,N1.out.below hb,hlk _ ((hb.block b0 (by have:=Z1.out; omega)).trans (B1.out.block b0 hb0))⟩)
 have HX:=hid (show p8 own.data.toList all sheets t=if t.text.data.toList=own.data.toList || (j8 sheets t.text.data.toList).isSome then .error (111,t.place) else match j8 all t.text.data.toList with
  | none => .error (112,t.place)
  | some s => .ok s from rfl)
 have HBAD:=hid hbad
 have HIA:=hid (show ∀ cur,Below w.heap.size w cur→bB (fun b => b<A) cur ia all from fun cur hb => hI.move (fun b h => hb.block b (by have:=hA.1; have:=hE.ss.in; omega)) (fun _ h => h) hb.size)
 clear hA hbare hI hE hts hlk p1 hbad
 go_enter Tryz.func29,Tryz.ntmps29
 go_upto_region 1 with fail
 rw [← hW1]
 clear hW1
 have HB0:=hid (show Below W1.heap.size W1 W1.drew from r8 (Below.refl W1.heap.size W1))
 obtain ⟨p0,f0,hn0,hl0⟩:=HS.out _ HB0
 obtain ⟨⟨n0',n1',n2',n3',n4'⟩,-⟩:=hn0.cells
 refine wp_region_held_drew (S:=fun cur => Below W1.heap.size W1 cur∧cur.cell? ⟨w.heap.size,0,none⟩=some (.pointer (some ⟨F,0,none⟩))∧cur.cell? ⟨F,0,none⟩=some (.map (some b0))∧cur.cell? ⟨w.heap.size + 1,1,none⟩=some (.string t.text)∧(Instr.lookup 55 (.map (some b0)) (.string t.text) true).run Tryz.prog cur=.ok (.tuple #[.map mo,.bool (j8 sheets t.text.data.toList).isSome]) cur) (by kernel_rfl) ?_ (fun hHeld => ?_)
 ·exact ⟨HB0,p0,f0,n1',hl0⟩
 refine a8 0 ?_; refine a8 1 ?_; refine a8 2 ?_; refine a8 3 ?_; refine a8 4 ?_; refine a8 5 ?_; refine a8 6 ?_; refine a8 7 ?_; refine a8 8 ?_; refine a8 9 ?_; refine a8 10 ?_; refine a8 11 ?_
 refine wpAnyH_done (by kernel_rfl) ?_ _
 clear hHeld p0 f0 hn0 hl0 n0' n1' n2' n3' n4'
 obtain ⟨w2,hw2⟩ : ∃ V,V=W1.drew:=⟨_,rfl⟩
 rw [← hw2]
 rw [← hw2] at HB0
 clear hw2
 obtain ⟨p0,f0,hn0,-⟩:=HS.out _ HB0
 obtain ⟨⟨q0,q1,q2,q3,q4⟩,-⟩:=hn0.cells
 have HBw:=hid (show Below w.heap.size w w2 from B1.out.trans (HB0.out.mono B1.out.size))
 have C1:=hid (I9 111 t.place w2)
 have C3:=hid (iV (fun b => b<A) all ia ic t a cap (w.heap.size + 1) w2 (HIA.out _ HBw) hic hn0)
 have HNB:=hid hn0
 clear hn0 HS N1 B1
 cases hs : (j8 sheets t.text.data.toList).isSome with
 | true =>
   have FX:=hid (show p8 own.data.toList all sheets t=.error (111,t.place) by rw [HX.out,hs,Bool.or_true]; rfl)
   clear hs HX
   go_wp2_with fail
   (with_reducible refine Calls.mono C1.out ?_)
   rintro e w3 ⟨rfl,rfl⟩
   refine And.intro rfl ?_
   unfold cH
   rw [FX.out]
   exact ⟨rfl,HBw⟩
 | false =>
   have EO : Hid (decide (t.text.data.toList=own.data.toList)=(t.text.toList == own.toList)):=by
    rw [Lib.toList_data,Lib.toList_data]; exact (Bool.beq_eq_decide_eq _ _).symm
   cases ho : (t.text.toList == own.toList) with
   | true =>
     have FX:=hid (show p8 own.data.toList all sheets t=.error (111,t.place) by rw [HX.out,EO.out,ho]; rfl)
     clear hs HX
     go_wp2_with fail
     (with_reducible refine Calls.mono C1.out ?_)
     rintro e w3 ⟨rfl,rfl⟩
     refine And.intro rfl ?_
     unfold cH
     rw [FX.out]
     exact ⟨rfl,HBw⟩
   | false =>
     have HNF:=hid (show j8 all t.text.data.toList=none by
      have h1:=HX.out
      rw [EO.out,ho,hs,HBAD.out] at h1
      cases hf : j8 all t.text.data.toList with
      | none => rfl
      | some x => rw [hf] at h1; cases h1)
     have FX:=hid (show p8 own.data.toList all sheets t=.error (112,t.place) by rw [HX.out,EO.out,ho,hs,HNF.out]; rfl)
     clear hs HX
     go_wp2_with fail
     (with_reducible refine Calls.mono C3.out ?_)
     rintro e w3 ⟨rfl,hb⟩
     have N3:=HNB.out.below hb
     obtain ⟨⟨q0,q1,q2,q3,q4⟩,-⟩:=N3.cells
     have C4:=hid (I9 112 t.place w3)
     have HB3:=hid (HBw.out.trans (hb.mono HBw.out.size))
     clear hb N3
     rw [show cF (fun s : Sht => s.name == t.text.data.toList) all=-1 from by
      have h1:=HNF.out
      unfold j8 at h1
      unfold cF
      rw [List.findIdx?_eq_none_iff.2 fun x hx => by have:=List.find?_eq_none.1 h1 x hx; simpa using this]]
     go_wp2_with fail
     (with_reducible refine Calls.mono C4.out ?_)
     rintro e w4 ⟨rfl,rfl⟩
     refine And.intro rfl ?_
     unfold cH
     rw [FX.out]
     exact ⟨rfl,HB3⟩
theorem xK (all : List Sht) (ia : Option Addr) (ic A : Nat) (hic : all.length≤ic∧ic≤maxLen) (hok : ∀ s∈all,o7 s=true) : qJ all ia ic A:=by
 intro F b0 b1 b2 n0 n1 n2 sheets defs own v t a cap w hA _ hn hFl hbare hI hE
 cases hb : p8 own.data.toList all sheets t with
 | error q => exact wK all ia ic A hic F b0 b1 b2 n0 n1 n2 sheets defs own v t a cap w hA hbare hI hE q hb
 | ok s =>
   refine (zR all ia ic A hic hok F b0 b1 b2 n0 n1 n2 sheets defs own v t a cap w hA hn hFl hbare hI hE s hb).mono fun e w' h => ?_
   unfold cH
   rw [hb]
   exact h
end
section
open Lib (hid)
open Go.RowKit
theorem zM {W : World} {b : Nat} {T : TypeId} {v0 v1 v2 v3 v4 : Value} (h : W.heap[b]?=some (.cells #[v0,v1,v2,v3,v4] T (0,0))) : ∀ j x,[v0,v1,v2,v3,v4][j]?=some x→W.cell? ((⟨b,0,none⟩ : Addr).add j)=some x:=by
 intro j x hx
 rw [Go.WideShapes.add_plain,Nat.zero_add,World.cell?]
 simp only [h]
 match j,hx with
 | 0,h => exact h
 | 1,h => exact h
 | 2,h => exact h
 | 3,h => exact h
 | 4,h => exact h
theorem a1r {n : Nat} (h : n<200) (w : World) :
 (convert 50 9 (.slice (some ⟨w.heap.size,0,none⟩) 3 3)).run Tryz.prog (w.alloc (.cells #[.int .u8 120,.int .u8 (97 + (n : Int) / 20),.int .u8 (97 + (n : Int) % 20)] 5))=.ok (.string (bsA (aH n))) (w.alloc (.cells #[.int .u8 120,.int .u8 (97 + (n : Int) / 20),.int .u8 (97 + (n : Int) % 20)] 5)):=by
 refine run_convert_bytes_back _ 50 9 5 ⟨w.heap.size,0,none⟩ 3 (aH n) (by kernel_rfl) (by kernel_rfl) (by kernel_rfl) ?_
 intro j hj
 match j,hj with
 | 0,_ => simp [Addr.add,aH]
 | 1,_ => rw [show ((aH n)[1]).toNat=97 + n / 20 by simp only [aH,List.getElem_cons_succ,List.getElem_cons_zero,UInt8.toNat_ofNat']; omega]; simp [Addr.add]
 | 2,_ => rw [show ((aH n)[2]).toNat=97 + n % 20 by simp only [aH,List.getElem_cons_succ,List.getElem_cons_zero,UInt8.toNat_ofNat']; omega]; simp [Addr.add]
theorem FarW.start {W W5 : World} {nm : List UInt8} {tx : ByteArray} (ht : tx=bsA nm) (hn : nm.length≤24) (h : W5=(W.alloc (.cells #[.int .i64 2,.string tx,.int .i64 0,.slice none 0 0,.int .i64 0] 24)).alloc (.cells #[.int .i64 1,.string ⟨#[122,122]⟩,.int .i64 0,.slice (some ⟨W.heap.size,0,none⟩) 1 1,.int .i64 0] 24)) :
 FarW W (W.heap.size + 1) nm [] [] W.heap.size 1 [(mkN 2 nm 0 [] 0,none,0)] (.slice none 0 0) W5:=by
 subst ht
 have hz : (W.alloc (.cells #[.int .i64 2,.string (bsA nm),.int .i64 0,.slice none 0 0,.int .i64 0] 24)).heap.size=W.heap.size + 1:=by simp
 have b1 : Below W.heap.size W (W.alloc (.cells #[.int .i64 2,.string (bsA nm),.int .i64 0,.slice none 0 0,.int .i64 0] 24)):=a7 _ _
 have b2 : Below (W.heap.size + 1) (W.alloc (.cells #[.int .i64 2,.string (bsA nm),.int .i64 0,.slice none 0 0,.int .i64 0] 24)) W5:=by rw [h,← hz]; exact a7 _ _
 have k0 : (W.alloc (.cells #[.int .i64 2,.string (bsA nm),.int .i64 0,.slice none 0 0,.int .i64 0] 24)).heap[W.heap.size]?=some (.cells (ndA (mkN 2 nm 0 [] 0) none 0) 24 (0,0)):=U6 _ _
 have k1 : W5.heap[W.heap.size]?=some (.cells (ndA (mkN 2 nm 0 [] 0) none 0) 24 (0,0)):=(b2.block _ (by omega)).trans k0
 have k2 : W5.heap[W.heap.size + 1]?=some (.cells #[.int .i64 1,.string ⟨#[122,122]⟩,.int .i64 0,.slice (some ⟨W.heap.size,0,none⟩) 1 1,.int .i64 0] 24 (0,0)):=by rw [h,← hz]; exact U6 _ _
 refine ⟨b1.trans (b2.mono (Nat.le_succ _)),Nat.le_succ _,k2,⟨rfl,.inr ⟨W.heap.size,1,_,rfl,Nat.le_refl _,k1,Nat.le_refl 1,by unfold maxLen; omega,rfl,rfl⟩⟩,rfl,fun e he => ?_,World.ownsRow_nil _ _ _ _,⟨by omega,nofun,nofun⟩⟩
 obtain rfl:=List.mem_singleton.1 he
 exact Nd.lies.mk' (by decide) (by show nm.toArray.size≤_; simp [maxLen]; omega) (by decide) (by decide) (Nat.le_refl 0) (Nat.zero_le _) trivial
theorem zU {nm : List UInt8} {ds : List Sch} (hn : nm.length≤24) (hd : ∀ d∈ds,d.name.length≤24) : o6 (aG nm ds):=by
 unfold aG mkN
 rw [o6,H8,o6]
 refine ⟨by decide,⟨by show nm.toArray.size≤_; simp; omega,by rw [H8]; trivial⟩,?_⟩
 have : ∀ (l : List Nd),(∀ k∈l,o6 k)→H8 l:=fun l => by
  induction l with
  | nil => intro _; rw [H8]; trivial
  | cons a l ih => intro h; rw [H8]; exact ⟨h a (List.mem_cons_self ..),ih fun k hk => h k (List.mem_cons_of_mem _ hk)⟩
 refine this _ fun k hk => ?_
 obtain ⟨j,hj,rfl⟩:=List.getElem_of_mem hk
 rw [List.length_mapIdx] at hj
 rw [List.getElem_mapIdx]
 unfold p5 mkN
 rw [o6,H8,o6]
 have:=hd _ (List.getElem_mem hj)
 exact ⟨by show (aH j).toArray.size≤_; simp [aH],⟨by show (U4 nm ds[j]).toArray.size≤_; simp [U4]; omega,by rw [H8]; trivial⟩,by rw [H8]; trivial⟩
theorem zB (t : Nd) (a : Option Addr) (cap n₀ : Nat) (w : World) (hh : t.hold n₀ w a cap) (hs : o6 t) (hnil : a=none→cap=0) (hn : n₀≤w.heap.size) (he : Env w) (hta : Tab w) (hti : bZ w) :
 Calls Tryz.prog 9 #[.agg #[.int .i64 t.kind,.string t.text,.int .i64 t.n,.slice a t.kids.length cap,.int .i64 t.place]] w fun e w' => e=.returned (.bool true)∧Below w.heap.size w w':=by
 obtain ⟨W1,hW1⟩ : ∃ W,W=w.alloc (.cells #[.int .i64 t.kind,.string t.text,.int .i64 t.n,.slice a t.kids.length cap,.int .i64 t.place] 24):=⟨_,rfl⟩
 have B1:=hid (show Below w.heap.size w W1 from hW1 ▸ a7 _ _)
 have N1:=hid (show c6 w.heap.size t a cap W1 from hW1 ▸ c6.make w t a cap)
 have HX:=hid (show ∀ cur,Below w.heap.size w cur→t.hold n₀ cur a cap∧n₀≤cur.heap.size∧Env cur∧Tab cur∧bZ cur from fun cur hb => ⟨hh.below (hb.mono hn),Nat.le_trans hn hb.size,he.below hb,hta.below hb,hti.below hb⟩)
 have HS0:=hid hs
 have HN0:=hid hn
 have HB0:=hid hh.bounds
 have HNIL0:=hid hnil
 have C1:=hid (vI W1 (HX.out _ B1).2.2.1 (HX.out _ B1).2.2.2.1 (HX.out _ B1).2.2.2.2)
 clear hh hs hn he hta hti hnil
 go_enter Tryz.func9,Tryz.ntmps9
 go_upto_region 1 with fail
 rw [← hW1]
 clear hW1
 go_wp2_with fail
 (with_reducible refine Calls.mono C1.out ?_)
 rintro e w2 ⟨rfl,hb⟩
 have B2:=hid (show Below w.heap.size w w2 from B1.out.trans (hb.mono B1.out.size))
 have N2:=hid (N1.out.below hb)
 clear hb C1 B1 N1
 have C2:=hid (mD [] none 0 t a cap n₀ w2 (HX.out _ B2).1 HS0 (HX.out _ B2).2.1 (HX.out _ B2).2.2.1 (HX.out _ B2).2.2.2.1 (HX.out _ B2).2.2.2.2 (fun j hj => absurd hj (Nat.not_lt_zero _)) ⟨Nat.le_refl _,Nat.zero_le _⟩ (fun s hs => (List.not_mem_nil hs).elim) (mF 0 _ (Nat.zero_le _)))
 rw [show ([] : List Sht).length=0 from rfl] at C2
 unfold lC at C2
 obtain ⟨⟨n0,n1,n2,n3,n4⟩,-⟩:=N2.out.cells
 have hlt : w.heap.size<w2.heap.size:=N2.out.lt
 cases hm : r9 t [] with
 | error q =>
   obtain ⟨k,p⟩:=q
   rw [hm] at C2
   have ek : (k != 0)=true:=bne_iff_ne.2 (a3p hm)
   clear hm
   go_wp2_with fail
   (with_reducible refine Calls.mono C2.out ?_)
   rintro e w3 ⟨hb,rfl⟩
   have B3:=hid (show Below w.heap.size w w3 from B2.out.trans (hb.mono B2.out.size))
   clear hb C2 B2 N2
   have B4:=hid (show Below w.heap.size w (w3.alloc (.cells #[.string ⟨#[]⟩,.slice none 0 0] 29)) from B3.out.trans ((a7 _ _).mono B3.out.size))
   clear n0 n1 n2 n3 n4 hlt
   go_wp2_with fail
   go_ret
   exact ⟨rfl,B4⟩
 | ok s =>
 rw [hm] at C2
 have HM:=hid (eJ hm)
 have HA:=hid hm
 clear hm
 go_wp2_with fail
 (with_reducible refine Calls.mono C2.out ?_)
 rintro e w3 ⟨hb,da,dc,rfl,hS,h1,h2,h3⟩
 have B3:=hid (show Below w.heap.size w w3 from B2.out.trans (hb.mono B2.out.size))
 have N3:=hid (N2.out.below hb)
 have SD3:=hid (yV hS)
 have HDC:=hid (show (s.defs.length≤dc∧dc≤maxLen)∧(da=none→dc=0) from ⟨⟨h1,h2⟩,h3⟩)
 have HDL:=hid (show s.defs.length=t.kids.length from HM.out.2.2.2.1)
 clear hb C2 B2 N2 hS h1 h2 h3
 obtain ⟨W4,hW4⟩ : ∃ W,W=w3.alloc (.cells #[.string (bsA s.name),.slice da s.defs.length dc] 29):=⟨_,rfl⟩
 have E4:=hid (show Below w3.heap.size w3 W4 from hW4 ▸ a7 _ _)
 have B4:=hid (B3.out.trans (E4.out.mono B3.out.size))
 have HSB:=hid (show W4.heap[w3.heap.size]?=some (.cells #[.string (bsA s.name),.slice da s.defs.length dc] 29 (0,0)) by rw [hW4]; exact O0 _ _ rfl)
 have N4:=hid (N3.out.below E4)
 have SD4:=hid (dS SD3 E4)
 clear n0 n1 n2 n3 n4 hlt
 obtain ⟨⟨n0,n1,n2,n3,n4⟩,-⟩:=N4.out.cells
 have hlt : w.heap.size<W4.heap.size:=N4.out.lt
 have hsb:=HSB.out
 have s1 : W4.cell? ⟨w3.heap.size,1,none⟩=some (.slice da s.defs.length dc):=by simp [World.cell?,hsb]
 have hsl : w3.heap.size<W4.heap.size:=(Array.getElem?_eq_some_iff.1 hsb).1
 clear hsb
 have HNL:=hid (show s.name.length≤24 from o0 (by have h:=HM.out.2.1; unfold o7 at h; simp only [Bool.and_eq_true] at h; exact h.1.1))
 have HTX:=hid (show t.text=bsA s.name by rw [HM.out.2.2.1]; exact (bR _).symm)
 by_cases hz : t.text.data.toList=bZz
 ·have e1 : (t.text.toList == [122,122])=true:=by rw [Lib.toList_data]; exact beq_iff_eq.2 hz
  clear hz
  go_upto_region 3 with fail
  rw [← hW4]
  clear hW4
  go_wp2_with fail
  go_ret
  exact ⟨rfl,B4⟩
 have e1 : (t.text.toList == [122,122])=false:=by rw [Lib.toList_data]; exact beq_eq_false_iff_ne.2 hz
 have HFAR:=hid (a0M HA hz)
 clear hz
 obtain ⟨W5,hW5⟩ : ∃ W,W=(W4.alloc (.cells #[.int .i64 2,.string t.text,.int .i64 0,.slice none 0 0,.int .i64 0] 24)).alloc (.cells #[.int .i64 1,.string ⟨#[122,122]⟩,.int .i64 0,.slice (some ⟨W4.heap.size,0,none⟩) 1 1,.int .i64 0] 24):=⟨_,rfl⟩
 have F5:=hid (FarW.start HTX HNL hW5)
 go_upto_region 3 with fail
 rw [← hW4]
 clear hW4
 go_upto_region 6 with fail
 rw [← hW5]
 clear hW5 n0 n1 n2 n3 n4 s1 hlt hsl
 have hdl : s.defs.length≤200:=by have h:=HM.out.2.1; unfold o7 at h; simp only [Bool.and_eq_true,decide_eq_true_eq] at h; exact h.1.2
 go_wp2_with fail
 go_loopw [8,9] (fun wv i wr => ∃ q : Nat,q≤s.defs.length∧i=.int .i64 q∧∃ g gc L,Hid (FarW W4 (W4.heap.size + 1) s.name ((s.defs.take q).filter O1) (((s.defs.take q).filter O1).map (·.result)) g gc L wv wr)) (fun _ i _ => s.defs.length - (intOf i).toNat)
 case atStart => exact ⟨0,Nat.zero_le _,rfl,_,_,_,by rw [List.take_zero]; exact F5⟩
 case round =>
  obtain ⟨q,hq,rfl,g,gc,L,HF⟩:=hrel
  have HSr:=hid (HF.out.bl.block _ (Array.getElem?_eq_some_iff.1 HSB).1 |>.trans HSB.out)
  have hsb:=HSr.out
  have s0 : wr.cell? ⟨w3.heap.size,0,none⟩=some (.string (bsA s.name)):=by simp [World.cell?,hsb]
  have s1 : wr.cell? ⟨w3.heap.size,1,none⟩=some (.slice da s.defs.length dc):=by simp [World.cell?,hsb]
  have hsl : w3.heap.size<wr.heap.size:=(Array.getElem?_eq_some_iff.1 hsb).1
  clear hsb
  by_cases hlt : q<s.defs.length
  ·obtain ⟨b,off,rfl,hav,hbl,pa,pc,d0,d1,d2,hI,hpl,hpm,-⟩:=SD4.out q hlt
   have D0:=hid (show W4.cell? ⟨b,off + q * 3,none⟩=some (.string (bsA s.defs[q].name))∧W4.cell? ⟨b,off + q * 3 + 2,none⟩=some (.int .i64 s.defs[q].result) from ⟨d0,d2⟩)
   replace d0:=(HF.out.bl.cell (p:=⟨b,off + q * 3,none⟩) hbl).trans d0
   replace d1:=(HF.out.bl.cell (p:=⟨b,off + q * 3 + 1,none⟩) hbl).trans d1
   replace d2:=(HF.out.bl.cell (p:=⟨b,off + q * 3 + 2,none⟩) hbl).trans d2
   have hdmem:=List.getElem_mem hlt
   have HTK:=hid (show s.defs.take (q + 1)=s.defs.take q ++ [s.defs[q]] from (List.take_append_getElem hlt).symm)
   generalize s.defs[q]=d at d0 d1 d2 hI hpl hdmem HTK D0
   obtain ⟨ds,hds⟩ : ∃ ds,ds=(s.defs.take q).filter O1:=⟨_,rfl⟩
   have HDS:=hid hds
   have hdn : ds.length<200:=by
    have h1 : ((s.defs.take q).filter O1).length≤(s.defs.take q).length:=List.length_filter_le ..
    rw [List.length_take] at h1
    rw [hds]; omega
   rw [← hds] at HF
   clear hds
   obtain ⟨pw,wc,rfl,-⟩:=mL HF.out.want
   rw [List.length_map] at HF
   have HOK:=hid (show d.name.length≤24 by
    have h:=HM.out.2.1
    unfold o7 aK at h
    simp only [Bool.and_eq_true,List.all_eq_true] at h
    exact o0 (h.2 d hdmem).1.1.1)
   have hpm9 : pc≤9223372036854775807:=by have:=hpm; unfold maxLen at this; omega
   by_cases hp : d.params=[]
   ·have e2 : ((d.params.length : Int) == 0)=true:=by rw [hp]; rfl
    have e2n : d.params.length=0:=by rw [hp]; rfl
    have HFI:=hid (show (s.defs.take (q + 1)).filter O1=ds ++ [d] by rw [HTK.out,List.filter_append,← HDS.out,List.filter_cons_of_pos (by unfold O1; rw [hp]; rfl),List.filter_nil])
    have hcv:=a1r hdn wr
    obtain ⟨W6,hW6⟩ : ∃ W,W=wr.alloc (.cells #[.int .u8 120,.int .u8 (97 + (ds.length : Int) / 20),.int .u8 (97 + (ds.length : Int) % 20)] 5):=⟨_,rfl⟩
    have E6:=hid (show Below wr.heap.size wr W6 from hW6 ▸ a7 _ _)
    go_upto_region 12 with fail
    rw [← hW6]
    clear hW6 hcv d0 d1 d2 s0 s1 hsl
    have F6:=hid (HF.out.below E6)
    have LT6:=hid F6.out.lt
    have N6:=hid (N4.out.below F6.out.bl)
    have HS:=hid (show ∀ cur,Below W4.heap.size W4 cur→cur.cell? ⟨w.heap.size,1,none⟩=some (.string (bsA s.name))∧cur.cell? ⟨w3.heap.size,1,none⟩=some (.slice (some ⟨b,off,none⟩) s.defs.length dc)∧cur.cell? ⟨b,off + q * 3,none⟩=some (.string (bsA d.name))∧cur.cell? ⟨b,off + q * 3 + 2,none⟩=some (.int .i64 d.result) from fun cur hb => by
     have hsb:=(hb.block _ (Array.getElem?_eq_some_iff.1 HSB).1).trans HSB
     refine ⟨?_,by simp [World.cell?,hsb],(hb.cell (p:=⟨b,off + q * 3,none⟩) hbl).trans D0.out.1,(hb.cell (p:=⟨b,off + q * 3 + 2,none⟩) hbl).trans D0.out.2⟩
     have:=(N4.out.below hb).cells.1.2.1
     rw [HTX.out] at this
     exact this)
    have hsz : ∀ l : List UInt8,(bsA l).size=l.length:=fun l => by simp [bsA,ByteArray.size]
    have z1 : (bsA s.name).size=s.name.length:=hsz _
    have z2 : (bsA d.name).size=d.name.length:=hsz _
    have hc1 : ¬ 9223372036854775807<s.name.length + 1:=by have:=HNL.out; omega
    have hc2 : ¬ 9223372036854775807<s.name.length + 1 + d.name.length:=by have:=HNL.out; have:=HOK.out; omega
    have hdcm : dc≤9223372036854775807:=by have:=HDC.out.1.2; unfold maxLen at this; omega
    have hdcl:=HDC.out.1.1
    obtain ⟨m3,mf⟩ : W6.cell? ⟨W4.heap.size + 1,3,none⟩=some (.slice (some ⟨g,0,none⟩) (ds.length + 1) gc)∧W6.frozen? ⟨W4.heap.size + 1,3,none⟩=false:=⟨F6.out.cells.1.2.2.2.1,F6.out.cells.2⟩
    obtain ⟨h1,h2,h3,-⟩:=HS.out _ F6.out.bl
    refine s3 (S:=fun cur : World => cur.cell? ⟨W4.heap.size + 1,3,none⟩=some (.slice (some ⟨g,0,none⟩) (ds.length + 1) gc)∧cur.cell? ⟨w.heap.size,1,none⟩=some (.string (bsA s.name))∧cur.cell? ⟨w3.heap.size,1,none⟩=some (.slice (some ⟨b,off,none⟩) s.defs.length dc)∧cur.cell? ⟨b,off + q * 3,none⟩=some (.string (bsA d.name))) (z:=19) (by kernel_rfl) ?_ (fun hHeld => ?_)
    ·exact ⟨m3,h1,h2,h3⟩
    clear h1 h2 h3 m3
    refine b8.t 0 ?_; refine b8.t 1 ?_; refine b8.t 2 ?_; refine b8.t 3 ?_; refine b8.t 4 ?_; refine b8.t (v:=.string (bsA s.name ++ ⟨#[46]⟩)) 5 ?_
    refine b8.t 6 ?_; refine b8.t 7 ?_; refine b8.t 8 ?_; refine b8.t 9 ?_; refine b8.t 10 ?_; refine b8.t 11 ?_
    refine b8.t (v:=.string (bsA s.name ++ ⟨#[46]⟩ ++ bsA d.name)) 12 ?_; refine b8.t 13 ?_
    refine b8.nx 14 fun K hK => ?_
    go_simp
    obtain ⟨W7,hW7⟩ : ∃ W,W=(W6.alloc (.cells #[.int .i64 10,.string (bsA s.name ++ ⟨#[46]⟩ ++ bsA d.name),.int .i64 0,.slice none 0 0,.int .i64 0] 24)).drew:=⟨_,rfl⟩
    have G7:=hid (show Below W6.heap.size W6 W7 from hW7 ▸ r8 (a7 _ _))
    have K7:=hid (show W7.heap[W6.heap.size]?=some (.cells (ndA (mkN 10 (U4 s.name d) 0 [] 0) none 0) 24 (0,0)) from by
     have e : bsA s.name ++ ⟨#[46]⟩ ++ bsA d.name=bsA (U4 s.name d):=by
      unfold U4
      rw [show (⟨#[46]⟩ : ByteArray)=bsA [46] from rfl,← L4,← L4]
     rw [hW7,e]
     exact U6 _ _)
    rw [← hW7]
    clear hW7
    have B7:=hid (F6.out.bl.trans (G7.out.mono F6.out.bl.size))
    have hS7:=HS.out _ B7
    have m7 : W7.cell? ⟨W4.heap.size + 1,3,none⟩=some (.slice (some ⟨g,0,none⟩) (ds.length + 1) gc):=(F6.out.below G7).cells.1.2.2.2.1
    refine hK.out _ _ ⟨m7,hS7.1,hS7.2.1,hS7.2.2.1⟩ (fun hHeld => ?_)
    clear hK K
    try simp only [Act.put,j6,v6,v7]
    refine b8.t 15 ?_
    refine b8.nx 16 fun K hK => ?_
    go_simp
    obtain ⟨W8,hW8⟩ : ∃ W,W=W7.alloc (.cells #[.int .i64 3,.string (bsA (aH ds.length)),.int .i64 0,.slice (some ⟨W6.heap.size,0,none⟩) 1 1,.int .i64 0] 24):=⟨_,rfl⟩
    have G78:=hid (show Below W7.heap.size W7 W8 from hW8 ▸ a7 _ _)
    have G8:=hid (G7.out.trans (G78.out.mono G7.out.size))
    have K8:=hid ((G78.out.block _ (Array.getElem?_eq_some_iff.1 K7).1).trans K7)
    have N8:=hid (show ∀ (j : Nat) u',(ndC (p5 s.name ds.length d,some ⟨W6.heap.size,0,none⟩,1))[j]?=some u'→W8.cell? ((⟨W7.heap.size,0,none⟩ : Addr).add j)=some u' from zM (by rw [hW8]; exact U6 _ _))
    rw [← hW8]
    clear hW8
    have B8:=hid (F6.out.bl.trans (G8.out.mono F6.out.bl.size))
    have hS8:=HS.out _ B8
    have m8 : W8.cell? ⟨W4.heap.size + 1,3,none⟩=some (.slice (some ⟨g,0,none⟩) (ds.length + 1) gc):=(F6.out.below G8).cells.1.2.2.2.1
    refine hK.out _ _ ⟨m8,hS8.1,hS8.2.1,hS8.2.2.1⟩ (fun hHeld => ?_)
    clear hK K
    try simp only [Act.put,j6,v6,v7]
    obtain ⟨i0,hi,hq0,hq1,hq2⟩:=info_parts (show (Tryz.prog.info? 24).map (fun i => (i.zero,i.size,i.bytes))=some (some (.agg #[.int .i64 0,.string ⟨#[]⟩,.int .i64 0,.slice none 0 0,.int .i64 0]),5,64) by kernel_rfl)
    refine b8.nx 17 fun K hK => ?_
    refine step_append_lies _ rfl _ _ 22 rfl W4.heap.size 24 i0 (.agg #[.int .i64 0,.string ⟨#[]⟩,.int .i64 0,.slice none 0 0,.int .i64 0]) 5 64 Tryz.underlying22 hi hq0 hq1 hq2 rfl (by decide) (.slice (some ⟨g,0,none⟩) (ds.length + 1) gc) (ds.length + 1) (bH L) rfl (n8 F6.out.row G8) ⟨W7.heap.size,0,none⟩ 1 1 (ndC (p5 s.name ds.length d,some ⟨W6.heap.size,0,none⟩,1)) rfl rfl N8 (iN _) (by decide) (by unfold maxLen; omega) (by omega) B8.out.size _ rfl ?_
    intro g' gc' w9 hown hgrow hat hltg
    have F10:=hid (F6.out.use HNL HOK G8 K8 (Nat.le_refl _) hgrow hown hat)
    have B9:=hid (B8.out.grown hgrow B8.out.size (fun r e => by cases e; exact LT6.out.2.2.1))
    have box9 : w9.heap[W4.heap.size + 1]?=_:=(hgrow.block (W4.heap.size + 1) (by have:=LT6.out.1; have:=G8.out.size; omega) (fun e => F6.out.sep.1 (Option.some.inj e).symm)).trans ((G8.out.block _ LT6.out.1).trans F6.out.box)
    have m9 : w9.cell? ⟨W4.heap.size + 1,3,none⟩=some (.slice (some ⟨g,0,none⟩) (ds.length + 1) gc):=by simp [World.cell?,box9]
    have mf9 : w9.frozen? ⟨W4.heap.size + 1,3,none⟩=false:=by simp [World.frozen?,box9]
    have hS9:=HS.out _ B9
    refine hK.out _ _ ⟨m9,hS9.1,hS9.2.1,hS9.2.2.1⟩ (fun hHeld => ?_)
    clear hK K hown hgrow hat hltg hi hq0 hq1 hq2 box9
    try simp only [Act.put,j6,v6,v7]
    refine b8.t 18 ?_
    refine b8.la fun K hK => ?_
    go_simp
    refine hK.out _ _ ?_
    clear hK K hHeld m7 m8 m9 mf9 mf hS7 hS8 hS9
    try simp only [Act.put,j6,v6,v7]
    obtain ⟨W10,hW10⟩ : ∃ W,W=w9.setCell ⟨W4.heap.size + 1,3,none⟩ (.slice (some ⟨g',0,none⟩) (ds.length + 1 + 1) gc'):=⟨_,rfl⟩
    rw [← hW10] at F10
    rw [← hW10]
    clear hW10 B9 B8 B7 G8 G78 G7 K8 K7 N8 N6 LT6 F6 E6 HF
    obtain ⟨-,h2,-,h4⟩:=HS.out _ F10.out.bl
    have hsl : w3.heap.size<W10.heap.size:=by have:=(Array.getElem?_eq_some_iff.1 HSB).1; have:=F10.out.bl.size; omega
    obtain ⟨i1,hi,hq0,hq1,hq2⟩:=info_parts (show (Tryz.prog.info? 3).map (fun i => (i.zero,i.size,i.bytes))=some (some (.int .i64 0),1,8) by kernel_rfl)
    have HI1:=hid (show _∧_∧_∧_ from ⟨hi,hq0,hq1,hq2⟩)
    obtain ⟨W11,hW11⟩ : ∃ W,W=W10.alloc (.cells #[.int .i64 d.result] 3):=⟨_,rfl⟩
    have G11:=hid (show Below W10.heap.size W10 W11 from hW11 ▸ a7 _ _)
    have N11:=hid (show ∀ (j : Nat) u',[Value.int .i64 d.result][j]?=some u'→W11.cell? ((⟨W10.heap.size,0,none⟩ : Addr).add j)=some u' from hW11 ▸ V2)
    have HW11:=hid hW11
    have hwl : (ds.map (·.result)).length=ds.length:=List.length_map ..
    have HROW:=hid (n8 F10.out.want G11)
    rw [hwl] at HROW
    clear hW11 hi hq0 hq1 hq2
    go_wp2_with (at_builtin; rw [← HW11.out]; refine wpList_append_lies _ rfl _ _ 34 rfl W4.heap.size 3 i1 (.int .i64 0) 1 8 Tryz.underlying34 HI1.out.1 HI1.out.2.1 HI1.out.2.2.1 HI1.out.2.2.2 rfl (by decide) (.slice pw ds.length wc) ds.length _ rfl HROW ⟨W10.heap.size,0,none⟩ 1 1 [.int .i64 d.result] rfl rfl N11 aO (by decide) (by unfold maxLen; omega) (by omega) (by have:=F10.out.bl.size; have:=G11.out.size; omega) _ rfl ?_)
    intro gw wc' w12 hown hgrow hat hltg
    rw [← hwl,← List.map_map] at hown
    have F12:=hid (F10.out.note G11 hgrow hown hat)
    rw [hwl] at F12
    clear hown hgrow hat hltg HROW G11 N11 HW11 h2 h4 hsl
    go_wp2_with fail
    go_roundw
    case rel => exact ⟨q + 1,by omega,by go_num,g',gc',_,by rw [HFI.out,List.map_append]; exact F12⟩
    case measure => simp [intOf]; omega
   ·have e2 : ((d.params.length : Int) == 0)=false:=beq_eq_false_iff_ne.2 (by have : d.params.length≠0:=fun e => hp (List.length_eq_zero_iff.1 e); omega)
    have HFI:=hid (show (s.defs.take (q + 1)).filter O1=ds by
     have h9 : O1 d=false:=by
      unfold O1
      cases hdp : d.params with
      | nil => exact (hp hdp).elim
      | cons x l => rfl
     rw [HTK.out,List.filter_append,← HDS.out,List.filter_cons_of_neg (by rw [h9]; decide),List.filter_nil,List.append_nil])
    clear hp
    go_wp2_with fail
    go_roundw
    case rel => exact ⟨q + 1,by omega,by go_num,g,gc,L,by rw [HFI.out,List.length_map]; exact HF⟩
    case measure => simp [intOf]; omega
  ·obtain rfl : q=s.defs.length:=by omega
   rw [List.take_length] at HF
   obtain ⟨ds,hds⟩ : ∃ ds,ds=s.defs.filter O1:=⟨_,rfl⟩
   have hdn : ds.length≤200:=by
    have h1 : (s.defs.filter O1).length≤s.defs.length:=List.length_filter_le ..
    rw [hds]; omega
   have HDN:=hid (show ∀ d∈ds,d.name.length≤24 from fun d hd => by
    rw [hds] at hd
    have h:=HM.out.2.1
    unfold o7 aK at h
    simp only [Bool.and_eq_true,List.all_eq_true] at h
    exact o0 (h.2 d (List.mem_filter.1 hd).1).1.1.1)
   rw [← hds] at HF HFAR
   clear hds s0 s1 hsl
   obtain ⟨pw,wc,rfl,-⟩:=mL HF.out.want
   rw [List.length_map] at HF
   obtain ⟨W14,hW14⟩ : ∃ W,W=wr.alloc (.cells #[.string (bsA s.name),.slice da s.defs.length dc] 29):=⟨_,rfl⟩
   have G14:=hid (show Below wr.heap.size wr W14 from hW14 ▸ a7 _ _)
   have HB14:=hid (show W14.heap[wr.heap.size]?=some (.cells #[.string (bsA s.name),.slice da s.defs.length dc] 29 (0,0)) by rw [hW14]; exact O0 _ _ rfl)
   have F14:=hid (HF.out.below G14)
   have B14:=hid (B4.out.trans (F14.out.bl.mono B4.out.size))
   have C14:=hid (show Calls Tryz.prog 11 #[.agg #[.int .i64 1,.string ⟨#[122,122]⟩,.int .i64 0,.slice (some ⟨g,0,none⟩) (ds.length + 1) gc,.int .i64 0],.slice (some ⟨wr.heap.size,0,none⟩) 1 1] W14 (fun e w' => Below W14.heap.size W14 w'∧∃ ta tc,e=.returned (.tuple #[.agg #[.string ⟨#[122,122]⟩,.slice ta ds.length tc],.int .i64 0,.int .i64 0])∧bS (fun b => W14.heap.size≤b) w' ta (dX ds)∧ds.length≤tc∧tc≤maxLen∧(ta=none→tc=0)) by
    have hho:=F14.out.tree F14.out.caps
    have hsh:=zU (nm:=s.name) HNL HDN
    have hic : ([s] : List Sht).length≤1∧1≤maxLen:=⟨Nat.le_refl 1,by unfold maxLen; omega⟩
    have hb:=HB14.out
    have hsl : wr.heap.size<W14.heap.size:=(Array.getElem?_eq_some_iff.1 hb).1
    have hI : bB (fun b => b<W14.heap.size) W14 (some ⟨wr.heap.size,0,none⟩) [s]:=fun j hj => by
     obtain rfl : j=0:=by simpa using hj
     have hsd:=dS SD4 F14.out.bl
     refine ⟨wr.heap.size,0,da,dc,rfl,hsl,hsl,by simp [World.cell?,hb],by simp [World.cell?,hb],HDC.out.1.1,HDC.out.1.2,hsd.move (fun _ _ => rfl) (fun b hb => by have:=hb.2; have:=E4.out.size; have:=F14.out.bl.size; omega) (Nat.le_refl _)⟩
    have hg : kZ [s]:=fun x hx => by
     obtain rfl:=List.mem_singleton.1 hx
     refine ⟨by omega,by have:=HNL.out; omega,fun d hd => ?_⟩
     have h:=HM.out.2.1
     unfold o7 aK at h
     simp only [Bool.and_eq_true,List.all_eq_true] at h
     have:=o0 (h.2 d hd).1.1.1
     omega
    have h:=jG [s] (some ⟨wr.heap.size,0,none⟩) 1 (aG s.name ds) (some ⟨g,0,none⟩) gc W14.heap.size W14 hho hsh (Nat.le_refl _) (HX.out _ B14).2.2.1 (HX.out _ B14).2.2.2.1 (HX.out _ B14).2.2.2.2 hI hic hg (fun hok => xK [s] _ 1 _ hic hok)
    have hkl : (aG s.name ds).kids.length=ds.length + 1:=by
     show (mkN 2 s.name 0 [] 0 :: ds.mapIdx fun k d => p5 s.name k d).length=_
     simp
    have hfl : (dX ds).length=ds.length:=by unfold dX; simp
    unfold lC at h
    rw [HFAR.out,hkl] at h
    simp only [hfl] at h
    exact h)
   rw [List.length_map]
   have hsr:=(F14.out.bl.block _ (Array.getElem?_eq_some_iff.1 HSB).1).trans HSB
   have hsr0:=(HF.out.bl.block _ (Array.getElem?_eq_some_iff.1 HSB).1).trans HSB
   have s0 : wr.cell? ⟨w3.heap.size,0,none⟩=some (.string (bsA s.name)):=by simp [World.cell?,hsr0]
   have s1 : wr.cell? ⟨w3.heap.size,1,none⟩=some (.slice da s.defs.length dc):=by simp [World.cell?,hsr0]
   have hsl : w3.heap.size<wr.heap.size:=(Array.getElem?_eq_some_iff.1 hsr0).1
   obtain ⟨⟨m0,m1,m2,m3,m4⟩,-⟩:=HF.out.cells
   have hml:=HF.out.lt.1
   clear hsr hsr0
   go_wp2_with fail
   rw [← hW14]
   clear hW14 s0 s1 hsl m0 m1 m2 m3 m4 hml
   (with_reducible refine Calls.mono C14.out ?_)
   rintro e w15 ⟨hb,ta,tc,rfl,hS,h1,h2,h3⟩
   have F15:=hid (F14.out.below hb)
   have SD15:=hid (yV hS)
   have htc : ds.length≤tc:=h1
   have htm : tc≤9223372036854775807:=by unfold maxLen at h2; omega
   clear hb C14 hS h1 h2 h3
   obtain ⟨W16,hW16⟩ : ∃ W,W=w15.alloc (.cells #[.string ⟨#[122,122]⟩,.slice ta ds.length tc] 29):=⟨_,rfl⟩
   have G16:=hid (show Below w15.heap.size w15 W16 from hW16 ▸ a7 _ _)
   have HB16:=hid (show W16.heap[w15.heap.size]?=some (.cells #[.string ⟨#[122,122]⟩,.slice ta ds.length tc] 29 (0,0)) by rw [hW16]; exact O0 _ _ rfl)
   have F16:=hid (F15.out.below G16)
   have SD16:=hid (dS SD15 G16)
   have B16:=hid (B4.out.trans (F16.out.bl.mono B4.out.size))
   have hfb:=HB16.out
   have f1 : W16.cell? ⟨w15.heap.size,1,none⟩=some (.slice ta ds.length tc):=by simp [World.cell?,hfb]
   have hfl : w15.heap.size<W16.heap.size:=(Array.getElem?_eq_some_iff.1 hfb).1
   clear hfb
   go_upto_region 15 with fail
   rw [← hW16]
   clear hW16
   go_wp2_with fail
   go_loopw [14] (fun i wr => ∃ q : Nat,q≤ds.length∧i=.int .i64 q∧Hid (Below W16.heap.size W16 wr)) (fun i _ => ds.length - (intOf i).toNat)
   case atStart => exact ⟨0,Nat.zero_le _,rfl,Below.refl _ _⟩
   case round =>
    obtain ⟨j,hj,rfl,HWj⟩:=hrel
    have hfj:=(HWj.out.block _ (Array.getElem?_eq_some_iff.1 HB16).1).trans HB16
    have f1j : wr.cell? ⟨w15.heap.size,1,none⟩=some (.slice ta ds.length tc):=by simp [World.cell?,hfj]
    clear hfj f1 hfl
    by_cases hlt : j<ds.length
    ·have hfs : (dX ds).length=ds.length:=by unfold dX; simp
     obtain ⟨tb,tof,rfl,-,htb,ra,rc,-,-,r2,-⟩:=SD16.out j (by rw [hfs]; exact hlt)
     have er : (dX ds)[j].result=ds[j].result:=by unfold dX; rw [List.getElem_mapIdx]
     rw [er] at r2
     replace r2:=(HWj.out.cell (p:=⟨tb,tof + j * 3 + 2,none⟩) htb).trans r2
     have hwl : (ds.map (·.result)).length=ds.length:=List.length_map ..
     have hwant:=F16.out.want
     rw [hwl] at hwant
     obtain ⟨gw,wc',e9,-,hgw⟩:=hwant.form (by omega)
     cases e9
     have hc:=hwant.cells (g:=gw) rfl j (.int .i64 ds[j].result) (by rw [List.getElem?_map,List.getElem?_map,List.getElem?_eq_getElem hlt]; rfl)
     rw [Go.WideShapes.add_plain,Nat.zero_add] at hc
     replace hc:=(HWj.out.cell (p:=⟨gw,j,none⟩) hgw).trans hc
     have hwcc:=F16.out.want.2
     have hwc : ds.length≤wc∧wc≤9223372036854775807:=by
      rw [hwl] at hwcc
      rcases hwcc with ⟨e,-⟩ | ⟨g1,cap1,cur,e,-,-,k1,k2,-⟩
      ·cases e
      ·cases e; exact ⟨k1,by unfold maxLen at k2; exact k2⟩
     obtain ⟨hwc1,hwc2⟩:=hwc
     have BN:=hid (show Below W16.heap.size W16 wr.drew from r8 HWj)
     clear hwant hwcc er hfs hwl hgw htb
     generalize ds[j].result=r at r2 hc
     go_upto_region 20 with fail
     refine wp_region_held_drew (S:=fun cur => cur.cell? ⟨w15.heap.size,1,none⟩=some (.slice (some ⟨tb,tof,none⟩) ds.length tc)∧cur.cell? ⟨tb,tof + j * 3 + 2,none⟩=some (.int .i64 r)∧cur.cell? ⟨gw,j,none⟩=some (.int .i64 r)) (by kernel_rfl) ?_ (fun hHeld => ?_)
     ·exact ⟨f1j,r2,hc⟩
     clear f1j r2 hc
     refine a8 0 ?_; refine a8 1 ?_; refine a8 2 ?_; refine a8 3 ?_; refine a8 4 ?_; refine a8 5 ?_; refine a8 6 ?_; refine a8 7 ?_; refine a8 8 ?_; refine a8 9 ?_
     refine a8 (v:=.bool false) 10 ?_
     refine wpAnyH_done (by kernel_rfl) ?_ _
     go_wp2_with fail
     go_roundw
     case rel => exact ⟨j + 1,by omega,by go_num,BN⟩
     case measure => simp [intOf]; omega
    ·obtain rfl : j=ds.length:=by omega
     have BF:=hid (B4.out.trans ((F16.out.bl.trans (HWj.out.mono F16.out.bl.size)).mono B4.out.size))
     go_wp2_with fail
     go_ret
     exact ⟨rfl,BF⟩
end
end Go.Proofs.YtppcfebnaieciaaGreatDoor
