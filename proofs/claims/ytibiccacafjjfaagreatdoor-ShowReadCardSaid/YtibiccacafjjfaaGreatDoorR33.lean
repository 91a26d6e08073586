/-
  Laws that the proof rests on.
-/
import Derived.Test.YtibiccacafjjfaaGreatDoorR32
import Derived.Test.YtibiccacafjjfaaGreatDoorR08
import Derived.Test.YtibiccacafjjfaaGreatDoorR14
import Derived.Test.YtibiccacafjjfaaGreatDoorR21
import Derived.Test.YtibiccacafjjfaaGreatDoorR29
import Derived.Test.YtibiccacafjjfaaGreatDoorR15
import Derived.Test.YtibiccacafjjfaaGreatDoorR04
import Derived.Test.YtibiccacafjjfaaGreatDoorR12
namespace Go.Proofs.YtibiccacafjjfaaGreatDoor
set_option maxRecDepth 100000
set_option maxHeartbeats 16000000
section
open Go.RowKit
theorem a5k : wJ:=fun s w hs ht => a3w s w hs ht
theorem oR (s : ByteArray) (w : World) (hs : s.size≤maxLen) (ht : iZ w) : Calls Tryz.prog 14 #[.string s] w (nG (cR s.data.toList) w):=xE a5k s w hs ht
end
section
open Go.RowKit
theorem a4v {rdr : List Tk→Rd} {l : List UInt8} {t : Nd} (h : gX rdr l=.ok t) : a73 rdr l t:=by
 unfold gX at h
 cases hs : p5 l with
 | error e => rw [hs] at h; cases h
 | ok ts =>
   rw [hs] at h
   replace h : wT (rdr ts)=.ok t:=h
   cases hr : rdr ts with
   | error e => rw [hr] at h; cases h
   | ok q =>
     obtain ⟨u,r⟩:=q
     rw [hr] at h
     replace h : (if (hd r).kind=0 then Except.ok u else Except.error (74,(hd r).pos))=Except.ok (ε:=Int × Int) t:=h
     split at h
     ·rename_i hk
      cases h
      exact ⟨ts,r,hs,hr,hk⟩
     ·cases h
theorem a2X {rdr : List Tk→Rd} (hr : ∀ l,(∀ k∈l,GT k)→i8 (fun _ _ => True) (rdr l)) {l : List UInt8} {c p : Int} (h : gX rdr l=.error (c,p)) : c≠0:=by
 unfold gX at h
 cases hs : p5 l with
 | error e =>
   rw [hs] at h
   obtain ⟨a,b⟩:=e
   cases h
   exact a2x hs
 | ok ts =>
   rw [hs] at h
   replace h : wT (rdr ts)=.error (c,p):=h
   have hp:=hr ts (oZ hs).1.gt
   cases hx : rdr ts with
   | error e =>
     rw [hx] at h hp
     obtain ⟨a,b⟩:=e
     cases h
     exact hp
   | ok q =>
     obtain ⟨u,r⟩:=q
     rw [hx] at h
     replace h : (if (hd r).kind=0 then Except.ok u else Except.error (74,(hd r).pos))=Except.error (ε:=Int × Int) (c,p):=h
     split at h
     ·cases h
     ·cases h; decide
theorem xQ {l : List UInt8} {c p : Int} (h : cR l=.error (c,p)) : c≠0:=a2X (rdr:=nO) (fun _ hl => (xA hl).mono fun _ _ _ => trivial) h
end
theorem a3z {u : List UInt8} {n : Nd} (h : cR u=.ok n) : I9 n=true:=by
 obtain ⟨l,r,hs,hr,-⟩:=a4v (rdr:=nO) h
 obtain ⟨h1,h2,-⟩:=oZ hs
 have hp:=xA h1.gt
 rw [hr] at hp
 obtain ⟨p1,p2⟩:=hp
 refine p1 ?_
 rw [fJ,decide_eq_true_eq]
 omega
theorem pH {s : ByteArray} {n : Nat} (h : s.data.toList.length≤n) (hn : n≤49) : s.size≤140737488355328:=by
 rw [d6] at h
 omega
mutual
theorem mW : ∀ (t : Nd) (d : Int),e7 t d=true→y9 t
 | .mk k s n ks p,d,h => by
   rw [e7] at h
   simp only [Bool.and_eq_true] at h
   exact ⟨pH (qJ h.1.1.2) (Nat.le_refl _),kW ks (d + 1) h.2⟩
theorem kW : ∀ (ks : List Nd) (d : Int),m8 ks d=true→gJ ks
 | [],_,_ => trivial
 | k :: ks,d,h => by
   rw [m8,Bool.and_eq_true] at h
   exact ⟨mW k d h.1,kW ks d h.2⟩
end
theorem rJ {t : Nd} (h : t.text.data.toList.length≤49) (hk : ∀ k∈t.kids,y9 k) : y9 t:=by
 cases t with
 | mk k s n ks p => exact ⟨pH h (Nat.le_refl _),qR ks fun j hj => hk _ (List.getElem_mem hj)⟩
theorem oT {k : Int} {t : Nd} (h : m6 k t=true) : y9 t:=by
 obtain ⟨h1,-,-,h4⟩:=L9 h
 exact rJ (Nat.le_trans (I4 h1) (by decide)) (by rw [h4]; intro k hk; cases hk)
theorem a2F {t : Nd} (h : O9 t=true) : y9 t:=by
 obtain ⟨h1,h2,-,h4,h5⟩:=dV h
 refine rJ (Nat.le_trans (I4 h1) (by decide)) fun k hk => ?_
 rw [qC h2] at hk
 rcases List.mem_append.1 hk with hk | hk
 ·exact oT (h4 k hk)
 ·rw [List.mem_singleton.1 hk]; exact mW _ 1 h5
theorem a3r {t : Nd} (h : I9 t=true) : y9 t :=
 rJ (Nat.le_trans (I4 (fE h).2.1) (by decide)) fun k hk => by
  rcases rR h k hk with ⟨-,b⟩ | ⟨-,b⟩
  ·exact oT b
  ·exact a2F b
section
open Go.RowKit
theorem a3U (l : List UInt8) : (⟨l.toArray⟩ : ByteArray).data.toList=l:=by simp
theorem a5T {t : Nd} (h : I9 t=true) : (dG t).length≤400000000:=by
 have:=a6T h t.kids.length
 rwa [List.take_length,← nX h] at this
end
section
open Lib (hid)
open Go.RowKit
theorem a3o (s : ByteArray) (w : World) (hs : s.size≤140737488355328) (he : Env w) (hta : Tab w) (hts : iZ w) :
 Calls Tryz.prog 5 #[.string s] w fun e W' => e=.returned (.bool true)∧Below w.heap.size w W':=by
 have HX:=hid (show ∀ cur,Below w.heap.size w cur→Env cur∧Tab cur∧iZ cur from fun cur hb => ⟨he.below hb,hta.below hb,hts.below hb⟩)
 clear he hta hts
 have C:=hid (a2Y w (HX.out _ (Below.refl _ _)).1 (HX.out _ (Below.refl _ _)).2.1)
 go_enter Tryz.func5,Tryz.ntmps5
 go_wp2_with fail
 (with_reducible refine Calls.mono C.out ?_)
 rintro e W1 ⟨rfl,hb⟩
 have H1:=hid hb
 clear hb C
 have C:=hid (oR s W1 (by unfold maxLen; omega) (HX.out _ H1).2.2)
 go_wp2_with fail
 (with_reducible refine Calls.mono C.out ?_)
 rintro e W2 ⟨t,a,cp,f,k,rfl,hb,hx⟩
 have H2:=hid (H1.out.trans (hb.mono H1.out.size))
 have HX1:=hid hx
 clear hb C hx
 obtain ⟨W3,hW3⟩ : ∃ W,W=W2.alloc (.cells #[.int .i64 t.kind,.string t.text,.int .i64 t.n,.slice a t.kids.length cp,.int .i64 t.place] 24):=⟨_,rfl⟩
 have N3:=hid (show f6 W2.heap.size t a cp W3 from hW3 ▸ f6.make W2 t a cp)
 have B3:=hid (show Below W2.heap.size W2 W3 from hW3 ▸ c6 _ _)
 have H3:=hid (H2.out.trans (B3.out.mono H2.out.size))
 unfold Nd.val
 go_upto_region 3 with fail
 rw [← hW3]
 clear hW3
 cases h1 : cR s.data.toList with
 | error q =>
   obtain ⟨c,p⟩:=q
   rw [h1] at HX1
   have hk : (k != 0)=true:=by rw [bne_iff_ne,HX1.out.1]; exact xQ h1
   clear h1
   go_wp2_with fail
   go_ret
   exact ⟨rfl,H3⟩
 | ok t' =>
   rw [h1] at HX1
   obtain ⟨ht1,-,hk1,hl1⟩:=HX1.out
   replace ht1:=ht1.symm
   subst hk1 ht1
   have HM:=hid (a3z h1)
   have HS:=hid (a3r HM)
   have HH:=hid (show t.hold W2.heap.size W2 a cp from Nd.lies.hold t (d5 hl1 (j7.refl _ _) fun b hb => hb.2))
   clear h1 hl1 HX1
   have C:=hid (nI t a cp W2.heap.size _ (HH.out.below B3) HS B3.out.size (HX.out _ H3).1 (HX.out _ H3).2.1)
   obtain ⟨m00,m01,m02,m03,m04⟩:=N3.out.cells.1
   have hlt:=N3.out.lt
   go_wp2_with fail
   (with_reducible refine Calls.mono C.out ?_)
   rintro e W4 ⟨rfl,hb⟩
   have B4:=hid (B3.out.trans (hb.mono B3.out.size))
   have H4:=hid (H3.out.trans (hb.mono H3.out.size))
   have N4:=hid (N3.out.below hb)
   clear hb C hlt m00 m01 m02 m03 m04
   have e1 : a1y t=dG t:=by unfold a1y; rw [HM.out]; rfl
   have e2 : oP t=0:=by unfold oP; rw [HM.out]; rfl
   rw [e1,e2]
   clear e1 e2
   have hfl:=a5T HM
   have hsz : (⟨(dG t).toArray⟩ : ByteArray).size≤400000000:=by show (dG t).toArray.size≤_; rw [List.size_toArray]; exact hfl
   obtain ⟨F,hF⟩ : ∃ F : ByteArray,F=⟨(dG t).toArray⟩:=⟨_,rfl⟩
   have HFl:=hid (show F.data.toList=dG t by rw [hF,a3U])
   rw [← hF] at hsz ⊢
   clear hF hfl
   have C:=hid (pG t a cp W2.heap.size _ (HH.out.below B4) HS B4.out.size (HX.out _ H4).1 (HX.out _ H4).2.1)
   rw [HM.out] at C
   obtain ⟨m00,m01,m02,m03,m04⟩:=N4.out.cells.1
   have hlt:=N4.out.lt
   go_wp2_with fail
   (with_reducible refine Calls.mono C.out ?_)
   rintro e W5 ⟨rfl,hb⟩
   have B5:=hid (B4.out.trans (hb.mono B4.out.size))
   have H5:=hid (H4.out.trans (hb.mono H4.out.size))
   have N5:=hid (N4.out.below hb)
   clear hb C hlt m00 m01 m02 m03 m04
   have C:=hid (a5M F W5 (by unfold maxLen; omega))
   cases hfb : qS F.data.toList with
   | false =>
     rw [hfb] at C
     go_wp2_with (go_at_call 9; (with_reducible refine Calls.mono C.out ?_); rintro e W6 ⟨rfl,hb⟩)
     go_ret
     exact ⟨rfl,H5.out.trans (hb.mono H5.out.size)⟩
   | true =>
   rw [hfb] at C
   go_wp2_with (go_at_call 9; (with_reducible refine Calls.mono C.out ?_); rintro e W6 ⟨rfl,hb⟩)
   have B6:=hid (B5.out.trans (hb.mono B5.out.size))
   have H6:=hid (H5.out.trans (hb.mono H5.out.size))
   have N6:=hid (N5.out.below hb)
   clear hb C
   obtain ⟨l,hl⟩ : ∃ l,p5 (dG t)=.ok l:=by
    rw [HFl.out] at hfb
    unfold qS at hfb
    cases hs : p5 (dG t) with
    | ok l => exact ⟨l,rfl⟩
    | error e => rw [hs] at hfb; cases hfb
   obtain ⟨u,hu,hsame,hru,hfu⟩:=a4R HM hl
   clear hl hfb
   have C1:=hid (oR F W6 (by unfold maxLen; omega) (HX.out _ H6).2.2)
   rw [HFl.out,hu] at C1
   clear hu
   (with_reducible refine Calls.mono C1.out ?_)
   rintro e W7 ⟨u',b,cq,f',k',rfl,hb,hx⟩
   obtain ⟨hux,rfl,rfl,hlu⟩:=hx
   subst hux
   have B7:=hid (B6.out.trans (hb.mono B6.out.size))
   have H7:=hid (H6.out.trans (hb.mono H6.out.size))
   have N7:=hid (N6.out.below hb)
   clear hb C1
   obtain ⟨W8,hW8⟩ : ∃ W,W=W7.alloc (.cells #[.int .i64 u.kind,.string u.text,.int .i64 u.n,.slice b u.kids.length cq,.int .i64 u.place] 24):=⟨_,rfl⟩
   have M8:=hid (show f6 W7.heap.size u b cq W8 from hW8 ▸ f6.make W7 u b cq)
   have BU:=hid (show Below W7.heap.size W7 W8 from hW8 ▸ c6 _ _)
   have B8:=hid (B7.out.trans (BU.out.mono B7.out.size))
   have H8:=hid (H7.out.trans (BU.out.mono H7.out.size))
   have N8:=hid (N7.out.below BU)
   have HUh:=hid (show u.hold W7.heap.size W7 b cq from Nd.lies.hold u (d5 hlu (j7.refl _ _) fun b hb => hb.2))
   have HSM:=hid (show (z6 u && z6 t && bH u t)=true by rw [(fE HM).1,(fE hru).1,hsame]; rfl)
   clear hlu hsame hru hfu
   unfold Nd.val
   go_upto_region 12 with fail
   rw [← hW8]
   clear hW8
   have CS:=hid (a2P u t b cq a cp W7.heap.size _ (HUh.out.below BU) ((HH.out.below B8).mono B7.out.size) BU.out.size)
   rw [HSM.out] at CS
   obtain ⟨m00,m01,m02,m03,m04⟩:=M8.out.cells.1
   have hlt:=M8.out.lt
   obtain ⟨n00,n01,n02,n03,n04⟩:=N8.out.cells.1
   have hlt2:=N8.out.lt
   go_wp2_with (go_at_call 11; (with_reducible refine Calls.mono CS.out ?_); rintro e W9 ⟨rfl,hb⟩)
   go_ret
   exact ⟨rfl,H8.out.trans (hb.mono H8.out.size)⟩
end
end Go.Proofs.YtibiccacafjjfaaGreatDoor
