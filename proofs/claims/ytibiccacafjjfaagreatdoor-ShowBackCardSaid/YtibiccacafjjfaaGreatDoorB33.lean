/-
  Laws that the proof rests on.
-/
import Derived.Test.YtibiccacafjjfaaGreatDoorB32
import Derived.Test.YtibiccacafjjfaaGreatDoorB22
import Derived.Test.YtibiccacafjjfaaGreatDoorB04
import Derived.Test.YtibiccacafjjfaaGreatDoorB13
import Derived.Test.YtibiccacafjjfaaGreatDoorB30
namespace Go.Proofs.YtibiccacafjjfaaGreatDoor
set_option maxRecDepth 100000
set_option maxHeartbeats 16000000
section
open Go.RowKit
theorem a4L : vX:=fun s w hs ht => a2Z s w hs ht
theorem a0f (s : ByteArray) (w : World) (hs : s.size≤maxLen) (ht : iS w) : Calls Tryz.prog 14 #[.string s] w (mP (fY s.data.toList) w):=xG a4L s w hs ht
end
section
open Lib (hid)
open Go.RowKit
theorem a33 (l : List UInt8) : (⟨l.toArray⟩ : ByteArray).data.toList=l:=by simp
theorem a6t {t : Nd} (h : v8 t=true) : (cS t).length≤400000000:=by
 have:=a5Y h t.kids.length
 rwa [List.take_length,← nZ h] at this
theorem a3a (t : Nd) (a : Option Addr) (cap : Nat) (w : World) (ht : t.hold w.heap.size w a cap) (st : r8 t) (he : Env w) (hta : Tab w) (hts : iS w) :
 Calls Tryz.prog 4 #[.agg #[.int .i64 t.kind,.string t.text,.int .i64 t.n,.slice a t.kids.length cap,.int .i64 t.place]] w fun e W' => e=.returned (.bool true)∧Below w.heap.size w W':=by
 obtain ⟨W1,hW1⟩ : ∃ W,W=(w.alloc (.cells #[.int .i64 t.kind,.string t.text,.int .i64 t.n,.slice a t.kids.length cap,.int .i64 t.place] 24)):=⟨_,rfl⟩
 have hB1 : Below w.heap.size w W1:=hW1 ▸ c6 w _
 have Nt1 : f6 w.heap.size t a cap W1:=hW1 ▸ f6.make w t a cap
 have HX:=hid (show ∀ cur,Below W1.heap.size W1 cur→Env cur∧Tab cur∧w.heap.size≤cur.heap.size∧t.hold w.heap.size cur a cap∧f6 w.heap.size t a cap cur∧iS cur from fun cur hb => ⟨(he.below hB1).below hb,(hta.below hB1).below hb,Nat.le_trans hB1.size hb.size,ht.below (hB1.trans (hb.mono hB1.size)),Nt1.below hb,(hts.below hB1).below hb⟩)
 have HB:=hid hB1
 have HSt:=hid st
 have HW1:=hid (Below.refl W1.heap.size W1)
 clear he hta hts hB1 ht st Nt1
 have C:=hid (a2d _ (HX.out _ HW1).1 (HX.out _ HW1).2.1)
 go_enter Tryz.func4,Tryz.ntmps4
 go_wp2_with fail
 rw [← hW1]
 clear hW1
 (with_reducible refine Calls.mono C.out ?_)
 rintro e W2 ⟨rfl,hb⟩
 have HW2:=hid (HW1.out.trans (hb.mono HW1.out.size))
 clear hb C
 have C:=hid (a0O t a cap w.heap.size _ (HX.out _ HW2).2.2.2.1 (HX.out _ HW2).2.2.1)
 obtain ⟨m00,m01,m02,m03,m04⟩:=(HX.out _ HW2).2.2.2.2.1.cells.1
 have hlt : w.heap.size<W2.heap.size:=(HX.out _ HW2).2.2.2.2.1.lt
 go_wp2_with fail
 (with_reducible refine Calls.mono C.out ?_)
 rintro e W3 ⟨rfl,hb⟩
 have HW3:=hid (HW2.out.trans (hb.mono HW2.out.size))
 clear hb C hlt m00 m01 m02 m03 m04
 have C:=hid (gN t a cap w.heap.size _ (HX.out _ HW3).2.2.2.1 HSt (HX.out _ HW3).2.2.1 (HX.out _ HW3).1 (HX.out _ HW3).2.1)
 obtain ⟨m00,m01,m02,m03,m04⟩:=(HX.out _ HW3).2.2.2.2.1.cells.1
 have hlt : w.heap.size<W3.heap.size:=(HX.out _ HW3).2.2.2.2.1.lt
 go_wp2_with fail
 (with_reducible refine Calls.mono C.out ?_)
 rintro e W4 ⟨rfl,hb⟩
 have HW4:=hid (HW3.out.trans (hb.mono HW3.out.size))
 have HB4:=hid (HB.out.trans (HW4.out.mono HB.out.size))
 clear hb C hlt m00 m01 m02 m03 m04
 cases hr : v8 t with
 | false =>
   have e1 : pF t=[]:=by unfold pF; rw [hr]; rfl
   have e2 : jS t=90:=by unfold jS; rw [hr]; rfl
   rw [e1,e2]
   clear e1 e2
   go_wp2
   go_ret
   exact ⟨rfl,HB4⟩
 | true =>
   have e1 : pF t=cS t:=by unfold pF; rw [hr]; rfl
   have e2 : jS t=0:=by unfold jS; rw [hr]; rfl
   rw [e1,e2]
   clear e1 e2
   have hfl:=a6t hr
   have hsz : (⟨(cS t).toArray⟩ : ByteArray).size≤400000000:=by show (cS t).toArray.size≤_; rw [List.size_toArray]; exact hfl
   obtain ⟨F,hF⟩ : ∃ F : ByteArray,F=⟨(cS t).toArray⟩:=⟨_,rfl⟩
   have HFl:=hid (show F.data.toList=cS t by rw [hF,a33])
   rw [← hF] at hsz ⊢
   clear hF hfl
   have HR:=hid hr
   clear hr
   have C:=hid (a3T F W4 (by unfold maxLen; omega))
   cases hfb : pA F.data.toList with
   | false =>
     rw [hfb] at C
     go_wp2_with (go_at_call 9; (with_reducible refine Calls.mono C.out ?_); rintro e W5 ⟨rfl,hb⟩)
     go_ret
     exact ⟨rfl,HB4.out.trans (hb.mono HB4.out.size)⟩
   | true =>
   rw [hfb] at C
   go_wp2_with (go_at_call 9; (with_reducible refine Calls.mono C.out ?_); rintro e W5 ⟨rfl,hb⟩)
   have HW5:=hid (HW4.out.trans (hb.mono HW4.out.size))
   clear hb C
   obtain ⟨l,hl⟩ : ∃ l,r6 (cS t)=.ok l:=by
    rw [HFl.out] at hfb
    unfold pA at hfb
    cases hs : r6 (cS t) with
    | ok l => exact ⟨l,rfl⟩
    | error e => rw [hs] at hfb; cases hfb
   obtain ⟨u,hu,hsame,hru,hfu⟩:=a3A HR hl
   clear hl hfb
   have C1:=hid (a0f F W5 (by unfold maxLen; omega) (HX.out _ HW5).2.2.2.2.2)
   rw [HFl.out,hu] at C1
   clear hu
   (with_reducible refine Calls.mono C1.out ?_)
   rintro e W6 ⟨u',b,cq,f,k,rfl,hb,hx⟩
   obtain ⟨hux,rfl,rfl,hlu⟩:=hx
   subst hux
   have HW6:=hid (HW5.out.trans (hb.mono HW5.out.size))
   clear hb C1
   obtain ⟨W7,hW7⟩ : ∃ W,W=W6.alloc (.cells #[.int .i64 u.kind,.string u.text,.int .i64 u.n,.slice b u.kids.length cq,.int .i64 u.place] 24):=⟨_,rfl⟩
   have M7:=hid (show f6 W6.heap.size u b cq W7 from hW7 ▸ f6.make W6 u b cq)
   have B7:=hid (show Below W6.heap.size W6 W7 from hW7 ▸ c6 _ _)
   have HW7:=hid (HW6.out.trans (B7.out.mono HW6.out.size))
   have HUh:=hid (show u.hold W6.heap.size W6 b cq from Nd.lies.hold u (d5 hlu (j0.refl _ _) fun b hb => hb.2))
   have HSu:=hid (show r8 u from (a03 hsame) ▸ HSt.out)
   have HSM:=hid (show (s8 u && s8 t && aM u t)=true by
    rw [(iO HR).1,(iO hru).1,hsame]; rfl)
   have e1 : pF u=cS t:=by unfold pF; rw [hru,← hfu]; rfl
   have e2 : jS u=0:=by unfold jS; rw [hru]; rfl
   clear hlu hsame hru hfu
   unfold Nd.val
   go_upto_region 10 with fail
   rw [← hW7]
   clear hW7
   have C:=hid (gN u b cq W6.heap.size _ (HUh.out.below B7) HSu B7.out.size (HX.out _ HW7).1 (HX.out _ HW7).2.1)
   rw [e1,e2,← HFl.out] at C
   clear e1 e2
   obtain ⟨m00,m01,m02,m03,m04⟩:=M7.out.cells.1
   have hlt:=M7.out.lt
   go_wp2_with fail
   (with_reducible refine Calls.mono C.out ?_)
   rintro e W8 ⟨rfl,hb⟩
   have B8:=hid (B7.out.trans (hb.mono B7.out.size))
   have HW8:=hid (HW7.out.trans (hb.mono HW7.out.size))
   have M8:=hid (M7.out.below hb)
   clear hb C m00 m01 m02 m03 m04 hlt
   rw [show (⟨F.data.toList.toArray⟩ : ByteArray)=F from by simp]
   have CS:=hid (a2O u t b cq a cap W6.heap.size _ (HUh.out.below B8) ((HX.out _ HW8).2.2.2.1.mono (HX.out _ HW6).2.2.1) B8.out.size)
   rw [HSM.out] at CS
   obtain ⟨m00,m01,m02,m03,m04⟩:=M8.out.cells.1
   have hlt:=M8.out.lt
   obtain ⟨n00,n01,n02,n03,n04⟩:=(HX.out _ HW8).2.2.2.2.1.cells.1
   have hlt2 : w.heap.size<W8.heap.size:=(HX.out _ HW8).2.2.2.2.1.lt
   go_wp2_with (go_at_call 11; (with_reducible refine Calls.mono CS.out ?_); rintro e W9 ⟨rfl,hb⟩)
   go_ret
   exact ⟨rfl,HB.out.trans ((HW8.out.trans (hb.mono HW8.out.size)).mono HB.out.size)⟩
end
end Go.Proofs.YtibiccacafjjfaaGreatDoor
