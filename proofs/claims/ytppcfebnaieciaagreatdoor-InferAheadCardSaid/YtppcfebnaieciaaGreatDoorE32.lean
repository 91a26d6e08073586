/-
  Laws that the proof rests on.
-/
import Derived.Test.YtppcfebnaieciaaGreatDoorE31
import Derived.Test.YtppcfebnaieciaaGreatDoorE18
import Derived.Test.YtppcfebnaieciaaGreatDoorE27
import Derived.Test.YtppcfebnaieciaaGreatDoorE22
import Derived.Test.YtppcfebnaieciaaGreatDoorE06
import Derived.Test.YtppcfebnaieciaaGreatDoorE01
namespace Go.Proofs.YtppcfebnaieciaaGreatDoor
set_option maxRecDepth 100000
set_option maxHeartbeats 16000000
section
open Lib (hid)
open Go.RowKit
theorem oB : ∀ (ks : List Nd) (k : Nat),O8 ks→O8 (ks.take k)
 | _,0,_ => by rw [List.take_zero,O8]; trivial
 | [],k + 1,_ => by rw [List.take_nil,O8]; trivial
 | x :: ks,k + 1,h => by
   rw [O8] at h
   rw [List.take_succ_cons,O8]
   exact ⟨h.1,oB ks k h.2⟩
theorem a2o {t : Nd} (h : o8 t) (k : Nat) : o8 (.mk t.kind t.text t.n (t.kids.take k) t.place):=by
 cases t with
 | mk kind s n ks p =>
   rw [o8] at h
   show o8 (.mk kind s n (ks.take k) p)
   rw [o8]
   exact ⟨h.1,oB ks k h.2⟩
theorem a0M {av : Nat→Prop} {W : World} {a : Option Addr} {l : List Sch} (h : Y1 av W a l) (k : Nat) : Y1 av W a (l.take k):=fun j hj => by
 have hj' : j<l.length:=by rw [List.length_take] at hj; omega
 obtain ⟨b,off,h1,h2,h3,h4⟩:=h j hj'
 refine ⟨b,off,h1,h2,h3,?_⟩
 rw [List.getElem_take]
 exact h4
theorem uQ (t : Nd) (a : Option Addr) (cap n₀ : Nat) (many : Int) (w : World) (hh : t.hold n₀ w a cap) (hs : o8 t) (hnil : a=none→cap=0) (hn : n₀≤w.heap.size) (he : Env w) (hta : Tab w) (hti : bB w) :
 Calls Tryz.prog 6 #[.agg #[.int .i64 t.kind,.string t.text,.int .i64 t.n,.slice a t.kids.length cap,.int .i64 t.place],.int .i64 many] w fun e w' => e=.returned (.bool true)∧Below w.heap.size w w':=by
 obtain ⟨W1,hW1⟩ : ∃ W,W=w.alloc (.cells #[.int .i64 t.kind,.string t.text,.int .i64 t.n,.slice a t.kids.length cap,.int .i64 t.place] 24):=⟨_,rfl⟩
 have B1:=hid (show Below w.heap.size w W1 from hW1 ▸ a7 _ _)
 have N1:=hid (show c6 w.heap.size t a cap W1 from hW1 ▸ c6.make w t a cap)
 have HX:=hid (show ∀ cur,Below w.heap.size w cur→t.hold n₀ cur a cap∧n₀≤cur.heap.size∧Env cur∧Tab cur∧bB cur from fun cur hb => ⟨hh.below (hb.mono hn),Nat.le_trans hn hb.size,he.below hb,hta.below hb,hti.below hb⟩)
 have HS:=hid hs
 have HB0:=hid hh.bounds
 have HNIL:=hid hnil
 have C1:=hid (fZ W1 (HX.out _ B1).2.2.1 (HX.out _ B1).2.2.2.1 (HX.out _ B1).2.2.2.2)
 clear hh hs hn he hta hti hnil
 go_enter Tryz.func6,Tryz.ntmps6
 go_upto_region 1 with fail
 rw [← hW1]
 clear hW1
 go_wp2_with fail
 (with_reducible refine Calls.mono C1.out ?_)
 rintro e w2 ⟨rfl,hb⟩
 have B2:=hid (show Below w.heap.size w w2 from B1.out.trans (hb.mono B1.out.size))
 have N2:=hid (N1.out.below hb)
 clear hb C1 B1 N1
 have C2:=hid (dH [] none 0 t a cap n₀ w2 (HX.out _ B2).1 HS (HX.out _ B2).2.1 (HX.out _ B2).2.2.1 (HX.out _ B2).2.2.2.1 (HX.out _ B2).2.2.2.2 (fun j hj => absurd hj (Nat.not_lt_zero _)) ⟨Nat.le_refl _,Nat.zero_le _⟩ (fun s hs => (List.not_mem_nil hs).elim) (dS 0 _ (Nat.zero_le _)))
 rw [show ([] : List Sht).length=0 from rfl] at C2
 unfold oE at C2
 obtain ⟨⟨n0,n1,n2,n3,n4⟩,-⟩:=N2.out.cells
 have hlt : w.heap.size<w2.heap.size:=N2.out.lt
 cases hm : o9 t [] with
 | error q =>
   obtain ⟨k,p⟩:=q
   rw [hm] at C2
   have ek : (k != 0)=true:=bne_iff_ne.2 (zO hm)
   clear hm
   go_wp2_with fail
   (with_reducible refine Calls.mono C2.out ?_)
   rintro e w3 ⟨hb,rfl⟩
   have B3:=hid (show Below w.heap.size w w3 from B2.out.trans (hb.mono B2.out.size))
   clear hb C2 B2 N2
   have B4:=hid (show Below w.heap.size w (w3.alloc (.cells #[.string ⟨#[]⟩,.slice none 0 0] 29)) from B3.out.trans ((a7 _ _).mono B3.out.size))
   clear n0 n1 n2 n3 n4 hlt
   go_wp2_with fail
   go_ret
   exact ⟨rfl,B4⟩
 | ok s =>
   rw [hm] at C2
   have HM:=hid (iX hm)
   have HA:=hid (show ∀ k,k≤t.kids.length→o9 (.mk t.kind t.text t.n (t.kids.take k) t.place) []=.ok ⟨s.name,s.defs.take k⟩ from fun k hk => a0K hm hk t.place)
   clear hm
   go_wp2_with fail
   (with_reducible refine Calls.mono C2.out ?_)
   rintro e w3 ⟨hb,da,dc,rfl,hS,h1,h2,h3⟩
   have B3:=hid (show Below w.heap.size w w3 from B2.out.trans (hb.mono B2.out.size))
   have N3:=hid (N2.out.below hb)
   have SD3:=hid (rM hS)
   have HDC:=hid (show (s.defs.length≤dc∧dc≤maxLen)∧(da=none→dc=0) from ⟨⟨h1,h2⟩,h3⟩)
   clear hb C2 B2 N2 hS h1 h2 h3
   obtain ⟨W4,hW4⟩ : ∃ W,W=w3.alloc (.cells #[.string (bsA s.name),.slice da s.defs.length dc] 29):=⟨_,rfl⟩
   have E4:=hid (show Below w3.heap.size w3 W4 from hW4 ▸ a7 _ _)
   have B4:=hid (B3.out.trans (E4.out.mono B3.out.size))
   have HSB:=hid (show W4.heap[w3.heap.size]?=some (.cells #[.string (bsA s.name),.slice da s.defs.length dc] 29 (0,0)) by rw [hW4]; exact Q8 _ _ rfl)
   have N4:=hid (N3.out.below E4)
   have SD4:=hid (dB SD3 E4)
   clear n0 n1 n2 n3 n4 hlt
   obtain ⟨⟨n0,n1,n2,n3,n4⟩,-⟩:=N4.out.cells
   have hlt : w.heap.size<W4.heap.size:=N4.out.lt
   go_upto_region 3 with fail
   rw [← hW4]
   clear hW4
   have HDL:=hid (show s.defs.length=t.kids.length from HM.out.2.2.2.1)
   have hkl : t.kids.length≤300:=(U1 HM.out.1).2.2
   have hkc:=HB0.out.2.2.2.2
   by_cases hmk : many<0∨(t.kids.length : Int)<many
   ·rcases Int.lt_or_le many 0 with h0 | h0
    ·have e1 : decide (many<0)=true:=decide_eq_true h0
     go_wp2_with fail
     go_ret
     exact ⟨rfl,B4⟩
    ·have e1 : decide (many<0)=false:=decide_eq_false (by omega)
     have e2 : decide ((t.kids.length : Int)<many)=true:=decide_eq_true (by omega)
     go_wp2_with fail
     go_ret
     exact ⟨rfl,B4⟩
   obtain ⟨k,rfl⟩ : ∃ k : Nat,many=k:=⟨many.toNat,by omega⟩
   have hk : k≤t.kids.length:=by omega
   have e1 : decide ((k : Int)<0)=false:=decide_eq_false (by omega)
   have e2 : decide ((t.kids.length : Int)<(k : Int))=false:=decide_eq_false (by omega)
   have hmk':=hmk
   clear hmk hmk'
   obtain ⟨L,hL1,hL2,hL3⟩:=a12 (HX.out _ B4).1 k
   have HL1:=hid hL1
   have HL2:=hid hL2
   have HL3:=hid hL3
   have hLl : L.length=k:=by have:=congrArg List.length hL1; rw [List.length_map,List.length_take] at this; omega
   clear hL1 hL2 hL3
   have HC:=hid (show ∀ cur,Below W4.heap.size W4 cur→∀ ad,a=some ad→∀ j u,(V8 L)[j]?=some u→cur.cell? (ad.add j)=some u from fun cur hb ad e j u hu => (hb.cell (p:=ad.add j) (Nat.lt_of_lt_of_le (HL3.out ad e j u hu).2 (HX.out _ B4).2.1)).trans (HL3.out ad e j u hu).1)
   obtain ⟨W5,hW5⟩ : ∃ W,W=W4.alloc (.cells #[.int .i64 t.kind,.string t.text,.int .i64 t.n,.slice a t.kids.length cap,.int .i64 t.place] 24):=⟨_,rfl⟩
   have E5:=hid (show Below W4.heap.size W4 W5 from hW5 ▸ a7 _ _)
   have B5:=hid (B4.out.trans (E5.out.mono B4.out.size))
   have M5:=hid (show c6 W4.heap.size t a cap W5 from hW5 ▸ c6.make W4 t a cap)
   have N5:=hid (N4.out.below E5)
   obtain ⟨i0,hi,hz0,hz1,hz2⟩:=info_parts (show (Tryz.prog.info? 24).map (fun i => (i.zero,i.size,i.bytes))=some (some (.agg #[.int .i64 0,.string ⟨#[]⟩,.int .i64 0,.slice none 0 0,.int .i64 0]),5,64) by kernel_rfl)
   have HI:=hid (show _∧_∧_∧_ from ⟨hi,hz0,hz1,hz2⟩)
   clear hi hz0 hz1 hz2
   go_upto_region 6 with fail
   rw [← hW5]
   clear hW5 n0 n1 n2 n3 n4 hlt e1 e2
   obtain ⟨⟨n0,n1,n2,n3,n4⟩,-⟩:=N5.out.cells
   obtain ⟨⟨m0,m1,m2,m3,m4⟩,⟨g0,g1,g2,g3,g4⟩⟩:=M5.out.cells
   have hlt : w.heap.size<W4.heap.size:=N4.out.lt
   have hml:=M5.out.lt
   have hcm : cap≤9223372036854775807:=by have:=hkc.2; unfold maxLen at this; omega
   have hkcap : k≤cap:=by omega
   refine z6 (S:=fun cur : World => cur.cell? ⟨w.heap.size,3,none⟩=some (.slice a t.kids.length cap)) (z:=8) (by kernel_rfl) ?_ (fun hHeld => ?_)
   ·exact n3
   refine b8.t 0 ?_; refine b8.t 2 ?_; refine b8.t 3 ?_; refine b8.t 4 ?_; refine b8.t (v:=.slice a k cap) 5 ?_
   refine b8.nx 1 fun K hK => ?_
   rw [if_pos (by rfl)]
   refine vJ _ _ _ _ rfl W5.heap.size 24 i0 (.agg #[.int .i64 0,.string ⟨#[]⟩,.int .i64 0,.slice none 0 0,.int .i64 0]) 5 Tryz.underlying22 HI.out.1 HI.out.2.1 HI.out.2.2.1 .i64 .i64 _ k rfl rfl (by rfl) (by rw [HI.out.2.2.2]; omega) (by unfold maxLen; omega) (Nat.le_refl _) ?_
   intro wm own grow
   have EM:=hid (show Below W5.heap.size W5 wm from (x9 (Below.refl _ _)).grown grow (Nat.le_refl _) (fun r e => by cases e))
   have NM:=hid (N5.out.below EM)
   refine hK.out _ _ NM.out.cells.1.2.2.2.1 (fun hHeld => ?_)
   clear hK K
   try simp only [Act.put,i6,p8,p7]
   refine b8.nx 6 fun K hK => ?_
   rw [if_pos (by rfl)]
   refine fY _ _ _ _ rfl W5.heap.size 24 i0 5 Tryz.underlying22 HI.out.1 HI.out.2.2.1 _ 0 k [] rfl own a k cap (V8 L) rfl (by rw [a3K,hLl]) (fun e => ⟨by have:=HNIL.out e; omega,HNIL.out e⟩) (HC.out _ (E5.out.trans (EM.out.mono E5.out.size))) (a1T L) (by omega) ?_
   intro wp own2 grow2
   have EP:=hid (show Below W5.heap.size W5 wp from EM.out.grown grow2 EM.out.size (fun r e => by cases e; exact Nat.le_refl _))
   have NP:=hid (N5.out.below EP)
   have MP:=hid (M5.out.below EP)
   simp only [Nat.zero_add,List.nil_append] at own2
   have OP:=hid own2
   have hgp : W5.heap.size<wp.heap.size:=(own2.lt _ rfl).2
   refine hK.out _ _ NP.out.cells.1.2.2.2.1 (fun hHeld => ?_)
   clear hK K own own2 grow grow2
   try simp only [Act.put,i6,p8,p7]
   refine b8.t 7 ?_
   have mp3 : wp.cell? ⟨W4.heap.size,3,none⟩=some (.slice a t.kids.length cap):=MP.out.cells.1.2.2.2.1
   have gp3 : wp.frozen? ⟨W4.heap.size,3,none⟩=false:=MP.out.cells.2.2.2.2.1
   refine b8.la fun K hK => ?_
   go_simp
   refine hK.out _ _ ?_
   clear hK K hHeld
   obtain ⟨W6,hW6⟩ : ∃ W,W=wp.setCell ⟨W4.heap.size,3,none⟩ (.slice (some ⟨W5.heap.size,0,none⟩) k k):=⟨_,rfl⟩
   have hm5 : W4.heap.size<W5.heap.size:=M5.out.lt
   have E6:=hid (show Below W4.heap.size W4 W6 from hW6 ▸ (E5.out.trans (EP.out.mono E5.out.size)).setCell (p:=⟨W4.heap.size,3,none⟩) (Nat.le_refl _) _)
   have B6:=hid (B4.out.trans (E6.out.mono B4.out.size))
   have M6:=hid (show W6.heap[W4.heap.size]?=some (.cells #[.int .i64 t.kind,.string t.text,.int .i64 t.n,.slice (some ⟨W5.heap.size,0,none⟩) k k,.int .i64 t.place] 24 (0,0)) by rw [hW6]; exact l5 MP 3 _)
   have OR:=hid (show W6.ownsRow W5.heap.size 24 5 (.slice (some ⟨W5.heap.size,0,none⟩) k k) k (V8 L) from nL OP (by rw [hW6]; exact Below.heap_setCell _ _ _ _ (show W5.heap.size≠W4.heap.size by omega)))
   have hg6 : W5.heap.size<W6.heap.size:=(OR.out.lt _ rfl).2
   have hkt : (t.kids.take k).length=k:=by rw [List.length_take]; omega
   have hlk : (s.defs.take k).length=k:=by have:=HDL.out; rw [List.length_take]; omega
   have T6:=hid (show (Nd.mk t.kind t.text t.n (t.kids.take k) t.place).hold W6.heap.size W6 (some ⟨W5.heap.size,0,none⟩) k by
    obtain ⟨w0,w1,w2,w3,-,-⟩:=HB0.out
    refine Nd.lies.hold _ (Nd.lies.mk' w0 w1 w2 w3 (Nat.le_of_eq hkt) (by unfold maxLen; omega) ?_)
    have h9:=OR.out
    rw [← hLl] at h9
    have:=kP (av:=(· < W6.heap.size)) (cap:=L.length) h9 hg6 fun e he => Nd.lies.kept (fun b (hb : b<n₀) => ⟨by have:=(HX.out _ B4).2.1; have:=E6.out.size; show b<_; omega,fun o => E6.out.cell (p:=⟨b,o,none⟩) (by have:=(HX.out _ B4).2.1; show b<_; omega)⟩) _ (HL2.out e he)
    rw [HL1.out] at this
    exact this)
   have C6:=hid (show Calls Tryz.prog 11 #[.agg #[.int .i64 t.kind,.string t.text,.int .i64 t.n,.slice (some ⟨W5.heap.size,0,none⟩) k k,.int .i64 t.place],.slice none 0 0] W6 (fun e w' => Below W6.heap.size W6 w'∧∃ ta tc,e=.returned (.tuple #[.agg #[.string (bsA s.name),.slice ta k tc],.int .i64 0,.int .i64 0])∧Y1 (fun b => W6.heap.size≤b) w' ta (s.defs.take k)∧k≤tc∧tc≤maxLen∧(ta=none→tc=0)) by
    have hsh:=a2o HS k
    have hmt:=HA.out k hk
    have hho:=T6.out
    obtain ⟨t',ht'⟩ : ∃ t',t'=Nd.mk t.kind t.text t.n (t.kids.take k) t.place:=⟨_,rfl⟩
    have k0 : t'.kind=t.kind:=by rw [ht']; rfl
    have k1 : t'.text=t.text:=by rw [ht']; rfl
    have k2 : t'.n=t.n:=by rw [ht']; rfl
    have k3 : t'.kids.length=k:=by rw [ht']; exact hkt
    have k4 : t'.place=t.place:=by rw [ht']; rfl
    rw [← ht'] at hsh hmt hho
    clear ht'
    have h:=dH [] none 0 t' (some ⟨W5.heap.size,0,none⟩) k W6.heap.size W6 hho hsh (Nat.le_refl _) (HX.out _ B6).2.2.1 (HX.out _ B6).2.2.2.1 (HX.out _ B6).2.2.2.2 (fun j hj => absurd hj (Nat.not_lt_zero _)) ⟨Nat.le_refl _,Nat.zero_le _⟩ (fun s hs => (List.not_mem_nil hs).elim) (dS 0 _ (Nat.zero_le _))
    unfold oE at h
    rw [hmt,k0,k1,k2,k3,k4] at h
    simp only [hlk,List.length_nil] at h
    exact h)
   rw [← hW6]
   clear hW6 mp3 gp3 MP NP OP EP NM EM M5 N5 n0 n1 n2 n3 n4 m0 m1 m2 m3 m4 g0 g1 g2 g3 g4 hlt hml hgp T6 OR HC
   have hbm:=M6.out
   have m0 : W6.cell? ⟨W4.heap.size,0,none⟩=some (.int .i64 t.kind):=by simp [World.cell?,hbm]
   have m1 : W6.cell? ⟨W4.heap.size,1,none⟩=some (.string t.text):=by simp [World.cell?,hbm]
   have m2 : W6.cell? ⟨W4.heap.size,2,none⟩=some (.int .i64 t.n):=by simp [World.cell?,hbm]
   have m3 : W6.cell? ⟨W4.heap.size,3,none⟩=some (.slice (some ⟨W5.heap.size,0,none⟩) k k):=by simp [World.cell?,hbm]
   have m4 : W6.cell? ⟨W4.heap.size,4,none⟩=some (.int .i64 t.place):=by simp [World.cell?,hbm]
   have hml : W4.heap.size<W6.heap.size:=by omega
   clear hbm
   go_wp2_with fail
   (with_reducible refine Calls.mono C6.out ?_)
   rintro e w7 ⟨hb,ta,tc,rfl,hS,h1,h2,h3⟩
   have E7:=hid (show Below W4.heap.size W4 w7 from E6.out.trans (hb.mono E6.out.size))
   have ST7:=hid (rM hS)
   have HTC:=hid (show k≤tc∧tc≤maxLen from ⟨h1,h2⟩)
   clear hb C6 hS h1 h2 h3 m0 m1 m2 m3 m4 hml
   obtain ⟨W8,hW8⟩ : ∃ W,W=w7.alloc (.cells #[.string (bsA s.name),.slice ta k tc] 29):=⟨_,rfl⟩
   have F8:=hid (show Below w7.heap.size w7 W8 from hW8 ▸ a7 _ _)
   have E8:=hid (E7.out.trans (F8.out.mono E7.out.size))
   have TB8:=hid (show W8.heap[w7.heap.size]?=some (.cells #[.string (bsA s.name),.slice ta k tc] 29 (0,0)) by rw [hW8]; exact Q8 _ _ rfl)
   have hs4 : w3.heap.size<W4.heap.size:=(Array.getElem?_eq_some_iff.1 HSB).1
   have SB8:=hid ((E8.out.block _ hs4).trans HSB)
   obtain ⟨W9,hW9⟩ : ∃ W,W=W8.alloc (.cells #[.string (bsA s.name),.slice da k dc] 29):=⟨_,rfl⟩
   have F9:=hid (show Below W8.heap.size W8 W9 from hW9 ▸ a7 _ _)
   have E9:=hid (E8.out.trans (F9.out.mono E8.out.size))
   have FB9:=hid (show W9.heap[W8.heap.size]?=some (.cells #[.string (bsA s.name),.slice da k dc] 29 (0,0)) by rw [hW9]; exact Q8 _ _ rfl)
   have C9:=hid (show Calls Tryz.prog 13 #[.agg #[.string (bsA s.name),.slice da k dc],.agg #[.string (bsA s.name),.slice ta k tc]] W9 (fun e w' => e=.returned (.bool true)∧Below W9.heap.size W9 w') by
    have h:=a17 (fun b => w2.heap.size≤b∧b<w3.heap.size) (fun b => W6.heap.size≤b∧b<w7.heap.size) ⟨s.name,s.defs.take k⟩ da ta dc tc W9 (a0M (dB SD4 E9) k) (dB ST7 (F8.out.trans (F9.out.mono F8.out.size))) (by show (s.defs.take k).length≤dc∧_; rw [hlk]; have h8:=HDC.out.1; have:=HDL.out; exact ⟨by omega,h8.2⟩) (by show (s.defs.take k).length≤tc∧_; rw [hlk]; exact HTC) (fun b hb => by have:=E9.out.size; have:=hb.2; omega) (fun b hb => by have:=F8.out.size; have:=F9.out.size; have:=hb.2; omega)
    simp only [hlk] at h
    exact h)
   have hb1:=TB8.out
   have hb2:=SB8.out
   have t0 : W8.cell? ⟨w7.heap.size,0,none⟩=some (.string (bsA s.name)):=by simp [World.cell?,hb1]
   have t1 : W8.cell? ⟨w7.heap.size,1,none⟩=some (.slice ta k tc):=by simp [World.cell?,hb1]
   have s0 : W8.cell? ⟨w3.heap.size,0,none⟩=some (.string (bsA s.name)):=by simp [World.cell?,hb2]
   have s1 : W8.cell? ⟨w3.heap.size,1,none⟩=some (.slice da s.defs.length dc):=by simp [World.cell?,hb2]
   have hl1 : w7.heap.size<W8.heap.size:=(Array.getElem?_eq_some_iff.1 hb1).1
   have hl2 : w3.heap.size<W8.heap.size:=(Array.getElem?_eq_some_iff.1 hb2).1
   have hkd : k≤dc:=by have:=HDC.out.1; have:=HDL.out; omega
   have hkl2 : k≤s.defs.length:=by have:=HDL.out; omega
   have ek : decide ((s.defs.length : Int)<(k : Int))=false:=decide_eq_false (by omega)
   clear hb1 hb2
   go_upto_region 8 with fail
   rw [← hW8]
   clear hW8
   go_upto_region 12 with fail
   rw [← hW9]
   clear hW9 t0 t1 s0 s1 hl1 hl2
   have hb1:=(F9.out.block _ (Array.getElem?_eq_some_iff.1 TB8).1).trans TB8
   have hb2:=FB9.out
   have t0 : W9.cell? ⟨w7.heap.size,0,none⟩=some (.string (bsA s.name)):=by simp [World.cell?,hb1]
   have t1 : W9.cell? ⟨w7.heap.size,1,none⟩=some (.slice ta k tc):=by simp [World.cell?,hb1]
   have s0 : W9.cell? ⟨W8.heap.size,0,none⟩=some (.string (bsA s.name)):=by simp [World.cell?,hb2]
   have s1 : W9.cell? ⟨W8.heap.size,1,none⟩=some (.slice da k dc):=by simp [World.cell?,hb2]
   have hl1 : w7.heap.size<W9.heap.size:=(Array.getElem?_eq_some_iff.1 hb1).1
   have hl2 : W8.heap.size<W9.heap.size:=(Array.getElem?_eq_some_iff.1 hb2).1
   clear hb1 hb2
   go_wp2_with fail
   (with_reducible refine Calls.mono C9.out ?_)
   rintro e w10 ⟨rfl,hb⟩
   have BF:=hid (show Below w.heap.size w w10 from B4.out.trans ((E9.out.trans (hb.mono E9.out.size)).mono B4.out.size))
   clear hb C9 t0 t1 s0 s1
   go_wp2_with fail
   go_ret
   exact ⟨rfl,BF⟩
end
section
open Lib (hid)
open Go.RowKit
theorem lY : ∀ (f n : Nat) (l : List UInt8),n<10 ^ f→n≠0→aV f n l=Lib.decDigits n ++ l
 | 0,n,l,h,h0 => absurd (by simpa using h) h0
 | f + 1,n,l,h,h0 => by
   rw [aV,if_neg h0,Lib.decDigits]
   by_cases h10 : n<10
   ·rw [dif_pos h10,Nat.div_eq_of_lt h10]
    have : aV f 0 (dig n :: l)=dig n :: l:=by cases f with
     | zero => rfl
     | succ f => rw [aV,if_pos rfl]
    rw [this]
    unfold dig
    rw [Nat.mod_eq_of_lt h10]
    rfl
   ·rw [dif_neg h10,lY f (n / 10) (dig n :: l) (by rw [Nat.pow_succ] at h; omega) (by omega),List.append_assoc]
    rfl
theorem a3N (n : Nat) (h : n<10 ^ 20) : fS n=Lib.itoa n:=by
 unfold Lib.itoa
 rw [if_neg (by omega),Int.toNat_natCast]
 by_cases h0 : n=0
 ·subst h0; decide +kernel
 ·rw [a4A n h0 h,lY 20 n [] h h0,List.append_nil]
theorem rU (n : Nat) (hn : n<10000000000000000000) (w : World) : Calls Tryz.prog 71 #[.int .i64 n] w fun e w' => e=.returned (.string ⟨(fS n).toArray⟩)∧w=w':=by
 go_enter Tryz.func71,Tryz.ntmps71
 go_wp2
 go_loop [0,3] (fun x t => ∃ (k : Nat) (s : ByteArray) (f : Nat),x=.int .i64 k∧t=.string s∧k≤n∧k<10 ^ f∧s.size + f≤20∧Hid ((s=⟨#[]⟩∧k=n∧f=19)∨(0<s.size∧aV 20 k s.data.toList=fS n))) (fun _ t => 30 - a32 t)
 case atStart => exact ⟨n,⟨#[]⟩,19,rfl,rfl,Nat.le_refl _,by omega,by decide,.inl ⟨rfl,rfl,rfl⟩⟩
 case round =>
  obtain ⟨k,s,f,rfl,rfl,hkn,hk,hsf,HI⟩:=hrel
  have HX:=hid (a4q k)
  by_cases he : s=⟨#[]⟩
  ·have HE : Hid (k=n∧f=19):=by
    rcases HI.out with h | h
    ·exact h.2
    ·rw [he] at h; exact absurd h.1 (by decide)
   subst he
   clear HI
   go_wp2
   go_round
   case rel =>
    obtain ⟨rfl,rfl⟩:=HE.out
    exact ⟨k / 10,⟨#[dig k]⟩ ++ ⟨#[]⟩,18,by simp,congrArg (fun x => Value.string (x ++ ⟨#[]⟩)) HX,by omega,by omega,by rw [ByteArray.size_append]; show 1 + 0 + 18≤20; decide,.inr ⟨by rw [ByteArray.size_append]; show 0<1 + 0; decide,rfl⟩⟩
   case measure =>
    show 30 - (a4u.extract (k % 10) (k % 10 + 1) ++ ⟨#[]⟩).size<30 - 0
    rw [HX.out,ByteArray.size_append]
    show 30 - (1 + 0)<30 - 0
    decide
  ·have h0 : 0<s.size:=by
    rcases Nat.eq_zero_or_pos s.size with h | h
    ·exact absurd (by cases s with | mk d => simp only [ByteArray.mk.injEq]; exact Array.eq_empty_of_size_eq_zero h) he
    ·exact h
   have HD : Hid (aV 20 k s.data.toList=fS n):=by
    rcases HI.out with h | h
    ·exact absurd h.1 he
    ·exact h.2
   have e1 : ¬ s.toList=[]:=fun e => by
    rw [Lib.toList_data] at e; have:=d6 s; rw [e] at this; simp at this; omega
   have e2 : s.toList.isEmpty=false:=by simpa using e1
   clear he HI
   by_cases hz : k=0
   ·subst hz
    have E : Hid (s=⟨(fS n).toArray⟩):=by
     have:=HD.out
     rw [pZ] at this
     show s=_
     rw [← this]
    go_wp2
    go_ret
    exact ⟨by rw [← E.out]; rfl,by first | rfl | trivial⟩
   ·have hz' : (0 : Int)<k:=by omega
    cases f with
    | zero => omega
    | succ f =>
    have hk' : k / 10<10 ^ f:=by rw [Nat.pow_succ] at hk; omega
    have hz2 : k<10 ^ 20:=by omega
    clear hk
    go_wp2
    go_round
    case rel =>
     refine ⟨k / 10,⟨#[dig k]⟩ ++ s,f,by simp,congrArg (fun x => Value.string (x ++ s)) HX,by omega,hk',by rw [ByteArray.size_append]; show 1 + s.size + f≤20; omega,.inr ⟨by rw [ByteArray.size_append]; show 0<1 + s.size; omega,?_⟩⟩
     rw [← HD.out,jI k _ hz hz2]
     simp
    case measure =>
     show 30 - (a4u.extract (k % 10) (k % 10 + 1) ++ s).size<30 - s.size
     rw [HX.out,ByteArray.size_append]
     show 30 - (1 + s.size)<30 - s.size
     omega
theorem pU (t : Int) (ht : lU t) (w : World) :
 Calls Tryz.prog 37 #[.int .i64 t] w fun e w' => e=.returned (.string ⟨(i8 t).toArray⟩)∧Below w.heap.size w w':=by
 unfold lU at ht
 by_cases h0 : t<0
 ·have E:=hid (show i8 t=[63] by unfold i8; rw [if_pos h0])
  have d0 : decide (t<0)=true:=decide_eq_true h0
  go_enter Tryz.func37,Tryz.ntmps37
  go_wp2_with fail
  go_ret
  exact ⟨by rw [E.out]; rfl,Below.refl _ _⟩
 have d0 : decide (t<0)=false:=decide_eq_false h0
 obtain ⟨n,rfl⟩ : ∃ n : Nat,t=n:=⟨t.toNat,by omega⟩
 by_cases h5 : n<5
 ·have d1 : decide ((n : Int)<5)=true:=decide_eq_true (by omega)
  have E : ∀ k : Nat,k<5→i8 k=cR.getD k []:=by decide
  have hn : n=0∨n=1∨n=2∨n=3∨n=4:=by omega
  clear h5 ht h0
  go_enter Tryz.func37,Tryz.ntmps37
  rcases hn with rfl | rfl | rfl | rfl | rfl
  all_goals go_wp2_with fail
  all_goals go_ret
  all_goals exact ⟨by rw [E _ (by decide)]; rfl,a7 _ _⟩
 have d1 : decide ((n : Int)<5)=false:=decide_eq_false (by omega)
 by_cases h31 : n<31
 ·have d2 : decide ((n : Int)<31)=true:=decide_eq_true (by omega)
  have E:=hid (show i8 n=[UInt8.ofNat (97 + (n - 5))] by unfold i8; rw [if_neg h0,if_neg (by omega),if_pos (by omega),show ((n : Int) - 5).toNat=n - 5 by omega])
  have hcv : (convert 50 9 (.slice (some ⟨w.heap.size,0,none⟩) 1 1)).run Tryz.prog (w.alloc (.cells #[.int .u8 (97 + (n : Int) - 5)] 5))=.ok (.string ⟨[UInt8.ofNat (97 + (n - 5))].toArray⟩) (w.alloc (.cells #[.int .u8 (97 + (n : Int) - 5)] 5)):=by
   refine run_convert_bytes_back _ 50 9 5 ⟨w.heap.size,0,none⟩ 1 [UInt8.ofNat (97 + (n - 5))] (by kernel_rfl) (by kernel_rfl) (by kernel_rfl) ?_
   intro j hj
   match j,hj with
   | 0,_ =>
     rw [show (([UInt8.ofNat (97 + (n - 5))] : List UInt8)[0]).toNat=97 + (n - 5) by simp only [List.getElem_cons_zero,UInt8.toNat_ofNat']; omega]
     simp [Addr.add]
     omega
  generalize UInt8.ofNat (97 + (n - 5))=c at E hcv
  go_enter Tryz.func37,Tryz.ntmps37
  go_wp2_with fail
  go_ret
  exact ⟨by rw [E.out]; rfl,a7 _ _⟩
 ·have d2 : decide ((n : Int)<31)=false:=decide_eq_false (by omega)
  have E:=hid (show i8 n=116 :: fS (n - 5) by unfold i8; rw [if_neg h0,if_neg (by omega),if_neg (by omega),a3N _ (by omega),show ((n - 5 : Nat) : Int)=(n : Int) - 5 by omega])
  have e1 : IntKind.i64.wrap ((n : Int) - 5)=((n - 5 : Nat) : Int):=by rw [IntWalk.i64_in _ (by omega)]; omega
  have hl : (fS (n - 5)).length≤21:=lL 20 ((n - 5) / 10) [dig (n - 5)]
  have C:=hid (rU (n - 5) (by omega) w)
  generalize fS (n - 5)=l at E hl C
  have hls : (ByteArray.mk l.toArray).size=l.length:=by simp [ByteArray.size]
  go_enter Tryz.func37,Tryz.ntmps37
  go_wp2_with fail
  (with_reducible refine Calls.mono C.out ?_)
  rintro e w' ⟨rfl,rfl⟩
  go_wp2_with fail
  go_ret
  exact ⟨by rw [E.out]; rfl,Below.refl _ _⟩
end
section
open Lib (hid)
open Go.RowKit
def cU (q : Nat) : List UInt8:=if q=0 then [40] else [44,32]
def I4 (f : Int→List UInt8) : Nat→List Int→List UInt8
 | _,[] => []
 | i,t :: ts => cU i ++ f t ++ I4 f (i + 1) ts
theorem vK (f : Int→List UInt8) : ∀ (ts : List Int) (i : Nat) (t : Int),I4 f i (ts ++ [t])=I4 f i ts ++ (cU (i + ts.length) ++ f t)
 | [],i,t => by show I4 f i [t]=[] ++ _; rw [I4,I4,List.append_nil]; rfl
 | x :: ts,i,t => by
   show I4 f i (x :: (ts ++ [t]))=_
   rw [I4,vK f ts (i + 1) t,I4,List.length_cons,show i + 1 + ts.length=i + (ts.length + 1) by omega]
   simp only [List.append_assoc]
theorem a3Q (f : Int→List UInt8) (l : List Int) (q : Nat) (h : q<l.length) : I4 f 0 (l.take (q + 1))=I4 f 0 (l.take q) ++ (cU q ++ f l[q]):=by
 rw [← List.take_append_getElem h,vK,List.length_take,Nat.min_eq_left (Nat.le_of_lt h),Nat.zero_add]
theorem rJ (f : Int→List UInt8) (m : Nat) : ∀ (ts : List Int) (i : Nat),(∀ t∈ts,(f t).length≤m)→(I4 f i ts).length≤ts.length * (m + 2)
 | [],i,_ => by rw [I4]; exact Nat.zero_le _
 | t :: ts,i,h => by
   have h1:=rJ f m ts (i + 1) fun x hx => h x (List.mem_cons_of_mem _ hx)
   have h2:=h t (List.mem_cons_self ..)
   have h3 : (cU i).length≤2:=by unfold cU; split <;> decide
   rw [I4,List.length_cons,Nat.succ_mul]
   simp only [List.length_append]
   omega
theorem uN (f : Int→List UInt8) : ∀ (ts : List Int) (t : Int) (i : Nat),i≠0→f t ++ I4 f i ts=Lib.join ((t :: ts).map f) [44,32]
 | [],t,i,_ => by simp [I4,Lib.join]
 | x :: ts,t,i,h => by
   have e : Lib.join ((t :: x :: ts).map f) [44,32]=f t ++ ([44,32] ++ Lib.join ((x :: ts).map f) [44,32]):=by simp [Lib.join,List.intercalate]
   rw [e,← uN f ts x (i + 1) (by omega),I4]
   unfold cU
   rw [if_neg h]
   simp only [List.append_assoc]
theorem uP (w : World) (j : Nat) {q : Nat} (h : j=min q 1) : (w.alloc (.cells #[.string ⟨#[40]⟩,.string ⟨#[44,32]⟩] 9)).cell? ⟨w.heap.size,j,none⟩=some (.string (bsA (cU q))):=by
 unfold cU bsA
 by_cases hq : q=0
 ·subst hq; subst h; simp
 ·have : j=1:=by omega
  subst this
  rw [if_neg hq]
  simp
theorem a1z (d : Sch) : d.name ++ I4 i8 0 d.params ++ (if d.params=[] then [] else [41]) ++ (58 :: 32 :: i8 d.result)=dU d:=by
 unfold dU
 cases hp : d.params with
 | nil => simp [I4]
 | cons t ts =>
   rw [I4,if_neg (by simp),if_neg (by simp)]
   have:=uN i8 ts t (0 + 1) (by decide)
   rw [← this]
   unfold cU
   rw [if_pos rfl]
   simp
theorem xA (av : Nat→Prop) (d : Sch) (pa : Option Addr) (pc : Nat) (w : World) (hI : v6 av w pa d.params) (hc : d.params.length≤pc∧pc≤maxLen) (hr : ∀ t∈d.params ++ [d.result],lU t) (hn : d.params.length≤2000000) (hs : d.name.length≤1000000000000) (ha : ∀ b,av b→b<w.heap.size) :
 Calls Tryz.prog 16 #[.agg #[.string (bsA d.name),.slice pa d.params.length pc,.int .i64 d.result]] w fun e w' => e=.returned (.string (bsA (dU d)))∧Below w.heap.size w w':=by
 obtain ⟨W1,hW1⟩ : ∃ W,W=w.alloc (.cells #[.string (bsA d.name),.slice pa d.params.length pc,.int .i64 d.result] 36):=⟨_,rfl⟩
 have B1:=hid (show Below w.heap.size w W1 from hW1 ▸ a7 _ _)
 have K1:=hid (show ScBx w.heap.size d pa pc W1 from hW1 ▸ ScBx.make _ _ _ _)
 have HI:=hid hI
 have HA:=hid ha
 have HR:=hid hr
 have HL:=hid (rJ i8 22 d.params 0 fun t ht => (dF (hr t (List.mem_append_left _ ht))).1)
 have hpm : pc≤9223372036854775807:=by have:=hc.2; unfold maxLen at this; omega
 have hpl:=hc.1
 have hsz : ∀ l : List UInt8,(bsA l).size=l.length:=fun l => by simp [bsA,ByteArray.size]
 clear hI hr hc ha
 go_enter Tryz.func16,Tryz.ntmps16
 go_upto_region 1 with fail
 rw [← hW1]
 clear hW1
 obtain ⟨k0,k1,k2⟩:=K1.out.cells
 have hk1:=K1.out.lt
 go_wp2_with fail
 go_loopw [3,4] (fun o i wr => ∃ q : Nat,q≤d.params.length∧i=.int .i64 q∧o=.string (bsA (d.name ++ I4 i8 0 (d.params.take q)))∧Hid (Below W1.heap.size W1 wr)) (fun _ i _ => d.params.length - (intOf i).toNat)
 case atStart => exact ⟨0,Nat.zero_le _,rfl,by rw [List.take_zero,I4,List.append_nil],Below.refl _ _⟩
 case round =>
  obtain ⟨q,hq,rfl,rfl,HWr⟩:=hrel
  clear k0 k1 k2 hk1
  obtain ⟨-,k1,k2⟩:=(K1.out.below HWr).cells
  have hk1:=(K1.out.below HWr).lt
  by_cases hlt : q<d.params.length
  ·obtain ⟨pb,po,rfl,hpav,pcell⟩:=HI.out q hlt
   have hbw : Below w.heap.size w wr:=B1.out.trans (HWr.out.mono B1.out.size)
   have p0 : wr.cell? ⟨pb,po + q,none⟩=some (.int .i64 d.params[q]):=(hbw.cell (p:=⟨pb,po + q,none⟩) (HA.out pb hpav)).trans pcell
   have hpb : pb<wr.heap.size:=Nat.lt_of_lt_of_le (HA.out pb hpav) hbw.size
   have HS:=hid (show ∀ cur,Below wr.heap.size wr cur→Below wr.heap.size wr cur∧cur.cell? ⟨w.heap.size,1,none⟩=some (.slice (some ⟨pb,po,none⟩) d.params.length pc)∧cur.cell? ⟨pb,po + q,none⟩=some (.int .i64 d.params[q]) from fun cur hb => ⟨hb,(hb.cell (p:=⟨w.heap.size,1,none⟩) hk1).trans k1,(hb.cell (p:=⟨pb,po + q,none⟩) hpb).trans p0⟩)
   have HST:=hid (a3Q i8 d.params q hlt)
   have hwl:=(dF (HR.out _ (List.mem_append_left _ (List.getElem_mem hlt)))).1
   have C:=hid (fun cur => pU d.params[q] (HR.out _ (List.mem_append_left _ (List.getElem_mem hlt))) cur)
   have hol : (d.name ++ I4 i8 0 (d.params.take q)).length≤1000100000000:=by
    have h1:=rJ i8 22 (d.params.take q) 0 fun t ht => (dF (HR.out t (List.mem_append_left _ (List.mem_of_mem_take ht)))).1
    have h2 : (d.params.take q).length≤d.params.length:=List.length_take_le' q d.params
    rw [List.length_append]
    omega
   have HOUT:=hid (show ∀ a b : ByteArray,a=bsA (d.name ++ I4 i8 0 (d.params.take q))→b=⟨(i8 d.params[q]).toArray⟩→(.string (a ++ bsA (cU q) ++ b) : Value)=.string (bsA (d.name ++ I4 i8 0 (d.params.take (q + 1)))) from fun a b e1 e2 => by
    rw [HST.out,e1,e2,show (⟨(i8 d.params[q]).toArray⟩ : ByteArray)=bsA (i8 d.params[q]) from rfl,D7,D7]
    simp only [List.append_assoc])
   obtain ⟨j,hj⟩ : ∃ j,j=min q 1:=⟨_,rfl⟩
   have HMIN:=hid hj
   have hj2 : j<2:=by omega
   have hj3 : (j : Int)<2:=by omega
   clear hj
   have hsl : (cU q).length≤2:=by unfold cU; split <;> decide
   have s1 : (bsA (cU q)).size=(cU q).length:=hsz _
   have s2 : (bsA (d.name ++ I4 i8 0 (d.params.take q))).size=(d.name ++ I4 i8 0 (d.params.take q)).length:=hsz _
   have s3 : (⟨(i8 d.params[q]).toArray⟩ : ByteArray).size=(i8 d.params[q]).length:=hsz _
   have BW:=hid hbw
   have hc1 : ¬ 9223372036854775807<d.name.length + (I4 i8 0 (d.params.take q)).length + (cU q).length:=by rw [List.length_append] at hol; omega
   have hc2 : ¬ 9223372036854775807<d.name.length + (I4 i8 0 (d.params.take q)).length + (cU q).length + (i8 d.params[q]).length:=by rw [List.length_append] at hol; omega
   clear pcell hbw
   go_upto_region 5 with fail
   refine wp_region_held_drew (S:=fun cur => Below wr.heap.size wr cur∧cur.cell? ⟨w.heap.size,1,none⟩=some (.slice (some ⟨pb,po,none⟩) d.params.length pc)∧cur.cell? ⟨pb,po + q,none⟩=some (.int .i64 d.params[q])) (by kernel_rfl) ?_ (fun hHeld => ?_)
   ·exact HS.out _ (Below.refl _ _).drew
   have HB:=hid (show Below wr.heap.size wr wr.drew from (Below.refl _ _).drew)
   refine a8 0 ?_; refine a8 2 ?_
   refine a8 (v:=.int .i64 (j : Nat)) 3 ?_ (hy:=Or.inl ⟨by rfl,by intro w _; have hjm:=HMIN.out; go_simp; omega⟩)
   refine a8 7 ?_; refine a8 8 ?_; refine a8 9 ?_; refine a8 10 ?_; refine a8 11 ?_
   refine wpAnyH_ready (rs:=[1,12]) (by kernel_rfl) (by simp) ?_
   refine AllReadyH.cons (n7 rfl) (fun K hK => ?_) (AllReadyH.cons (n7 rfl) (fun K hK => ?_) AllReadyH.nil)
   ·
    go_simp
    have BX:=hid (show (wr.alloc (.cells #[.string ⟨#[40]⟩,.string ⟨#[44,32]⟩] 9)).drew.cell? ⟨wr.heap.size,j,none⟩=some (.string (bsA (cU q))) from uP wr j HMIN)
    have HB2:=hid (show Below wr.heap.size wr (wr.alloc (.cells #[.string ⟨#[40]⟩,.string ⟨#[44,32]⟩] 9)).drew from ((Below.refl _ _).alloc (Nat.le_refl _) _).drew)
    have hbl : wr.heap.size<(wr.alloc (.cells #[.string ⟨#[40]⟩,.string ⟨#[44,32]⟩] 9)).drew.heap.size:=by show _<(wr.alloc _).heap.size; simp
    clear HB
    have HB:=HB2
    clear HB2
    refine hK.out _ _ (HS.out _ HB) (fun hHeld => ?_)
    clear hK K
    try simp only [Act.put,i6,p8,p7]
    generalize (wr.alloc (.cells #[.string ⟨#[40]⟩,.string ⟨#[44,32]⟩] 9)).drew=wn at BX HB hHeld hbl ⊢
    have hbx : wn.cell? ⟨wr.heap.size,j,none⟩=some (.string (bsA (cU q))):=BX.out
    refine a8 4 ?_
    refine wpAnyH_ready (rs:=[5,12]) (by kernel_rfl) (by simp) ?_
    refine AllReadyH.cons (n7 rfl) (fun K hK => ?_) (AllReadyH.cons (n7 rfl) (fun K hK => ?_) AllReadyH.nil)
    ·
     go_simp
     refine hK.out _ _ (HS.out _ HB) (fun hHeld => ?_)
     clear hK K
     try simp only [Act.put,i6,p8,p7]
     refine a8 6 ?_
     refine wpAnyH_ready (rs:=[12]) (by kernel_rfl) (by simp) ?_
     refine AllReadyH.cons (n7 rfl) (fun K hK => ?_) AllReadyH.nil
     go_simp
     (with_reducible refine Calls.mono (C.out _) ?_)
     rintro e wc ⟨rfl,hb⟩
     go_wp2_with fail
     have HB2:=hid (HB.out.trans (hb.mono HB.out.size))
     clear HB hb
     have HB:=HB2
     clear HB2
     refine hK.out _ _ (HS.out _ HB) (fun hHeld => ?_)
     clear hK K
     try simp only [Act.put,i6,p8,p7]
     refine a8 13 ?_; refine a8 14 ?_
     refine wpAnyH_done (by kernel_rfl) ?_ _
     go_wp2_with fail
     go_roundw
     case rel => exact ⟨q + 1,by omega,by go_num,HOUT.out _ _ rfl rfl,hid (HWr.out.trans (HB.out.mono HWr.out.size))⟩
     case measure => simp [intOf]; omega
    ·
     go_simp
     (with_reducible refine Calls.mono (C.out _) ?_)
     rintro e wc ⟨rfl,hb⟩
     go_wp2_with fail
     have HB2:=hid (HB.out.trans (hb.mono HB.out.size))
     replace hbx:=(hb.cell (p:=⟨wr.heap.size,j,none⟩) hbl).trans hbx
     replace hbl:=Nat.lt_of_lt_of_le hbl hb.size
     clear HB hb
     have HB:=HB2
     clear HB2
     refine hK.out _ _ (HS.out _ HB) (fun hHeld => ?_)
     clear hK K
     try simp only [Act.put,i6,p8,p7]
     refine wpAnyH_ready (rs:=[5]) (by kernel_rfl) (by simp) ?_
     refine AllReadyH.cons (n7 rfl) (fun K hK => ?_) AllReadyH.nil
     go_simp
     refine hK.out _ _ (HS.out _ HB) (fun hHeld => ?_)
     clear hK K
     try simp only [Act.put,i6,p8,p7]
     refine a8 6 ?_; refine a8 13 ?_; refine a8 14 ?_
     refine wpAnyH_done (by kernel_rfl) ?_ _
     go_wp2_with fail
     go_roundw
     case rel => exact ⟨q + 1,by omega,by go_num,HOUT.out _ _ rfl rfl,hid (HWr.out.trans (HB.out.mono HWr.out.size))⟩
     case measure => simp [intOf]; omega
   ·
    go_simp
    (with_reducible refine Calls.mono (C.out _) ?_)
    rintro e wc ⟨rfl,hb⟩
    go_wp2_with fail
    have HB2:=hid (HB.out.trans (hb.mono HB.out.size))
    clear HB hb
    have HB:=HB2
    clear HB2
    refine hK.out _ _ (HS.out _ HB) (fun hHeld => ?_)
    clear hK K
    try simp only [Act.put,i6,p8,p7]
    refine wpAnyH_ready (rs:=[1]) (by kernel_rfl) (by simp) ?_
    refine AllReadyH.cons (n7 rfl) (fun K hK => ?_) AllReadyH.nil
    go_simp
    have BX:=hid (show (wc.alloc (.cells #[.string ⟨#[40]⟩,.string ⟨#[44,32]⟩] 9)).cell? ⟨wc.heap.size,j,none⟩=some (.string (bsA (cU q))) from uP wc j HMIN)
    have HB2:=hid (show Below wr.heap.size wr (wc.alloc (.cells #[.string ⟨#[40]⟩,.string ⟨#[44,32]⟩] 9)) from HB.out.alloc HB.out.size _)
    have hbl : wc.heap.size<(wc.alloc (.cells #[.string ⟨#[40]⟩,.string ⟨#[44,32]⟩] 9)).heap.size:=by simp
    clear HB
    have HB:=HB2
    clear HB2
    refine hK.out _ _ (HS.out _ HB) (fun hHeld => ?_)
    clear hK K
    try simp only [Act.put,i6,p8,p7]
    generalize (wc.alloc (.cells #[.string ⟨#[40]⟩,.string ⟨#[44,32]⟩] 9))=wn at BX HB hHeld hbl ⊢
    have hbx : wn.cell? ⟨wc.heap.size,j,none⟩=some (.string (bsA (cU q))):=BX.out
    generalize wc.heap.size=bx0 at BX hbl hbx ⊢
    refine a8 4 ?_
    refine wpAnyH_ready (rs:=[5]) (by kernel_rfl) (by simp) ?_
    refine AllReadyH.cons (n7 rfl) (fun K hK => ?_) AllReadyH.nil
    go_simp
    refine hK.out _ _ (HS.out _ HB) (fun hHeld => ?_)
    clear hK K
    try simp only [Act.put,i6,p8,p7]
    refine a8 6 ?_; refine a8 13 ?_; refine a8 14 ?_
    refine wpAnyH_done (by kernel_rfl) ?_ _
    go_wp2_with fail
    go_roundw
    case rel => exact ⟨q + 1,by omega,by go_num,HOUT.out _ _ rfl rfl,hid (HWr.out.trans (HB.out.mono HWr.out.size))⟩
    case measure => simp [intOf]; omega
  ·obtain rfl : q=d.params.length:=by omega
   have HT:=hid (a1z d)
   have hbw:=hid (B1.out.trans (HWr.out.mono B1.out.size))
   have HOUT:=hid (show ∀ a b : ByteArray,a=bsA (d.name ++ I4 i8 0 d.params) ++ bsA (if d.params=[] then [] else [41])→b=⟨(i8 d.result).toArray⟩→(.string (a ++ ⟨#[58,32]⟩ ++ b) : Value)=.string (bsA (dU d)) from fun a b e1 e2 => by
    rw [← HT.out,e1,e2,show (⟨(i8 d.result).toArray⟩ : ByteArray)=bsA (i8 d.result) from rfl,show (⟨#[58,32]⟩ : ByteArray)=bsA [58,32] from rfl,D7,D7,D7]
    simp only [List.append_assoc]
    rfl)
   rw [List.take_length]
   have hL:=HL.out
   have hwl:=(dF (HR.out d.result (by simp))).1
   have C:=hid (pU d.result (HR.out d.result (by simp)) wr)
   have s2 : (bsA (d.name ++ I4 i8 0 d.params)).size=(d.name ++ I4 i8 0 d.params).length:=hsz _
   have s3 : (⟨(i8 d.result).toArray⟩ : ByteArray).size=(i8 d.result).length:=hsz _
   have hc0 : ¬ 9223372036854775807<d.name.length + (I4 i8 0 d.params).length + 1:=by omega
   have hc1 : ¬ 9223372036854775807<d.name.length + (I4 i8 0 d.params).length + 2:=by omega
   have hc2 : ¬ 9223372036854775807<d.name.length + (I4 i8 0 d.params).length + 1 + 2:=by omega
   have hc3 : ¬ 9223372036854775807<d.name.length + (I4 i8 0 d.params).length + 2 + (i8 d.result).length:=by omega
   have hc4 : ¬ 9223372036854775807<d.name.length + (I4 i8 0 d.params).length + 1 + 2 + (i8 d.result).length:=by omega
   by_cases hp : d.params=[]
   ·have h0 : decide (0<(d.params.length : Int))=false:=by rw [hp]; rfl
    have h1 : ¬ 0<d.params.length:=by rw [hp]; decide
    have HE:=hid (HOUT.out (bsA (d.name ++ I4 i8 0 d.params)) _ (by rw [if_pos hp,D7,List.append_nil]) rfl)
    clear hp
    go_wp2_with fail
    (with_reducible refine Calls.mono C.out ?_)
    rintro e wc ⟨rfl,hb⟩
    go_wp2_with fail
    go_ret
    exact ⟨congrArg Ending.returned HE,hbw.out.trans (hb.mono hbw.out.size)⟩
   ·have h1 : 0<d.params.length:=List.length_pos_iff.2 hp
    have h0 : decide (0<(d.params.length : Int))=true:=decide_eq_true (by omega)
    have HE:=hid (HOUT.out (bsA (d.name ++ I4 i8 0 d.params) ++ ⟨#[41]⟩) _ (by rw [if_neg hp]; rfl) rfl)
    clear hp
    go_wp2_with fail
    (with_reducible refine Calls.mono C.out ?_)
    rintro e wc ⟨rfl,hb⟩
    go_wp2_with fail
    go_ret
    exact ⟨congrArg Ending.returned HE,hbw.out.trans (hb.mono hbw.out.size)⟩
end
end Go.Proofs.YtppcfebnaieciaaGreatDoor
