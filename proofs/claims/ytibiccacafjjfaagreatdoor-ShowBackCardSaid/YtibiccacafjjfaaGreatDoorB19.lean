/-
  Laws that the proof rests on.
-/
import Derived.Test.YtibiccacafjjfaaGreatDoorB18
import Derived.Deep.AppendLies
namespace Go.Proofs.YtibiccacafjjfaaGreatDoor
set_option maxRecDepth 100000
set_option maxHeartbeats 16000000
section
open Lib (hid)
open Go.RowKit
theorem sZ {av : Nat→Prop} {W : World} {t u v : Nd} {a a' a2 : Option Addr} {cp cp' cp2 b : Nat} {k p : Int} {s : List UInt8} {A : TypeId} (hk : (Lit.int .i64 k).wf=true) (hs : s.length≤16384) (hp : (Lit.int .i64 p).wf=true) (hb : av b)
 (h : W.heap[b]?=some (.cells #[.int .i64 t.kind,.string t.text,.int .i64 t.n,.slice a t.kids.length cp,.int .i64 t.place,.int .i64 u.kind,.string u.text,.int .i64 u.n,.slice a' u.kids.length cp',.int .i64 u.place,.int .i64 v.kind,.string v.text,.int .i64 v.n,.slice a2 v.kids.length cp2,.int .i64 v.place] A (0,0))) (hl : t.lies av W a cp) (hu : u.lies av W a' cp') (hv : v.lies av W a2 cp2) :
 (mkN k s 0 [t,u,v] p).lies av W (some ⟨b,0,none⟩) 3 :=
 Nd.lies.mk' hk (by show s.toArray.size≤maxLen; unfold maxLen; simp; omega) rfl hp (Nat.le_refl _) (by unfold maxLen; decide) (a3o hb h hl hu hv)
theorem rM (k : Int) (s : List UInt8) (n p : Int) (t u v : Nd) : c8 (mkN k s n [t,u,v] p)=max (c8 t) (max (c8 u) (c8 v)) + 1:=by
 unfold mkN; rw [c8,i8,i8,i8,i8,Nat.max_zero]
theorem pC {σ : Sx} {nest : Nat} {m : Md} {t : Nd} {r : List Tk} (h : goX σ (rd m nest)=.ok (t,r)) : ∃ r0,σ=.ok r0∧r.length≤r0.length:=by
 obtain ⟨r0,e,h'⟩:=gQ h
 exact ⟨r0,e,aZ m nest r0 h'⟩
def yN (nest : Nat) (l : List Tk) (at' : Int) : Rd:=F0 7 l fun s r => d9 o6 r fun r => (rd .expr nest r).then fun a r => d9 l0 r fun r => (rd .expr nest r).then fun b r => d9 l0 r fun r => (rd .expr nest r).then fun c r =>
 d9 m5 r fun r => made (mkN 15 s.text 0 [a,b,c] at') r
theorem yX (P g cap : Nat) (ts : List Tk) (he : y7 ts) (htk : ∀ t∈ts,z8 t) (l : List Tk) (at' : Int) (hat : (Lit.int .i64 at').wf=true) (hE : ∀ r,r.length<l.length→CE P g cap ts r) (nest : Nat) (w : World) (hn : nest≤300) (h : SP P g cap ts nest (.ok l) w) :
 Calls Tryz.prog 198 #[.pointer (some ⟨P,0,none⟩),.int .i64 at'] w (RdP P g cap ts nest (yN nest l at') w):=by
 have P0:=hid h
 have HP:=hid (show w.heap.size≠P∧w.heap.size≠g from ⟨Nat.ne_of_gt h.blocks.1,Nat.ne_of_gt h.blocks.2⟩)
 have HEx:=hid hE
 have HTK:=hid htk
 have HAT:=hid hat
 obtain ⟨X,hX⟩ : ∃ X,X=yN nest l at':=⟨_,rfl⟩
 rw [← hX]
 have HX:=hid hX
 obtain ⟨W1,hW1⟩ : ∃ W,W=w.alloc (.cells #[.int .i64 0,.string ⟨#[]⟩,.int .i64 0,.slice none 0 0,.int .i64 0] 24):=⟨_,rfl⟩
 have B1:=hid (show f6 w.heap.size nd0 none 0 W1 from hW1 ▸ f6.make w nd0 none 0)
 have E1:=hid (show Below w.heap.size w W1 from hW1 ▸ c6 _ _)
 have S1:=hid (b8 (r:=some P) E1)
 have P1:=hid (P0.out.below E1)
 clear h hE htk hat hX
 go_enter Tryz.func198,Tryz.ntmps198
 have C2:=hid (tM P g cap ts nest (.ok l) 7 W1 hn P1 he)
 go_wp2_with fail
 rw [← hW1]
 clear hW1
 (with_reducible refine Calls.mono C2.out ?_)
 rintro e W2 ⟨T,rfl,hs,hg,hT⟩
 have S2:=hid hg
 have P2:=hid hs
 clear hs hg C2
 have HT:=hid (hT l rfl)
 clear hT
 have HT0:=hid (show z8 T from HT.out ▸ HTK.out _ P1.out.mem)
 obtain ⟨σ1,hσ1⟩ : ∃ σ,σ=X4 7 (.ok l):=⟨_,rfl⟩
 rw [← hσ1] at P2
 have Q1:=hid hσ1
 clear hσ1
 obtain ⟨W3,hW3⟩ : ∃ W,W=W2.alloc (.cells #[.int .i64 T.kind,.string ⟨T.text.toArray⟩,.int .i64 T.n,.int .i64 T.pos] 67):=⟨_,rfl⟩
 have B3:=hid (show Y0 W2.heap.size T W3 from hW3 ▸ Y0.make W2 T)
 have E3:=hid (show Below W2.heap.size W2 W3 from hW3 ▸ c6 _ _)
 have S3:=hid (b8 (r:=some P) E3)
 have P3:=hid (P2.out.below E3)
 have C4:=hid (R9 P g cap ts nest σ1 ⟨#[40]⟩ W3 hn P3 he)
 unfold tkV
 go_wp2_with fail
 rw [← hW3]
 clear hW3
 (with_reducible refine Calls.mono C4.out ?_)
 rintro e W4 ⟨rfl,hs,hg⟩
 have S4:=hid hg
 have P4:=hid hs
 clear hs hg C4
 obtain ⟨τ0,hτ0⟩ : ∃ σ,σ=bP o6 σ1:=⟨_,rfl⟩
 replace P4:=hid (show SP P g cap ts nest τ0 W4 from hτ0 ▸ P4.out)
 have R0:=hid hτ0
 clear hτ0
 have M0:=hid (show ∀ r,τ0=.ok r→r.length<l.length from fun r hr => by have h1:=hr; rw [R0.out] at h1; obtain ⟨r1,e1,-,rfl⟩:=V7 h1; rw [Q1.out] at e1; obtain ⟨r2,e2,e3,rfl⟩:=pK e1; cases e2; have:=Y7 (b9 l); have:=cZ e3 (by decide); omega)
 have C5:=hid (eX P g cap ts nest τ0 W4 hn P4 fun r hr => HEx.out r (M0.out r hr))
 go_wp2_with fail
 (with_reducible refine Calls.mono C5.out ?_)
 rintro e W5 ⟨k0,a0,c0,rfl,hs,hg,hk⟩
 have S5:=hid hg
 have P5:=hid hs
 clear hs hg C5
 obtain ⟨x0,hx0⟩ : ∃ x,x=goX τ0 (rd .expr nest):=⟨_,rfl⟩
 rw [← hx0] at P5 hk
 have HK0:=hid hk
 have X0:=hid hx0
 have L0:=hid (show ∀ t r,x0=.ok (t,r)→r.length<l.length from fun t r h => by rw [hx0] at h; obtain ⟨r0,e,hl⟩:=pC h; have:=M0.out r0 e; omega)
 clear hk hx0
 obtain ⟨W6,hW6⟩ : ∃ W,W=W5.alloc (.cells #[.int .i64 k0.kind,.string k0.text,.int .i64 k0.n,.slice a0 k0.kids.length c0,.int .i64 k0.place] 24):=⟨_,rfl⟩
 have B6:=hid (show f6 W5.heap.size k0 a0 c0 W6 from hW6 ▸ f6.make W5 k0 a0 c0)
 have E6:=hid (show Below W5.heap.size W5 W6 from hW6 ▸ c6 _ _)
 have S6:=hid (b8 (r:=some P) E6)
 have P6:=hid (P5.out.below E6)
 have C7:=hid (R9 P g cap ts nest (p5 x0) ⟨#[44]⟩ W6 hn P6 he)
 unfold Nd.val
 go_wp2_with fail
 rw [← hW6]
 clear hW6
 (with_reducible refine Calls.mono C7.out ?_)
 rintro e W7 ⟨rfl,hs,hg⟩
 have S7:=hid hg
 have P7:=hid hs
 clear hs hg C7
 obtain ⟨τ1,hτ1⟩ : ∃ σ,σ=bP l0 (p5 x0):=⟨_,rfl⟩
 replace P7:=hid (show SP P g cap ts nest τ1 W7 from hτ1 ▸ P7.out)
 have R1:=hid hτ1
 clear hτ1
 have M1:=hid (show ∀ r,τ1=.ok r→r.length<l.length from fun r hr => by have h1:=hr; rw [R1.out] at h1; obtain ⟨r1,e1,-,rfl⟩:=V7 h1; obtain ⟨t,e2⟩:=D8 e1; have:=L0.out t r1 e2; have:=Y7 r1; omega)
 have C8:=hid (eX P g cap ts nest τ1 W7 hn P7 fun r hr => HEx.out r (M1.out r hr))
 go_wp2_with fail
 (with_reducible refine Calls.mono C8.out ?_)
 rintro e W8 ⟨k1,a1,c1,rfl,hs,hg,hk⟩
 have S8:=hid hg
 have P8:=hid hs
 clear hs hg C8
 obtain ⟨x1,hx1⟩ : ∃ x,x=goX τ1 (rd .expr nest):=⟨_,rfl⟩
 rw [← hx1] at P8 hk
 have HK1:=hid hk
 have X1:=hid hx1
 have L1:=hid (show ∀ t r,x1=.ok (t,r)→r.length<l.length from fun t r h => by rw [hx1] at h; obtain ⟨r0,e,hl⟩:=pC h; have:=M1.out r0 e; omega)
 clear hk hx1
 obtain ⟨W9,hW9⟩ : ∃ W,W=W8.alloc (.cells #[.int .i64 k1.kind,.string k1.text,.int .i64 k1.n,.slice a1 k1.kids.length c1,.int .i64 k1.place] 24):=⟨_,rfl⟩
 have B9:=hid (show f6 W8.heap.size k1 a1 c1 W9 from hW9 ▸ f6.make W8 k1 a1 c1)
 have E9:=hid (show Below W8.heap.size W8 W9 from hW9 ▸ c6 _ _)
 have S9:=hid (b8 (r:=some P) E9)
 have P9:=hid (P8.out.below E9)
 have C10:=hid (R9 P g cap ts nest (p5 x1) ⟨#[44]⟩ W9 hn P9 he)
 unfold Nd.val
 go_wp2_with fail
 rw [← hW9]
 clear hW9
 (with_reducible refine Calls.mono C10.out ?_)
 rintro e W10 ⟨rfl,hs,hg⟩
 have S10:=hid hg
 have P10:=hid hs
 clear hs hg C10
 obtain ⟨τ2,hτ2⟩ : ∃ σ,σ=bP l0 (p5 x1):=⟨_,rfl⟩
 replace P10:=hid (show SP P g cap ts nest τ2 W10 from hτ2 ▸ P10.out)
 have R2:=hid hτ2
 clear hτ2
 have M2:=hid (show ∀ r,τ2=.ok r→r.length<l.length from fun r hr => by have h1:=hr; rw [R2.out] at h1; obtain ⟨r1,e1,-,rfl⟩:=V7 h1; obtain ⟨t,e2⟩:=D8 e1; have:=L1.out t r1 e2; have:=Y7 r1; omega)
 have C11:=hid (eX P g cap ts nest τ2 W10 hn P10 fun r hr => HEx.out r (M2.out r hr))
 go_wp2_with fail
 (with_reducible refine Calls.mono C11.out ?_)
 rintro e W11 ⟨k2,a2,c2,rfl,hs,hg,hk⟩
 have S11:=hid hg
 have P11:=hid hs
 clear hs hg C11
 obtain ⟨x2,hx2⟩ : ∃ x,x=goX τ2 (rd .expr nest):=⟨_,rfl⟩
 rw [← hx2] at P11 hk
 have HK2:=hid hk
 have X2:=hid hx2
 have L2:=hid (show ∀ t r,x2=.ok (t,r)→r.length<l.length from fun t r h => by rw [hx2] at h; obtain ⟨r0,e,hl⟩:=pC h; have:=M2.out r0 e; omega)
 clear hk hx2
 obtain ⟨W12,hW12⟩ : ∃ W,W=W11.alloc (.cells #[.int .i64 k2.kind,.string k2.text,.int .i64 k2.n,.slice a2 k2.kids.length c2,.int .i64 k2.place] 24):=⟨_,rfl⟩
 have B12:=hid (show f6 W11.heap.size k2 a2 c2 W12 from hW12 ▸ f6.make W11 k2 a2 c2)
 have E12:=hid (show Below W11.heap.size W11 W12 from hW12 ▸ c6 _ _)
 have S12:=hid (b8 (r:=some P) E12)
 have P12:=hid (P11.out.below E12)
 have C13:=hid (R9 P g cap ts nest (p5 x2) ⟨#[41]⟩ W12 hn P12 he)
 unfold Nd.val
 go_wp2_with fail
 rw [← hW12]
 clear hW12
 (with_reducible refine Calls.mono C13.out ?_)
 rintro e W13 ⟨rfl,hs,hg⟩
 have S13:=hid hg
 have P13:=hid hs
 clear hs hg C13
 obtain ⟨τ3,hτ3⟩ : ∃ σ,σ=bP m5 (p5 x2):=⟨_,rfl⟩
 replace P13:=hid (show SP P g cap ts nest τ3 W13 from hτ3 ▸ P13.out)
 have R3:=hid hτ3
 clear hτ3
 go_upto_region 9 with fail
 obtain ⟨⟨t0,t1,t2,t3⟩,-⟩:=(B3.out.grown (b6 (b6 (b6 (b6 (b6 (b6 (b6 (b6 (b6 S4 S5) S6) S7) S8) S9) S10) S11) S12) S13) (Nat.ne_of_gt P2.out.blocks.1)).cells
 obtain ⟨⟨n00,n01,n02,n03,n04⟩,-⟩:=(B6.out.grown (b6 (b6 (b6 (b6 (b6 (b6 S7 S8) S9) S10) S11) S12) S13) (Nat.ne_of_gt P5.out.blocks.1)).cells
 obtain ⟨⟨n10,n11,n12,n13,n14⟩,-⟩:=(B9.out.grown (b6 (b6 (b6 S10 S11) S12) S13) (Nat.ne_of_gt P8.out.blocks.1)).cells
 obtain ⟨⟨n20,n21,n22,n23,n24⟩,-⟩:=(B12.out.grown S13 (Nat.ne_of_gt P11.out.blocks.1)).cells
 obtain ⟨W14,hW14⟩ : ∃ W,W=W13.alloc (.cells #[.int .i64 k0.kind,.string k0.text,.int .i64 k0.n,.slice a0 k0.kids.length c0,.int .i64 k0.place,.int .i64 k1.kind,.string k1.text,.int .i64 k1.n,.slice a1 k1.kids.length c1,.int .i64 k1.place,.int .i64 k2.kind,.string k2.text,.int .i64 k2.n,.slice a2 k2.kids.length c2,.int .i64 k2.place] 24):=⟨_,rfl⟩
 have E14:=hid (show Below W13.heap.size W13 W14 from hW14 ▸ c6 _ _)
 have S14:=hid (b8 (r:=some P) E14)
 have P14:=hid (P13.out.below E14)
 have B14:=hid (show W14.heap[W13.heap.size]?=some (.cells #[.int .i64 k0.kind,.string k0.text,.int .i64 k0.n,.slice a0 k0.kids.length c0,.int .i64 k0.place,.int .i64 k1.kind,.string k1.text,.int .i64 k1.n,.slice a1 k1.kids.length c1,.int .i64 k1.place,.int .i64 k2.kind,.string k2.text,.int .i64 k2.n,.slice a2 k2.kids.length c2,.int .i64 k2.place] 24 (0,0)) from by rw [hW14]; exact jL _ rfl)
 have hlt:=hid (show W13.heap.size<W14.heap.size from by rw [hW14]; simp)
 have HD:=hid (show ∀ r,τ3=.ok r→c8 (mkN 15 T.text 0 [k0,k1,k2] at')≤101∧(mkN 15 T.text 0 [k0,k1,k2] at').lies (Fr W1.heap.size W14.heap.size) W14 (some ⟨W13.heap.size,0,none⟩) 3 from fun r hr => by
  rw [R3.out] at hr; obtain ⟨r3,e3,-,-⟩:=V7 hr; obtain ⟨v3,y3⟩:=D8 e3; obtain ⟨-,hl2,hd2⟩:=HK2.out v3 r3 y3
  rw [X2.out] at y3; obtain ⟨r2,e2,-⟩:=gQ y3; rw [R2.out] at e2; obtain ⟨s2,f2,-,-⟩:=V7 e2; obtain ⟨v2,y2⟩:=D8 f2; obtain ⟨-,hl1,hd1⟩:=HK1.out v2 s2 y2
  rw [X1.out] at y2; obtain ⟨r1,e1,-⟩:=gQ y2; rw [R1.out] at e1; obtain ⟨s1,f1,-,-⟩:=V7 e1; obtain ⟨v1,y1⟩:=D8 f1; obtain ⟨-,hl0,hd0⟩:=HK0.out v1 s1 y1
  have hP1 : P<W1.heap.size:=P1.out.blocks.1
  have q0 : W1.heap.size≤W4.heap.size:=(b6 (b6 S2 S3) S4).size
  have q1 : W1.heap.size≤W7.heap.size:=(b6 (b6 (b6 (b6 (b6 S2 S3) S4) S5) S6) S7).size
  have q2 : W1.heap.size≤W10.heap.size:=(b6 (b6 (b6 (b6 (b6 (b6 (b6 (b6 S2 S3) S4) S5) S6) S7) S8) S9) S10).size
  refine ⟨by rw [rM]; omega,sZ rfl HT0.out.2.2 HAT ⟨(b6 (b6 (b6 (b6 (b6 (b6 (b6 (b6 (b6 (b6 (b6 S2 S3) S4) S5) S6) S7) S8) S9) S10) S11) S12) S13).size,hlt⟩ B14 (d5 hl0 ((j0.refl _ _).grown (b6 (b6 (b6 (b6 (b6 (b6 (b6 (b6 S6 S7) S8) S9) S10) S11) S12) S13) S14) fun b hb => ⟨hb.2,fun e => by subst e; have:=hb.1; omega⟩) fun b hb => ⟨Nat.le_trans q0 hb.1,Nat.lt_of_lt_of_le hb.2 (b6 (b6 (b6 (b6 (b6 (b6 (b6 (b6 S6 S7) S8) S9) S10) S11) S12) S13) S14).size⟩) (d5 hl1 ((j0.refl _ _).grown (b6 (b6 (b6 (b6 (b6 S9 S10) S11) S12) S13) S14) fun b hb => ⟨hb.2,fun e => by subst e; have:=hb.1; omega⟩) fun b hb => ⟨Nat.le_trans q1 hb.1,Nat.lt_of_lt_of_le hb.2 (b6 (b6 (b6 (b6 (b6 S9 S10) S11) S12) S13) S14).size⟩) (d5 hl2 ((j0.refl _ _).grown (b6 (b6 S12 S13) S14) fun b hb => ⟨hb.2,fun e => by subst e; have:=hb.1; omega⟩) fun b hb => ⟨Nat.le_trans q2 hb.1,Nat.lt_of_lt_of_le hb.2 (b6 (b6 S12 S13) S14).size⟩)⟩)
 have CM:=hid (eG P g cap ts nest τ3 15 T.text 0 [k0,k1,k2] at' (some ⟨W13.heap.size,0,none⟩) 3 3 rfl W14 hn P14 fun r hr => ⟨(HD.out r hr).1,_,fun b hb => hb.2,(HD.out r hr).2⟩)
 obtain ⟨⟨u0,u1,u2,u3⟩,-⟩:=(B3.out.grown (b6 (b6 (b6 (b6 (b6 (b6 (b6 (b6 (b6 (b6 S4 S5) S6) S7) S8) S9) S10) S11) S12) S13) S14) (Nat.ne_of_gt P2.out.blocks.1)).cells
 subst hW14
 go_wp2_with fail
 (with_reducible refine Calls.mono CM.out ?_)
 rintro e W15 ⟨rfl,hs,hg⟩
 have S15:=hid hg
 have P15:=hid hs
 clear hs hg CM t0 t1 t2 t3 u0 u1 u2 u3 n00 n01 n02 n03 n04 n10 n11 n12 n13 n14 n20 n21 n22 n23 n24
 have BR:=hid (B1.out.grown (b6 (b6 (b6 (b6 (b6 (b6 (b6 (b6 (b6 (b6 (b6 (b6 (b6 S2 S3) S4) S5) S6) S7) S8) S9) S10) S11) S12) S13) S14) S15) HP.out.1)
 obtain ⟨⟨z0,z1,z2,z3,z4⟩,⟨f0,f1,f2,f3,f4⟩⟩:=BR.out.cells
 have hsz : w.heap.size<W15.heap.size:=BR.out.lt
 rw [show (mkN 15 T.text 0 [k0,k1,k2] at').val (some ⟨W13.heap.size,0,none⟩) 3=.agg #[.int .i64 15,.string ⟨List.toArray T.text⟩,.int .i64 0,.slice (some ⟨W13.heap.size,0,none⟩) 3 3,.int .i64 at'] from rfl]
 go_wp2_with fail
 refine bodyPost_ret (v:=(mkN 15 T.text 0 [k0,k1,k2] at').val (some ⟨W13.heap.size,0,none⟩) 3) (by simp [results,Tryz.results198,go_sem,Nd.val,mkN,Nd.kind,Nd.text,Nd.n,Nd.kids,Nd.place,z0,z1,z2,z3,z4]) rfl ?_
 have hX : X=goX τ3 (made (mkN 15 T.text 0 [k0,k1,k2] at')):=by
  rw [HX.out]
  show goX (.ok l) (fun r => F0 7 r _)=_
  rw [eO (.ok l) 7 _ T (fun r h => by cases h; exact HT),← Q1.out]
  rw [eE,← R0.out,iM,← X0.out,aP (t:=k0) (fun t' r h => (HK0.out t' r h).1),eE,← R1.out,iM,← X1.out,aP (t:=k1) (fun t' r h => (HK1.out t' r h).1),eE,← R2.out,iM,← X2.out,aP (t:=k2) (fun t' r h => (HK2.out t' r h).1),eE,← R3.out]
 have hO : p5 X=gV (mkN 15 T.text 0 [k0,k1,k2] at') τ3:=by rw [hX,fD]
 refine RdP.fin (by rw [hO]; exact P15) (b6 (b6 (b6 (b6 (b6 (b6 (b6 (b6 (b6 (b6 (b6 (b6 (b6 (b6 S1 S2) S3) S4) S5) S6) S7) S8) S9) S10) S11) S12) S13) S14) S15) HP (Nat.le_refl _) fun t' r' hx => ?_
 rw [hX] at hx
 obtain ⟨e1,e2,e3⟩:=fS _ _ hx
 have hP1 : P<W1.heap.size:=P1.out.blocks.1
 have hw1 : w.heap.size<W1.heap.size:=B1.out.lt
 refine ⟨e1,⟨_,fun c hc => ⟨fun e => by subst e; have:=hc.1; omega,by have:=hc.1; omega,Nat.lt_of_lt_of_le hc.2 S15.out.size⟩,d5 (HD.out r' e2).2 ((j0.refl _ _).grown S15 fun b hb => ⟨hb.2,fun e => by subst e; have:=hb.1; omega⟩) fun b hb => hb⟩,e3⟩
end
section
open Lib (hid)
open Go.RowKit
theorem a2R (P g cap : Nat) (ts : List Tk) (he : y7 ts) (htk : ∀ t∈ts,z8 t) (l : List Tk) (hC : CC P g cap ts 0 l) (hE : ∀ r,r.length<l.length→CE P g cap ts r) : CE P g cap ts l:=by
 intro nest w hn h
 have P0:=hid h
 have HP:=hid (show (w.heap.size≠P∧w.heap.size≠g)∧(w.heap.size + 1≠P∧w.heap.size + 1≠g) by have:=h.blocks; omega)
 have HEx:=hid hE
 have HC:=hid hC
 have HTK:=hid htk
 obtain ⟨X,hX⟩ : ∃ X,X=rd .expr nest l:=⟨_,rfl⟩
 rw [← hX]
 have HX:=hid (hX.trans (t7 .expr nest l))
 obtain ⟨W1,hW1⟩ : ∃ V,V=(w.alloc (.cells #[.int .i64 0,.string ⟨#[]⟩,.int .i64 0,.slice none 0 0,.int .i64 0] 24)).alloc (.cells #[.int .i64 0,.string ⟨#[]⟩,.int .i64 0,.slice none 0 0,.int .i64 0] 24):=⟨_,rfl⟩
 have E1:=hid (show Below w.heap.size w W1 from hW1 ▸ (c6 w _).trans ((c6 _ _).mono (c6 w _).size))
 have S1:=hid (b8 (r:=some P) E1)
 have B1:=hid (show f6 w.heap.size nd0 none 0 W1 from hW1 ▸ (f6.make w nd0 none 0).below (c6 _ _))
 have A1:=hid (show f6 (w.heap.size + 1) nd0 none 0 W1 by
  have:=f6.make (w.alloc (.cells #[.int .i64 0,.string ⟨#[]⟩,.int .i64 0,.slice none 0 0,.int .i64 0] 24)) nd0 none 0
  rw [hW1]
  simpa [nd0,Nd.kind,Nd.text,Nd.n,Nd.kids,Nd.place] using this)
 have P1:=hid (h.below E1)
 clear h hE hC htk hX
 go_enter Tryz.func69,Tryz.ntmps69
 have C2:=hid (pQ P g cap ts nest l W1 hn P1)
 go_wp2_with fail
 rw [← hW1]
 clear hW1
 (with_reducible refine Calls.mono C2.out ?_)
 rintro e W2 ⟨rfl,hs,hg⟩
 have S2:=hid hg
 have P2:=hid hs
 clear hs hg C2
 by_cases hk : 300<nest + 1
 ·have R:=hid (show X=.error (75,(hd l).pos) from HX.out.trans (if_pos hk))
  have E : iC nest (.ok l)=.error (75,(hd l).pos):=if_pos hk
  have hs2:=P2.out
  rw [E] at hs2
  obtain ⟨-,i,n,hp,-,-⟩:=hs2.error
  obtain ⟨⟨p0,p1,p2,p3,p4⟩,-⟩:=hp.cells
  have hpl:=hp.plt
  have B2:=hid (B1.out.grown S2 HP.out.1.1)
  have A2:=hid (A1.out.grown S2 HP.out.2.1)
  obtain ⟨⟨z0,z1,z2,z3,z4⟩,⟨f0,f1,f2,f3,f4⟩⟩:=B2.out.cells
  obtain ⟨⟨n0,n1,n2,n3,n4⟩,-⟩:=A2.out.cells
  have hsz : w.heap.size<W2.heap.size∧w.heap.size + 1<W2.heap.size:=⟨B2.out.lt,A2.out.lt⟩
  have HS2:=hid (hs2.mono (Nat.le_succ nest))
  clear hk E hs2 hp
  go_wp2_with fail
  refine bodyPost_ret (v:=nd0.val none 0) (by simp [results,Tryz.results69,go_sem,Nd.val,z0,z1,z2,z3,z4]) rfl ?_
  rw [R.out]
  exact RdP.fin (x:=.error (75,(hd l).pos)) HS2 (b6 S1 S2) HP.out.1 (Nat.le_refl _) (fun _ _ h => by cases h)
 have E : iC nest (.ok l)=.ok l:=if_neg hk
 have HX1:=hid (HX.out.trans (if_neg hk))
 replace P2:=hid (show SP P g cap ts (nest + 1) (.ok l) W2 from E ▸ P2.out)
 obtain ⟨i,-,hp⟩:=P2.out.ok
 obtain ⟨⟨p0,p1,p2,p3,p4⟩,-⟩:=hp.cells
 have hpl:=hp.plt
 have hn1:=hid (show nest + 1≤300 by omega)
 have C3:=hid (kO P g cap ts (nest + 1) (.ok l) ⟨#[105,102]⟩ W2 P2)
 clear hk E hp HX
 go_wp2_with fail
 (with_reducible refine Calls.mono C3.out ?_)
 rintro e W3 ⟨b,rfl,hb,hbt⟩
 have HT1:=hid (show b=isT tIf l from hbt l rfl)
 have S3:=hid (b8 (r:=some P) hb)
 have P3:=hid (P2.out.below hb)
 clear hbt hb p0 p1 p2 p3 p4 hpl C3
 cases b
 case false =>
  have R:=hid (show X=rd (.chain 0) (nest + 1) l from HX1.out.trans (if_neg (by rw [← HT1.out]; decide)))
  have C4:=hid (HC.out (nest + 1) W3 hn1 P3)
  rw [← R.out] at C4
  go_wp2_with fail
  (with_reducible refine Calls.mono C4.out ?_)
  rintro e w5 ⟨t,a,cp,rfl,hs5,hg5,hk5⟩
  have G5:=hid (b6 (b6 (b6 S1 S2) S3) hg5)
  have J1:=hid (b6 (b6 S2 S3) hg5)
  have F1:=hid ((B1.out.grown J1 HP.out.1.1).oput (c:=w.heap.size + 1) (by omega) t a cp)
  have A5:=hid (A1.out.grown J1 HP.out.2.1)
  have F2:=hid (A5.out.put t a cp)
  have HS6:=hid (hs5.put HP.out.2.1 HP.out.2.2 t a cp)
  have G6:=hid (r7 G5 (show w.heap.size≤w.heap.size + 1 by omega) t a cp)
  have HK5:=hid hk5
  have hsz3:=hid (show W1.heap.size≤W3.heap.size from (b6 S2 S3).size)
  obtain ⟨⟨z0,z1,z2,z3,z4⟩,⟨f0,f1,f2,f3,f4⟩⟩:=A5.out.cells
  have hsz5 : w.heap.size + 1<w5.heap.size:=A5.out.lt
  clear hs5 hg5 hk5 C4
  unfold Nd.val
  obtain ⟨W6,hW6⟩ : ∃ W,W=V6 w5 (w.heap.size + 1) t a cp:=⟨_,rfl⟩
  rw [← hW6] at F1 F2 HS6 G6
  go_upto_region 8 with fail
  have hW6':=hW6
  unfold V6 at hW6'
  rw [← hW6']
  clear hW6' z0 z1 z2 z3 z4 f0 f1 f2 f3 f4
  have HW6:=hid hW6
  clear hW6
  obtain ⟨m,hm1,hm2,p2,q2,hs7⟩:=HS6.out.nest
  obtain ⟨W7,hW7⟩ : ∃ W,W=W6.setCell ⟨P,2,none⟩ (.int .i64 (m - 1)):=⟨_,rfl⟩
  have J1:=hid (show f6 w.heap.size nd0 none 0 W7 from hW7 ▸ F1.out.set HP.out.1.1 _ _)
  have J2:=hid (show f6 (w.heap.size + 1) t a cp W7 from hW7 ▸ F2.out.set HP.out.2.1 _ _)
  have HS7:=hid (show SP P g cap ts nest _ W7 from hW7 ▸ hs7)
  have G7:=hid (show w.grownBy W7 (some P) from hW7 ▸ b6 G6 (e9 _ _ _ _))
  have hpl:=HS6.out.blocks.1
  clear hs7
  go_upto_region 9 with fail
  rw [← hW7]
  have HW7:=hid hW7
  clear hW7 p2 q2 hpl
  obtain ⟨⟨z0,z1,z2,z3,z4⟩,⟨f0,f1,f2,f3,f4⟩⟩:=J1.out.cells
  obtain ⟨⟨n0,n1,n2,n3,n4⟩,-⟩:=J2.out.cells
  have hsz : w.heap.size<W7.heap.size∧w.heap.size + 1<W7.heap.size:=⟨J1.out.lt,J2.out.lt⟩
  go_wp2_with fail
  refine bodyPost_ret (v:=t.val a cp) (by simp [results,Tryz.results69,go_sem,Nd.val,z0,z1,z2,z3,z4]) rfl ?_
  refine RdP.fin HS7 G7 HP.out.1 (Nat.le_refl _) fun t' r' hx => ?_
  obtain ⟨e,hl,hd⟩:=HK5.out t' r' hx
  have hA:=A1.out.lt
  have hb0:=P3.out.blocks.1
  have hsz7 : w5.heap.size=W7.heap.size:=by rw [HW7.out,HW6.out]; simp [World.setCell,L8]
  have h3:=hsz3.out
  have k1 : j0 (Fr W3.heap.size w5.heap.size) w5 W7:=by
   rw [HW7.out,HW6.out]
   exact ((j0.refl _ w5).put (fun b hb e => by subst e; have:=hb.1; omega) _ _ _).set (fun b hb e => by subst e; have:=hb.1; omega) _ _
  exact ⟨e,⟨_,fun c hc => ⟨fun e => by subst e; have:=hc.1; omega,by have:=hc.1; omega,by have:=hc.2; omega⟩,d5 hl k1 fun b hb => hb⟩,hd⟩
 have HT2:=hid (n5 HT1.out.symm)
 have HR:=hid (show X=(rd .expr (nest + 1) (b9 l)).then fun a r => d9 fJ r fun r => (rd .expr (nest + 1) r).then fun b r => d9 eJ r fun r => (rd .expr (nest + 1) r).then fun c r => made (mkN 14 [] 0 [a,b,c] (hd l).pos) r from HX1.out.trans (if_pos HT1.out.symm))
 have C4:=hid (cP P g cap ts (nest + 1) (.ok l) W3 P3 he)
 go_wp2_with fail
 (with_reducible refine Calls.mono C4.out ?_)
 rintro e W4 ⟨T,rfl,hs,hg,hT⟩
 have S4:=hid hg
 have P4:=hid hs
 clear hs hg C4
 have HT:=hid (hT l rfl)
 clear hT
 have HT0:=hid (show z8 T from HT.out ▸ HTK.out _ P3.out.mem)
 obtain ⟨W5,hW5⟩ : ∃ W,W=W4.alloc (.cells #[.int .i64 T.kind,.string ⟨T.text.toArray⟩,.int .i64 T.n,.int .i64 T.pos] 67):=⟨_,rfl⟩
 have B5:=hid (show Y0 W4.heap.size T W5 from hW5 ▸ Y0.make W4 T)
 have E5:=hid (show Below W4.heap.size W4 W5 from hW5 ▸ c6 _ _)
 have S5:=hid (b8 (r:=some P) E5)
 have P5:=hid (P4.out.below E5)
 have C6:=hid (HEx.out (b9 l) (by have:=HT2.out; omega) (nest + 1) W5 hn1 P5)
 unfold tkV
 go_wp2_with fail
 rw [← hW5]
 clear hW5
 (with_reducible refine Calls.mono C6.out ?_)
 rintro e W6 ⟨k0,a0,c0,rfl,hs,hg,hk⟩
 have S6:=hid hg
 have P6:=hid hs
 clear hs hg C6
 have HK0:=hid hk
 obtain ⟨x0,hx0⟩ : ∃ x,x=rd .expr (nest + 1) (b9 l):=⟨_,rfl⟩
 rw [← hx0] at P6 HK0 HR
 have L0:=hid (show ∀ t r,x0=.ok (t,r)→r.length<l.length from fun t r h => by rw [hx0] at h; have:=aZ _ _ _ h; have:=HT2.out; omega)
 clear hk hx0
 obtain ⟨W7,hW7⟩ : ∃ W,W=W6.alloc (.cells #[.int .i64 k0.kind,.string k0.text,.int .i64 k0.n,.slice a0 k0.kids.length c0,.int .i64 k0.place] 24):=⟨_,rfl⟩
 have B7:=hid (show f6 W6.heap.size k0 a0 c0 W7 from hW7 ▸ f6.make W6 k0 a0 c0)
 have E7:=hid (show Below W6.heap.size W6 W7 from hW7 ▸ c6 _ _)
 have S7:=hid (b8 (r:=some P) E7)
 have P7:=hid (P6.out.below E7)
 have C8:=hid (R9 P g cap ts (nest + 1) (p5 x0) ⟨#[116,104,101,110]⟩ W7 hn1 P7 he)
 unfold Nd.val
 go_wp2_with fail
 rw [← hW7]
 clear hW7
 (with_reducible refine Calls.mono C8.out ?_)
 rintro e W8 ⟨rfl,hs,hg⟩
 have S8:=hid hg
 have P8:=hid hs
 clear hs hg C8
 obtain ⟨τ0,hτ0⟩ : ∃ σ,σ=bP fJ (p5 x0):=⟨_,rfl⟩
 replace P8:=hid (show SP P g cap ts (nest + 1) τ0 W8 from hτ0 ▸ P8.out)
 have R0:=hid hτ0
 clear hτ0
 have M1:=hid (show ∀ r,τ0=.ok r→r.length<l.length from fun r hr => by have h1:=hr; rw [R0.out] at h1; obtain ⟨r1,e1,-,rfl⟩:=V7 h1; obtain ⟨t,e2⟩:=D8 e1; have:=L0.out t r1 e2; have:=Y7 r1; omega)
 have C9:=hid (eX P g cap ts (nest + 1) τ0 W8 hn1 P8 fun r hr => HEx.out r (M1.out r hr))
 go_wp2_with fail
 (with_reducible refine Calls.mono C9.out ?_)
 rintro e W9 ⟨k1,a1,c1,rfl,hs,hg,hk⟩
 have S9:=hid hg
 have P9:=hid hs
 clear hs hg C9
 obtain ⟨x1,hx1⟩ : ∃ x,x=goX τ0 (rd .expr (nest + 1)):=⟨_,rfl⟩
 rw [← hx1] at P9 hk
 have HK1:=hid hk
 have X1:=hid hx1
 have L1:=hid (show ∀ t r,x1=.ok (t,r)→r.length<l.length from fun t r h => by rw [hx1] at h; obtain ⟨r0,e,hl⟩:=pC h; have:=M1.out r0 e; omega)
 clear hk hx1
 obtain ⟨W10,hW10⟩ : ∃ W,W=W9.alloc (.cells #[.int .i64 k1.kind,.string k1.text,.int .i64 k1.n,.slice a1 k1.kids.length c1,.int .i64 k1.place] 24):=⟨_,rfl⟩
 have B10:=hid (show f6 W9.heap.size k1 a1 c1 W10 from hW10 ▸ f6.make W9 k1 a1 c1)
 have E10:=hid (show Below W9.heap.size W9 W10 from hW10 ▸ c6 _ _)
 have S10:=hid (b8 (r:=some P) E10)
 have P10:=hid (P9.out.below E10)
 have C11:=hid (R9 P g cap ts (nest + 1) (p5 x1) ⟨#[101,108,115,101]⟩ W10 hn1 P10 he)
 unfold Nd.val
 go_wp2_with fail
 rw [← hW10]
 clear hW10
 (with_reducible refine Calls.mono C11.out ?_)
 rintro e W11 ⟨rfl,hs,hg⟩
 have S11:=hid hg
 have P11:=hid hs
 clear hs hg C11
 obtain ⟨τ1,hτ1⟩ : ∃ σ,σ=bP eJ (p5 x1):=⟨_,rfl⟩
 replace P11:=hid (show SP P g cap ts (nest + 1) τ1 W11 from hτ1 ▸ P11.out)
 have R1:=hid hτ1
 clear hτ1
 have M2:=hid (show ∀ r,τ1=.ok r→r.length<l.length from fun r hr => by have h1:=hr; rw [R1.out] at h1; obtain ⟨r1,e1,-,rfl⟩:=V7 h1; obtain ⟨t,e2⟩:=D8 e1; have:=L1.out t r1 e2; have:=Y7 r1; omega)
 have C12:=hid (eX P g cap ts (nest + 1) τ1 W11 hn1 P11 fun r hr => HEx.out r (M2.out r hr))
 go_wp2_with fail
 (with_reducible refine Calls.mono C12.out ?_)
 rintro e W12 ⟨k2,a2,c2,rfl,hs,hg,hk⟩
 have S12:=hid hg
 have P12:=hid hs
 clear hs hg C12
 obtain ⟨x2,hx2⟩ : ∃ x,x=goX τ1 (rd .expr (nest + 1)):=⟨_,rfl⟩
 rw [← hx2] at P12 hk
 have HK2:=hid hk
 have X2:=hid hx2
 have L2:=hid (show ∀ t r,x2=.ok (t,r)→r.length<l.length from fun t r h => by rw [hx2] at h; obtain ⟨r0,e,hl⟩:=pC h; have:=M2.out r0 e; omega)
 clear hk hx2
 obtain ⟨W13,hW13⟩ : ∃ W,W=W12.alloc (.cells #[.int .i64 k2.kind,.string k2.text,.int .i64 k2.n,.slice a2 k2.kids.length c2,.int .i64 k2.place] 24):=⟨_,rfl⟩
 have B13:=hid (show f6 W12.heap.size k2 a2 c2 W13 from hW13 ▸ f6.make W12 k2 a2 c2)
 have E13:=hid (show Below W12.heap.size W12 W13 from hW13 ▸ c6 _ _)
 have S13:=hid (b8 (r:=some P) E13)
 have P13:=hid (P12.out.below E13)
 unfold Nd.val
 go_upto_region 16 with fail
 rw [← hW13]
 clear hW13
 obtain ⟨m,hm1,hm2,p2,q2,hs⟩:=P13.out.nest
 have hpl:=P13.out.blocks.1
 obtain ⟨W14,hW14⟩ : ∃ W,W=W13.setCell ⟨P,2,none⟩ (.int .i64 (m - 1)):=⟨_,rfl⟩
 have S14:=hid (show W13.grownBy W14 (some P) from hW14 ▸ e9 _ _ _ _)
 have P14:=hid (show SP P g cap ts nest (p5 x2) W14 from hW14 ▸ hs)
 go_upto_region 17 with fail
 rw [← hW14]
 clear hW14 hs p2 q2 hpl hm1 hm2
 obtain ⟨⟨t0,t1,t2,t3⟩,-⟩:=(B5.out.grown (b6 (b6 (b6 (b6 (b6 (b6 (b6 (b6 S6 S7) S8) S9) S10) S11) S12) S13) S14) (Nat.ne_of_gt P4.out.blocks.1)).cells
 obtain ⟨⟨n00,n01,n02,n03,n04⟩,-⟩:=(B7.out.grown (b6 (b6 (b6 (b6 (b6 (b6 S8 S9) S10) S11) S12) S13) S14) (Nat.ne_of_gt P6.out.blocks.1)).cells
 obtain ⟨⟨n10,n11,n12,n13,n14⟩,-⟩:=(B10.out.grown (b6 (b6 (b6 S11 S12) S13) S14) (Nat.ne_of_gt P9.out.blocks.1)).cells
 obtain ⟨⟨n20,n21,n22,n23,n24⟩,-⟩:=(B13.out.grown S14 (Nat.ne_of_gt P12.out.blocks.1)).cells
 obtain ⟨W15,hW15⟩ : ∃ W,W=W14.alloc (.cells #[.int .i64 k0.kind,.string k0.text,.int .i64 k0.n,.slice a0 k0.kids.length c0,.int .i64 k0.place,.int .i64 k1.kind,.string k1.text,.int .i64 k1.n,.slice a1 k1.kids.length c1,.int .i64 k1.place,.int .i64 k2.kind,.string k2.text,.int .i64 k2.n,.slice a2 k2.kids.length c2,.int .i64 k2.place] 24):=⟨_,rfl⟩
 have E15:=hid (show Below W14.heap.size W14 W15 from hW15 ▸ c6 _ _)
 have S15:=hid (b8 (r:=some P) E15)
 have P15:=hid (P14.out.below E15)
 have B15:=hid (show W15.heap[W14.heap.size]?=some (.cells #[.int .i64 k0.kind,.string k0.text,.int .i64 k0.n,.slice a0 k0.kids.length c0,.int .i64 k0.place,.int .i64 k1.kind,.string k1.text,.int .i64 k1.n,.slice a1 k1.kids.length c1,.int .i64 k1.place,.int .i64 k2.kind,.string k2.text,.int .i64 k2.n,.slice a2 k2.kids.length c2,.int .i64 k2.place] 24 (0,0)) from by rw [hW15]; exact jL _ rfl)
 have hlt:=hid (show W14.heap.size<W15.heap.size from by rw [hW15]; simp)
 have HD:=hid (show ∀ r,(p5 x2)=.ok r→c8 (mkN 14 [] 0 [k0,k1,k2] T.pos)≤101∧(mkN 14 [] 0 [k0,k1,k2] T.pos).lies (Fr W1.heap.size W15.heap.size) W15 (some ⟨W14.heap.size,0,none⟩) 3 from fun r hr => by
  obtain ⟨v3,y3⟩:=D8 hr; obtain ⟨-,hl2,hd2⟩:=HK2.out v3 r y3
  rw [X2.out] at y3; obtain ⟨r2,e2,-⟩:=gQ y3; rw [R1.out] at e2; obtain ⟨s2,f2,-,-⟩:=V7 e2; obtain ⟨v2,y2⟩:=D8 f2; obtain ⟨-,hl1,hd1⟩:=HK1.out v2 s2 y2
  rw [X1.out] at y2; obtain ⟨r1,e1,-⟩:=gQ y2; rw [R0.out] at e1; obtain ⟨s1,f1,-,-⟩:=V7 e1; obtain ⟨v1,y1⟩:=D8 f1; obtain ⟨-,hl0,hd0⟩:=HK0.out v1 s1 y1
  have hP1 : P<W1.heap.size:=P1.out.blocks.1
  have q0 : W1.heap.size≤W5.heap.size:=(b6 (b6 (b6 S2 S3) S4) S5).size
  have q1 : W1.heap.size≤W8.heap.size:=(b6 (b6 (b6 (b6 (b6 (b6 S2 S3) S4) S5) S6) S7) S8).size
  have q2 : W1.heap.size≤W11.heap.size:=(b6 (b6 (b6 (b6 (b6 (b6 (b6 (b6 (b6 S2 S3) S4) S5) S6) S7) S8) S9) S10) S11).size
  refine ⟨by rw [rM]; omega,sZ rfl (by decide) HT0.out.2.1 ⟨(b6 (b6 (b6 (b6 (b6 (b6 (b6 (b6 (b6 (b6 (b6 (b6 S2 S3) S4) S5) S6) S7) S8) S9) S10) S11) S12) S13) S14).size,hlt⟩ B15 (d5 hl0 ((j0.refl _ _).grown (b6 (b6 (b6 (b6 (b6 (b6 (b6 (b6 S7 S8) S9) S10) S11) S12) S13) S14) S15) fun b hb => ⟨hb.2,fun e => by subst e; have:=hb.1; omega⟩) fun b hb => ⟨Nat.le_trans q0 hb.1,Nat.lt_of_lt_of_le hb.2 (b6 (b6 (b6 (b6 (b6 (b6 (b6 (b6 S7 S8) S9) S10) S11) S12) S13) S14) S15).size⟩) (d5 hl1 ((j0.refl _ _).grown (b6 (b6 (b6 (b6 (b6 S10 S11) S12) S13) S14) S15) fun b hb => ⟨hb.2,fun e => by subst e; have:=hb.1; omega⟩) fun b hb => ⟨Nat.le_trans q1 hb.1,Nat.lt_of_lt_of_le hb.2 (b6 (b6 (b6 (b6 (b6 S10 S11) S12) S13) S14) S15).size⟩) (d5 hl2 ((j0.refl _ _).grown (b6 (b6 S13 S14) S15) fun b hb => ⟨hb.2,fun e => by subst e; have:=hb.1; omega⟩) fun b hb => ⟨Nat.le_trans q2 hb.1,Nat.lt_of_lt_of_le hb.2 (b6 (b6 S13 S14) S15).size⟩)⟩)
 have CM:=hid (eG P g cap ts nest (p5 x2) 14 [] 0 [k0,k1,k2] T.pos (some ⟨W14.heap.size,0,none⟩) 3 3 rfl W15 hn P15 fun r hr => ⟨(HD.out r hr).1,_,fun b hb => hb.2,(HD.out r hr).2⟩)
 obtain ⟨⟨u0,u1,u2,u3⟩,-⟩:=(B5.out.grown (b6 (b6 (b6 (b6 (b6 (b6 (b6 (b6 (b6 S6 S7) S8) S9) S10) S11) S12) S13) S14) S15) (Nat.ne_of_gt P4.out.blocks.1)).cells
 subst hW15
 go_wp2_with fail
 (with_reducible refine Calls.mono CM.out ?_)
 rintro e W16 ⟨rfl,hs,hg⟩
 have S16:=hid hg
 have P16:=hid hs
 clear hs hg CM t0 t1 t2 t3 u0 u1 u2 u3 n00 n01 n02 n03 n04 n10 n11 n12 n13 n14 n20 n21 n22 n23 n24
 have BR:=hid (B1.out.grown (b6 (b6 (b6 (b6 (b6 (b6 (b6 (b6 (b6 (b6 (b6 (b6 (b6 (b6 S2 S3) S4) S5) S6) S7) S8) S9) S10) S11) S12) S13) S14) S15) S16) HP.out.1.1)
 obtain ⟨⟨z0,z1,z2,z3,z4⟩,⟨f0,f1,f2,f3,f4⟩⟩:=BR.out.cells
 have hsz : w.heap.size<W16.heap.size:=BR.out.lt
 rw [show (mkN 14 [] 0 [k0,k1,k2] T.pos).val (some ⟨W14.heap.size,0,none⟩) 3=.agg #[.int .i64 14,.string ⟨List.toArray []⟩,.int .i64 0,.slice (some ⟨W14.heap.size,0,none⟩) 3 3,.int .i64 T.pos] from rfl]
 go_wp2_with fail
 refine bodyPost_ret (v:=(mkN 14 [] 0 [k0,k1,k2] T.pos).val (some ⟨W14.heap.size,0,none⟩) 3) (by simp [results,Tryz.results69,go_sem,Nd.val,mkN,Nd.kind,Nd.text,Nd.n,Nd.kids,Nd.place,z0,z1,z2,z3,z4]) rfl ?_
 have hX : X=goX (p5 x2) (made (mkN 14 [] 0 [k0,k1,k2] T.pos)):=by
  rw [HR.out,HT.out]
  rw [aP (t:=k0) (fun t' r h => (HK0.out t' r h).1),eE,← R0.out,iM,← X1.out,aP (t:=k1) (fun t' r h => (HK1.out t' r h).1),eE,← R1.out,iM,← X2.out,aP (t:=k2) (fun t' r h => (HK2.out t' r h).1)]
 have hO : p5 X=gV (mkN 14 [] 0 [k0,k1,k2] T.pos) (p5 x2):=by rw [hX,fD]
 refine RdP.fin (by rw [hO]; exact P16) (b6 (b6 (b6 (b6 (b6 (b6 (b6 (b6 (b6 (b6 (b6 (b6 (b6 (b6 (b6 S1 S2) S3) S4) S5) S6) S7) S8) S9) S10) S11) S12) S13) S14) S15) S16) HP.out.1 (Nat.le_refl _) fun t' r' hx => ?_
 rw [hX] at hx
 obtain ⟨e1,e2,e3⟩:=fS _ _ hx
 have hP1 : P<W1.heap.size:=P1.out.blocks.1
 have hw1 : w.heap.size<W1.heap.size:=B1.out.lt
 refine ⟨e1,⟨_,fun c hc => ⟨fun e => by subst e; have:=hc.1; omega,by have:=hc.1; omega,Nat.lt_of_lt_of_le hc.2 S16.out.size⟩,d5 (HD.out r' e2).2 ((j0.refl _ _).grown S16 fun b hb => ⟨hb.2,fun e => by subst e; have:=hb.1; omega⟩) fun b hb => hb⟩,e3⟩
end
section
open Go.RowKit
abbrev Ent:=Nd × Option Addr × Nat
def ndC (e : Ent) : List Value:=[.int .i64 e.1.kind,.string e.1.text,.int .i64 e.1.n,.slice e.2.1 e.1.kids.length e.2.2,.int .i64 e.1.place]
def Y1 (L : List Ent) : List Value:=L.flatMap ndC
theorem oI (L : List Ent) (e : Ent) : Y1 (L ++ [e])=Y1 L ++ ndC e:=by unfold Y1; simp
theorem a1q : ∀ (L : List Ent) (j : Nat) (hj : j<L.length) (i : Nat) (_ : i<5),(Y1 L)[j * 5 + i]?=(ndC L[j])[i]?
 | e :: L,0,_,i,hi => by
   unfold Y1
   rw [List.flatMap_cons,Nat.zero_mul,Nat.zero_add,List.getElem?_append_left (by exact hi)]
   rfl
 | e :: L,j + 1,hj,i,hi => by
   have:=a1q L j (by simpa using hj) i hi
   unfold Y1 at this ⊢
   rw [List.flatMap_cons,List.getElem?_append_right (by show 5≤_; omega)]
   rw [show (j + 1) * 5 + i - (ndC e).length=j * 5 + i by show (j + 1) * 5 + i - 5=_; omega]
   exact this
theorem oF (e : Ent) : ∀ u∈ndC e,u.oneCell'=true:=by
 intro u hu
 unfold ndC at hu
 simp only [List.mem_cons,List.not_mem_nil,or_false] at hu
 rcases hu with rfl | rfl | rfl | rfl | rfl <;> rfl
theorem aW (W : World) (T : TypeId) (v0 v1 v2 v3 v4 : Value) : ∀ j u,[v0,v1,v2,v3,v4][j]?=some u→(W.alloc (.cells #[v0,v1,v2,v3,v4] T)).cell? ((⟨W.heap.size,0,none⟩ : Addr).add j)=some u:=by
 intro j u h
 rw [Go.WideShapes.add_plain,Nat.zero_add]
 have h' : (W.alloc (.cells #[v0,v1,v2,v3,v4] T)).heap[W.heap.size]?=some (.cells #[v0,v1,v2,v3,v4] T (0,0)):=by show (W.heap.push _)[W.heap.size]?=_; simp
 rw [World.cell?]
 simp only [h']
 match j,h with
 | 0,h => exact h
 | 1,h => exact h
 | 2,h => exact h
 | 3,h => exact h
 | 4,h => exact h
theorem vM {av : Nat→Prop} {base T : Nat} {W : World} {g cap : Nat} {L : List Ent} (h : W.ownsRow base T 5 (.slice (some ⟨g,0,none⟩) L.length cap) L.length (Y1 L)) (hg : av g) (hl : ∀ e∈L,e.1.lies av W e.2.1 e.2.2) : Nd.lie av W (L.map (·.1)) (some ⟨g,0,none⟩) 0:=by
 have hc:=h.cells (g:=g) rfl
 refine Nd.lie.of _ 0 fun j hj => ?_
 rw [List.length_map] at hj
 have q : ∀ i,i<5→∀ u,(ndC L[j])[i]?=some u→W.cell? ⟨g,0 + (0 + j) * 5 + i,none⟩=some u:=fun i hi u hu => by
  have:=hc (j * 5 + i) u (by rw [a1q L j hj i hi]; exact hu)
  rw [Go.WideShapes.add_plain] at this
  rw [Nat.zero_add j,Nat.add_assoc]
  exact this
 refine ⟨g,0,L[j].2.1,L[j].2.2,?_⟩
 rw [List.getElem_map]
 exact ⟨rfl,hg,q 0 (by decide) _ rfl,q 1 (by decide) _ rfl,q 2 (by decide) _ rfl,q 3 (by decide) _ rfl,q 4 (by decide) _ rfl,hl _ (List.getElem_mem hj)⟩
theorem lH : ∀ (ks : List Nd) (n : Nat),(∀ k∈ks,c8 k≤n)→i8 ks≤n
 | [],n,_ => by rw [i8]; exact Nat.zero_le _
 | k :: ks,n,h => by
   rw [i8]
   have h1:=h k (List.mem_cons_self ..)
   have h2:=lH ks n fun k hk => h k (List.mem_cons_of_mem _ hk)
   omega
theorem a28 {w A B : World} {P : Nat} {r : Option Nat} (h : w.grownBy A (some P)) (k : A.grownBy B r) (hr : ∀ c,r=some c→w.heap.size≤c) : w.grownBy B (some P) :=
 ⟨k.os.trans h.os,k.tape.trans h.tape,k.output.trans h.output,Nat.le_trans h.size k.size,fun i hi hne => (k.block i (Nat.lt_of_lt_of_le hi h.size) (fun e => by have:=hr i e.symm; omega)).trans (h.block i hi hne)⟩
theorem SP.row {P g cap : Nat} {ts : List Tk} {n : Nat} {σ : Sx} {A B : World} {r : Option Nat} (h : SP P g cap ts n σ A) (k : A.grownBy B r) (hr : ∀ c,r=some c→c≠P∧c≠g) : SP P g cap ts n σ B :=
 h.keeps (fun b hb => by
  have hl:=h.blocks
  rcases hb with rfl | rfl
  ·exact k.block _ hl.1 (fun e => (hr _ e.symm).1 rfl)
  ·exact k.block _ hl.2 (fun e => (hr _ e.symm).2 rfl)) k.size
def a7H (P g cap : Nat) (ts : List Tk) (nest : Nat) (X : Rd) (w : World) (e : Ending) (w' : World) : Prop :=
 ∃ (ks : List Nd) (v : Option Addr) (cp : Nat),e=.returned (.slice v ks.length cp)∧SP P g cap ts nest (p5 X) w'∧w.grownBy w' (some P) ∧
  ∀ t' r,X=.ok (t',r)→t'.kids=ks∧(ks.length≤8∧ks.length≤cp∧cp≤maxLen)∧i8 ks≤100∧Nd.lie (Fr w.heap.size w'.heap.size) w' ks v 0
def a7A (P g cap : Nat) (ts : List Tk) (nest : Nat) (l : List Tk) (X : Rd) (w wr : World) (ao : Option Addr) (cp : Nat) (L : List Ent) (σ : Sx) : Prop :=
 L.length≤8∧wr.ownsRow w.heap.size 24 5 (.slice ao L.length cp) L.length (Y1 L)∧SP P g cap ts nest σ wr∧w.grownBy wr (some P)∧X=goX σ (rd (.args (L.map (·.1))) nest) ∧
  ∀ r,σ=.ok r→(∀ e∈L,e.1.lies (fun c => w.heap.size≤c∧c<wr.heap.size∧(Value.slice ao L.length cp).ownBlock≠some c) wr e.2.1 e.2.2∧c8 e.1≤100)∧r.length<l.length
theorem a1P (acc : List Nd) (nest : Nat) (r : List Tk) : rd (.args acc) nest r=if acc.length=8 then .error (76,(hd r).pos) else (rd .expr nest r).then fun t r => if isT l0 r=true then rd (.args (acc ++ [t])) nest (b9 r) else d9 m5 r fun r => .ok (mkN 0 [] 0 (acc ++ [t]) 0,r):=t7 (.args acc) nest r
theorem a22 {x : Rd} {t : Nd} {acc : List Nd} {nest : Nat} (hx : Is x t) (h : ∀ r,p5 x=.ok r→true=isT l0 r) : (x.then fun t r => if isT l0 r=true then rd (.args (acc ++ [t])) nest (b9 r) else d9 m5 r fun r => .ok (mkN 0 [] 0 (acc ++ [t]) 0,r))=goX (a42 (p5 x)) (rd (.args (acc ++ [t])) nest):=by
 rw [aP hx]
 cases x with
 | error e => rfl
 | ok p => obtain ⟨t',r⟩:=p; show (if isT l0 r=true then _ else _)=_; rw [if_pos (h r rfl).symm]; rfl
theorem a5t {x : Rd} {t : Nd} {acc : List Nd} {nest : Nat} (hx : Is x t) (h : ∀ r,p5 x=.ok r→false=isT l0 r) : (x.then fun t r => if isT l0 r=true then rd (.args (acc ++ [t])) nest (b9 r) else d9 m5 r fun r => .ok (mkN 0 [] 0 (acc ++ [t]) 0,r))=goX (bP m5 (p5 x)) fun r => .ok (mkN 0 [] 0 (acc ++ [t]) 0,r):=by
 rw [aP hx,← eE]
 cases x with
 | error e => rfl
 | ok p => obtain ⟨t',r⟩:=p; show (if isT l0 r=true then _ else _)=_; rw [if_neg (by rw [← h r rfl]; decide)]; rfl
end
end Go.Proofs.YtibiccacafjjfaaGreatDoor
