/-
  Laws that the proof rests on.
-/
import Derived.Test.YtibiccacafjjfaaGreatDoorB25
namespace Go.Proofs.YtibiccacafjjfaaGreatDoor
set_option maxRecDepth 100000
set_option maxHeartbeats 16000000
section
open Lib (hid)
open Go.RowKit
theorem oH (k n p : Int) (s : ByteArray) (w : World) : (Instr.field 79 (.agg #[.int .i64 k,.string s,.int .i64 n,.int .i64 p]) 1).run Tryz.prog w=.ok (.string s) w:=by kernel_rfl
theorem a0w (P g cap : Nat) (ts : List Tk) (he : y7 ts) (htk : ∀ t∈ts,z8 t) (nest : Nat) (l : List Tk) (w : World) (h : SQ P g cap ts nest l w) (hN : (hd l).kind≠6∧(hd l).kind≠5∧(hd l).kind≠4∧(hd l).kind≠1∧(hd l).kind≠3) (hT : isT bJ l=false) (hF : isT U4 l=false) (hD : isT bX l=true) : Calls Tryz.prog 210 #[.pointer (some ⟨P,0,none⟩)] w (QP P g cap ts nest (F0 7 (b9 l) fun s r => .ok (mkN 9 s.text 0 [] (hd l).pos,r)) w):=by
 have HT0:=hid (htk _ h.mem)
 have HB:=hid h.blocks
 have HE:=hid he
 obtain ⟨a,hl,hp⟩:=h
 have h : SQ P g cap ts nest l w:=⟨a,hl,hp⟩
 have hpos:=hp.pos
 have hPlt:=hp.plt
 have hg0:=hp.lt
 have D:=hid (show hd l=ts[a]'hpos by rw [hl,O0 hpos])
 obtain ⟨⟨p0,p1⟩,-⟩:=hp.cells
 obtain ⟨t0,t1,t2,t3⟩:=hp.tok
 have hL : 0<ts.length - a:=by omega
 generalize ts[a]'hpos=T at t0 t1 t2 t3 D
 generalize ts.length - a=Ln at p0 hL
 generalize cap - a=C at p0
 generalize a * 4=off at p0 t0 t1 t2 t3
 rw [D.out] at HT0
 obtain ⟨W3,hW3⟩ : ∃ W,W=((w.alloc (.cells #[.pointer (some ⟨P,0,none⟩)] 48)).alloc (.cells #[.int .i64 0,.string ⟨#[]⟩,.int .i64 0,.slice none 0 0,.int .i64 0,.int .i64 0] 50)).alloc (.cells #[.int .i64 T.kind,.string ⟨T.text.toArray⟩,.int .i64 T.n,.int .i64 T.pos] 79):=⟨_,rfl⟩
 have B3:=hid (show Below w.heap.size w W3 from hW3 ▸ (A6 w _ _).alloc (A6 w _ _).size _)
 have hz3:=hid (show W3.heap.size=w.heap.size + 3 by rw [hW3]; simp)
 have hpc:=hid (show W3.cell? ⟨w.heap.size,0,none⟩=some (.pointer (some ⟨P,0,none⟩)) by
  rw [hW3]
  exact ((A6 (w.alloc (.cells #[.pointer (some ⟨P,0,none⟩)] 48)) _ _).cell (p:=⟨w.heap.size,0,none⟩) (by simp)).trans (by simp))
 have Z3:=hid (show T6 (w.heap.size + 1) 0 ⟨#[]⟩ 0 none 0 0 0 0 W3 from hW3 ▸ by
  have:=T6.make (w.alloc (.cells #[.pointer (some ⟨P,0,none⟩)] 48)) 0 ⟨#[]⟩ 0 none 0 0 0 0
  rw [World.size_alloc] at this
  exact this.below (c6 _ _))
 have Q3:=hid (show QT (w.heap.size + 1 + 1) T W3 from hW3 ▸ by
  have:=QT.make ((w.alloc (.cells #[.pointer (some ⟨P,0,none⟩)] 48)).alloc (.cells #[.int .i64 0,.string ⟨#[]⟩,.int .i64 0,.slice none 0 0,.int .i64 0,.int .i64 0] 50)) T
  rw [World.size_alloc,World.size_alloc] at this
  exact this)
 have S3:=hid (h.below B3)
 have G3:=hid (show w.grownBy W3 (some P) from b8 B3)
 have HC:=hid (show ∀ W : World,W3.grownBy W (some P)→W.cell? ⟨w.heap.size,0,none⟩=some (.pointer (some ⟨P,0,none⟩))∧T6 (w.heap.size + 1) 0 ⟨#[]⟩ 0 none 0 0 0 0 W∧QT (w.heap.size + 1 + 1) T W from fun W hg =>
  ⟨(World.cell?_of_block (hg.block w.heap.size (by have:=hz3.out; omega) (fun e => by have:=Option.some.inj e; omega))).trans hpc,Z3.out.grown hg (fun e => by have:=Option.some.inj e; omega),Q3.out.grown hg (fun e => by have:=Option.some.inj e; omega)⟩)
 have eg : m7 218:=enters_of Tryz.func218 (by kernel_rfl) rfl
 unfold m7 at eg
 rw [D.out] at hN
 have e6 : (T.kind == 6)=false:=beq_eq_false_iff_ne.2 (by omega)
 have e5 : (T.kind == 5)=false:=beq_eq_false_iff_ne.2 (by omega)
 have e4 : (T.kind == 4)=false:=beq_eq_false_iff_ne.2 (by omega)
 have e1 : (T.kind == 1)=false:=beq_eq_false_iff_ne.2 (by omega)
 have e3 : (T.kind == 3)=false:=beq_eq_false_iff_ne.2 (by omega)
 clear hN
 obtain ⟨X,hX⟩ : ∃ X,X=(F0 7 (b9 l) fun s r => .ok (mkN 9 s.text 0 [] (hd l).pos,r) : Rd):=⟨_,rfl⟩
 rw [← hX]
 rw [D.out] at hX
 have HTK:=hid htk
 rw [show (F0 7 (b9 l) fun s r => .ok (mkN 9 s.text 0 [] T.pos,r) : Rd)=goX (X4 7 (.ok (b9 l))) (fun r => .ok (mkN 9 (hd (b9 l)).text 0 [] T.pos,r)) from eO (.ok (b9 l)) 7 (fun s r => .ok (mkN 9 s.text 0 [] T.pos,r)) (hd (b9 l)) (fun r h => by cases h; rfl)] at hX
 clear hp h he htk hl hpos
 go_enter Tryz.func210,Tryz.ntmps210
 go_upto_region 2 with fail
 rw [← hW3]
 clear hW3 t0 t1 t2 t3 p0 p1 hL
 obtain ⟨⟨t0,t1,t2,t3⟩,-⟩:=Q3.out.cells
 have htl:=Q3.out.lt
 have hp3:=hpc.out
 have C4:=hid (show Calls Tryz.prog 50 #[.pointer (some ⟨P,0,none⟩),.string ⟨#[116,114,117,101]⟩] W3 (fun e w' => e=.returned (.bool false)∧Below W3.heap.size W3 w') by
  have:=aO P g cap ts nest l ⟨#[116,114,117,101]⟩ W3 S3
  rwa [show isT (⟨#[116,114,117,101]⟩ : ByteArray).data.toList l=false from hT] at this)
 go_wp2_with fail
 (with_reducible refine Calls.mono C4.out ?_)
 rintro e w4 ⟨rfl,hb⟩
 have GW4:=hid (show W3.grownBy w4 (some P) from b8 hb)
 have S4:=hid (S3.out.below hb)
 clear hb C4 hp3 t0 t1 t2 t3 htl
 have hp4:=(HC.out w4 GW4).1
 obtain ⟨⟨t0,t1,t2,t3⟩,-⟩:=(HC.out w4 GW4).2.2.cells
 have htl:=(HC.out w4 GW4).2.2.lt
 have C5:=hid (show Calls Tryz.prog 50 #[.pointer (some ⟨P,0,none⟩),.string ⟨#[102,97,108,115,101]⟩] w4 (fun e w' => e=.returned (.bool false)∧Below w4.heap.size w4 w') by
  have:=aO P g cap ts nest l ⟨#[102,97,108,115,101]⟩ w4 S4
  rwa [show isT (⟨#[102,97,108,115,101]⟩ : ByteArray).data.toList l=false from hF] at this)
 go_wp2_with fail
 (with_reducible refine Calls.mono C5.out ?_)
 rintro e w5 ⟨rfl,hb⟩
 have GW5:=hid (show W3.grownBy w5 (some P) from b6 GW4 (b8 hb))
 have S5:=hid (S4.out.below hb)
 clear hb C5 hp4 t0 t1 t2 t3 htl
 have hp5:=(HC.out w5 GW5).1
 obtain ⟨⟨t0,t1,t2,t3⟩,-⟩:=(HC.out w5 GW5).2.2.cells
 have htl:=(HC.out w5 GW5).2.2.lt
 have C6:=hid (show Calls Tryz.prog 89 #[.pointer (some ⟨P,0,none⟩),.string ⟨#[102,101,101,100]⟩] w5 (fun e w' => e=.returned (.bool true)∧SQ P g cap ts nest (b9 l) w'∧w5.grownBy w' (some P)) by
  have:=O9 P g cap ts nest l ⟨#[102,101,101,100]⟩ w5 S5 HE
  rw [show isT (⟨#[102,101,101,100]⟩ : ByteArray).data.toList l=true from hD] at this
  simpa using this)
 go_wp2_with fail
 (with_reducible refine Calls.mono C6.out ?_)
 rintro e w6 ⟨rfl,hs,hg⟩
 have GW6:=hid (show W3.grownBy w6 (some P) from b6 GW5 hg)
 have S6:=hid hs
 clear hs hg C6 hp5 t0 t1 t2 t3 htl
 have hp6:=(HC.out w6 GW6).1
 obtain ⟨⟨t0,t1,t2,t3⟩,-⟩:=(HC.out w6 GW6).2.2.cells
 have htl:=(HC.out w6 GW6).2.2.lt
 obtain ⟨T2,hT2⟩ : ∃ T2,T2=hd (b9 l):=⟨_,rfl⟩
 have BD:=hid (show Below w6.heap.size w6 w6.drew from A7 (Below.refl _ _))
 have GD:=hid (show W3.grownBy w6.drew (some P) from b6 GW6 (b8 BD))
 have CK:=hid (show Calls Tryz.prog 66 #[.pointer (some ⟨P,0,none⟩),.int .i64 7] w6.drew (TkQ P g cap ts nest T2 (X4 7 (.ok (b9 l))) w6.drew) by
  rw [hT2]
  exact dS P g cap ts nest (b9 l) 7 w6.drew (S6.out.below BD) HE)
 have HT2:=hid (show z8 T2 by rw [hT2]; exact HTK.out _ S6.out.mem)
 rw [← hT2] at hX
 have HX:=hid hX
 have hfd:=oH T2.kind T2.n T2.pos ⟨T2.text.toArray⟩
 clear hT2 hX
 generalize X4 7 (.ok (b9 l))=σ at CK HX
 go_upto_region 18 with fail
 refine e8 (S:=(fun cur => cur.cell? ⟨w.heap.size,0,none⟩=some (.pointer (some ⟨P,0,none⟩))∧(cur.cell? ⟨w.heap.size + 1 + 1,0,none⟩=some (.int .i64 T.kind)∧cur.cell? ⟨w.heap.size + 1 + 1,1,none⟩=some (.string ⟨T.text.toArray⟩)∧cur.cell? ⟨w.heap.size + 1 + 1,2,none⟩=some (.int .i64 T.n)∧cur.cell? ⟨w.heap.size + 1 + 1,3,none⟩=some (.int .i64 T.pos)))) (z:=8) (by kernel_rfl) ?_ (fun hHeld => ?_)
 ·exact ⟨(HC.out w6.drew GD).1,(HC.out w6.drew GD).2.2.cells.1⟩
 refine b7.t 0 ?_; refine b7.t 1 ?_; refine b7.t 4 ?_; refine b7.t 5 ?_
 refine b7.nx 2 fun K hK => ?_
 go_simp
 (with_reducible refine Calls.mono CK.out ?_)
 intro e w9 hq
 cases σ with
 | error q =>
   obtain ⟨k0,p0⟩:=q
   obtain ⟨rfl,hg⟩:=hq
   refine And.intro rfl ?_
   rw [HX.out]
   exact ⟨rfl,b6 G3 (b6 GD hg)⟩
 | ok q =>
 obtain ⟨rfl,hs,hg⟩:=hq
 have S9:=hid hs
 have GW9:=hid (show W3.grownBy w9 (some P) from b6 GD hg)
 have HX2:=hid (show X=.ok (mkN 9 T2.text 0 [] T.pos,q) by rw [HX.out]; rfl)
 clear hs hg CK
 unfold tkV
 go_wp2_with fail
 refine hK.out _ _ ?_ (fun hHeld => ?_)
 ·exact ⟨(HC.out w9 GW9).1,(HC.out w9 GW9).2.2.cells.1⟩
 clear hK K
 try simp only [Act.put,c9,f8,f7]
 refine b7.t 3 ?_; refine b7.t 6 ?_
 have C5:=hid (show Calls Tryz.prog 54 #[.pointer (some ⟨P,0,none⟩),.agg #[.int .i64 9,.string ⟨T2.text.toArray⟩,.int .i64 0,.slice none 0 0,.int .i64 T.pos],.slice none 0 0] w9 (gI 9 T2.text 0 T.pos [] w9) from
  aG P 9 T2.text 0 T.pos none 0 [] w9 (by decide) (fun h => absurd rfl h) (fun e he => (by cases he)))
 refine b7.nx 7 fun K hK => ?_
 go_simp
 (with_reducible refine Calls.mono C5.out ?_)
 intro e wy hm
 have HMR:=hid (show jB (made (mkN 9 T2.text 0 [] T.pos) q) (fun _ => False) w9 e wy from hm.use rfl (by have:=HT2.out.2.2; omega) rfl HT0.out.2.1 (fun c hc => hc.elim) (fun e he => (by cases he)) q)
 have hmd : made (mkN 9 T2.text 0 [] T.pos) q=.ok (mkN 9 T2.text 0 [] T.pos,q):=cN (by unfold mkN; rw [c8,i8]; decide)
 rw [hmd] at HMR
 clear hm C5
 obtain ⟨hb8,a4,c4,rfl,hl3,hd3⟩:=HMR.out
 have By:=hid hb8
 have HL4:=hid hl3
 have HD4:=hid hd3
 have GWy:=hid (show W3.grownBy wy (some P) from b6 GW9 (b8 hb8))
 have Zy:=hid (HC.out wy GWy).2.1
 obtain ⟨t4,ht4⟩ : ∃ t,t=mkN 9 T2.text 0 [] T.pos:=⟨_,rfl⟩
 rw [← ht4] at HL4 HD4 ⊢
 have HT4:=hid ht4
 clear hmd hl3 hd3 hb8 HMR ht4
 unfold trV
 go_wp2_with fail
 refine hK.out _ _ ?_ (fun hHeld => ?_)
 ·exact ⟨(HC.out wy GWy).1,(HC.out wy GWy).2.2.cells.1⟩
 clear hK K
 try simp only [Act.put,c9,f8,f7]
 obtain ⟨⟨z0,z1,z2,z3,z4,z5⟩,⟨f0,f1,f2,f3,f4,f5⟩⟩:=Zy.out.cells
 have hzl:=Zy.out.lt
 refine b7.la fun K hK => ?_
 go_simp
 refine hK.out _ _ ?_
 clear hK K
 go_wp2_with fail
 refine bodyPost_ret (v:=trV t4 a4 c4) (by simp [results,Tryz.results210,go_sem,trV,z0,z1,z2,z3,z4,z5]) rfl ?_
 rw [HX2.out,← HT4.out]
 have hb:=HB.out
 have h4:=(HC.out w9 GW9).2.1.lt
 exact QP.fin (S9.out.below By) (b6 G3 GWy) (by omega) (by omega) HL4 (fun c hc => by
  rcases hc with hc | hc
  ·exact hc.elim
  ·have:=hc.1; have:=hc.2; omega) HD4
end
section
open Lib (hid)
open Go.RowKit
theorem jN {b : Nat} (W : World) (t : Nd) (a : Option Addr) (cp : Nat) : W.grownBy (V6 W b t a cp) (some b) :=
 b6 (b6 (b6 (b6 (e9 W b 0 _) (e9 _ b 1 _)) (e9 _ b 2 _)) (e9 _ b 3 _)) (e9 _ b 4 _)
theorem a05 (P g cap : Nat) (ts : List Tk) (he : y7 ts) (htk : ∀ t∈ts,z8 t) (nest : Nat) (l : List Tk) (w : World) (h : SQ P g cap ts nest l w) (hN : (hd l).kind≠6∧(hd l).kind≠5∧(hd l).kind≠4∧(hd l).kind≠1∧(hd l).kind≠3) (hT : isT bJ l=false) (hF : isT U4 l=false) (hD : isT bX l=false) (hn : nest≤300) (hK : isT bY l=true) (hE : ∀ r,r.length<l.length→CQ 25 .expr P g cap ts r) : Calls Tryz.prog 210 #[.pointer (some ⟨P,0,none⟩)] w (QP P g cap ts nest (F0 7 (b9 l) fun s r => d9 o6 r fun r => (rd .expr nest r).then fun a r => d9 l0 r fun r => (rd .expr nest r).then fun b r => d9 l0 r fun r => (rd .expr nest r).then fun c r => d9 m5 r fun r => made (mkN 15 s.text 0 [a,b,c] (hd l).pos) r) w):=by
 have HT0:=hid (htk _ h.mem)
 have HB:=hid h.blocks
 have HE:=hid he
 obtain ⟨a,hl,hp⟩:=h
 have h : SQ P g cap ts nest l w:=⟨a,hl,hp⟩
 have hpos:=hp.pos
 have hPlt:=hp.plt
 have hg0:=hp.lt
 have D:=hid (show hd l=ts[a]'hpos by rw [hl,O0 hpos])
 obtain ⟨⟨p0,p1⟩,-⟩:=hp.cells
 obtain ⟨t0,t1,t2,t3⟩:=hp.tok
 have hL : 0<ts.length - a:=by omega
 generalize ts[a]'hpos=T at t0 t1 t2 t3 D
 generalize ts.length - a=Ln at p0 hL
 generalize cap - a=C at p0
 generalize a * 4=off at p0 t0 t1 t2 t3
 rw [D.out] at HT0
 obtain ⟨W3,hW3⟩ : ∃ W,W=((w.alloc (.cells #[.pointer (some ⟨P,0,none⟩)] 48)).alloc (.cells #[.int .i64 0,.string ⟨#[]⟩,.int .i64 0,.slice none 0 0,.int .i64 0,.int .i64 0] 50)).alloc (.cells #[.int .i64 T.kind,.string ⟨T.text.toArray⟩,.int .i64 T.n,.int .i64 T.pos] 79):=⟨_,rfl⟩
 have B3:=hid (show Below w.heap.size w W3 from hW3 ▸ (A6 w _ _).alloc (A6 w _ _).size _)
 have hz3:=hid (show W3.heap.size=w.heap.size + 3 by rw [hW3]; simp)
 have hpc:=hid (show W3.cell? ⟨w.heap.size,0,none⟩=some (.pointer (some ⟨P,0,none⟩)) by
  rw [hW3]
  exact ((A6 (w.alloc (.cells #[.pointer (some ⟨P,0,none⟩)] 48)) _ _).cell (p:=⟨w.heap.size,0,none⟩) (by simp)).trans (by simp))
 have Z3:=hid (show T6 (w.heap.size + 1) 0 ⟨#[]⟩ 0 none 0 0 0 0 W3 from hW3 ▸ by
  have:=T6.make (w.alloc (.cells #[.pointer (some ⟨P,0,none⟩)] 48)) 0 ⟨#[]⟩ 0 none 0 0 0 0
  rw [World.size_alloc] at this
  exact this.below (c6 _ _))
 have Q3:=hid (show QT (w.heap.size + 1 + 1) T W3 from hW3 ▸ by
  have:=QT.make ((w.alloc (.cells #[.pointer (some ⟨P,0,none⟩)] 48)).alloc (.cells #[.int .i64 0,.string ⟨#[]⟩,.int .i64 0,.slice none 0 0,.int .i64 0,.int .i64 0] 50)) T
  rw [World.size_alloc,World.size_alloc] at this
  exact this)
 have S3:=hid (h.below B3)
 have G3:=hid (show w.grownBy W3 (some P) from b8 B3)
 have HC:=hid (show ∀ W : World,W3.grownBy W (some P)→W.cell? ⟨w.heap.size,0,none⟩=some (.pointer (some ⟨P,0,none⟩))∧T6 (w.heap.size + 1) 0 ⟨#[]⟩ 0 none 0 0 0 0 W∧QT (w.heap.size + 1 + 1) T W from fun W hg =>
  ⟨(World.cell?_of_block (hg.block w.heap.size (by have:=hz3.out; omega) (fun e => by have:=Option.some.inj e; omega))).trans hpc,Z3.out.grown hg (fun e => by have:=Option.some.inj e; omega),Q3.out.grown hg (fun e => by have:=Option.some.inj e; omega)⟩)
 have eg : m7 218:=enters_of Tryz.func218 (by kernel_rfl) rfl
 unfold m7 at eg
 rw [D.out] at hN
 have e6 : (T.kind == 6)=false:=beq_eq_false_iff_ne.2 (by omega)
 have e5 : (T.kind == 5)=false:=beq_eq_false_iff_ne.2 (by omega)
 have e4 : (T.kind == 4)=false:=beq_eq_false_iff_ne.2 (by omega)
 have e1 : (T.kind == 1)=false:=beq_eq_false_iff_ne.2 (by omega)
 have e3 : (T.kind == 3)=false:=beq_eq_false_iff_ne.2 (by omega)
 clear hN
 obtain ⟨X,hX⟩ : ∃ X,X=(F0 7 (b9 l) fun s r => d9 o6 r fun r => (rd .expr nest r).then fun a r => d9 l0 r fun r => (rd .expr nest r).then fun b r => d9 l0 r fun r => (rd .expr nest r).then fun c r => d9 m5 r fun r => made (mkN 15 s.text 0 [a,b,c] (hd l).pos) r : Rd):=⟨_,rfl⟩
 rw [← hX]
 rw [D.out] at hX
 have HTK:=hid htk
 have HEx:=hid hE
 clear hE
 rw [show (F0 7 (b9 l) fun s r => d9 o6 r fun r => (rd .expr nest r).then fun a r => d9 l0 r fun r => (rd .expr nest r).then fun b r => d9 l0 r fun r => (rd .expr nest r).then fun c r => d9 m5 r fun r => made (mkN 15 s.text 0 [a,b,c] T.pos) r : Rd)=goX (X4 7 (.ok (b9 l))) (fun r => d9 o6 r fun r => (rd .expr nest r).then fun a r => d9 l0 r fun r => (rd .expr nest r).then fun b r => d9 l0 r fun r => (rd .expr nest r).then fun c r => d9 m5 r fun r => made (mkN 15 (hd (b9 l)).text 0 [a,b,c] T.pos) r) from eO (.ok (b9 l)) 7 (fun s => fun r => d9 o6 r fun r => (rd .expr nest r).then fun a r => d9 l0 r fun r => (rd .expr nest r).then fun b r => d9 l0 r fun r => (rd .expr nest r).then fun c r => d9 m5 r fun r => made (mkN 15 s.text 0 [a,b,c] T.pos) r) (hd (b9 l)) (fun r h => by cases h; rfl)] at hX
 clear hp h he htk hl hpos
 go_enter Tryz.func210,Tryz.ntmps210
 go_upto_region 2 with fail
 rw [← hW3]
 clear hW3 t0 t1 t2 t3 p0 p1 hL
 obtain ⟨⟨t0,t1,t2,t3⟩,-⟩:=Q3.out.cells
 have htl:=Q3.out.lt
 have hp3:=hpc.out
 have C4:=hid (show Calls Tryz.prog 50 #[.pointer (some ⟨P,0,none⟩),.string ⟨#[116,114,117,101]⟩] W3 (fun e w' => e=.returned (.bool false)∧Below W3.heap.size W3 w') by
  have:=aO P g cap ts nest l ⟨#[116,114,117,101]⟩ W3 S3
  rwa [show isT (⟨#[116,114,117,101]⟩ : ByteArray).data.toList l=false from hT] at this)
 go_wp2_with fail
 (with_reducible refine Calls.mono C4.out ?_)
 rintro e w4 ⟨rfl,hb⟩
 have GW4:=hid (show W3.grownBy w4 (some P) from b8 hb)
 have S4:=hid (S3.out.below hb)
 clear hb C4 hp3 t0 t1 t2 t3 htl
 have hp4:=(HC.out w4 GW4).1
 obtain ⟨⟨t0,t1,t2,t3⟩,-⟩:=(HC.out w4 GW4).2.2.cells
 have htl:=(HC.out w4 GW4).2.2.lt
 have C5:=hid (show Calls Tryz.prog 50 #[.pointer (some ⟨P,0,none⟩),.string ⟨#[102,97,108,115,101]⟩] w4 (fun e w' => e=.returned (.bool false)∧Below w4.heap.size w4 w') by
  have:=aO P g cap ts nest l ⟨#[102,97,108,115,101]⟩ w4 S4
  rwa [show isT (⟨#[102,97,108,115,101]⟩ : ByteArray).data.toList l=false from hF] at this)
 go_wp2_with fail
 (with_reducible refine Calls.mono C5.out ?_)
 rintro e w5 ⟨rfl,hb⟩
 have GW5:=hid (show W3.grownBy w5 (some P) from b6 GW4 (b8 hb))
 have S5:=hid (S4.out.below hb)
 clear hb C5 hp4 t0 t1 t2 t3 htl
 have hp5:=(HC.out w5 GW5).1
 obtain ⟨⟨t0,t1,t2,t3⟩,-⟩:=(HC.out w5 GW5).2.2.cells
 have htl:=(HC.out w5 GW5).2.2.lt
 have C6:=hid (show Calls Tryz.prog 89 #[.pointer (some ⟨P,0,none⟩),.string ⟨#[102,101,101,100]⟩] w5 (fun e w' => e=.returned (.bool false)∧SQ P g cap ts nest (l) w'∧w5.grownBy w' (some P)) by
  have:=O9 P g cap ts nest l ⟨#[102,101,101,100]⟩ w5 S5 HE
  rw [show isT (⟨#[102,101,101,100]⟩ : ByteArray).data.toList l=false from hD] at this
  simpa using this)
 go_wp2_with fail
 (with_reducible refine Calls.mono C6.out ?_)
 rintro e w6 ⟨rfl,hs,hg⟩
 have GW6:=hid (show W3.grownBy w6 (some P) from b6 GW5 hg)
 have S6:=hid hs
 clear hs hg C6 hp5 t0 t1 t2 t3 htl
 have hp6:=(HC.out w6 GW6).1
 obtain ⟨⟨t0,t1,t2,t3⟩,-⟩:=(HC.out w6 GW6).2.2.cells
 have htl:=(HC.out w6 GW6).2.2.lt
 have C7:=hid (show Calls Tryz.prog 89 #[.pointer (some ⟨P,0,none⟩),.string ⟨#[112,105,99,107]⟩] w6 (fun e w' => e=.returned (.bool true)∧SQ P g cap ts nest (b9 l) w'∧w6.grownBy w' (some P)) by
  have:=O9 P g cap ts nest l ⟨#[112,105,99,107]⟩ w6 S6 HE
  rw [show isT (⟨#[112,105,99,107]⟩ : ByteArray).data.toList l=true from hK] at this
  simpa using this)
 go_wp2_with fail
 (with_reducible refine Calls.mono C7.out ?_)
 rintro e w7 ⟨rfl,hs,hg⟩
 have GW7:=hid (show W3.grownBy w7 (some P) from b6 GW6 hg)
 have S7:=hid hs
 clear hs hg C7 hp6 t0 t1 t2 t3 htl
 have hp7:=(HC.out w7 GW7).1
 obtain ⟨⟨t0,t1,t2,t3⟩,-⟩:=(HC.out w7 GW7).2.2.cells
 have htl:=(HC.out w7 GW7).2.2.lt
 obtain ⟨T2,hT2⟩ : ∃ T2,T2=hd (b9 l):=⟨_,rfl⟩
 have BD:=hid (show Below w7.heap.size w7 w7.drew from A7 (Below.refl _ _))
 have GD:=hid (show W3.grownBy w7.drew (some P) from b6 GW7 (b8 BD))
 have SD:=hid (S7.out.below BD)
 have CK:=hid (show ∀ W,SQ P g cap ts nest (b9 l) W→Calls Tryz.prog 66 #[.pointer (some ⟨P,0,none⟩),.int .i64 7] W (TkQ P g cap ts nest T2 (X4 7 (.ok (b9 l))) W) from fun W hs => by
  rw [hT2]
  exact dS P g cap ts nest (b9 l) 7 W hs HE)
 have HT2:=hid (show z8 T2 by rw [hT2]; exact HTK.out _ S7.out.mem)
 rw [← hT2] at hX
 have HX:=hid hX
 have HLK:=hid (show ∀ r,X4 7 (.ok (b9 l))=.ok r→r.length + 1=(b9 l).length from fun r h => by
  obtain ⟨r',h1,h2,rfl⟩:=pK h
  cases h1
  exact cZ h2 (by decide))
 have hfd:=oH T2.kind T2.n T2.pos ⟨T2.text.toArray⟩
 have h73:=hid GW7.out.size
 clear hT2 hX
 generalize X4 7 (.ok (b9 l))=σ at CK HX HLK
 go_upto_region 20 with fail
 go_cut [5] from 71 (fun s5 wx => ∃ (r : List Tk) (nb : Nat),s5=.pointer (some ⟨nb,0,none⟩)∧Hid (σ=.ok r∧SQ P g cap ts nest r wx∧W3.grownBy wx (some P)∧W3.heap.size≤nb∧f6 nb (.mk 15 ⟨T2.text.toArray⟩ 0 [] T.pos) none 0 wx))
 case first =>
  refine e8 (S:=(fun cur => cur.cell? ⟨w.heap.size,0,none⟩=some (.pointer (some ⟨P,0,none⟩))∧(cur.cell? ⟨w.heap.size + 1 + 1,0,none⟩=some (.int .i64 T.kind)∧cur.cell? ⟨w.heap.size + 1 + 1,1,none⟩=some (.string ⟨T.text.toArray⟩)∧cur.cell? ⟨w.heap.size + 1 + 1,2,none⟩=some (.int .i64 T.n)∧cur.cell? ⟨w.heap.size + 1 + 1,3,none⟩=some (.int .i64 T.pos)))) (z:=7) (by kernel_rfl) ?_ (fun hHeld => ?_)
  ·exact ⟨(HC.out w7.drew GD).1,(HC.out w7.drew GD).2.2.cells.1⟩
  refine b7.t 0 ?_; refine b7.t 3 ?_; refine b7.t 4 ?_
  refine b7.two (i:=1) (j:=6) (by kernel_rfl) (l3 rfl) (l3 rfl) (by decide) (by decide) (fun K hK => ?_) (fun K hK => ?_)
  ·go_simp
   (with_reducible refine Calls.mono (CK.out w7.drew SD.out) ?_)
   intro e w9 hq
   cases σ with
   | error q =>
     obtain ⟨k0,p0⟩:=q
     obtain ⟨rfl,hg⟩:=hq
     refine And.intro rfl ?_
     rw [HX.out]
     exact ⟨rfl,b6 G3 (b6 GD hg)⟩
   | ok q =>
   obtain ⟨rfl,hs,hg⟩:=hq
   have S9:=hid hs
   have GW9:=hid (show W3.grownBy w9 (some P) from b6 GD hg)
   clear hs hg
   unfold tkV
   go_wp2_with fail
   refine hK.out _ _ ?_ (fun hHeld => ?_)
   ·exact ⟨(HC.out w9 GW9).1,(HC.out w9 GW9).2.2.cells.1⟩
   clear hK K
   try simp only [Act.put,c9,f8,f7]
   refine b7.t 2 ?_; refine b7.t 5 ?_
   refine b7.nx 6 fun K hK => ?_
   go_simp
   obtain ⟨Wn,hWn⟩ : ∃ W,W=w9.alloc (.cells #[.int .i64 0,.string ⟨#[]⟩,.int .i64 0,.slice none 0 0,.int .i64 0] 24):=⟨_,rfl⟩
   have Bn:=hid (show Below w9.heap.size w9 Wn from hWn ▸ c6 _ _)
   have NZ:=hid (show f6 w9.heap.size nd0 none 0 Wn from hWn ▸ f6.make w9 nd0 none 0)
   have GWn:=hid (show W3.grownBy Wn (some P) from b6 GW9 (b8 Bn))
   have Sn:=hid (S9.out.below Bn)
   have hnb:=hid (show W3.heap.size≤w9.heap.size from GW9.out.size)
   rw [← hWn]
   clear hWn
   refine hK.out _ _ ?_ (fun hHeld => ?_)
   ·exact ⟨(HC.out Wn GWn).1,(HC.out Wn GWn).2.2.cells.1⟩
   clear hK K
   try simp only [Act.put,c9,f8,f7]
   obtain ⟨⟨y0,y1,y2,y3,y4⟩,⟨q0,q1,q2,q3,q4⟩⟩:=NZ.out.cells
   have hyl:=NZ.out.lt
   simp only [nd0,Nd.kind,Nd.text,Nd.n,Nd.kids,Nd.place,List.length_nil] at y0 y1 y2 y3 y4
   refine b7.la fun K hK => ?_
   go_simp
   refine hK.out _ _ ?_
   clear hK K
   go_wp2_with fail
   go_meet
   case rel =>
    have hput:=jN (b:=w9.heap.size) Wn (.mk 15 ⟨T2.text.toArray⟩ 0 [] T.pos) none 0
    refine ⟨q,w9.heap.size,rfl,rfl,Sn.out.keeps (fun d hd => ?_) hput.size,?_,hnb,f6.put NZ (.mk 15 ⟨T2.text.toArray⟩ 0 [] T.pos) none 0⟩
    ·have hbl:=Sn.out.blocks
     have hbb:=HB.out
     have hz:=hz3.out
     have hn:=hnb.out
     rcases hd with rfl | rfl
     ·exact hput.block _ hbl.1 (fun e => by have:=Option.some.inj e; omega)
     ·exact hput.block _ hbl.2.1 (fun e => by have:=Option.some.inj e; omega)
    ·exact dP GWn hput (by have:=hnb.out; omega)
  ·go_simp
   obtain ⟨Wn,hWn⟩ : ∃ W,W=(w7.alloc (.cells #[.int .i64 0,.string ⟨#[]⟩,.int .i64 0,.slice none 0 0,.int .i64 0] 24)).drew:=⟨_,rfl⟩
   have Bn:=hid (show Below w7.heap.size w7 Wn from hWn ▸ A7 (c6 _ _))
   have NZ0:=hid (show f6 w7.heap.size nd0 none 0 Wn from hWn ▸ f6.make w7 nd0 none 0)
   have GWn:=hid (show W3.grownBy Wn (some P) from b6 GW7 (b8 Bn))
   have Sn:=hid (S7.out.below Bn)
   have hnb:=hid (show W3.heap.size≤w7.heap.size from GW7.out.size)
   rw [← hWn]
   clear hWn
   refine hK.out _ _ ?_ (fun hHeld => ?_)
   ·exact ⟨(HC.out Wn GWn).1,(HC.out Wn GWn).2.2.cells.1⟩
   clear hK K
   try simp only [Act.put,c9,f8,f7]
   refine b7.nx 1 fun K hK => ?_
   go_simp
   (with_reducible refine Calls.mono (CK.out Wn Sn.out) ?_)
   intro e w9 hq
   cases σ with
   | error q =>
     obtain ⟨k0,p0⟩:=q
     obtain ⟨rfl,hg⟩:=hq
     refine And.intro rfl ?_
     rw [HX.out]
     exact ⟨rfl,b6 G3 (b6 GWn hg)⟩
   | ok q =>
   obtain ⟨rfl,hs,hg⟩:=hq
   have S9:=hid hs
   have GW9:=hid (show W3.grownBy w9 (some P) from b6 GWn hg)
   have NZ:=hid (NZ0.out.grown hg (by have:=HB.out; have:=hz3.out; have:=hnb.out; omega))
   clear hs hg
   unfold tkV
   go_wp2_with fail
   refine hK.out _ _ ?_ (fun hHeld => ?_)
   ·exact ⟨(HC.out w9 GW9).1,(HC.out w9 GW9).2.2.cells.1⟩
   clear hK K
   try simp only [Act.put,c9,f8,f7]
   refine b7.t 2 ?_; refine b7.t 5 ?_
   obtain ⟨⟨y0,y1,y2,y3,y4⟩,⟨q0,q1,q2,q3,q4⟩⟩:=NZ.out.cells
   have hyl:=NZ.out.lt
   simp only [nd0,Nd.kind,Nd.text,Nd.n,Nd.kids,Nd.place,List.length_nil] at y0 y1 y2 y3 y4
   refine b7.la fun K hK => ?_
   go_simp
   refine hK.out _ _ ?_
   clear hK K
   go_wp2_with fail
   go_meet
   case rel =>
    have hput:=jN (b:=w7.heap.size) w9 (.mk 15 ⟨T2.text.toArray⟩ 0 [] T.pos) none 0
    refine ⟨q,w7.heap.size,rfl,rfl,S9.out.keeps (fun d hd => ?_) hput.size,?_,hnb,f6.put NZ (.mk 15 ⟨T2.text.toArray⟩ 0 [] T.pos) none 0⟩
    ·have hbl:=S9.out.blocks
     have hbb:=HB.out
     have hz:=hz3.out
     have hn:=hnb.out
     rcases hd with rfl | rfl
     ·exact hput.block _ hbl.1 (fun e => by have:=Option.some.inj e; omega)
     ·exact hput.block _ hbl.2.1 (fun e => by have:=Option.some.inj e; omega)
    ·exact dP GW9 hput (by have:=hnb.out; omega)
 case rest =>
 obtain ⟨r0,nb,rfl,HCUT⟩:=hcut
 clear CK hfd hp7 t0 t1 t2 t3 htl
 have HS0:=hid HCUT.out.1
 have S10:=hid HCUT.out.2.1
 have GW10:=hid HCUT.out.2.2.1
 have hnb:=hid HCUT.out.2.2.2.1
 have NB:=hid HCUT.out.2.2.2.2
 have hr0:=hid (HLK.out r0 HS0)
 have HX0:=hid (show X=d9 o6 r0 fun r => (rd .expr nest r).then fun a r => d9 l0 r fun r => (rd .expr nest r).then fun b r => d9 l0 r fun r => (rd .expr nest r).then fun c r => d9 m5 r fun r => made (mkN 15 T2.text 0 [a,b,c] T.pos) r by rw [HX.out,HS0.out]; rfl)
 have HLl:=hid (n5 hK)
 have hp10:=(HC.out wc GW10).1
 clear HX HLK
 have C11:=hid (show Calls Tryz.prog 53 #[.pointer (some ⟨P,0,none⟩),.string ⟨#[40]⟩] wc (eR P g cap ts nest o6 r0 wc) from V0 P g cap ts nest r0 ⟨#[40]⟩ o6 rfl wc S10 HE)
 go_wp2_with fail
 (with_reducible refine Calls.mono C11.out ?_)
 rintro e w11 ⟨hg,hq⟩
 have H11:=hid hg
 have GW11:=hid (show W3.grownBy w11 (some P) from b6 GW10 hg)
 cases hw11 : isT o6 r0
 case false =>
  obtain rfl:=hq.2 hw11
  refine And.intro rfl ?_
  rw [HX0.out,X9 hw11]
  exact ⟨rfl,b6 G3 GW11⟩
 case true =>
 obtain ⟨rfl,hs⟩:=hq.1 hw11
 have S11:=hid hs
 have HX11:=hid (show X=(rd .expr nest (b9 r0)).then fun a r => d9 l0 r fun r => (rd .expr nest r).then fun b r => d9 l0 r fun r => (rd .expr nest r).then fun c r => d9 m5 r fun r => made (mkN 15 T2.text 0 [a,b,c] T.pos) r from HX0.out.trans (L7 hw11))
 have hl11:=hid (n5 hw11)
 have hp11:=(HC.out w11 GW11).1
 clear hs hg hq hw11 C11 hp10
 have C12:=hid (HEx.out (b9 r0) (by have:=HLl.out; have:=hr0.out; have:=hl11.out; omega) nest w11 hn S11)
 have HR12:=hid (fun t q (h : rd .expr nest (b9 r0)=.ok (t,q)) => aZ .expr nest (b9 r0) h)
 generalize rd .expr nest (b9 r0)=x at C12 HX11 HR12
 go_wp2_with fail
 (with_reducible refine Calls.mono C12.out ?_)
 intro e w12 hq
 cases x with
 | error q =>
   obtain ⟨k0,p0⟩:=q
   obtain ⟨rfl,hg⟩:=hq
   refine And.intro rfl ?_
   rw [HX11.out]
   exact ⟨rfl,b6 G3 (b6 GW11 hg)⟩
 | ok q =>
 obtain ⟨t1,r1⟩:=q
 obtain ⟨a1,c1,rfl,hs,hg,hl2,hdp⟩:=hq
 have H12:=hid hg
 have hr1:=hid (HR12.out t1 r1 rfl)
 have HX12:=hid (show X=d9 l0 r1 fun r => (rd .expr nest r).then fun b r => d9 l0 r fun r => (rd .expr nest r).then fun c r => d9 m5 r fun r => made (mkN 15 T2.text 0 [t1,b,c] T.pos) r from HX11)
 have S12':=hid hs
 have GW12':=hid (show W3.grownBy w12 (some P) from b6 GW11 hg)
 have HL1:=hid hl2
 have HD1:=hid hdp
 obtain ⟨Wb1,hWb⟩ : ∃ W,W=w12.alloc (.cells #[.int .i64 t1.kind,.string t1.text,.int .i64 t1.n,.slice a1 t1.kids.length c1,.int .i64 t1.place,.int .i64 (c8 t1)] 50):=⟨_,rfl⟩
 have Bb1:=hid (show Below w12.heap.size w12 Wb1 from hWb ▸ c6 _ _)
 have Tb1:=hid (show T6 w12.heap.size t1.kind t1.text t1.n a1 t1.kids.length c1 t1.place (c8 t1) Wb1 from hWb ▸ T6.make w12 _ _ _ _ _ _ _ _)
 have S12:=hid (S12'.out.below Bb1)
 have GW12:=hid (show W3.grownBy Wb1 (some P) from b6 GW12' (b8 Bb1))
 have hp12:=(HC.out Wb1 GW12).1
 clear hs hg hl2 hdp C12 HR12 hp11
 unfold trV
 go_upto_region 23 with fail
 rw [← hWb]
 clear hWb
 have C13:=hid (show Calls Tryz.prog 53 #[.pointer (some ⟨P,0,none⟩),.string ⟨#[44]⟩] Wb1 (eR P g cap ts nest l0 r1 Wb1) from V0 P g cap ts nest r1 ⟨#[44]⟩ l0 rfl Wb1 S12 HE)
 go_wp2_with fail
 (with_reducible refine Calls.mono C13.out ?_)
 rintro e w13 ⟨hg,hq⟩
 have H13:=hid hg
 have GW13:=hid (show W3.grownBy w13 (some P) from b6 GW12 hg)
 cases hw13 : isT l0 r1
 case false =>
  obtain rfl:=hq.2 hw13
  refine And.intro rfl ?_
  rw [HX12.out,X9 hw13]
  exact ⟨rfl,b6 G3 GW13⟩
 case true =>
 obtain ⟨rfl,hs⟩:=hq.1 hw13
 have S13:=hid hs
 have HX13:=hid (show X=(rd .expr nest (b9 r1)).then fun b r => d9 l0 r fun r => (rd .expr nest r).then fun c r => d9 m5 r fun r => made (mkN 15 T2.text 0 [t1,b,c] T.pos) r from HX12.out.trans (L7 hw13))
 have hl13:=hid (n5 hw13)
 have hp13:=(HC.out w13 GW13).1
 clear hs hg hq hw13 C13 hp12
 have C14:=hid (HEx.out (b9 r1) (by have:=HLl.out; have:=hr0.out; have:=hl11.out; have:=hr1.out; have:=hl13.out; omega) nest w13 hn S13)
 have HR14:=hid (fun t q (h : rd .expr nest (b9 r1)=.ok (t,q)) => aZ .expr nest (b9 r1) h)
 generalize rd .expr nest (b9 r1)=x at C14 HX13 HR14
 go_wp2_with fail
 (with_reducible refine Calls.mono C14.out ?_)
 intro e w14 hq
 cases x with
 | error q =>
   obtain ⟨k0,p0⟩:=q
   obtain ⟨rfl,hg⟩:=hq
   refine And.intro rfl ?_
   rw [HX13.out]
   exact ⟨rfl,b6 G3 (b6 GW13 hg)⟩
 | ok q =>
 obtain ⟨t2,r2⟩:=q
 obtain ⟨a2,c2,rfl,hs,hg,hl2,hdp⟩:=hq
 have H14:=hid hg
 have hr2:=hid (HR14.out t2 r2 rfl)
 have HX14:=hid (show X=d9 l0 r2 fun r => (rd .expr nest r).then fun c r => d9 m5 r fun r => made (mkN 15 T2.text 0 [t1,t2,c] T.pos) r from HX13)
 have S14':=hid hs
 have GW14':=hid (show W3.grownBy w14 (some P) from b6 GW13 hg)
 have HL2:=hid hl2
 have HD2:=hid hdp
 obtain ⟨Wb2,hWb⟩ : ∃ W,W=w14.alloc (.cells #[.int .i64 t2.kind,.string t2.text,.int .i64 t2.n,.slice a2 t2.kids.length c2,.int .i64 t2.place,.int .i64 (c8 t2)] 50):=⟨_,rfl⟩
 have Bb2:=hid (show Below w14.heap.size w14 Wb2 from hWb ▸ c6 _ _)
 have Tb2:=hid (show T6 w14.heap.size t2.kind t2.text t2.n a2 t2.kids.length c2 t2.place (c8 t2) Wb2 from hWb ▸ T6.make w14 _ _ _ _ _ _ _ _)
 have S14:=hid (S14'.out.below Bb2)
 have GW14:=hid (show W3.grownBy Wb2 (some P) from b6 GW14' (b8 Bb2))
 have hp14:=(HC.out Wb2 GW14).1
 clear hs hg hl2 hdp C14 HR14 hp13
 unfold trV
 go_upto_region 25 with fail
 rw [← hWb]
 clear hWb
 have C15:=hid (show Calls Tryz.prog 53 #[.pointer (some ⟨P,0,none⟩),.string ⟨#[44]⟩] Wb2 (eR P g cap ts nest l0 r2 Wb2) from V0 P g cap ts nest r2 ⟨#[44]⟩ l0 rfl Wb2 S14 HE)
 go_wp2_with fail
 (with_reducible refine Calls.mono C15.out ?_)
 rintro e w15 ⟨hg,hq⟩
 have H15:=hid hg
 have GW15:=hid (show W3.grownBy w15 (some P) from b6 GW14 hg)
 cases hw15 : isT l0 r2
 case false =>
  obtain rfl:=hq.2 hw15
  refine And.intro rfl ?_
  rw [HX14.out,X9 hw15]
  exact ⟨rfl,b6 G3 GW15⟩
 case true =>
 obtain ⟨rfl,hs⟩:=hq.1 hw15
 have S15:=hid hs
 have HX15:=hid (show X=(rd .expr nest (b9 r2)).then fun c r => d9 m5 r fun r => made (mkN 15 T2.text 0 [t1,t2,c] T.pos) r from HX14.out.trans (L7 hw15))
 have hl15:=hid (n5 hw15)
 have hp15:=(HC.out w15 GW15).1
 clear hs hg hq hw15 C15 hp14
 have C16:=hid (HEx.out (b9 r2) (by have:=HLl.out; have:=hr0.out; have:=hl11.out; have:=hr1.out; have:=hl13.out; have:=hr2.out; have:=hl15.out; omega) nest w15 hn S15)
 have HR16:=hid (fun t q (h : rd .expr nest (b9 r2)=.ok (t,q)) => aZ .expr nest (b9 r2) h)
 generalize rd .expr nest (b9 r2)=x at C16 HX15 HR16
 go_wp2_with fail
 (with_reducible refine Calls.mono C16.out ?_)
 intro e w16 hq
 cases x with
 | error q =>
   obtain ⟨k0,p0⟩:=q
   obtain ⟨rfl,hg⟩:=hq
   refine And.intro rfl ?_
   rw [HX15.out]
   exact ⟨rfl,b6 G3 (b6 GW15 hg)⟩
 | ok q =>
 obtain ⟨t3,r3⟩:=q
 obtain ⟨a3,c3,rfl,hs,hg,hl2,hdp⟩:=hq
 have H16:=hid hg
 have hr3:=hid (HR16.out t3 r3 rfl)
 have HX16:=hid (show X=d9 m5 r3 fun r => made (mkN 15 T2.text 0 [t1,t2,t3] T.pos) r from HX15)
 have S16':=hid hs
 have GW16':=hid (show W3.grownBy w16 (some P) from b6 GW15 hg)
 have HL3:=hid hl2
 have HD3:=hid hdp
 obtain ⟨Wb3,hWb⟩ : ∃ W,W=w16.alloc (.cells #[.int .i64 t3.kind,.string t3.text,.int .i64 t3.n,.slice a3 t3.kids.length c3,.int .i64 t3.place,.int .i64 (c8 t3)] 50):=⟨_,rfl⟩
 have Bb3:=hid (show Below w16.heap.size w16 Wb3 from hWb ▸ c6 _ _)
 have Tb3:=hid (show T6 w16.heap.size t3.kind t3.text t3.n a3 t3.kids.length c3 t3.place (c8 t3) Wb3 from hWb ▸ T6.make w16 _ _ _ _ _ _ _ _)
 have S16:=hid (S16'.out.below Bb3)
 have GW16:=hid (show W3.grownBy Wb3 (some P) from b6 GW16' (b8 Bb3))
 have hp16:=(HC.out Wb3 GW16).1
 clear hs hg hl2 hdp C16 HR16 hp15
 unfold trV
 go_upto_region 27 with fail
 rw [← hWb]
 clear hWb
 have C17:=hid (show Calls Tryz.prog 53 #[.pointer (some ⟨P,0,none⟩),.string ⟨#[41]⟩] Wb3 (eR P g cap ts nest m5 r3 Wb3) from V0 P g cap ts nest r3 ⟨#[41]⟩ m5 rfl Wb3 S16 HE)
 go_wp2_with fail
 (with_reducible refine Calls.mono C17.out ?_)
 rintro e w17 ⟨hg,hq⟩
 have H17:=hid hg
 have GW17:=hid (show W3.grownBy w17 (some P) from b6 GW16 hg)
 cases hw17 : isT m5 r3
 case false =>
  obtain rfl:=hq.2 hw17
  refine And.intro rfl ?_
  rw [HX16.out,X9 hw17]
  exact ⟨rfl,b6 G3 GW17⟩
 case true =>
 obtain ⟨rfl,hs⟩:=hq.1 hw17
 have S17:=hid hs
 have HX17:=hid (show X=made (mkN 15 T2.text 0 [t1,t2,t3] T.pos) (b9 r3) from HX16.out.trans (L7 hw17))
 have hl17:=hid (n5 hw17)
 have hp17:=(HC.out w17 GW17).1
 clear hs hg hq hw17 C17 hp16
 have h34:=hid (show Wb3.grownBy w17 (some P) from H17)
 have h24:=hid (show Wb2.grownBy w17 (some P) from b6 H15 (b6 H16 (b6 (b8 Bb3) h34)))
 have h14:=hid (show Wb1.grownBy w17 (some P) from b6 H13 (b6 H14 (b6 (b8 Bb2) h24)))
 have h04:=hid (show wc.grownBy w17 (some P) from b6 H11 (b6 H12 (b6 (b8 Bb1) h14)))
 have hsz:=hid (show P<w.heap.size∧W3.heap.size=w.heap.size + 3∧W3.heap.size≤nb∧nb<wc.heap.size∧wc.heap.size≤w11.heap.size∧w11.heap.size≤w12.heap.size∧w12.heap.size<Wb1.heap.size∧Wb1.heap.size≤w13.heap.size∧w13.heap.size≤w14.heap.size∧w14.heap.size<Wb2.heap.size∧Wb2.heap.size≤w15.heap.size∧w15.heap.size≤w16.heap.size∧w16.heap.size<Wb3.heap.size∧Wb3.heap.size≤w17.heap.size from
  ⟨HB.out.1,hz3,hnb,NB.out.lt,H11.out.size,H12.out.size,Tb1.out.lt,H13.out.size,H14.out.size,Tb2.out.lt,H15.out.size,H16.out.size,Tb3.out.lt,H17.out.size⟩)
 have NB':=hid (NB.out.grown h04 (by have:=hsz.out; omega))
 have U1:=hid (Tb1.out.grown h14 (fun e => by have:=Option.some.inj e; have:=hsz.out; omega))
 have U2:=hid (Tb2.out.grown h24 (fun e => by have:=Option.some.inj e; have:=hsz.out; omega))
 have U3:=hid (Tb3.out.grown h34 (fun e => by have:=Option.some.inj e; have:=hsz.out; omega))
 have V1:=hid (Y8 (av':=fun c => W3.heap.size≤c∧c<w17.heap.size) HL1 (b6 (b8 Bb1) h14) fun c hc => ⟨hc.2,by have:=hc.1; have:=hsz.out; omega,by have:=hc.1; have:=hsz.out; omega,by have:=hc.2; have:=hsz.out; omega⟩)
 have V2:=hid (Y8 (av':=fun c => W3.heap.size≤c∧c<w17.heap.size) HL2 (b6 (b8 Bb2) h24) fun c hc => ⟨hc.2,by have:=hc.1; have:=hsz.out; omega,by have:=hc.1; have:=hsz.out; omega,by have:=hc.2; have:=hsz.out; omega⟩)
 have V3:=hid (Y8 (av':=fun c => W3.heap.size≤c∧c<w17.heap.size) HL3 (b6 (b8 Bb3) h34) fun c hc => ⟨hc.2,by have:=hc.1; have:=hsz.out; omega,by have:=hc.1; have:=hsz.out; omega,by have:=hc.2; have:=hsz.out; omega⟩)
 obtain ⟨⟨n0,n1,n2,n3,n4⟩,-⟩:=NB'.out.cells
 simp only [Nd.kind,Nd.text,Nd.n,Nd.kids,Nd.place,List.length_nil] at n0 n1 n2 n3 n4
 obtain ⟨⟨x10,x11,x12,x13,x14,x15⟩,-⟩:=U1.out.cells
 obtain ⟨⟨x20,x21,x22,x23,x24,x25⟩,-⟩:=U2.out.cells
 obtain ⟨⟨x30,x31,x32,x33,x34,x35⟩,-⟩:=U3.out.cells
 have hnl:=NB'.out.lt
 have hu1:=U1.out.lt
 have hu2:=U2.out.lt
 have hu3:=U3.out.lt
 obtain ⟨Wx,hWx⟩ : ∃ W,W=w17.alloc (.cells #[.int .i64 t1.kind,.string t1.text,.int .i64 t1.n,.slice a1 t1.kids.length c1,.int .i64 t1.place,.int .i64 (c8 t1),.int .i64 t2.kind,.string t2.text,.int .i64 t2.n,.slice a2 t2.kids.length c2,.int .i64 t2.place,.int .i64 (c8 t2),.int .i64 t3.kind,.string t3.text,.int .i64 t3.n,.slice a3 t3.kids.length c3,.int .i64 t3.place,.int .i64 (c8 t3)] 50):=⟨_,rfl⟩
 have Rx:=hid (show mG Wx w17.heap.size 0 [(t1,a1,c1),(t2,a2,c2),(t3,a3,c3)] from hWx ▸ a6J w17 _ (t1,a1,c1) (t2,a2,c2) (t3,a3,c3))
 have Bx:=hid (show Below w17.heap.size w17 Wx from hWx ▸ c6 _ _)
 have hzx:=hid (show Wx.heap.size=w17.heap.size + 1 by rw [hWx]; simp)
 have Cx:=hid (show Calls Tryz.prog 54 #[.pointer (some ⟨P,0,none⟩),.agg #[.int .i64 15,.string ⟨T2.text.toArray⟩,.int .i64 0,.slice none 0 0,.int .i64 T.pos],.slice (some ⟨w17.heap.size,0,none⟩) 3 3] Wx (gI 15 T2.text 0 T.pos [(t1,a1,c1),(t2,a2,c2),(t3,a3,c3)] Wx) from
  aG P 15 T2.text 0 T.pos (some ⟨w17.heap.size,0,none⟩) 3 [(t1,a1,c1),(t2,a2,c2),(t3,a3,c3)] Wx (by show 3≤8; decide) (fun _ => ⟨w17.heap.size,0,rfl,by have:=hzx.out; omega,Rx⟩) (fun e he => by
   rcases List.mem_cons.1 he with rfl | he
   ·exact HD1
   rcases List.mem_cons.1 he with rfl | he
   ·exact HD2
   obtain rfl:=List.mem_singleton.1 he; exact HD3))
 go_wp2_with fail
 rw [← hWx]
 clear hWx
 (with_reducible refine Calls.mono Cx.out ?_)
 intro e wy hm
 have HMR:=hid (show jB (made (mkN 15 T2.text 0 [t1,t2,t3] T.pos) (b9 r3)) (fun c => W3.heap.size≤c∧c<w17.heap.size) Wx e wy from by
  refine hm.use rfl (by have:=HT2.out.2.2; omega) rfl HT0.out.2.1 (fun c hc => by have:=hzx.out; omega) (fun e he => ?_) (b9 r3)
  rcases List.mem_cons.1 he with rfl | he
  ·exact d5 V1 (fun c hc => Bx.out.block c hc.2) fun c hc => hc
  rcases List.mem_cons.1 he with rfl | he
  ·exact d5 V2 (fun c hc => Bx.out.block c hc.2) fun c hc => hc
  ·obtain rfl:=List.mem_singleton.1 he
   exact d5 V3 (fun c hc => Bx.out.block c hc.2) fun c hc => hc)
 clear hm Cx
 obtain ⟨hb8,hm⟩:=HMR.out
 have By:=hid hb8
 have GWy:=hid (show W3.grownBy wy (some P) from b6 GW17 (b8 (Bx.out.trans (hb8.mono Bx.out.size))))
 cases hmd : made (mkN 15 T2.text 0 [t1,t2,t3] T.pos) (b9 r3) with
 | error z =>
   obtain ⟨k0,p0⟩:=z
   rw [hmd] at hm
   obtain rfl:=hm
   refine And.intro rfl ?_
   rw [HX17.out,hmd]
   exact ⟨rfl,b6 G3 GWy⟩
 | ok z =>
 obtain ⟨t4,q2⟩:=z
 have hq2 : q2=b9 r3:=dT hmd
 subst hq2
 rw [hmd] at hm
 obtain ⟨a4,c4,rfl,hl3,hd3⟩:=hm
 have HMD:=hid hmd
 have HL4:=hid hl3
 have HD4:=hid hd3
 have Zy:=hid (HC.out wy GWy).2.1
 obtain ⟨⟨z0,z1,z2,z3,z4,z5⟩,⟨f0,f1,f2,f3,f4,f5⟩⟩:=Zy.out.cells
 have hzl:=Zy.out.lt
 clear hmd hl3 hd3 hb8
 unfold trV
 go_wp2_with fail
 refine bodyPost_ret (v:=trV t4 a4 c4) (by simp [results,Tryz.results210,go_sem,trV,z0,z1,z2,z3,z4,z5]) rfl ?_
 rw [HX17.out,HMD.out]
 have h1:=hzx.out
 have h2:=By.out.size
 have hb:=HB.out
 have h4:=hsz.out
 exact QP.fin ((S17.out.below Bx).below By) (b6 G3 GWy) (by omega) (by omega) HL4 (fun c hc => by
  rcases hc with hc | hc
  ·have:=hc.1; have:=hc.2; omega
  ·have:=hc.1; have:=hc.2; omega) HD4
end
end Go.Proofs.YtibiccacafjjfaaGreatDoor
