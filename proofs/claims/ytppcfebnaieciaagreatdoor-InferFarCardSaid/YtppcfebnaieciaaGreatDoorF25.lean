/-
  Laws that the proof rests on.
-/
import Derived.Test.YtppcfebnaieciaaGreatDoorF24
namespace Go.Proofs.YtppcfebnaieciaaGreatDoor
set_option maxRecDepth 100000
set_option maxHeartbeats 16000000
section
open Go.RowKit
structure TkZ (t : Tk) : Prop where
 zero : t.kind=4∨t.kind=2→t.n=0
 sign : t.kind=8→t.text≠fW∧t.text≠cZ∧t.text≠gU∧t.text≠gL
 word : t.kind=2→t.text≠J7
inductive AtomC (T : Tk) : Prop
 | num (h : T.kind=6)
 | day (h : T.kind=5)
 | cur (h : T.kind=4)
 | yes (h : T.kind=2) (h' : T.text=fW)
 | no (h : T.kind=2) (h' : T.text=cZ)
 | feed (h : T.kind=2) (h' : T.text=gU)
 | pick (h : T.kind=2) (h' : T.text=gL)
 | name (h : T.kind=1∨T.kind=3)
 | paren (h : T.kind=8) (h' : T.text=J7)
 | none (h1 : T.kind≠6∧T.kind≠5∧T.kind≠4∧T.kind≠1∧T.kind≠3) (h2 : T.kind=2→T.text≠fW∧T.text≠cZ∧T.text≠gU∧T.text≠gL) (h8 : T.kind=8→T.text≠J7)
theorem a0r (T : Tk) : AtomC T:=by
 by_cases h6 : T.kind=6
 ·exact .num h6
 by_cases h5 : T.kind=5
 ·exact .day h5
 by_cases h4 : T.kind=4
 ·exact .cur h4
 by_cases h1 : T.kind=1∨T.kind=3
 ·exact .name h1
 by_cases h2 : T.kind=2
 ·by_cases a : T.text=fW
  ·exact .yes h2 a
  by_cases b : T.text=cZ
  ·exact .no h2 b
  by_cases c : T.text=gU
  ·exact .feed h2 c
  by_cases d : T.text=gL
  ·exact .pick h2 d
  exact .none ⟨h6,h5,h4,fun e => h1 (.inl e),fun e => h1 (.inr e)⟩ (fun _ => ⟨a,b,c,d⟩) (fun e => by omega)
 by_cases h8 : T.kind=8∧T.text=J7
 ·exact .paren h8.1 h8.2
 exact .none ⟨h6,h5,h4,fun e => h1 (.inl e),fun e => h1 (.inr e)⟩ (fun e => absurd e h2) (fun e a => h8 ⟨e,a⟩)
theorem pD {l : List Tk} {w : List UInt8} (h : (hd l).kind=2∨(hd l).kind=8) (ht : (hd l).text=w) : isT w l=true:=by
 unfold isT
 rw [ht]
 rcases h with h | h <;> rw [h] <;> simp
theorem fS {l : List Tk} {w : List UInt8} (h2 : (hd l).kind=2→(hd l).text≠w) (h8 : (hd l).kind=8→(hd l).text≠w) : ¬ isT w l=true:=fun e => by
 obtain ⟨k,t⟩:=sJ e
 rcases k with k | k
 ·exact h2 k t
 ·exact h8 k t
section
variable {nest : Nat} {l : List Tk}
theorem eK (nest : Nat) (l : List Tk) : rd .atom nest l=qN rd .atom nest l:=lW .atom nest l
theorem a1x (h : (hd l).kind=6) : rd .atom nest l=.ok (mkN 5 [] (hd l).n [] (hd l).pos,b9 l):=(eK nest l).trans (if_pos h)
theorem a1S (h : (hd l).kind=5) : rd .atom nest l=.ok (mkN 6 [] (hd l).n [] (hd l).pos,b9 l):=(eK nest l).trans ((if_neg (by omega)).trans (if_pos h))
theorem a1N (h : (hd l).kind=4) : rd .atom nest l=.ok (mkN 7 (hd l).text 0 [] (hd l).pos,b9 l):=(eK nest l).trans ((if_neg (by omega)).trans ((if_neg (by omega)).trans (if_pos h)))
theorem a1i (h : (hd l).kind=1∨(hd l).kind=3) : rd .atom nest l=if isT J7 (b9 l)=true then (rd (.args []) nest (b9 (b9 l))).then fun a r => made (mkN 11 (hd l).text 0 a.kids (hd l).pos) r else .ok (mkN 10 (hd l).text 0 [] (hd l).pos,b9 l) :=
 (eK nest l).trans ((if_neg (by omega)).trans ((if_neg (by omega)).trans ((if_neg (by omega)).trans (if_pos h))))
theorem cJ (h : (hd l).kind=2∨(hd l).kind=8) (x : Rd) (hx : (if isT fW l=true then .ok (mkN 8 [] 1 [] (hd l).pos,b9 l)
 else if isT cZ l=true then .ok (mkN 8 [] 0 [] (hd l).pos,b9 l)
 else if isT gU l=true then U0 7 (b9 l) fun s r => .ok (mkN 9 s.text 0 [] (hd l).pos,r)
 else if isT gL l=true then rZ nest (b9 l) (hd l).pos
 else if isT J7 l=true then (rd .expr nest (b9 l)).then fun x r => o8 O9 r fun r => .ok (x,r)
 else .error (74,(hd l).pos))=x) : rd .atom nest l=x:=(eK nest l).trans ((if_neg (by omega)).trans ((if_neg (by omega)).trans ((if_neg (by omega)).trans ((if_neg (by omega)).trans hx))))
theorem a1O (h : (hd l).kind=2) (t : (hd l).text=fW) : rd .atom nest l=.ok (mkN 8 [] 1 [] (hd l).pos,b9 l):=cJ (.inl h) _ (if_pos (pD (.inl h) t))
theorem nV (h : (hd l).kind=2) {w v : List UInt8} (t : (hd l).text=w) (hne : w≠v) : ¬ isT v l=true:=fS (fun _ => t ▸ hne) (fun e => by omega)
theorem a4m (h : (hd l).kind=2) (t : (hd l).text=cZ) : rd .atom nest l=.ok (mkN 8 [] 0 [] (hd l).pos,b9 l):=cJ (.inl h) _ ((if_neg (nV h t (by decide))).trans (if_pos (pD (.inl h) t)))
theorem a0a (h : (hd l).kind=2) (t : (hd l).text=gU) : rd .atom nest l=U0 7 (b9 l) fun s r => .ok (mkN 9 s.text 0 [] (hd l).pos,r) :=
 cJ (.inl h) _ ((if_neg (nV h t (by decide))).trans ((if_neg (nV h t (by decide))).trans (if_pos (pD (.inl h) t))))
theorem a0k (h : (hd l).kind=2) (t : (hd l).text=gL) : rd .atom nest l=rZ nest (b9 l) (hd l).pos :=
 cJ (.inl h) _ ((if_neg (nV h t (by decide))).trans ((if_neg (nV h t (by decide))).trans ((if_neg (nV h t (by decide))).trans (if_pos (pD (.inl h) t)))))
theorem vN (_hz : TkZ (hd l)) (h : (hd l).kind=8) (t : (hd l).text=J7) : rd .atom nest l=(rd .expr nest (b9 l)).then fun x r => o8 O9 r fun r => .ok (x,r):=by
 have no : ∀ v,J7≠v→¬ isT v l=true:=fun v hv => fS (fun e => by omega) (fun _ => t ▸ hv)
 exact cJ (.inr h) _ ((if_neg (no _ (by decide))).trans ((if_neg (no _ (by decide))).trans ((if_neg (no _ (by decide))).trans ((if_neg (no _ (by decide))).trans (if_pos (pD (.inr h) t))))))
theorem zC (hz : TkZ (hd l)) (h1 : (hd l).kind≠6∧(hd l).kind≠5∧(hd l).kind≠4∧(hd l).kind≠1∧(hd l).kind≠3) (h2 : (hd l).kind=2→(hd l).text≠fW∧(hd l).text≠cZ∧(hd l).text≠gU∧(hd l).text≠gL) (h8 : (hd l).kind=8→(hd l).text≠J7) : rd .atom nest l=.error (74,(hd l).pos) :=
 (eK nest l).trans ((if_neg h1.1).trans ((if_neg h1.2.1).trans ((if_neg h1.2.2.1).trans ((if_neg (by omega)).trans ((if_neg (fS (fun e => (h2 e).1) (fun e => (hz.sign e).1))).trans ((if_neg (fS (fun e => (h2 e).2.1) (fun e => (hz.sign e).2.1))).trans
   ((if_neg (fS (fun e => (h2 e).2.2.1) (fun e => (hz.sign e).2.2.1))).trans ((if_neg (fS (fun e => (h2 e).2.2.2) (fun e => (hz.sign e).2.2.2))).trans (if_neg (fS hz.word h8))))))))))
end
end
section
open Lib (hid)
open Go.RowKit
theorem R8 {av : Nat→Prop} {W : World} {k n p : Int} {s : List UInt8} (hk : (Lit.int .i64 k).wf=true) (hs : s.length≤16384) (hn : (Lit.int .i64 n).wf=true) (hp : (Lit.int .i64 p).wf=true) : (mkN k s n [] p).lies av W none 0 :=
 Nd.lies.mk' hk (by show s.toArray.size≤maxLen; unfold maxLen; simp; omega) hn hp (Nat.le_refl _) (by unfold maxLen; decide) trivial
theorem Q8 (k : Int) (s : List UInt8) (n p : Int) : i8 (mkN k s n [] p)=1:=by
 unfold mkN; rw [i8,o2]
theorem a1G (k : Int) (s : List UInt8) (n p : Int) (ks : List Nd) : i8 (mkN k s n ks p)=o2 ks + 1:=by
 unfold mkN; rw [i8]
theorem iB {t : Nd} (h : i8 t≤100) (σ : Sx) : dV t σ=σ:=by
 cases σ with
 | error e => rfl
 | ok r => exact if_neg (by omega)
theorem a3U (P g cap : Nat) (ts : List Tk) (nest : Nat) (σ : Sx) (t : Nd) (w : World) (hn : nest≤300) (h : SP P g cap ts nest σ w) (_hk : t.kids.length=0) (hd : i8 t≤100) (hl : t.lies (fun _ => False) w none 0) :
 Calls Tryz.prog 105 #[.pointer (some ⟨P,0,none⟩),.agg #[.int .i64 t.kind,.string t.text,.int .i64 t.n,.slice none t.kids.length 0,.int .i64 t.place]] w (a2Y P g cap ts nest σ t none 0 w) :=
 nT P g cap ts nest σ t none 0 w hn h fun _ _ => ⟨by omega,_,fun _ hb => hb.elim,hl⟩
theorem a07 (P g cap : Nat) (ts : List Tk) (he : bJ ts) (htk : ∀ t∈ts,bG t) (htz : ∀ t∈ts,TkZ t) (l : List Tk) (hE : ∀ r,r.length<l.length→CE P g cap ts r) : CA P g cap ts l:=by
 intro nest w hn h
 have P0:=hid h
 have HP:=hid (show w.heap.size≠P∧w.heap.size≠g from ⟨Nat.ne_of_gt h.blocks.1,Nat.ne_of_gt h.blocks.2⟩)
 have HEx:=hid hE
 have HTK:=hid htk
 have HTZ:=hid htz
 obtain ⟨X,hX⟩ : ∃ X,X=rd .atom nest l:=⟨_,rfl⟩
 rw [← hX]
 have HX:=hid hX
 obtain ⟨W1,hW1⟩ : ∃ W,W=w.alloc (.cells #[.int .i64 0,.string ⟨#[]⟩,.int .i64 0,.slice none 0 0,.int .i64 0] 24):=⟨_,rfl⟩
 have B1:=hid (show c6 w.heap.size nd0 none 0 W1 from hW1 ▸ c6.make w nd0 none 0)
 have E1:=hid (show Below w.heap.size w W1 from hW1 ▸ a7 _ _)
 have S1:=hid (c9 (r:=some P) E1)
 have P1:=hid (P0.out.below E1)
 obtain ⟨i,-,hp⟩:=P1.out.ok
 obtain ⟨⟨p0,p1,p2,p3,p4⟩,-⟩:=hp.cells
 have hpl:=hp.plt
 have C2:=hid (eN P g cap ts nest (.ok l) W1 P1)
 clear h hE htk htz hX hp
 subst hW1
 go_enter Tryz.func179,Tryz.ntmps179
 go_wp2_with fail
 (with_reducible refine Calls.mono C2.out ?_)
 rintro e W2 ⟨T,rfl,hb,hT⟩
 obtain ⟨W1,hW1⟩ : ∃ W,W=w.alloc (.cells #[.int .i64 0,.string ⟨#[]⟩,.int .i64 0,.slice none 0 0,.int .i64 0] 24):=⟨_,rfl⟩
 rw [← hW1] at B1 E1 S1 P1 hb
 have HT:=hid (hT l rfl)
 have S2:=hid (c9 (r:=some P) hb)
 have P2:=hid (P1.out.below hb)
 have B2:=hid (B1.out.below hb)
 clear hb hT p0 p1 p2 p3 p4 hpl C2 hW1
 have HT0:=hid (show bG T from HT.out ▸ HTK.out _ P1.out.mem)
 have HTz:=hid (show TkZ T from HT.out ▸ HTZ.out _ P1.out.mem)
 obtain ⟨W3,hW3⟩ : ∃ W,W=W2.alloc (.cells #[.int .i64 T.kind,.string ⟨T.text.toArray⟩,.int .i64 T.n,.int .i64 T.pos] 108):=⟨_,rfl⟩
 have B3:=hid (show D5 W2.heap.size T W3 from hW3 ▸ D5.make W2 T)
 have E3:=hid (show Below W2.heap.size W2 W3 from hW3 ▸ a7 _ _)
 have S3:=hid (c9 (r:=some P) E3)
 have P3:=hid (P2.out.below E3)
 unfold tkV
 go_upto_region 4 with fail
 rw [← hW3]
 clear hW3
 obtain ⟨⟨t0,t1,t2,t3⟩,-⟩:=B3.out.cells
 have hl3 : W2.heap.size<W3.heap.size:=B3.out.lt
 obtain ⟨W4,hW4⟩ : ∃ W,W=W3.alloc (.cells #[.int .i64 0,.string ⟨#[]⟩,.int .i64 T.n,.slice none 0 0,.int .i64 T.pos] 24):=⟨_,rfl⟩
 have B4:=hid (show c6 W3.heap.size (mkN 0 [] T.n [] T.pos) none 0 W4 from hW4 ▸ c6.make W3 (mkN 0 [] T.n [] T.pos) none 0)
 have E4:=hid (show Below W3.heap.size W3 W4 from hW4 ▸ a7 _ _)
 have S4:=hid (c9 (r:=some P) E4)
 have P4:=hid (P3.out.below E4)
 go_upto_region 7 with fail
 rw [← hW4]
 clear hW4 t0 t1 t2 t3 hl3
 have S13:=hid (show w.grownBy W3 (some P) from a6 (a6 S1 S2) S3)
 have T4:=hid (show D5 W2.heap.size T W4 from B3.out.below E4)
 have N4:=hid (show c6 w.heap.size nd0 none 0 W4 from (B2.out.below E3).below E4)
 have hP3:=hid (show P<W2.heap.size∧g<W2.heap.size∧P<W3.heap.size∧g<W3.heap.size by have h2:=P2.out.blocks; have h3:=P3.out.blocks; omega)
 have hLT:=hid (show w.heap.size<W2.heap.size∧W2.heap.size<W3.heap.size from ⟨B2.out.lt,B3.out.lt⟩)
 have hsz : w.heap.size<W2.heap.size∧W2.heap.size<W3.heap.size∧W3.heap.size<W4.heap.size:=⟨hLT.out.1,hLT.out.2,B4.out.lt⟩
 obtain ⟨⟨t0,t1,t2,t3⟩,-⟩:=T4.out.cells
 obtain ⟨⟨n0,n1,n2,n3,n4⟩,⟨e0,e1,e2,e3,e4⟩⟩:=B4.out.cells
 clear S1 S2 S3 S4 P1 P2 P3 B1 B2 B3 E1 E3 HTZ
 rcases a0r T with hk | hk | hk | ⟨hk,ht⟩ | ⟨hk,ht⟩ | ⟨hk,ht⟩ | ⟨hk,ht⟩ | hk | ⟨hk,ht⟩ | ⟨hk,h2,h8⟩
 case' num =>
  have k6 : (T.kind == 6)=true:=by rw [hk]; rfl
  have k5 : (T.kind == 5)=false:=by rw [hk]; rfl
  have k4 : (T.kind == 4)=false:=by rw [hk]; rfl
  have k2 : (T.kind == 2)=false:=by rw [hk]; rfl
  have k1 : (T.kind == 1)=false:=by rw [hk]; rfl
  have k3 : (T.kind == 3)=false:=by rw [hk]; rfl
  have k8 : (T.kind == 8)=false:=by rw [hk]; rfl
  have hz : T.n=T.n:=rfl
  obtain ⟨W5,hW5⟩ : ∃ W,W=(W4.setCell ⟨W3.heap.size,0,none⟩ (.int .i64 5)):=⟨_,rfl⟩
  have hN : c6 W3.heap.size (mkN 5 [] T.n [] T.pos) none 0 W5:=by rw [hW5]; exact (j9 B4 0 (.int .i64 5))
  have G5:=hid (show w.grownBy W5 (some P) from a6 S13 (by rw [hW5]; exact (p7 (c9 (r:=some P) E4) (Nat.le_refl _) 0 (.int .i64 5))))
  have P5:=hid (show SP P g cap ts nest (.ok l) W5 from P4.out.keeps (by rw [hW5]; exact (by have hav : ∀ b,b=P∨b=g→b≠W3.heap.size:=fun b hb e => by { subst e; have:=hP3.out; omega }; exact ((f8.refl _ W4).set hav 0 (.int .i64 5)))) (by rw [hW5]; simp [World.setCell]))
  have N5:=hid (show c6 w.heap.size nd0 none 0 W5 by rw [hW5]; exact (N4.out.set (by have:=hLT.out; omega) 0 (.int .i64 5)))
  have hl5 : W3.heap.size<W5.heap.size:=hN.lt
  have hX : X=.ok (mkN 5 [] T.n [] T.pos,b9 l):=by
   rw [HX.out,a1x (HT.out ▸ hk),← HT.out]
  have HTs:=hid (show (Lit.int .i64 (mkN 5 [] T.n [] T.pos).n).wf=true from HT0.out.1)
  have HND:=hid (show (mkN 5 [] T.n [] T.pos).kids.length=0∧i8 (mkN 5 [] T.n [] T.pos)≤100∧∀ w,(mkN 5 [] T.n [] T.pos).lies (fun _ => False) w none 0 from ⟨rfl,by rw [Q8]; decide,fun w => R8 rfl (by decide) HTs HT0.out.2.1⟩)
  clear hk hz HTs
  go_upto_region 37 with fail
  rw [← hW5]
  clear hW5
  obtain ⟨N,hNd⟩ : ∃ N,N=mkN 5 [] T.n [] T.pos:=⟨_,rfl⟩
  rw [← hNd] at hN hX HND
  clear hNd k6 k5 k4 k2 k1 k3 k8
 case' day =>
  have k6 : (T.kind == 6)=false:=by rw [hk]; rfl
  have k5 : (T.kind == 5)=true:=by rw [hk]; rfl
  have k4 : (T.kind == 4)=false:=by rw [hk]; rfl
  have k2 : (T.kind == 2)=false:=by rw [hk]; rfl
  have k1 : (T.kind == 1)=false:=by rw [hk]; rfl
  have k3 : (T.kind == 3)=false:=by rw [hk]; rfl
  have k8 : (T.kind == 8)=false:=by rw [hk]; rfl
  have hz : T.n=T.n:=rfl
  obtain ⟨W5,hW5⟩ : ∃ W,W=(W4.setCell ⟨W3.heap.size,0,none⟩ (.int .i64 6)):=⟨_,rfl⟩
  have hN : c6 W3.heap.size (mkN 6 [] T.n [] T.pos) none 0 W5:=by rw [hW5]; exact (j9 B4 0 (.int .i64 6))
  have G5:=hid (show w.grownBy W5 (some P) from a6 S13 (by rw [hW5]; exact (p7 (c9 (r:=some P) E4) (Nat.le_refl _) 0 (.int .i64 6))))
  have P5:=hid (show SP P g cap ts nest (.ok l) W5 from P4.out.keeps (by rw [hW5]; exact (by have hav : ∀ b,b=P∨b=g→b≠W3.heap.size:=fun b hb e => by { subst e; have:=hP3.out; omega }; exact ((f8.refl _ W4).set hav 0 (.int .i64 6)))) (by rw [hW5]; simp [World.setCell]))
  have N5:=hid (show c6 w.heap.size nd0 none 0 W5 by rw [hW5]; exact (N4.out.set (by have:=hLT.out; omega) 0 (.int .i64 6)))
  have hl5 : W3.heap.size<W5.heap.size:=hN.lt
  have hX : X=.ok (mkN 6 [] T.n [] T.pos,b9 l):=by
   rw [HX.out,a1S (HT.out ▸ hk),← HT.out]
  have HTs:=hid (show (Lit.int .i64 (mkN 6 [] T.n [] T.pos).n).wf=true from HT0.out.1)
  have HND:=hid (show (mkN 6 [] T.n [] T.pos).kids.length=0∧i8 (mkN 6 [] T.n [] T.pos)≤100∧∀ w,(mkN 6 [] T.n [] T.pos).lies (fun _ => False) w none 0 from ⟨rfl,by rw [Q8]; decide,fun w => R8 rfl (by decide) HTs HT0.out.2.1⟩)
  clear hk hz HTs
  go_upto_region 37 with fail
  rw [← hW5]
  clear hW5
  obtain ⟨N,hNd⟩ : ∃ N,N=mkN 6 [] T.n [] T.pos:=⟨_,rfl⟩
  rw [← hNd] at hN hX HND
  clear hNd k6 k5 k4 k2 k1 k3 k8
 case' cur =>
  have k6 : (T.kind == 6)=false:=by rw [hk]; rfl
  have k5 : (T.kind == 5)=false:=by rw [hk]; rfl
  have k4 : (T.kind == 4)=true:=by rw [hk]; rfl
  have k2 : (T.kind == 2)=false:=by rw [hk]; rfl
  have k1 : (T.kind == 1)=false:=by rw [hk]; rfl
  have k3 : (T.kind == 3)=false:=by rw [hk]; rfl
  have k8 : (T.kind == 8)=false:=by rw [hk]; rfl
  have hz : T.n=T.n:=rfl
  obtain ⟨W5,hW5⟩ : ∃ W,W=((W4.setCell ⟨W3.heap.size,0,none⟩ (.int .i64 7)).setCell ⟨W3.heap.size,1,none⟩ (.string ⟨T.text.toArray⟩)):=⟨_,rfl⟩
  have hN : c6 W3.heap.size (mkN 7 T.text T.n [] T.pos) none 0 W5:=by rw [hW5]; exact (j9 (j9 B4 0 (.int .i64 7)) 1 (.string ⟨T.text.toArray⟩))
  have G5:=hid (show w.grownBy W5 (some P) from a6 S13 (by rw [hW5]; exact (p7 (p7 (c9 (r:=some P) E4) (Nat.le_refl _) 0 (.int .i64 7)) (Nat.le_refl _) 1 (.string ⟨T.text.toArray⟩))))
  have P5:=hid (show SP P g cap ts nest (.ok l) W5 from P4.out.keeps (by rw [hW5]; exact (by have hav : ∀ b,b=P∨b=g→b≠W3.heap.size:=fun b hb e => by { subst e; have:=hP3.out; omega }; exact (((f8.refl _ W4).set hav 0 (.int .i64 7)).set hav 1 (.string ⟨T.text.toArray⟩)))) (by rw [hW5]; simp [World.setCell]))
  have N5:=hid (show c6 w.heap.size nd0 none 0 W5 by rw [hW5]; exact ((N4.out.set (by have:=hLT.out; omega) 0 (.int .i64 7)).set (by have:=hLT.out; omega) 1 (.string ⟨T.text.toArray⟩)))
  have hl5 : W3.heap.size<W5.heap.size:=hN.lt
  have hX : X=.ok (mkN 7 T.text T.n [] T.pos,b9 l):=by
   rw [HX.out,a1N (HT.out ▸ hk),← HT.out]; rw [(HTz.out.zero (.inl hk))]
  have HTs:=hid (show (Lit.int .i64 (mkN 7 T.text T.n [] T.pos).n).wf=true from HT0.out.1)
  have HND:=hid (show (mkN 7 T.text T.n [] T.pos).kids.length=0∧i8 (mkN 7 T.text T.n [] T.pos)≤100∧∀ w,(mkN 7 T.text T.n [] T.pos).lies (fun _ => False) w none 0 from ⟨rfl,by rw [Q8]; decide,fun w => R8 rfl HT0.out.2.2 HTs HT0.out.2.1⟩)
  clear hk hz HTs
  go_upto_region 37 with fail
  rw [← hW5]
  clear hW5
  obtain ⟨N,hNd⟩ : ∃ N,N=mkN 7 T.text T.n [] T.pos:=⟨_,rfl⟩
  rw [← hNd] at hN hX HND
  clear hNd k6 k5 k4 k2 k1 k3 k8
 case' yes =>
  have k6 : (T.kind == 6)=false:=by rw [hk]; rfl
  have k5 : (T.kind == 5)=false:=by rw [hk]; rfl
  have k4 : (T.kind == 4)=false:=by rw [hk]; rfl
  have k2 : (T.kind == 2)=true:=by rw [hk]; rfl
  have k1 : (T.kind == 1)=false:=by rw [hk]; rfl
  have k3 : (T.kind == 3)=false:=by rw [hk]; rfl
  have k8 : (T.kind == 8)=false:=by rw [hk]; rfl
  have x_yes : (T.text == [116,114,117,101])=true:=by rw [ht]; rfl
  have x_no : (T.text == [102,97,108,115,101])=false:=by rw [ht]; rfl
  have x_feed : (T.text == [102,101,101,100])=false:=by rw [ht]; rfl
  have x_pick : (T.text == [112,105,99,107])=false:=by rw [ht]; rfl
  have x_paren : (T.text == [40])=false:=by rw [ht]; rfl
  have hz : T.n=T.n:=rfl
  obtain ⟨W5,hW5⟩ : ∃ W,W=((W4.setCell ⟨W3.heap.size,0,none⟩ (.int .i64 8)).setCell ⟨W3.heap.size,2,none⟩ (.int .i64 1)):=⟨_,rfl⟩
  have hN : c6 W3.heap.size (mkN 8 [] 1 [] T.pos) none 0 W5:=by rw [hW5]; exact (j9 (j9 B4 0 (.int .i64 8)) 2 (.int .i64 1))
  have G5:=hid (show w.grownBy W5 (some P) from a6 S13 (by rw [hW5]; exact (p7 (p7 (c9 (r:=some P) E4) (Nat.le_refl _) 0 (.int .i64 8)) (Nat.le_refl _) 2 (.int .i64 1))))
  have P5:=hid (show SP P g cap ts nest (.ok l) W5 from P4.out.keeps (by rw [hW5]; exact (by have hav : ∀ b,b=P∨b=g→b≠W3.heap.size:=fun b hb e => by { subst e; have:=hP3.out; omega }; exact (((f8.refl _ W4).set hav 0 (.int .i64 8)).set hav 2 (.int .i64 1)))) (by rw [hW5]; simp [World.setCell]))
  have N5:=hid (show c6 w.heap.size nd0 none 0 W5 by rw [hW5]; exact ((N4.out.set (by have:=hLT.out; omega) 0 (.int .i64 8)).set (by have:=hLT.out; omega) 2 (.int .i64 1)))
  have hl5 : W3.heap.size<W5.heap.size:=hN.lt
  have hX : X=.ok (mkN 8 [] 1 [] T.pos,b9 l):=by
   rw [HX.out,a1O (HT.out ▸ hk) (HT.out ▸ ht),← HT.out]
  have HTs:=hid (show (Lit.int .i64 (mkN 8 [] 1 [] T.pos).n).wf=true from rfl)
  have HND:=hid (show (mkN 8 [] 1 [] T.pos).kids.length=0∧i8 (mkN 8 [] 1 [] T.pos)≤100∧∀ w,(mkN 8 [] 1 [] T.pos).lies (fun _ => False) w none 0 from ⟨rfl,by rw [Q8]; decide,fun w => R8 rfl (by decide) HTs HT0.out.2.1⟩)
  clear hk ht hz HTs
  go_upto_region 37 with fail
  rw [← hW5]
  clear hW5
  obtain ⟨N,hNd⟩ : ∃ N,N=mkN 8 [] 1 [] T.pos:=⟨_,rfl⟩
  rw [← hNd] at hN hX HND
  clear hNd k6 k5 k4 k2 k1 k3 k8 x_yes x_no x_feed x_pick x_paren
 case' no =>
  have k6 : (T.kind == 6)=false:=by rw [hk]; rfl
  have k5 : (T.kind == 5)=false:=by rw [hk]; rfl
  have k4 : (T.kind == 4)=false:=by rw [hk]; rfl
  have k2 : (T.kind == 2)=true:=by rw [hk]; rfl
  have k1 : (T.kind == 1)=false:=by rw [hk]; rfl
  have k3 : (T.kind == 3)=false:=by rw [hk]; rfl
  have k8 : (T.kind == 8)=false:=by rw [hk]; rfl
  have x_yes : (T.text == [116,114,117,101])=false:=by rw [ht]; rfl
  have x_no : (T.text == [102,97,108,115,101])=true:=by rw [ht]; rfl
  have x_feed : (T.text == [102,101,101,100])=false:=by rw [ht]; rfl
  have x_pick : (T.text == [112,105,99,107])=false:=by rw [ht]; rfl
  have x_paren : (T.text == [40])=false:=by rw [ht]; rfl
  have hz : T.n=T.n:=rfl
  obtain ⟨W5,hW5⟩ : ∃ W,W=(W4.setCell ⟨W3.heap.size,0,none⟩ (.int .i64 8)):=⟨_,rfl⟩
  have hN : c6 W3.heap.size (mkN 8 [] T.n [] T.pos) none 0 W5:=by rw [hW5]; exact (j9 B4 0 (.int .i64 8))
  have G5:=hid (show w.grownBy W5 (some P) from a6 S13 (by rw [hW5]; exact (p7 (c9 (r:=some P) E4) (Nat.le_refl _) 0 (.int .i64 8))))
  have P5:=hid (show SP P g cap ts nest (.ok l) W5 from P4.out.keeps (by rw [hW5]; exact (by have hav : ∀ b,b=P∨b=g→b≠W3.heap.size:=fun b hb e => by { subst e; have:=hP3.out; omega }; exact ((f8.refl _ W4).set hav 0 (.int .i64 8)))) (by rw [hW5]; simp [World.setCell]))
  have N5:=hid (show c6 w.heap.size nd0 none 0 W5 by rw [hW5]; exact (N4.out.set (by have:=hLT.out; omega) 0 (.int .i64 8)))
  have hl5 : W3.heap.size<W5.heap.size:=hN.lt
  have hX : X=.ok (mkN 8 [] T.n [] T.pos,b9 l):=by
   rw [HX.out,a4m (HT.out ▸ hk) (HT.out ▸ ht),← HT.out]; rw [(HTz.out.zero (.inr hk))]
  have HTs:=hid (show (Lit.int .i64 (mkN 8 [] T.n [] T.pos).n).wf=true from HT0.out.1)
  have HND:=hid (show (mkN 8 [] T.n [] T.pos).kids.length=0∧i8 (mkN 8 [] T.n [] T.pos)≤100∧∀ w,(mkN 8 [] T.n [] T.pos).lies (fun _ => False) w none 0 from ⟨rfl,by rw [Q8]; decide,fun w => R8 rfl (by decide) HTs HT0.out.2.1⟩)
  clear hk ht hz HTs
  go_upto_region 37 with fail
  rw [← hW5]
  clear hW5
  obtain ⟨N,hNd⟩ : ∃ N,N=mkN 8 [] T.n [] T.pos:=⟨_,rfl⟩
  rw [← hNd] at hN hX HND
  clear hNd k6 k5 k4 k2 k1 k3 k8 x_yes x_no x_feed x_pick x_paren
 case num | day | cur | yes | no =>
  have HX':=hid hX
  have HN:=hid hN
  clear hX hN t0 t1 t2 t3 n0 n1 n2 n3 n4 e0 e1 e2 e3 e4 hsz
  have C6:=hid (O3 P g cap ts nest (.ok l) W5 P5 he)
  go_wp2_with fail
  (with_reducible refine Calls.mono C6.out ?_)
  rintro e W6 ⟨S,rfl,hs,hg,-⟩
  have P6:=hid (show SP P g cap ts nest (.ok (b9 l)) W6 from hs)
  have G6:=hid (a6 G5 hg)
  have N6:=hid (N5.out.grown hg HP.out.1)
  obtain ⟨⟨n0,n1,n2,n3,n4⟩,-⟩:=(HN.out.grown hg (Nat.ne_of_gt hP3.out.2.2.1)).cells
  have CM:=hid (a3U P g cap ts nest (.ok (b9 l)) N W6 hn P6 HND.out.1 HND.out.2.1 (HND.out.2.2 W6))
  clear hs hg C6
  unfold tkV
  go_wp2_with fail
  (with_reducible refine Calls.mono CM.out ?_)
  rintro e W7 ⟨rfl,hs,hg⟩
  rw [iB HND.out.2.1] at hs
  have P7:=hid hs
  have G7:=hid (a6 G6 hg)
  have N7:=hid (N6.out.grown hg HP.out.1)
  obtain ⟨⟨z0,z1,z2,z3,z4⟩,⟨f0,f1,f2,f3,f4⟩⟩:=N7.out.cells
  have hsz : w.heap.size<W7.heap.size:=N7.out.lt
  clear hs hg CM n0 n1 n2 n3 n4
  unfold Nd.val
  go_wp2_with fail
  refine bodyPost_ret (v:=N.val none 0) (by simp [results,Tryz.results179,go_sem,Nd.val,z0,z1,z2,z3,z4]) rfl ?_
  rw [HX'.out]
  refine RdP.fin P7 G7 HP (Nat.le_refl _) fun t' r hx => ?_
  cases hx
  exact ⟨rfl,⟨_,fun c hc => hc.elim,HND.out.2.2 W7⟩,HND.out.2.1⟩
 case feed =>
  have k6 : (T.kind == 6)=false:=by rw [hk]; rfl
  have k5 : (T.kind == 5)=false:=by rw [hk]; rfl
  have k4 : (T.kind == 4)=false:=by rw [hk]; rfl
  have k2 : (T.kind == 2)=true:=by rw [hk]; rfl
  have k1 : (T.kind == 1)=false:=by rw [hk]; rfl
  have k3 : (T.kind == 3)=false:=by rw [hk]; rfl
  have k8 : (T.kind == 8)=false:=by rw [hk]; rfl
  have x_yes : (T.text == [116,114,117,101])=false:=by rw [ht]; rfl
  have x_no : (T.text == [102,97,108,115,101])=false:=by rw [ht]; rfl
  have x_feed : (T.text == [102,101,101,100])=true:=by rw [ht]; rfl
  have x_pick : (T.text == [112,105,99,107])=false:=by rw [ht]; rfl
  have x_paren : (T.text == [40])=false:=by rw [ht]; rfl
  have HR:=hid (show X=U0 7 (b9 l) fun s r => .ok (mkN 9 s.text 0 [] T.pos,r) by rw [HX.out,a0a (HT.out ▸ hk) (HT.out ▸ ht),HT.out])
  clear hk ht
  have C5:=hid (O3 P g cap ts nest (.ok l) W4 P4 he)
  go_wp2_with fail
  (with_reducible refine Calls.mono C5.out ?_)
  rintro e W5 ⟨S,rfl,hs,hg,-⟩
  have P5:=hid (show SP P g cap ts nest (.ok (b9 l)) W5 from hs)
  have G5:=hid (a6 S13 (a6 (c9 E4) hg))
  have P5g:=hid hg
  have N5:=hid (N4.out.grown hg HP.out.1)
  have T5:=hid (T4.out.grown hg (Nat.ne_of_gt hP3.out.1))
  have hl5:=hid (show W2.heap.size<W5.heap.size from T5.out.lt)
  clear hs hg C5 t0 t1 t2 t3 n0 n1 n2 n3 n4 e0 e1 e2 e3 e4 hsz
  unfold tkV
  clear k6 k5 k4 k2 k1 k3 k8 x_yes x_no x_feed x_pick x_paren
  have C6:=hid (aX P g cap ts nest (.ok (b9 l)) 7 W5 hn P5 he)
  go_wp2_with fail
  (with_reducible refine Calls.mono C6.out ?_)
  rintro e W6 ⟨S,rfl,hs,hg,hS⟩
  have HS:=hid (show S=hd (b9 l) from hS _ rfl)
  have HS0:=hid (show bG S from HS.out ▸ HTK.out _ P5.out.mem)
  obtain ⟨σ1,hσ1⟩ : ∃ σ,σ=x6 7 (.ok (b9 l)):=⟨_,rfl⟩
  rw [← hσ1] at hs
  have Q1:=hid hσ1
  have P6:=hid hs
  have G6:=hid (a6 G5 hg)
  have N6:=hid (N5.out.grown hg HP.out.1)
  have T6:=hid (T5.out.grown hg (Nat.ne_of_gt hP3.out.1))
  clear hs hg hS hσ1 C6
  obtain ⟨W7,hW7⟩ : ∃ W,W=W6.alloc (.cells #[.int .i64 S.kind,.string ⟨S.text.toArray⟩,.int .i64 S.n,.int .i64 S.pos] 108):=⟨_,rfl⟩
  have B7:=hid (show D5 W6.heap.size S W7 from hW7 ▸ D5.make W6 S)
  have E7:=hid (show Below W6.heap.size W6 W7 from hW7 ▸ a7 _ _)
  have P7:=hid (P6.out.below E7)
  have N7:=hid (N6.out.below E7)
  have T7:=hid (T6.out.below E7)
  have G7:=hid (c8 G6 (E7.out.mono G6.out.size))
  have HD:=hid (show i8 (mkN 9 S.text 0 [] T.pos)≤100∧∀ w,(mkN 9 S.text 0 [] T.pos).lies (fun _ => False) w none 0 from ⟨by rw [Q8]; decide,fun w => R8 rfl HS0.out.2.2 rfl HT0.out.2.1⟩)
  have CM:=hid (bT P g cap ts nest σ1 9 S.text 0 [] T.pos none 0 0 rfl W7 hn P7 fun r hr => ⟨Nat.le_trans HD.out.1 (by decide),_,fun b hb => hb.elim,HD.out.2 W7⟩)
  obtain ⟨⟨t0,t1,t2,t3⟩,-⟩:=T7.out.cells
  have hl6 : W2.heap.size<W6.heap.size:=T6.out.lt
  unfold tkV
  subst hW7
  go_wp2_with fail
  (with_reducible refine Calls.mono CM.out ?_)
  rintro e W9 ⟨rfl,hs,hg⟩
  have P9:=hid hs
  have G9:=hid (a6 G7 hg)
  have N9:=hid (N7.out.grown hg HP.out.1)
  obtain ⟨⟨z0,z1,z2,z3,z4⟩,⟨f0,f1,f2,f3,f4⟩⟩:=N9.out.cells
  have hsz : w.heap.size<W9.heap.size:=N9.out.lt
  clear hs CM t0 t1 t2 t3
  rw [iB HD.out.1] at P9; clear hg
  rw [show (mkN 9 S.text 0 [] T.pos).val none 0=.agg #[.int .i64 9,.string ⟨List.toArray S.text⟩,.int .i64 0,.slice none 0 0,.int .i64 T.pos] from rfl]
  go_wp2_with fail
  refine bodyPost_ret (v:=(mkN 9 S.text 0 [] T.pos).val none 0) (by simp [results,Tryz.results179,go_sem,Nd.val,mkN,Nd.kind,Nd.text,Nd.n,Nd.kids,Nd.place,z0,z1,z2,z3,z4]) rfl ?_
  have hX : X=goX σ1 (fun r => .ok (mkN 9 S.text 0 [] T.pos,r)):=by
   rw [HR.out]
   exact (gO (.ok (b9 l)) 7 (fun s r => (.ok (mkN 9 s.text 0 [] T.pos,r) : Rd)) S (fun r h => by cases h; exact HS)).trans (by rw [← Q1.out])
  refine RdP.fin (by rw [hX,Y6]; exact P9) G9 HP (Nat.le_refl _) fun t' r' hx => ?_
  rw [hX] at hx
  obtain ⟨r0,-,e2⟩:=Q9 hx
  cases e2
  exact ⟨rfl,⟨_,fun c hc => hc.elim,HD.out.2 W9⟩,HD.out.1⟩
 case pick =>
  have k6 : (T.kind == 6)=false:=by rw [hk]; rfl
  have k5 : (T.kind == 5)=false:=by rw [hk]; rfl
  have k4 : (T.kind == 4)=false:=by rw [hk]; rfl
  have k2 : (T.kind == 2)=true:=by rw [hk]; rfl
  have k1 : (T.kind == 1)=false:=by rw [hk]; rfl
  have k3 : (T.kind == 3)=false:=by rw [hk]; rfl
  have k8 : (T.kind == 8)=false:=by rw [hk]; rfl
  have x_yes : (T.text == [116,114,117,101])=false:=by rw [ht]; rfl
  have x_no : (T.text == [102,97,108,115,101])=false:=by rw [ht]; rfl
  have x_feed : (T.text == [102,101,101,100])=false:=by rw [ht]; rfl
  have x_pick : (T.text == [112,105,99,107])=true:=by rw [ht]; rfl
  have x_paren : (T.text == [40])=false:=by rw [ht]; rfl
  have HR:=hid (show X=rZ nest (b9 l) T.pos by rw [HX.out,a0k (HT.out ▸ hk) (HT.out ▸ ht),HT.out])
  clear hk ht
  have C5:=hid (O3 P g cap ts nest (.ok l) W4 P4 he)
  go_wp2_with fail
  (with_reducible refine Calls.mono C5.out ?_)
  rintro e W5 ⟨S,rfl,hs,hg,-⟩
  have P5:=hid (show SP P g cap ts nest (.ok (b9 l)) W5 from hs)
  have G5:=hid (a6 S13 (a6 (c9 E4) hg))
  have P5g:=hid hg
  have N5:=hid (N4.out.grown hg HP.out.1)
  have T5:=hid (T4.out.grown hg (Nat.ne_of_gt hP3.out.1))
  have hl5:=hid (show W2.heap.size<W5.heap.size from T5.out.lt)
  clear hs hg C5 t0 t1 t2 t3 n0 n1 n2 n3 n4 e0 e1 e2 e3 e4 hsz
  unfold tkV
  clear k6 k5 k4 k2 k1 k3 k8 x_yes x_no x_feed x_pick x_paren
  have C6:=hid (rI P g cap ts he HTK (b9 l) T.pos HT0.out.2.1 (fun r hr => HEx.out r (Nat.lt_of_lt_of_le hr (I4 l))) nest W5 hn P5)
  rw [← HR.out] at C6
  obtain ⟨⟨t0,t1,t2,t3⟩,-⟩:=T5.out.cells
  go_wp2_with fail
  (with_reducible refine Calls.mono C6.out ?_)
  rintro e W9 ⟨t,a,cp,rfl,hs,hg,hk⟩
  have P9:=hid hs
  have G9:=hid (a6 G5 hg)
  have N9:=hid (N5.out.grown hg HP.out.1)
  have HK:=hid hk
  obtain ⟨⟨z0,z1,z2,z3,z4⟩,⟨f0,f1,f2,f3,f4⟩⟩:=N9.out.cells
  have hsz : w.heap.size<W9.heap.size:=N9.out.lt
  have HL:=hid (show w.heap.size<W5.heap.size from N5.out.lt)
  clear hs hg hk C6 t0 t1 t2 t3
  unfold Nd.val
  go_wp2_with fail
  refine bodyPost_ret (v:=t.val a cp) (by simp [results,Tryz.results179,go_sem,Nd.val,Nd.kind,Nd.text,Nd.n,Nd.kids,Nd.place,z0,z1,z2,z3,z4]) rfl ?_
  refine RdP.fin P9 G9 HP (Nat.le_refl _) fun t' r' hx => ?_
  obtain ⟨e,hl,hd⟩:=HK.out t' r' hx
  exact ⟨e,⟨_,fun c hc => ⟨fun e => by subst e; have:=hc.1; have:=HL.out; omega,by have:=hc.1; have:=HL.out; omega,hc.2⟩,hl⟩,hd⟩
 case name =>
  have k6 : (T.kind == 6)=false:=beq_eq_false_iff_ne.2 (by omega)
  have k5 : (T.kind == 5)=false:=beq_eq_false_iff_ne.2 (by omega)
  have k4 : (T.kind == 4)=false:=beq_eq_false_iff_ne.2 (by omega)
  have k2 : (T.kind == 2)=false:=beq_eq_false_iff_ne.2 (by omega)
  have HR:=hid (show X=if isT J7 (b9 l)=true then (rd (.args []) nest (b9 (b9 l))).then fun a r => made (mkN 11 T.text 0 a.kids T.pos) r else .ok (mkN 10 T.text 0 [] T.pos,b9 l) by rw [HX.out,a1i (HT.out ▸ hk),HT.out])
  have hk' : (T.kind == 1)=true∨(T.kind == 1)=false∧(T.kind == 3)=true:=by
   rcases hk with hk | hk
   ·exact .inl (by rw [hk]; rfl)
   ·exact .inr ⟨by rw [hk]; rfl,by rw [hk]; rfl⟩
  clear hk
  rcases hk' with k1 | ⟨k1,k3⟩
  all_goals
   have C5:=hid (O3 P g cap ts nest (.ok l) W4 P4 he)
   go_wp2_with fail
   (with_reducible refine Calls.mono C5.out ?_)
   rintro e W5 ⟨S,rfl,hs,hg,-⟩
   have P5:=hid (show SP P g cap ts nest (.ok (b9 l)) W5 from hs)
   have G5:=hid (a6 S13 (a6 (c9 E4) hg))
   have P5g:=hid hg
   have N5:=hid (N4.out.grown hg HP.out.1)
   have T5:=hid (T4.out.grown hg (Nat.ne_of_gt hP3.out.1))
   have hl5:=hid (show W2.heap.size<W5.heap.size from T5.out.lt)
   clear hs hg C5 t0 t1 t2 t3 n0 n1 n2 n3 n4 e0 e1 e2 e3 e4 hsz
   unfold tkV
   clear k6 k5 k4 k2 k1
   try clear k3
   have C6:=hid (cK P g cap ts nest (.ok (b9 l)) ⟨#[40]⟩ W5 P5)
   go_wp2_with fail
   (with_reducible refine Calls.mono C6.out ?_)
   rintro e W6 ⟨b,rfl,hb,hbt⟩
   have HB:=hid (show b=isT J7 (b9 l) from hbt _ rfl)
   have P6:=hid (P5.out.below hb)
   have N6:=hid (N5.out.below hb)
   have T6:=hid (T5.out.below hb)
   have G6:=hid (c8 G5 (hb.mono G5.out.size))
   clear hb hbt C6
   obtain ⟨⟨t0,t1,t2,t3⟩,-⟩:=T6.out.cells
   have hl6 : W2.heap.size<W6.heap.size:=T6.out.lt
   cases b
   case false =>
    have hX:=hid (show X=.ok (mkN 10 T.text 0 [] T.pos,b9 l) by rw [HR.out,if_neg (by rw [← HB.out]; decide)])
    have HD:=hid (show i8 (mkN 10 T.text 0 [] T.pos)≤100∧∀ w,(mkN 10 T.text 0 [] T.pos).lies (fun _ => False) w none 0 from ⟨by rw [Q8]; decide,fun w => R8 rfl HT0.out.2.2 rfl HT0.out.2.1⟩)
    have CM:=hid (bT P g cap ts nest (.ok (b9 l)) 10 T.text 0 [] T.pos none 0 0 rfl W6 hn P6 fun r hr => ⟨Nat.le_trans HD.out.1 (by decide),_,fun b hb => hb.elim,HD.out.2 W6⟩)
    go_wp2_with fail
    (with_reducible refine Calls.mono CM.out ?_)
    rintro e W9 ⟨rfl,hs,hg⟩
    have P9:=hid hs
    have G9:=hid (a6 G6 hg)
    have N9:=hid (N6.out.grown hg HP.out.1)
    obtain ⟨⟨z0,z1,z2,z3,z4⟩,⟨f0,f1,f2,f3,f4⟩⟩:=N9.out.cells
    have hsz : w.heap.size<W9.heap.size:=N9.out.lt
    clear hs CM t0 t1 t2 t3
    rw [iB HD.out.1] at P9; clear hg
    rw [show (mkN 10 T.text 0 [] T.pos).val none 0=.agg #[.int .i64 10,.string ⟨List.toArray T.text⟩,.int .i64 0,.slice none 0 0,.int .i64 T.pos] from rfl]
    go_wp2_with fail
    refine bodyPost_ret (v:=(mkN 10 T.text 0 [] T.pos).val none 0) (by simp [results,Tryz.results179,go_sem,Nd.val,mkN,Nd.kind,Nd.text,Nd.n,Nd.kids,Nd.place,z0,z1,z2,z3,z4]) rfl ?_
    rw [hX.out]
    refine RdP.fin P9 G9 HP (Nat.le_refl _) fun t' r' hx => ?_
    cases hx
    exact ⟨rfl,⟨_,fun c hc => hc.elim,HD.out.2 W9⟩,HD.out.1⟩
   case true =>
    obtain ⟨y,hy⟩ : ∃ y,y=rd (.args []) nest (b9 (b9 l)):=⟨_,rfl⟩
    have hX:=hid (show X=y.then fun a r => made (mkN 11 T.text 0 a.kids T.pos) r by rw [HR.out,if_pos HB.out.symm,hy])
    have C7:=hid (a0s P g cap ts he (b9 l) (fun r hr => HEx.out r (Nat.lt_of_lt_of_le hr (I4 l))) nest W6 hn P6 HB.out.symm)
    rw [← hy] at C7
    clear hy
    go_wp2_with fail
    (with_reducible refine Calls.mono C7.out ?_)
    rintro e W7 ⟨ks,v,cp,rfl,hs,hg,hk⟩
    have P7:=hid hs
    have G7:=hid (a6 G6 hg)
    have N7:=hid (N6.out.grown hg HP.out.1)
    have T7:=hid (T6.out.grown hg (Nat.ne_of_gt hP3.out.1))
    have HK:=hid hk
    have HL:=hid (show w.heap.size<W6.heap.size from N6.out.lt)
    clear hs hg hk C7 t0 t1 t2 t3
    have HD:=hid (show ∀ r,l8 y=.ok r→i8 (mkN 11 T.text 0 ks T.pos)≤101∧(mkN 11 T.text 0 ks T.pos).lies (Fr W6.heap.size W7.heap.size) W7 v cp from fun r hr => by
     obtain ⟨t',ht'⟩:=q6 hr
     obtain ⟨-,⟨h1,h2,h3⟩,h4,h5⟩:=HK.out t' r ht'
     exact ⟨by rw [a1G]; omega,Nd.lies.mk' rfl (by have:=HT0.out.2.2; show T.text.toArray.size≤maxLen; unfold maxLen; simp; omega) rfl HT0.out.2.1 h2 h3 h5⟩)
    have CM:=hid (bT P g cap ts nest (l8 y) 11 T.text 0 ks T.pos v ks.length cp rfl W7 hn P7 fun r hr => ⟨(HD.out r hr).1,_,fun b hb => hb.2,(HD.out r hr).2⟩)
    obtain ⟨⟨t0,t1,t2,t3⟩,-⟩:=T7.out.cells
    have hl7 : W2.heap.size<W7.heap.size:=T7.out.lt
    go_wp2_with fail
    (with_reducible refine Calls.mono CM.out ?_)
    rintro e W9 ⟨rfl,hs,hg⟩
    have P9:=hid hs
    have G9:=hid (a6 G7 hg)
    have N9:=hid (N7.out.grown hg HP.out.1)
    obtain ⟨⟨z0,z1,z2,z3,z4⟩,⟨f0,f1,f2,f3,f4⟩⟩:=N9.out.cells
    have hsz : w.heap.size<W9.heap.size:=N9.out.lt
    clear hs CM t0 t1 t2 t3
    have HG9:=hid hg; clear hg
    rw [show (mkN 11 T.text 0 ks T.pos).val v cp=.agg #[.int .i64 11,.string ⟨List.toArray T.text⟩,.int .i64 0,.slice v ks.length cp,.int .i64 T.pos] from rfl]
    go_wp2_with fail
    refine bodyPost_ret (v:=(mkN 11 T.text 0 ks T.pos).val v cp) (by simp [results,Tryz.results179,go_sem,Nd.val,mkN,Nd.kind,Nd.text,Nd.n,Nd.kids,Nd.place,z0,z1,z2,z3,z4]) rfl ?_
    have hX' : X=goX (l8 y) (made (mkN 11 T.text 0 ks T.pos)):=by
     rw [hX.out]
     cases hy : y with
     | error e => rfl
     | ok p =>
       obtain ⟨t',r⟩:=p
       show made (mkN 11 T.text 0 t'.kids T.pos) r=made (mkN 11 T.text 0 ks T.pos) r
       rw [(HK.out t' r hy).1]
    have hO : l8 X=dV (mkN 11 T.text 0 ks T.pos) (l8 y):=by rw [hX',cI]
    refine RdP.fin (by rw [hO]; exact P9) G9 HP (Nat.le_refl _) fun t' r' hx => ?_
    rw [hX'] at hx
    obtain ⟨e1,e2,e3⟩:=dB _ _ hx
    have hp6:=P6.out.blocks.1
    exact ⟨e1,⟨_,fun c hc => ⟨fun e => by subst e; have:=hc.1; have:=HL.out; omega,by have:=hc.1; have:=HL.out; omega,Nat.lt_of_lt_of_le hc.2 HG9.out.size⟩,d6 (HD.out r' e2).2 ((f8.refl _ _).grown HG9 fun b hb => ⟨hb.2,fun e => by subst e; have:=hb.1; omega⟩) fun b hb => hb⟩,e3⟩
 case paren =>
  have k6 : (T.kind == 6)=false:=by rw [hk]; rfl
  have k5 : (T.kind == 5)=false:=by rw [hk]; rfl
  have k4 : (T.kind == 4)=false:=by rw [hk]; rfl
  have k2 : (T.kind == 2)=false:=by rw [hk]; rfl
  have k1 : (T.kind == 1)=false:=by rw [hk]; rfl
  have k3 : (T.kind == 3)=false:=by rw [hk]; rfl
  have k8 : (T.kind == 8)=true:=by rw [hk]; rfl
  have x_yes : (T.text == [116,114,117,101])=false:=by rw [ht]; rfl
  have x_no : (T.text == [102,97,108,115,101])=false:=by rw [ht]; rfl
  have x_feed : (T.text == [102,101,101,100])=false:=by rw [ht]; rfl
  have x_pick : (T.text == [112,105,99,107])=false:=by rw [ht]; rfl
  have x_paren : (T.text == [40])=true:=by rw [ht]; rfl
  have HR:=hid (show X=(rd .expr nest (b9 l)).then fun x r => o8 O9 r fun r => .ok (x,r) by rw [HX.out,vN (HT.out ▸ HTz.out) (HT.out ▸ hk) (HT.out ▸ ht)])
  have HLn:=hid (show (b9 l).length<l.length from by have:=A9 (pD (l:=l) (.inr (HT.out ▸ hk)) (HT.out ▸ ht)); omega)
  clear hk ht
  have C5:=hid (O3 P g cap ts nest (.ok l) W4 P4 he)
  go_wp2_with fail
  (with_reducible refine Calls.mono C5.out ?_)
  rintro e W5 ⟨S,rfl,hs,hg,-⟩
  have P5:=hid (show SP P g cap ts nest (.ok (b9 l)) W5 from hs)
  have G5:=hid (a6 S13 (a6 (c9 E4) hg))
  have P5g:=hid hg
  have N5:=hid (N4.out.grown hg HP.out.1)
  have T5:=hid (T4.out.grown hg (Nat.ne_of_gt hP3.out.1))
  have hl5:=hid (show W2.heap.size<W5.heap.size from T5.out.lt)
  clear hs hg C5 t0 t1 t2 t3 n0 n1 n2 n3 n4 e0 e1 e2 e3 e4 hsz
  unfold tkV
  clear k6 k5 k4 k2 k1 k3 k8 x_yes x_no x_feed x_pick x_paren
  have B5:=hid (B4.out.grown P5g (Nat.ne_of_gt hP3.out.2.2.1))
  obtain ⟨x,hx⟩ : ∃ x,x=rd .expr nest (b9 l):=⟨_,rfl⟩
  have C6:=hid (HEx.out (b9 l) HLn nest W5 hn P5)
  rw [← hx] at HR C6
  clear hx
  go_wp2_with fail
  (with_reducible refine Calls.mono C6.out ?_)
  rintro e W6 ⟨t,a,cp,rfl,hs,hg,hk⟩
  have HK:=hid hk
  have G6:=hid (a6 G5 hg)
  have N6:=hid (N5.out.grown hg HP.out.1)
  have B6:=hid (B5.out.grown hg (Nat.ne_of_gt hP3.out.2.2.1))
  have P6:=hid hs
  obtain ⟨⟨n0,n1,n2,n3,n4⟩,⟨f0,f1,f2,f3,f4⟩⟩:=B6.out.cells
  have hl6 : W3.heap.size<W6.heap.size:=B6.out.lt
  have HL5:=hid (show W3.heap.size<W5.heap.size from B5.out.lt)
  clear hs hg hk C6
  obtain ⟨W7,hW7⟩ : ∃ W,W=Q7 W6 W3.heap.size t a cp:=⟨_,rfl⟩
  have hne : w.heap.size≠W3.heap.size:=by have:=hLT.out; omega
  have N7:=hid (show c6 w.heap.size nd0 none 0 W7 from hW7 ▸ N6.out.oput hne t a cp)
  have B7:=hid (show c6 W3.heap.size t a cp W7 from hW7 ▸ B6.out.put t a cp)
  have P7:=hid (show SP P g cap ts nest (l8 x) W7 from hW7 ▸ P6.out.put (Nat.ne_of_gt hP3.out.2.2.1) (Nat.ne_of_gt hP3.out.2.2.2) t a cp)
  have G7:=hid (show w.grownBy W7 (some P) from hW7 ▸ t6 G6 (by have:=hLT.out; omega) t a cp)
  have C8:=hid (n5 P g cap ts nest (l8 x) ⟨#[41]⟩ W7 hn P7 he)
  have hW7':=hW7
  unfold Q7 at hW7'
  unfold Nd.val
  go_wp2_with fail
  rw [← hW7']
  have HW7:=hid hW7
  clear hW7 hW7' n0 n1 n2 n3 n4 f0 f1 f2 f3 f4 hl6
  (with_reducible refine Calls.mono C8.out ?_)
  rintro e W9 ⟨rfl,hs,hg⟩
  have P9:=hid (show SP P g cap ts nest (n7 O9 (l8 x)) W9 from hs)
  have G9:=hid (a6 G7 hg)
  have N9:=hid (N7.out.grown hg HP.out.1)
  have HG9:=hid hg
  obtain ⟨⟨n0,n1,n2,n3,n4⟩,-⟩:=(B7.out.grown hg (Nat.ne_of_gt hP3.out.2.2.1)).cells
  obtain ⟨⟨z0,z1,z2,z3,z4⟩,⟨f0,f1,f2,f3,f4⟩⟩:=N9.out.cells
  have hsz : w.heap.size<W9.heap.size:=N9.out.lt
  clear hs hg C8
  go_wp2_with fail
  refine bodyPost_ret (v:=t.val a cp) (by simp [results,Tryz.results179,go_sem,Nd.val,Nd.kind,Nd.text,Nd.n,Nd.kids,Nd.place,z0,z1,z2,z3,z4]) rfl ?_
  have hX : X=goX (n7 O9 (l8 x)) (fun r => .ok (t,r)):=by
   rw [HR.out,z8 (t:=t) (fun t' r h => (HK.out t' r h).1),A8]
  refine RdP.fin (by rw [hX,Y6]; exact P9) G9 HP (Nat.le_refl _) fun t' r' hx => ?_
  rw [hX] at hx
  obtain ⟨r0,e1,e2⟩:=Q9 hx
  cases e2
  obtain ⟨r1,e3,-,-⟩:=F0 e1
  obtain ⟨t2,e4⟩:=q6 e3
  obtain ⟨rfl,hl,hd⟩:=HK.out t2 r1 e4
  have hp5:=P5.out.blocks.1
  have hsz6 : W6.heap.size=W7.heap.size:=by rw [HW7.out,size_put]
  have k1 : f8 (Fr W5.heap.size W6.heap.size) W6 W7:=by
   rw [HW7.out]
   exact (f8.refl _ W6).put (fun b hb e => by subst e; have:=hb.1; have:=HL5.out; omega) _ _ _
  have h9:=HG9.out.size
  have hlt:=hLT.out
  exact ⟨rfl,⟨_,fun c hc => ⟨fun e => by subst e; have:=hc.1; have:=HL5.out; omega,by have:=hc.1; have:=HL5.out; omega,by have:=hc.2; omega⟩,d6 hl (k1.grown HG9 fun b hb => ⟨by have:=hb.2; omega,fun e => by subst e; have:=hb.1; omega⟩) fun b hb => hb⟩,hd⟩
 case none =>
  have k6 : (T.kind == 6)=false:=beq_eq_false_iff_ne.2 hk.1
  have k5 : (T.kind == 5)=false:=beq_eq_false_iff_ne.2 hk.2.1
  have k4 : (T.kind == 4)=false:=beq_eq_false_iff_ne.2 hk.2.2.1
  have k1 : (T.kind == 1)=false:=beq_eq_false_iff_ne.2 hk.2.2.2.1
  have k3 : (T.kind == 3)=false:=beq_eq_false_iff_ne.2 hk.2.2.2.2
  have hX:=hid (show X=.error (74,T.pos) by rw [HX.out,zC (HT.out ▸ HTz.out) (HT.out ▸ hk) (HT.out ▸ h2) (HT.out ▸ h8),HT.out])
  obtain ⟨i,-,hp⟩:=P4.out.ok
  have C5:=hid (J0 P g cap ts i nest W4 74 T.pos hp)
  clear hp
  have q2 : ((T.kind == 2)=true∧(T.text == [116,114,117,101])=false∧(T.text == [102,97,108,115,101])=false∧(T.text == [102,101,101,100])=false∧(T.text == [112,105,99,107])=false)∨(T.kind == 2)=false:=by
   by_cases k : T.kind=2
   ·exact .inl ⟨by rw [k]; rfl,beq_eq_false_iff_ne.2 (h2 k).1,beq_eq_false_iff_ne.2 (h2 k).2.1,beq_eq_false_iff_ne.2 (h2 k).2.2.1,beq_eq_false_iff_ne.2 (h2 k).2.2.2⟩
   ·exact .inr (beq_eq_false_iff_ne.2 k)
  have q8 : ((T.kind == 8)=true∧(T.text == [40])=false)∨(T.kind == 8)=false:=by
   by_cases k : T.kind=8
   ·exact .inl ⟨by rw [k]; rfl,beq_eq_false_iff_ne.2 (h8 k)⟩
   ·exact .inr (beq_eq_false_iff_ne.2 k)
  clear hk h2 h8
  rcases q2 with ⟨k2,x_yes,x_no,x_feed,x_pick⟩ | k2 <;> rcases q8 with ⟨k8,x_paren⟩ | k8
  all_goals
   go_wp2_with fail
   (with_reducible refine Calls.mono C5.out ?_)
   rintro e W9 ⟨rfl,hp9,hg⟩
   have P9:=hid (show SP P g cap ts nest (.error (74,T.pos)) W9 from SP.of_error hp9 (by decide) (Int.le_refl _) (by omega))
   have G9:=hid (a6 S13 (a6 (c9 E4) hg))
   have N9:=hid (N4.out.grown hg HP.out.1)
   have B9:=hid (B4.out.grown hg (Nat.ne_of_gt hP3.out.2.2.1))
   clear hp9 hg C5 t0 t1 t2 t3 n0 n1 n2 n3 n4 e0 e1 e2 e3 e4 hsz
   obtain ⟨⟨n0,n1,n2,n3,n4⟩,-⟩:=B9.out.cells
   obtain ⟨⟨z0,z1,z2,z3,z4⟩,⟨f0,f1,f2,f3,f4⟩⟩:=N9.out.cells
   have hsz : w.heap.size<W9.heap.size∧W3.heap.size<W9.heap.size:=⟨N9.out.lt,B9.out.lt⟩
   go_wp2_with fail
   refine bodyPost_ret (v:=(mkN 0 [] T.n [] T.pos).val none 0) (by simp [results,Tryz.results179,go_sem,Nd.val,mkN,Nd.kind,Nd.text,Nd.n,Nd.kids,Nd.place,z0,z1,z2,z3,z4]) rfl ?_
   rw [hX.out]
   exact RdP.fin (x:=.error (74,T.pos)) P9 G9 HP (Nat.le_refl _) (fun _ _ h => by cases h)
end
end Go.Proofs.YtppcfebnaieciaaGreatDoor
