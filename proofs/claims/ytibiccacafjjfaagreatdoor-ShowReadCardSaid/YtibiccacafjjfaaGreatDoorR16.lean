/-
  Laws that the proof rests on.
-/
import Derived.Test.YtibiccacafjjfaaGreatDoorR15
import Derived.Test.YtibiccacafjjfaaGreatDoorR06
import Derived.Deep.Cut
namespace Go.Proofs.YtibiccacafjjfaaGreatDoor
set_option maxRecDepth 100000
set_option maxHeartbeats 16000000
section
open Lib (hid)
open Go.RowKit
theorem pT (P g cap : Nat) (ts : List Tk) (nest : Nat) (r : List Tk) (w : World) (hn : nest≤300) (h : SP P g cap ts nest (.ok r) w) :
 Calls Tryz.prog 104 #[.pointer (some ⟨P,0,none⟩)] w (a65 P g cap ts (nest + 1) (iF nest (.ok r)) w):=by
 obtain ⟨a,rfl,hp⟩:=h.ok
 obtain ⟨⟨p0,p1,p2,p3,p4⟩,⟨g0,g1,g2,g3,g4⟩⟩:=hp.cells
 have HG:=hid (e9 w P 2 (.int .i64 ((nest : Int) + 1)))
 have H1:=hid (hp.set_nest ((nest : Int) + 1))
 have R:=hid (show iF nest (.ok (ts.drop a))=if 300<nest + 1 then .error (75,(hd (ts.drop a)).pos) else .ok (ts.drop a) from rfl)
 have D:=hid (kR hp.pos)
 have C1:=hid (cL P g cap ts a _ 0 0 _ H1)
 have hpos:=hp.pos
 generalize ts[a]'hpos=T at C1 D
 clear h hp
 go_enter Tryz.func104,Tryz.ntmps104
 by_cases hb : 300<nest + 1
 ·have hb' : (300 : Int)<(nest : Int) + 1:=by omega
  have R2:=hid (show iF nest (.ok (ts.drop a))=.error (75,(hd (ts.drop a)).pos) by rw [R.out,if_pos hb])
  clear hb
  go_wp2_with fail
  (with_reducible refine Calls.mono C1.out ?_)
  rintro e w2 ⟨rfl,hb⟩
  have H2:=hid (H1.out.below hb)
  have HB2:=hid hb
  clear hb
  have C3:=hid (cM P g cap ts a _ w2 75 T.pos H2)
  unfold tkV
  have hfd:=kN T.kind T.n T.pos ⟨T.text.toArray⟩
  go_wp2_with fail
  (with_reducible refine Calls.mono C3.out ?_)
  rintro e w3 ⟨rfl,hp,hg⟩
  go_wp2_with fail
  (first | (refine bodyPost_end (results_none rfl _ _ _) rfl ?_) | (refine bodyPost_ret (results_none rfl _ _ _) rfl ?_))
  refine ⟨rfl,?_,b6 HG (b6 (b8 HB2) hg)⟩
  rw [R2.out,D.out]
  exact SP.of_error hp (by decide) (by omega) (by omega)
 ·have hb' : ¬ (300 : Int)<(nest : Int) + 1:=by omega
  have R2:=hid (show iF nest (.ok (ts.drop a))=.ok (ts.drop a) by rw [R.out,if_neg hb])
  clear hb
  go_wp2_with fail
  (first | (refine bodyPost_end (results_none rfl _ _ _) rfl ?_) | (refine bodyPost_ret (results_none rfl _ _ _) rfl ?_))
  refine ⟨rfl,?_,HG⟩
  rw [R2.out]
  exact SP.of_ok (by have:=H1.out; rw [Int.natCast_add]; exact this) rfl
def TkP (P g cap : Nat) (ts : List Tk) (nest : Nat) (σ σ' : Sx) (w : World) (e : Ending) (w' : World) : Prop:=∃ t : Tk,e=.returned (tkV t)∧SP P g cap ts nest σ' w'∧w.grownBy w' (some P)∧∀ r,σ=.ok r→t=hd r
theorem tX (P g cap : Nat) (ts : List Tk) (nest : Nat) (σ : Sx) (k : Int) (w : World) (hn : nest≤300) (h : SP P g cap ts nest σ w) (he : y6 ts) :
 Calls Tryz.prog 100 #[.pointer (some ⟨P,0,none⟩),.int .i64 k] w (TkP P g cap ts nest σ (Y3 k σ) w):=by
 obtain ⟨V,hV⟩ : ∃ V,V=w.alloc (.cells #[.int .i64 0,.string ⟨#[]⟩,.int .i64 0,.int .i64 0] 67):=⟨_,rfl⟩
 have HBV:=hid (show Below w.heap.size w V from hV ▸ c6 _ _)
 have hsV:=hid (show V.heap.size=w.heap.size + 1 by rw [hV]; simp)
 have Z0:=hid (show eL w.heap.size V from hV ▸ eL.make w)
 have hwl : w.heap.size<V.heap.size:=by rw [hsV.out]; omega
 have hS:=hid (h.below HBV)
 have hb0:=hid h.blocks
 cases σ with
 | error q =>
   obtain ⟨c,p⟩:=q
   obtain ⟨hk,a,n,hp,h1,h2⟩:=hS.out.error
   have C:=hid (cL P g cap ts a n c p V hp)
   have ek : (c != 0)=true:=bne_iff_ne.2 hk
   have HK:=hid hk
   have H:=hid hp
   have hpos:=hp.pos
   generalize ts[a]'hpos=T at C
   clear h hp hk
   go_enter Tryz.func100,Tryz.ntmps100
   go_wp2_with fail
   rw [← hV]
   clear hV
   (with_reducible refine Calls.mono C.out ?_)
   rintro e w1 ⟨rfl,hb⟩
   have H1:=hid (H.out.below hb)
   obtain ⟨⟨p0,p1,p2,p3,p4⟩,-⟩:=H1.out.cells
   obtain ⟨c0,c1,c2,c3,f0,f1,f2,f3⟩:=(Z0.out.below hb).cells
   have hpl:=H1.out.plt
   have hwl1 : w.heap.size<w1.heap.size:=Nat.lt_of_lt_of_le hwl hb.size
   have HB:=hid hb
   clear hb
   unfold tkV
   go_wp2_with fail
   refine bodyPost_ret (v:=tkV T) (by simp [results,Tryz.results100,go_sem,tkV,c0,c1,c2,c3,hwl1]) rfl ?_
   have HF:=((j0 (Below.refl w.heap.size w1) (.int .i64 T.kind) (.string ⟨T.text.toArray⟩) (.int .i64 T.n) (.int .i64 T.pos)).alloc (by simpa using (HBV.out.trans (HB.out.mono HBV.out.size)).size) (.cells #[.int .i64 T.kind,.string ⟨T.text.toArray⟩,.int .i64 T.n,.int .i64 T.pos] 67))
   exact ⟨T,rfl,(SP.of_error H1 HK h1 h2).later HF hb0.out.1 hb0.out.2,d8 (b8 (HBV.out.trans (HB.out.mono HBV.out.size))) HF,fun _ h => by cases h⟩
 | ok r =>
   obtain ⟨a,rfl,hp⟩:=hS.out.ok
   have C:=hid (cL P g cap ts a nest 0 0 V hp)
   have H:=hid hp
   have hpos:=hp.pos
   have D:=hid (kR hpos)
   generalize ts[a]'hpos=T at C D
   clear h hp
   go_enter Tryz.func100,Tryz.ntmps100
   go_wp2_with fail
   rw [← hV]
   clear hV
   (with_reducible refine Calls.mono C.out ?_)
   rintro e w1 ⟨rfl,hb⟩
   have H1:=hid (H.out.below hb)
   obtain ⟨⟨p0,p1,p2,p3,p4⟩,-⟩:=H1.out.cells
   have hpl:=H1.out.plt
   have hwl1 : w.heap.size<w1.heap.size:=Nat.lt_of_lt_of_le hwl hb.size
   have HZ1:=hid (Z0.out.below hb)
   have HB:=hid (HBV.out.trans (hb.mono HBV.out.size))
   clear hb
   obtain ⟨W2,hW2⟩ : ∃ W,W=w1.alloc (.cells #[.int .i64 T.kind,.string ⟨T.text.toArray⟩,.int .i64 T.n,.int .i64 T.pos] 67):=⟨_,rfl⟩
   have HB2:=hid (show Below w1.heap.size w1 W2 from hW2 ▸ c6 _ _)
   have HZ2:=hid (HZ1.out.below HB2)
   have HT2:=hid (show Y9 w1.heap.size T W2 from hW2 ▸ Y9.make w1 T)
   have H2:=hid (H1.out.below HB2)
   have HS2:=hid (HB.out.trans (HB2.out.mono HB.out.size))
   unfold tkV
   by_cases hk : T.kind=k
   ·have e0 : (T.kind != k)=false:=by rw [hk]; exact bne_self_eq_false k
    have R:=hid (show Y3 k (.ok (ts.drop a))=.ok (b9 (ts.drop a)) from if_pos (D.out ▸ hk))
    have C2:=hid (lY P g cap ts a nest 0 0 W2 H2 he)
    clear hk
    go_wp2_with fail
    rw [← hW2]
    (with_reducible refine Calls.mono C2.out ?_)
    rintro e w3 ⟨a',⟨hpa,rfl⟩,hp3,hs,hg,-⟩
    have hDT:=D.out
    rw [kR hpa] at hDT
    subst hDT
    have hne : w.heap.size≠P:=Nat.ne_of_gt hb0.out.1
    have hwl3 : w.heap.size<w3.heap.size:=Nat.lt_of_lt_of_le hwl1 (Nat.le_trans HB2.out.size hg.size)
    have HZ3:=((hg.block w.heap.size (Nat.lt_of_lt_of_le hwl1 HB2.out.size) (fun e => hne (Option.some.inj e))).trans HZ2)
    obtain ⟨c0,c1,c2,c3,f0,f1,f2,f3⟩:=eL.cells HZ3
    have H3:=hid hp3
    have G3:=hid (b6 (b8 HS2) hg)
    clear hW2 hp3 hg HZ3
    unfold tkV
    go_wp2_with fail
    refine bodyPost_ret (v:=tkV (ts[a]'hpa)) (by simp [results,Tryz.results100,go_sem,tkV,c0,c1,c2,c3]) rfl ?_
    have HF:=(j0 (Below.refl w.heap.size w3) (.int .i64 (ts[a]'hpa).kind) (.string ⟨(ts[a]'hpa).text.toArray⟩) (.int .i64 (ts[a]'hpa).n) (.int .i64 (ts[a]'hpa).pos))
    refine ⟨_,rfl,?_,d8 G3 HF,fun r h => ?_⟩
    ·rw [R.out,hs]
     exact (SP.of_ok H3 rfl).later HF hb0.out.1 hb0.out.2
    ·cases h
     exact (kR hpa).symm
   ·have e0 : (T.kind != k)=true:=bne_iff_ne.2 hk
    have R:=hid (show Y3 k (.ok (ts.drop a))=.error (74,T.pos) by
     show (if (hd (ts.drop a)).kind=k then Except.ok (b9 (ts.drop a)) else .error (74,(hd (ts.drop a)).pos) : Sx)=_
     rw [D.out,if_neg hk])
    have C2:=hid (cM P g cap ts a nest W2 74 T.pos H2)
    clear hk
    go_wp2_with fail
    rw [← hW2]
    (with_reducible refine Calls.mono C2.out ?_)
    rintro e w3 ⟨rfl,hp3,hg⟩
    have hne : w.heap.size≠P:=Nat.ne_of_gt hb0.out.1
    have hne1 : w1.heap.size≠P:=Nat.ne_of_gt hpl
    have hwl3 : w.heap.size<w3.heap.size:=Nat.lt_of_lt_of_le hwl1 (Nat.le_trans HB2.out.size hg.size)
    have HZ3:=((hg.block w.heap.size (Nat.lt_of_lt_of_le hwl1 HB2.out.size) (fun e => hne (Option.some.inj e))).trans HZ2)
    obtain ⟨c0,c1,c2,c3,f0,f1,f2,f3⟩:=eL.cells HZ3
    obtain ⟨⟨t0,t1,t2,t3⟩,-⟩:=(HT2.out.grown hg hne1).cells
    have hwl4 : w1.heap.size<w3.heap.size:=(HT2.out.grown hg hne1).lt
    have H3:=hid hp3
    have G3:=hid (b6 (b8 HS2) hg)
    clear hW2 hp3 hg HZ3
    go_wp2_with fail
    refine bodyPost_ret (v:=tkV T) (by simp [results,Tryz.results100,go_sem,tkV,c0,c1,c2,c3]) rfl ?_
    have HF:=(j0 (Below.refl w.heap.size w3) (.int .i64 T.kind) (.string ⟨T.text.toArray⟩) (.int .i64 T.n) (.int .i64 T.pos))
    refine ⟨T,rfl,?_,d8 G3 HF,fun r h => ?_⟩
    ·rw [R.out]
     exact (SP.of_error H3 (by decide) (Int.le_refl _) (by omega)).later HF hb0.out.1 hb0.out.2
    ·cases h
     exact D.out.symm
end
section
open Lib (hid)
open Go.RowKit
def a5l (P g cap : Nat) (ts : List Tk) (nest : Nat) (σ : Sx) (t : Nd) (a : Option Addr) (cp : Nat) (w : World) (e : Ending) (w' : World) : Prop:=e=.returned (t.val a cp)∧SP P g cap ts nest (iD t σ) w'∧w.grownBy w' (some P)
theorem sS (P g cap : Nat) (ts : List Tk) (nest : Nat) (σ : Sx) (t : Nd) (a : Option Addr) (cp : Nat) (w : World) (hn : nest≤300) (h : SP P g cap ts nest σ w) (hd : ∀ r,σ=.ok r→c8 t≤101∧∃ av : Nat→Prop,(∀ b,av b→b<w.heap.size)∧t.lies av w a cp) :
 Calls Tryz.prog 107 #[.pointer (some ⟨P,0,none⟩),t.val a cp] w (a5l P g cap ts nest σ t a cp w):=by
 obtain ⟨V,hV⟩ : ∃ V,V=(w.alloc (.cells #[.int .i64 t.kind,.string t.text,.int .i64 t.n,.slice a t.kids.length cp,.int .i64 t.place] 24)).alloc (.cells #[.int .i64 0,.string ⟨#[]⟩,.int .i64 0,.slice none 0 0,.int .i64 0] 24):=⟨_,rfl⟩
 have HBV:=hid (show Below w.heap.size w V from hV ▸ (c6 w _).trans ((c6 _ _).mono (c6 w _).size))
 have hsV:=hid (show V.heap.size=w.heap.size + 2 by rw [hV]; simp)
 have N0:=hid (show f6 w.heap.size t a cp V from hV ▸ (f6.make w t a cp).below (c6 _ _))
 have N1:=hid (show f6 (w.heap.size + 1) nd0 none 0 V by
  have:=f6.make (w.alloc (.cells #[.int .i64 t.kind,.string t.text,.int .i64 t.n,.slice a t.kids.length cp,.int .i64 t.place] 24)) nd0 none 0
  rw [hV]
  simpa [nd0,Nd.kind,Nd.text,Nd.n,Nd.kids,Nd.place] using this)
 have hS:=hid (h.below HBV)
 have hb0:=hid h.blocks
 unfold Nd.val
 cases σ with
 | error q =>
   obtain ⟨c,p⟩:=q
   obtain ⟨hk,i,n,hp,h1,h2⟩:=hS.out.error
   have ek : (c == 0)=false:=beq_eq_false_iff_ne.2 hk
   have HK:=hid hk
   obtain ⟨⟨p0,p1,p2,p3,p4⟩,-⟩:=hp.cells
   have hpl:=hp.plt
   obtain ⟨⟨c0,c1,c2,c3,c4⟩,-⟩:=N0.out.cells
   obtain ⟨⟨z0,z1,z2,z3,z4⟩,⟨f0,f1,f2,f3,f4⟩⟩:=N1.out.cells
   have HW:=hid h
   clear h hd hp hk
   subst hV
   go_enter Tryz.func107,Tryz.ntmps107
   go_wp2_with fail
   refine bodyPost_ret (v:=t.val a cp) (by simp [results,Tryz.results107,go_sem,Nd.val]) rfl ?_
   have HF:=((c6 w (.cells #[.int .i64 t.kind,.string t.text,.int .i64 t.n,.slice a t.kids.length cp,.int .i64 t.place] 24)).alloc (c6 _ _).size (.cells #[.int .i64 t.kind,.string t.text,.int .i64 t.n,.slice a t.kids.length cp,.int .i64 t.place] 24))
   exact ⟨rfl,HW.out.below HF,b8 HF⟩
 | ok r =>
   obtain ⟨hd1,av,hav,hl⟩:=hd r rfl
   obtain ⟨i,rfl,hp⟩:=hS.out.ok
   obtain ⟨⟨p0,p1,p2,p3,p4⟩,-⟩:=hp.cells
   have hpl:=hp.plt
   obtain ⟨⟨c0,c1,c2,c3,c4⟩,-⟩:=N0.out.cells
   have C:=hid (a1h t a cp w.heap.size V (Nd.lies.hold t (d5 hl (fun b hb => HBV.out.block b (hav b hb)) hav)) HBV.out.size (by omega))
   have hsz : w.heap.size<V.heap.size∧w.heap.size + 1<V.heap.size:=by rw [hsV.out]; omega
   have hpP : w.heap.size + 1≠P∧w.heap.size + 1≠g:=⟨by have:=hb0.out.1; omega,by have:=hb0.out.2; omega⟩
   clear h hd hl hav hp
   go_enter Tryz.func107,Tryz.ntmps107
   subst hV
   by_cases hk : 100<c8 t
   ·have hk' : (100 : Int)<(c8 t : Int):=by omega
    have R:=hid (show iD t (.ok (ts.drop i))=.error (75,t.place) from if_pos hk)
    clear hk
    go_wp2_with fail
    (with_reducible refine Calls.mono C.out ?_)
    rintro e w2 ⟨rfl,hb⟩
    have H2:=hid (hS.out.below hb)
    have HN2:=hid (N0.out.below hb)
    have HM2:=hid (N1.out.below hb)
    have HG:=hid (HBV.out.trans (hb.mono HBV.out.size))
    obtain ⟨⟨c0,c1,c2,c3,c4⟩,-⟩:=HN2.out.cells
    obtain ⟨i',hi',hp2⟩:=H2.out.ok
    have C2:=hid (cM P g cap ts i' nest w2 75 t.place hp2)
    have hsz2 : w.heap.size<w2.heap.size∧w.heap.size + 1<w2.heap.size:=⟨HN2.out.lt,HM2.out.lt⟩
    clear hb hp2 hi' p0 p1 p2 p3 p4 hpl
    go_wp2_with fail
    (with_reducible refine Calls.mono C2.out ?_)
    rintro e w3 ⟨rfl,hp3,hg⟩
    have HN3:=hid (HN2.out.grown hg (Nat.ne_of_gt hb0.out.1))
    have HM3:=hid (HM2.out.grown hg hpP.1)
    obtain ⟨⟨c0,c1,c2,c3,c4⟩,-⟩:=HN3.out.cells
    obtain ⟨⟨z0,z1,z2,z3,z4⟩,⟨f0,f1,f2,f3,f4⟩⟩:=HM3.out.cells
    have H3:=hid hp3
    have G3:=hid (b6 (b8 HG) hg)
    have hsz3 : w.heap.size<w3.heap.size∧w.heap.size + 1<w3.heap.size:=⟨HN3.out.lt,HM3.out.lt⟩
    clear hp3 hg
    go_wp2_with fail
    refine bodyPost_ret (v:=t.val a cp) (by simp [results,Tryz.results107,go_sem,Nd.val,z0,z1,z2,z3,z4]) rfl ⟨rfl,?_,s8 G3 (Nat.le_succ _) t a cp⟩
    rw [R.out]
    exact (SP.of_error H3 (by decide) (Int.le_refl _) (by omega)).put hpP.1 hpP.2 t a cp
   ·have hk' : ¬ (100 : Int)<(c8 t : Int):=by omega
    have R:=hid (show iD t (.ok (ts.drop i))=.ok (ts.drop i) from if_neg hk)
    clear hk
    go_wp2_with fail
    (with_reducible refine Calls.mono C.out ?_)
    rintro e w2 ⟨rfl,hb⟩
    have H2:=hid (hS.out.below hb)
    have HN2:=hid (N0.out.below hb)
    have HM2:=hid (N1.out.below hb)
    have HG:=hid (HBV.out.trans (hb.mono HBV.out.size))
    obtain ⟨⟨c0,c1,c2,c3,c4⟩,-⟩:=HN2.out.cells
    obtain ⟨⟨z0,z1,z2,z3,z4⟩,⟨f0,f1,f2,f3,f4⟩⟩:=HM2.out.cells
    have hsz2 : w.heap.size<w2.heap.size∧w.heap.size + 1<w2.heap.size:=⟨HN2.out.lt,HM2.out.lt⟩
    clear hb p0 p1 p2 p3 p4 hpl
    go_wp2_with fail
    refine bodyPost_ret (v:=t.val a cp) (by simp [results,Tryz.results107,go_sem,Nd.val,z0,z1,z2,z3,z4]) rfl ⟨rfl,?_,s8 (b8 HG) (Nat.le_succ _) t a cp⟩
    rw [R.out]
    exact H2.out.put hpP.1 hpP.2 t a cp
end
section
open Lib (hid)
open Go.RowKit
def a5A (σ : Sx) : Sx:=match σ with
 | .ok r => .ok (b9 r)
 | .error e => .error e
def z7 (t : Tk) : Prop:=(Lit.int .i64 t.n).wf=true∧(Lit.int .i64 t.pos).wf=true∧t.text.length≤16384
section
variable (P g cap : Nat) (ts : List Tk)
theorem SP.mem {P g cap : Nat} {ts : List Tk} {nest : Nat} {l : List Tk} {w : World} (h : SP P g cap ts nest (.ok l) w) : hd l∈ts:=by
 obtain ⟨a,rfl,hp⟩:=h.ok
 rw [kR hp.pos]; exact List.getElem_mem _
theorem a1Q (nest : Nat) (σ : Sx) (w : World) (h : SP P g cap ts nest σ w) :
 Calls Tryz.prog 70 #[.pointer (some ⟨P,0,none⟩)] w fun e w' => ∃ t : Tk,e=.returned (tkV t)∧Below w.heap.size w w'∧∀ r,σ=.ok r→t=hd r:=by
 obtain ⟨a,n,c,f,hp,hr⟩:=h
 refine (cL P g cap ts a n c f w hp).mono ?_
 rintro e w' ⟨rfl,hb⟩
 refine ⟨_,rfl,hb,fun r hs => ?_⟩
 subst hs
 rw [hr.1,kR hp.pos]
theorem kK (nest : Nat) (σ : Sx) (x : ByteArray) (w : World) (h : SP P g cap ts nest σ w) :
 Calls Tryz.prog 101 #[.pointer (some ⟨P,0,none⟩),.string x] w fun e w' => ∃ b : Bool,e=.returned (.bool b)∧Below w.heap.size w w'∧∀ r,σ=.ok r→b=isT x.data.toList r:=by
 obtain ⟨a,n,c,f,hp,hr⟩:=h
 refine (vT P g cap ts a n c f x w hp).mono ?_
 rintro e w' ⟨rfl,hb⟩
 refine ⟨_,rfl,hb,fun r hs => ?_⟩
 subst hs
 rw [hr.1]
theorem cT (nest : Nat) (σ : Sx) (w : World) (h : SP P g cap ts nest σ w) (he : y6 ts) :
 Calls Tryz.prog 102 #[.pointer (some ⟨P,0,none⟩)] w (TkP P g cap ts nest σ (a5A σ) w):=by
 obtain ⟨a,n,c,f,hp,hr⟩:=h
 refine (lY P g cap ts a n c f w hp he).mono ?_
 rintro e w' ⟨a',⟨ha,rfl⟩,hp',hs,hg,-⟩
 refine ⟨_,rfl,⟨a',n,c,f,hp',?_⟩,hg,fun r h => ?_⟩
 ·cases σ with
  | ok r =>
    obtain ⟨rfl,h1,h2,h3⟩:=hr
    exact ⟨hs,h1,h2,h3⟩
  | error e => exact hr
 ·subst h
  rw [hr.1,kR ha]
def CE (l : List Tk) : Prop:=∀ (nest : Nat) (w : World),nest≤300→SP P g cap ts nest (.ok l) w→Calls Tryz.prog 69 #[.pointer (some ⟨P,0,none⟩)] w (RdP P g cap ts nest (rd .expr nest l) w)
def CC (lv : Nat) (l : List Tk) : Prop:=∀ (nest : Nat) (w : World),nest≤300→SP P g cap ts nest (.ok l) w→Calls Tryz.prog 105 #[.pointer (some ⟨P,0,none⟩),.int .i64 lv] w (RdP P g cap ts nest (rd (.chain lv) nest l) w)
def CN (l : List Tk) : Prop:=∀ (nest : Nat) (w : World),nest≤300→SP P g cap ts nest (.ok l) w→Calls Tryz.prog 157 #[.pointer (some ⟨P,0,none⟩)] w (RdP P g cap ts nest (rd .not nest l) w)
def CU (l : List Tk) : Prop:=∀ (nest : Nat) (w : World),nest≤300→SP P g cap ts nest (.ok l) w→Calls Tryz.prog 158 #[.pointer (some ⟨P,0,none⟩)] w (RdP P g cap ts nest (rd .unary nest l) w)
def CA (l : List Tk) : Prop:=∀ (nest : Nat) (w : World),nest≤300→SP P g cap ts nest (.ok l) w→Calls Tryz.prog 184 #[.pointer (some ⟨P,0,none⟩)] w (RdP P g cap ts nest (rd .atom nest l) w)
def CL (lv : Nat) (l : List Tk) : Prop:=∀ (nest : Nat) (w : World),nest≤300→SP P g cap ts nest (.ok l) w→Calls Tryz.prog 128 #[.pointer (some ⟨P,0,none⟩),.int .i64 lv] w (RdP P g cap ts nest (rd (D5 lv) nest l) w)
end
theorem a6r : nd0.val none 0=.agg #[.int .i64 0,.string ⟨#[]⟩,.int .i64 0,.slice none 0 0,.int .i64 0]:=rfl
theorem RdP.fin {P g cap : Nat} {ts : List Tk} {nest : Nat} {x : Rd} {w w2 : World} {b : Nat} {t : Nd} {a : Option Addr} {cp : Nat} (hs : SP P g cap ts nest (p6 x) w2) (hg : w.grownBy w2 (some P)) (hP : b≠P∧b≠g) (hb : w.heap.size≤b)
 (hk : ∀ t' r,x=.ok (t',r)→t'=t∧(∃ av : Nat→Prop,(∀ c,av c→c≠b∧w.heap.size≤c∧c<w2.heap.size)∧t.lies av w2 a cp)∧c8 t≤100) : RdP P g cap ts nest x w (.returned (t.val a cp)) (Y2 w2 b t a cp):=by
 refine ⟨t,a,cp,rfl,hs.put hP.1 hP.2 t a cp,s8 hg hb t a cp,fun t' r hx => ?_⟩
 obtain ⟨e,⟨av,hav,hl⟩,hd⟩:=hk t' r hx
 exact ⟨e,d5 hl ((j7.refl _ _).put (fun c hc => (hav c hc).1) t a cp) (fun c hc => ⟨(hav c hc).2.1,by rw [Q9]; exact (hav c hc).2.2⟩),hd⟩
theorem fS (P g cap : Nat) (ts : List Tk) (nest : Nat) (σ : Sx) (w : World) (hn : nest≤300) (h : SP P g cap ts nest σ w) (hc : ∀ r,σ=.ok r→CE P g cap ts r) :
 Calls Tryz.prog 106 #[.pointer (some ⟨P,0,none⟩)] w (RdP P g cap ts nest (goX σ (rd .expr nest)) w):=by
 obtain ⟨V,hV⟩ : ∃ V,V=w.alloc (.cells #[.int .i64 0,.string ⟨#[]⟩,.int .i64 0,.slice none 0 0,.int .i64 0] 24):=⟨_,rfl⟩
 have HBV:=hid (show Below w.heap.size w V from hV ▸ c6 w _)
 have N1:=hid (show f6 w.heap.size nd0 none 0 V from hV ▸ f6.make w nd0 none 0)
 have hS:=hid (h.below HBV)
 have hb0:=hid h.blocks
 have hpP : w.heap.size≠P∧w.heap.size≠g:=⟨Nat.ne_of_gt hb0.out.1,Nat.ne_of_gt hb0.out.2⟩
 have HP:=hid hpP
 cases σ with
 | error q =>
   obtain ⟨c,p⟩:=q
   obtain ⟨hk,i,n,hp,h1,h2⟩:=hS.out.error
   have ek : (c != 0)=true:=bne_iff_ne.2 hk
   have HK:=hid hk
   obtain ⟨⟨p0,p1,p2,p3,p4⟩,-⟩:=hp.cells
   have hpl:=hp.plt
   have HW:=hid h
   clear h hc hp hk hpP
   subst hV
   go_enter Tryz.func106,Tryz.ntmps106
   go_wp2_with fail
   refine bodyPost_ret (v:=nd0.val none 0) (by simp [results,Tryz.results106,go_sem,a6r]) rfl ?_
   have HF:=c6 w (.cells #[.int .i64 0,.string ⟨#[]⟩,.int .i64 0,.slice none 0 0,.int .i64 0] 24)
   exact RdP.err nd0 none 0 rfl (HW.out.below HF) (b8 HF)
 | ok r =>
   obtain ⟨i,hi,hp⟩:=hS.out.ok
   obtain ⟨⟨p0,p1,p2,p3,p4⟩,-⟩:=hp.cells
   have hpl:=hp.plt
   have C:=hid (hc r rfl nest V hn hS)
   clear h hc hp hpP hi
   subst hV
   go_enter Tryz.func106,Tryz.ntmps106
   go_wp2_with fail
   (with_reducible refine Calls.mono C.out ?_)
   rintro e w2 ⟨t,a,cp,rfl,hs,hg,hk⟩
   have HS2:=hid hs
   have HG2:=hid hg
   have HK:=hid hk
   obtain ⟨⟨z0,z1,z2,z3,z4⟩,⟨f0,f1,f2,f3,f4⟩⟩:=(N1.out.grown hg HP.out.1).cells
   have hsz : w.heap.size<w2.heap.size:=(N1.out.grown hg HP.out.1).lt
   clear hs hg hk p0 p1 p2 p3 p4 hpl
   unfold Nd.val
   go_wp2_with fail
   refine bodyPost_ret (v:=t.val a cp) (by simp [results,Tryz.results106,go_sem,Nd.val,z0,z1,z2,z3,z4]) rfl ?_
   refine RdP.fin HS2 (b6 (b8 HBV) HG2) HP (Nat.le_refl _) fun t' r' hx => ?_
   obtain ⟨e,hl,hd⟩:=HK.out t' r' hx
   exact ⟨e,⟨_,fun c hc => ⟨fun e => by subst e; have:=hc.1; simp at this; omega,Nat.le_trans HBV.out.size hc.1,hc.2⟩,hl⟩,hd⟩
end
section
open Lib (hid)
open Go.RowKit
theorem a2U {av : Nat→Prop} {W : World} {t : Nd} {a : Option Addr} {cp b : Nat} {k : Int} {T : Tk} {A : TypeId} (hk : (Lit.int .i64 k).wf=true) (hT : z7 T) (hb : av b) (h : W.heap[b]?=some (.cells #[.int .i64 t.kind,.string t.text,.int .i64 t.n,.slice a t.kids.length cp,.int .i64 t.place] A (0,0))) (hl : t.lies av W a cp) :
 (mkN k T.text 0 [t] T.pos).lies av W (some ⟨b,0,none⟩) 1 :=
 Nd.lies.mk' hk (by have:=hT.2.2; show T.text.toArray.size≤maxLen; unfold maxLen; simp; omega) rfl hT.2.1 (Nat.le_refl _) (by unfold maxLen; decide) (a6p hb h hl)
theorem a0L (k : Int) (s : List UInt8) (n p : Int) (t : Nd) : c8 (mkN k s n [t] p)=c8 t + 1:=by
 unfold mkN; rw [c8,i7,i7,Nat.max_zero]
theorem f6.oput {b c : Nat} {t : Nd} {a : Option Addr} {cp : Nat} {W : World} (h : f6 b t a cp W) (hc : b≠c) (t' : Nd) (a' : Option Addr) (cp' : Nat) : f6 b t a cp (Y2 W c t' a' cp'):=((((h.set hc _ _).set hc _ _).set hc _ _).set hc _ _).set hc _ _
theorem Y9.oput {b c : Nat} {t : Tk} {W : World} (h : Y9 b t W) (hc : b≠c) (t' : Nd) (a' : Option Addr) (cp' : Nat) : Y9 b t (Y2 W c t' a' cp'):=((((h.set hc _ _).set hc _ _).set hc _ _).set hc _ _).set hc _ _
theorem eT (P g cap : Nat) (ts : List Tk) (nest : Nat) (σ : Sx) (k : Int) (s : List UInt8) (n : Int) (ks : List Nd) (p : Int) (a : Option Addr) (len cp : Nat) (hlen : ks.length=len) (w : World) (hn : nest≤300) (h : SP P g cap ts nest σ w)
 (hd : ∀ r,σ=.ok r→c8 (mkN k s n ks p)≤101∧∃ av : Nat→Prop,(∀ b,av b→b<w.heap.size)∧(mkN k s n ks p).lies av w a cp) :
 Calls Tryz.prog 107 #[.pointer (some ⟨P,0,none⟩),.agg #[.int .i64 k,.string ⟨s.toArray⟩,.int .i64 n,.slice a len cp,.int .i64 p]] w (a5l P g cap ts nest σ (mkN k s n ks p) a cp w):=by
 subst hlen
 exact sS P g cap ts nest σ (mkN k s n ks p) a cp w hn h hd
theorem mY (P g cap : Nat) (ts : List Tk) (he : y6 ts) (htk : ∀ t∈ts,z7 t) (u : Bool) (l : List Tk) (nest : Nat) (w : World) (hn : nest≤300) (h : SP P g cap ts nest (.ok l) w) (hc : (u=true→CU P g cap ts (b9 l))∧(u=false→CN P g cap ts (b9 l))) :
 Calls Tryz.prog 183 #[.pointer (some ⟨P,0,none⟩),.bool u] w (RdP P g cap ts nest (S0 nest l ((rd (if u=true then .unary else .not) (nest + 1) (b9 l)).then fun t r => made (mkN 12 (hd l).text 0 [t] (hd l).pos) r)) w):=by
 obtain ⟨V,hV⟩ : ∃ V,V=(w.alloc (.cells #[.int .i64 0,.string ⟨#[]⟩,.int .i64 0,.slice none 0 0,.int .i64 0] 24)).alloc (.cells #[.int .i64 0,.string ⟨#[]⟩,.int .i64 0,.slice none 0 0,.int .i64 0] 24):=⟨_,rfl⟩
 have HBV:=hid (show Below w.heap.size w V from hV ▸ (c6 w _).trans ((c6 _ _).mono (c6 w _).size))
 have hsV:=hid (show V.heap.size=w.heap.size + 2 by rw [hV]; simp)
 have N1:=hid (show f6 w.heap.size nd0 none 0 V from hV ▸ (f6.make w nd0 none 0).below (c6 _ _))
 have N2:=hid (show f6 (w.heap.size + 1) nd0 none 0 V by
  have:=f6.make (w.alloc (.cells #[.int .i64 0,.string ⟨#[]⟩,.int .i64 0,.slice none 0 0,.int .i64 0] 24)) nd0 none 0
  rw [hV]
  simpa [nd0,Nd.kind,Nd.text,Nd.n,Nd.kids,Nd.place] using this)
 have hS:=hid (h.below HBV)
 have hb0:=hid h.blocks
 have HP:=hid (show (w.heap.size≠P∧w.heap.size≠g)∧(w.heap.size + 1≠P∧w.heap.size + 1≠g) by have:=hb0.out; omega)
 have C1:=hid (pT P g cap ts nest l V hn hS)
 have HC:=hid hc
 have HT0:=hid (htk _ h.mem)
 obtain ⟨X,hX⟩ : ∃ X,X=S0 nest l ((rd (if u=true then .unary else .not) (nest + 1) (b9 l)).then fun t r => made (mkN 12 (hd l).text 0 [t] (hd l).pos) r):=⟨_,rfl⟩
 rw [← hX]
 have HX:=hid hX
 clear h hc htk hX
 go_enter Tryz.func183,Tryz.ntmps183
 go_wp2_with fail
 rw [← hV]
 clear hV
 (with_reducible refine Calls.mono C1.out ?_)
 rintro e w2 ⟨rfl,hs2,hg2⟩
 have B1:=hid (N1.out.grown hg2 HP.out.1.1)
 have B2:=hid (N2.out.grown hg2 HP.out.2.1)
 have G2:=hid (b6 (b8 HBV) hg2)
 have hsz : w.heap.size<w2.heap.size∧w.heap.size + 1<w2.heap.size:=⟨B1.out.lt,B2.out.lt⟩
 clear hg2
 by_cases hk : 300<nest + 1
 ·have R:=hid (show X=.error (75,(hd l).pos) from HX.out.trans (if_pos hk))
  have E : iF nest (.ok l)=.error (75,(hd l).pos):=if_pos hk
  rw [E] at hs2
  obtain ⟨-,i,n,hp,-,-⟩:=hs2.error
  obtain ⟨⟨p0,p1,p2,p3,p4⟩,-⟩:=hp.cells
  have hpl:=hp.plt
  obtain ⟨⟨z0,z1,z2,z3,z4⟩,⟨f0,f1,f2,f3,f4⟩⟩:=B1.out.cells
  obtain ⟨⟨n0,n1,n2,n3,n4⟩,-⟩:=B2.out.cells
  have HS2:=hid (hs2.mono (Nat.le_succ nest))
  clear hk E hs2 hp
  go_wp2_with fail
  refine bodyPost_ret (v:=nd0.val none 0) (by simp [results,Tryz.results183,go_sem,Nd.val,z0,z1,z2,z3,z4]) rfl ?_
  rw [R.out]
  exact RdP.fin (x:=.error (75,(hd l).pos)) HS2 G2 HP.out.1 (Nat.le_refl _) (fun _ _ h => by cases h)
 ·have R:=hid (show X=((rd (if u=true then .unary else .not) (nest + 1) (b9 l)).then fun t r => made (mkN 12 (hd l).text 0 [t] (hd l).pos) r) from HX.out.trans (if_neg hk))
  have E : iF nest (.ok l)=.ok l:=if_neg hk
  rw [E] at hs2
  obtain ⟨i,-,hp⟩:=hs2.ok
  obtain ⟨⟨p0,p1,p2,p3,p4⟩,-⟩:=hp.cells
  have hpl:=hp.plt
  have C2:=hid (cT P g cap ts (nest + 1) (.ok l) w2 hs2 he)
  have hn1:=hid (show nest + 1≤300 by omega)
  clear hk E hs2 hp
  go_wp2_with fail
  (with_reducible refine Calls.mono C2.out ?_)
  rintro e w3 ⟨T,rfl,hs3,hg3,hT⟩
  have HT:=hid (hT l rfl)
  clear hT
  have D1:=hid (B1.out.grown hg3 HP.out.1.1)
  have D2:=hid (B2.out.grown hg3 HP.out.2.1)
  have G3:=hid (b6 G2 hg3)
  obtain ⟨W4,hW4⟩ : ∃ W,W=w3.alloc (.cells #[.int .i64 T.kind,.string ⟨T.text.toArray⟩,.int .i64 T.n,.int .i64 T.pos] 67):=⟨_,rfl⟩
  have HB4:=hid (show Below w3.heap.size w3 W4 from hW4 ▸ c6 _ _)
  have T4:=hid (show Y9 w3.heap.size T W4 from hW4 ▸ Y9.make w3 T)
  have HS4:=hid (SP.below hs3 HB4)
  have E1:=hid (D1.out.below HB4)
  have E2:=hid (D2.out.below HB4)
  have G4:=hid (d8 G3 (HB4.out.mono G3.out.size))
  have hP3:=hid (show w3.heap.size≠P∧w3.heap.size≠g by have:=hs3.blocks; omega)
  have hsz4:=hid (show w.heap.size + 1<w3.heap.size from D2.out.lt)
  clear hs3 hg3 p0 p1 p2 p3 p4 hpl
  unfold tkV
  cases u
  case' false =>
   have C3:=hid (HC.out.2 rfl (nest + 1) W4 hn1 HS4)
   have R':=hid (show X=Rd.then (rd .not (nest + 1) (b9 l)) (fun t r => made (mkN 12 (hd l).text 0 [t] (hd l).pos) r) from R)
   generalize rd .not (nest + 1) (b9 l)=y at R' C3
  case' true =>
   have C3:=hid (HC.out.1 rfl (nest + 1) W4 hn1 HS4)
   have R':=hid (show X=Rd.then (rd .unary (nest + 1) (b9 l)) (fun t r => made (mkN 12 (hd l).text 0 [t] (hd l).pos) r) from R)
   generalize rd .unary (nest + 1) (b9 l)=y at R' C3
  all_goals
   clear R HX
   go_wp2_with fail
   rw [← hW4]
   clear hW4
   (with_reducible refine Calls.mono C3.out ?_)
   rintro e w5 ⟨t,a,cp,rfl,hs5,hg5,hk5⟩
   unfold Nd.val
   clear C3
   have F1:=hid ((E1.out.grown hg5 HP.out.1.1).oput (c:=w.heap.size + 1) (by omega) t a cp)
   have F2:=hid ((E2.out.grown hg5 HP.out.2.1).put t a cp)
   have F3:=hid ((T4.out.grown hg5 hP3.out.1).oput (c:=w.heap.size + 1) (by have:=hsz4.out; omega) t a cp)
   have HS6:=hid (hs5.put HP.out.2.1 HP.out.2.2 t a cp)
   have G6:=hid (s8 (b6 G4 hg5) (show w.heap.size≤w.heap.size + 1 by omega) t a cp)
   have HK5:=hid hk5
   have hsz5:=hid (show W4.heap.size≤w5.heap.size from hg5.size)
   obtain ⟨⟨z0,z1,z2,z3,z4⟩,⟨f0,f1,f2,f3,f4⟩⟩:=(E2.out.grown hg5 HP.out.2.1).cells
   clear hs5 hg5 hk5
   obtain ⟨W6,hW6⟩ : ∃ W,W=Y2 w5 (w.heap.size + 1) t a cp:=⟨_,rfl⟩
   rw [← hW6] at F1 F2 F3 HS6 G6
   go_upto_region 9 with fail
   have hW6':=hW6
   unfold Y2 at hW6'
   rw [← hW6']
   clear hW6' z0 z1 z2 z3 z4 f0 f1 f2 f3 f4
   have HW6:=hid hW6
   clear hW6
   obtain ⟨m,hm1,hm2,p2,q2,hs7⟩:=HS6.out.nest
   obtain ⟨W7,hW7⟩ : ∃ W,W=W6.setCell ⟨P,2,none⟩ (.int .i64 (m - 1)):=⟨_,rfl⟩
   have J1:=hid (show f6 w.heap.size nd0 none 0 W7 from hW7 ▸ F1.out.set HP.out.1.1 _ _)
   have J2:=hid (show f6 (w.heap.size + 1) t a cp W7 from hW7 ▸ F2.out.set HP.out.2.1 _ _)
   have J3:=hid (show Y9 w3.heap.size T W7 from hW7 ▸ F3.out.set hP3.out.1 _ _)
   have HS7:=hid (show SP P g cap ts nest _ W7 from hW7 ▸ hs7)
   have G7:=hid (show w.grownBy W7 (some P) from hW7 ▸ b6 G6 (e9 _ _ _ _))
   have hpl:=HS6.out.blocks.1
   clear hs7
   go_upto_region 10 with fail
   rw [← hW7]
   have HW7:=hid hW7
   clear hW7 p2 q2 hpl
   obtain ⟨⟨t0,t1,t2,t3⟩,-⟩:=J3.out.cells
   obtain ⟨⟨n0,n1,n2,n3,n4⟩,-⟩:=J2.out.cells
   obtain ⟨W8,hW8⟩ : ∃ W,W=W7.alloc (.cells #[.int .i64 t.kind,.string t.text,.int .i64 t.n,.slice a t.kids.length cp,.int .i64 t.place] 24):=⟨_,rfl⟩
   have HB8:=hid (show Below W7.heap.size W7 W8 from hW8 ▸ c6 _ _)
   have K1:=hid (J1.out.below HB8)
   have K3:=hid (J3.out.below HB8)
   have K4:=hid (show f6 W7.heap.size t a cp W8 from hW8 ▸ f6.make W7 t a cp)
   have HS8:=hid (HS7.out.below HB8)
   have G8:=hid (d8 G7 (HB8.out.mono G7.out.size))
   have hsz7:=hid (show w5.heap.size=W7.heap.size by rw [HW7.out,HW6.out]; simp [World.setCell,Q9])
   have hbw:=hid (show P<W4.heap.size∧w3.heap.size<W4.heap.size from ⟨HS4.out.blocks.1,T4.out.lt⟩)
   have HD:=hid (show ∀ r,p6 y=.ok r→c8 (mkN 12 T.text 0 [t] T.pos)≤101∧(mkN 12 T.text 0 [t] T.pos).lies (Fr W4.heap.size W8.heap.size) W8 (some ⟨W7.heap.size,0,none⟩) 1 from fun r hr => by
    obtain ⟨t',ht'⟩:=D8 hr
    obtain ⟨rfl,hl,hd⟩:=HK5.out t' r ht'
    refine ⟨by rw [a0L]; omega,a2U rfl (HT.out ▸ HT0.out) ⟨by have:=hsz5.out; have:=hsz7.out; omega,K4.out.lt⟩ K4 (d5 hl ?_ fun b hb => ⟨hb.1,by have:=hsz7.out; have:=HB8.out.size; have:=hb.2; omega⟩)⟩
    have k1 : j7 (Fr W4.heap.size w5.heap.size) w5 W7:=by
     rw [HW7.out,HW6.out]
     exact ((j7.refl _ w5).put (fun b hb e => by subst e; have:=hb.1; have:=hbw.out.2; have:=hsz4.out; omega) _ _ _).set (fun b hb e => by subst e; have:=hb.1; have:=hbw.out.1; omega) _ _
    exact k1.trans fun b hb => HB8.out.block b (by have:=hb.2; have:=hsz7.out; omega))
   have C4:=hid (eT P g cap ts nest (p6 y) 12 T.text 0 [t] T.pos (some ⟨W7.heap.size,0,none⟩) 1 1 rfl W8 hn HS8 fun r hr => ⟨(HD.out r hr).1,_,fun b hb => hb.2,(HD.out r hr).2⟩)
   obtain ⟨⟨u0,u1,u2,u3⟩,-⟩:=K3.out.cells
   subst hW8
   go_wp2_with fail
   (with_reducible refine Calls.mono C4.out ?_)
   rintro e w9 ⟨rfl,hs9,hg9⟩
   have hB7 : w.heap.size<W7.heap.size:=J1.out.lt
   obtain ⟨⟨z0,z1,z2,z3,z4⟩,⟨f0,f1,f2,f3,f4⟩⟩:=(K1.out.grown hg9 HP.out.1.1).cells
   have hsz9 : w.heap.size<w9.heap.size:=(K1.out.grown hg9 HP.out.1.1).lt
   have HS9:=hid hs9
   have G9:=hid (b6 G8 hg9)
   have HG9:=hid hg9
   clear hs9 hg9 t0 t1 t2 t3 n0 n1 n2 n3 n4 u0 u1 u2 u3
   rw [show (mkN 12 T.text 0 [t] T.pos).val (some ⟨W7.heap.size,0,none⟩) 1=.agg #[.int .i64 12,.string ⟨T.text.toArray⟩,.int .i64 0,.slice (some ⟨W7.heap.size,0,none⟩) 1 1,.int .i64 T.pos] from rfl]
   go_wp2_with fail
   refine bodyPost_ret (v:=(mkN 12 T.text 0 [t] T.pos).val (some ⟨W7.heap.size,0,none⟩) 1) (by simp [results,Tryz.results183,go_sem,Nd.val,mkN,Nd.kind,Nd.text,Nd.n,Nd.kids,Nd.place,z0,z1,z2,z3,z4]) rfl ?_
   have hX : X=goX (p6 y) (made (mkN 12 T.text 0 [t] T.pos)):=by
    rw [R'.out,aZ (t:=t) (fun t' r h => (HK5.out t' r h).1),HT.out]
   have hO : p6 X=iD (mkN 12 T.text 0 [t] T.pos) (p6 y):=by rw [hX,fR]
   refine RdP.fin (by rw [hO]; exact HS9) G9 HP.out.1 (Nat.le_refl _) fun t' r hx => ?_
   rw [hX] at hx
   obtain ⟨e1,e2,e3⟩:=gA _ _ hx
   refine ⟨e1,⟨_,fun c hc => ⟨?_,?_,Nat.lt_of_lt_of_le hc.2 HG9.out.size⟩,d5 (HD.out r e2).2 ((j7.refl _ _).grown HG9 fun b hb => ⟨hb.2,?_⟩) fun b hb => hb⟩,e3⟩
   ·rintro rfl
    have:=hc.1; have:=hbw.out.2; have:=hsz4.out; omega
   ·have:=hc.1; have:=hbw.out.2; have:=hsz4.out; omega
   ·rintro rfl
    have:=hb.1; have:=hbw.out.1; omega
end
section
open Lib (hid)
open Go.RowKit
theorem a00 (P g cap : Nat) (ts : List Tk) (he : y6 ts) (htk : ∀ t∈ts,z7 t) (l : List Tk) (hA : CA P g cap ts l) (hU : isT cP l=true→CU P g cap ts (b9 l)) : CU P g cap ts l:=by
 intro nest w hn h
 obtain ⟨V,hV⟩ : ∃ V,V=w.alloc (.cells #[.int .i64 0,.string ⟨#[]⟩,.int .i64 0,.slice none 0 0,.int .i64 0] 24):=⟨_,rfl⟩
 have HBV:=hid (show Below w.heap.size w V from hV ▸ c6 w _)
 have N1:=hid (show f6 w.heap.size nd0 none 0 V from hV ▸ f6.make w nd0 none 0)
 have hS:=hid (h.below HBV)
 have hb0:=hid h.blocks
 have HP:=hid (show w.heap.size≠P∧w.heap.size≠g from ⟨Nat.ne_of_gt hb0.out.1,Nat.ne_of_gt hb0.out.2⟩)
 have C1:=hid (kK P g cap ts nest (.ok l) ⟨#[45]⟩ V hS)
 have HA:=hid hA
 have HU:=hid hU
 have HTK:=hid htk
 obtain ⟨X,hX⟩ : ∃ X,X=rd .unary nest l:=⟨_,rfl⟩
 rw [← hX]
 have HX:=hid (hX.trans (t7 .unary nest l))
 clear hX h hA hU htk
 go_enter Tryz.func158,Tryz.ntmps158
 go_wp2_with fail
 rw [← hV]
 have HVs:=hid (show w.heap.size<V.heap.size from N1.out.lt)
 clear hV
 (with_reducible refine Calls.mono C1.out ?_)
 rintro e w2 ⟨b,rfl,hb,hbt⟩
 have HT:=hid (hbt l rfl)
 have HS2:=hid (hS.out.below hb)
 have N2:=hid (N1.out.below hb)
 have G2:=hid (b8 (r:=some P) (HBV.out.trans (hb.mono HBV.out.size)))
 clear hbt hb
 cases b
 case' true =>
  have R:=hid (show X=S0 nest l ((rd (if true=true then .unary else .not) (nest + 1) (b9 l)).then fun t r => made (mkN 12 (hd l).text 0 [t] (hd l).pos) r) from HX.out.trans (if_pos HT.out.symm))
  have C3:=hid (mY P g cap ts he HTK true l nest w2 hn HS2 ⟨fun _ => HU.out HT.out.symm,fun h => by cases h⟩)
  rw [← R.out] at C3
 case' false =>
  have R:=hid (show X=rd .atom nest l from HX.out.trans (if_neg (by rw [show isT cP l=false from HT.out.symm]; decide)))
  have C3:=hid (HA.out nest w2 hn HS2)
  rw [← R.out] at C3
 all_goals
  go_wp2_with fail
  (with_reducible refine Calls.mono C3.out ?_)
  rintro e w3 ⟨t,a,cp,rfl,hs,hg,hk⟩
  have HS3:=hid hs
  have G3:=hid (b6 G2 hg)
  have HK:=hid hk
  obtain ⟨⟨z0,z1,z2,z3,z4⟩,⟨f0,f1,f2,f3,f4⟩⟩:=(N2.out.grown hg HP.out.1).cells
  have hsz : w.heap.size<w3.heap.size:=(N2.out.grown hg HP.out.1).lt
  have hsz2:=hid N2.out.lt
  clear hs hg hk
  unfold Nd.val
  go_wp2_with fail
  refine bodyPost_ret (v:=t.val a cp) (by simp [results,Tryz.results158,go_sem,Nd.val,z0,z1,z2,z3,z4]) rfl ?_
  refine RdP.fin HS3 G3 HP (Nat.le_refl _) fun t' r' hx => ?_
  obtain ⟨e,hl,hd⟩:=HK.out t' r' hx
  exact ⟨e,⟨_,fun c hc => ⟨fun e => by subst e; have:=hc.1; have:=hsz2.out; omega,by have:=hc.1; have:=hsz2.out; omega,hc.2⟩,hl⟩,hd⟩
theorem eB (P g cap : Nat) (ts : List Tk) (lv : Nat) (hlv : lv≤3) (l : List Tk) (h0 : lv=0→CC P g cap ts 1 l) (h1 : lv=1→CN P g cap ts l) (h2 : lv=2→CC P g cap ts 3 l) (h3 : lv=3→CU P g cap ts l) : CL P g cap ts lv l:=by
 intro nest w hn h
 obtain ⟨V,hV⟩ : ∃ V,V=w.alloc (.cells #[.int .i64 0,.string ⟨#[]⟩,.int .i64 0,.slice none 0 0,.int .i64 0] 24):=⟨_,rfl⟩
 have HBV:=hid (show Below w.heap.size w V from hV ▸ c6 w _)
 have N1:=hid (show f6 w.heap.size nd0 none 0 V from hV ▸ f6.make w nd0 none 0)
 have hS:=hid (h.below HBV)
 have hb0:=hid h.blocks
 have HP:=hid (show w.heap.size≠P∧w.heap.size≠g from ⟨Nat.ne_of_gt hb0.out.1,Nat.ne_of_gt hb0.out.2⟩)
 have G1:=hid (b8 (r:=some P) HBV)
 have H0:=hid h0
 have H1:=hid h1
 have H2:=hid h2
 have H3:=hid h3
 have hsz2:=hid N1.out.lt
 obtain ⟨X,hX⟩ : ∃ X,X=rd (D5 lv) nest l:=⟨_,rfl⟩
 rw [← hX]
 have HX:=hid hX
 clear hX h h0 h1 h2 h3
 have hc : lv=0∨lv=1∨lv=2∨lv=3:=by omega
 clear hlv
 rcases hc with rfl | rfl | rfl | rfl
 case' inl =>
  have C3:=hid (H0.out rfl nest V hn hS)
  rw [show rd (.chain 1) nest l=X from HX.out.symm] at C3
 case' inr.inl =>
  have C3:=hid (H1.out rfl nest V hn hS)
  rw [show rd .not nest l=X from HX.out.symm] at C3
 case' inr.inr.inl =>
  have C3:=hid (H2.out rfl nest V hn hS)
  rw [show rd (.chain 3) nest l=X from HX.out.symm] at C3
 case' inr.inr.inr =>
  have C3:=hid (H3.out rfl nest V hn hS)
  rw [show rd .unary nest l=X from HX.out.symm] at C3
 all_goals
  clear H0 H1 H2 H3 HX
  go_enter Tryz.func128,Tryz.ntmps128
  go_wp2_with fail
  rw [← hV]
  clear hV
  (with_reducible refine Calls.mono C3.out ?_)
  rintro e w3 ⟨t,a,cp,rfl,hs,hg,hk⟩
  have HS3:=hid hs
  have G3:=hid (b6 G1 hg)
  have HK:=hid hk
  obtain ⟨⟨z0,z1,z2,z3,z4⟩,⟨f0,f1,f2,f3,f4⟩⟩:=(N1.out.grown hg HP.out.1).cells
  have hsz : w.heap.size<w3.heap.size:=(N1.out.grown hg HP.out.1).lt
  clear hs hg hk
  unfold Nd.val
  go_wp2_with fail
  refine bodyPost_ret (v:=t.val a cp) (by simp [results,Tryz.results128,go_sem,Nd.val,z0,z1,z2,z3,z4]) rfl ?_
  refine RdP.fin HS3 G3 HP (Nat.le_refl _) fun t' r' hx => ?_
  obtain ⟨e,hl,hd⟩:=HK.out t' r' hx
  exact ⟨e,⟨_,fun c hc => ⟨fun e => by subst e; have:=hc.1; have:=hsz2.out; omega,by have:=hc.1; have:=hsz2.out; omega,hc.2⟩,hl⟩,hd⟩
end
end Go.Proofs.YtibiccacafjjfaaGreatDoor
