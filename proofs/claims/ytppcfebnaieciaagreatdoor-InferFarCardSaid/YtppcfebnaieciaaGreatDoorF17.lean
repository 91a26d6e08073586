/-
  Laws that the proof rests on.
-/
import Derived.Test.YtppcfebnaieciaaGreatDoorF16
import Derived.Test.YtppcfebnaieciaaGreatDoorF09
import Derived.Test.YtppcfebnaieciaaGreatDoorF01
import Derived.Test.YtppcfebnaieciaaGreatDoorF04
import Derived.Test.YtppcfebnaieciaaGreatDoorF05
import Derived.Maps.Keyed
namespace Go.Proofs.YtppcfebnaieciaaGreatDoor
set_option maxRecDepth 100000
set_option maxHeartbeats 16000000
section
open Lib (hid)
open Go.RowKit
def a2Y (P g cap : Nat) (ts : List Tk) (nest : Nat) (σ : Sx) (t : Nd) (a : Option Addr) (cp : Nat) (w : World) (e : Ending) (w' : World) : Prop:=e=.returned (t.val a cp)∧SP P g cap ts nest (dV t σ) w'∧w.grownBy w' (some P)
theorem nT (P g cap : Nat) (ts : List Tk) (nest : Nat) (σ : Sx) (t : Nd) (a : Option Addr) (cp : Nat) (w : World) (hn : nest≤300) (h : SP P g cap ts nest σ w) (hd : ∀ r,σ=.ok r→i8 t≤101∧∃ av : Nat→Prop,(∀ b,av b→b<w.heap.size)∧t.lies av w a cp) :
 Calls Tryz.prog 105 #[.pointer (some ⟨P,0,none⟩),t.val a cp] w (a2Y P g cap ts nest σ t a cp w):=by
 obtain ⟨V,hV⟩ : ∃ V,V=(w.alloc (.cells #[.int .i64 t.kind,.string t.text,.int .i64 t.n,.slice a t.kids.length cp,.int .i64 t.place] 24)).alloc (.cells #[.int .i64 0,.string ⟨#[]⟩,.int .i64 0,.slice none 0 0,.int .i64 0] 24):=⟨_,rfl⟩
 have HBV:=hid (show Below w.heap.size w V from hV ▸ (a7 w _).trans ((a7 _ _).mono (a7 w _).size))
 have hsV:=hid (show V.heap.size=w.heap.size + 2 by rw [hV]; simp)
 have N0:=hid (show c6 w.heap.size t a cp V from hV ▸ (c6.make w t a cp).below (a7 _ _))
 have N1:=hid (show c6 (w.heap.size + 1) nd0 none 0 V by
  have:=c6.make (w.alloc (.cells #[.int .i64 t.kind,.string t.text,.int .i64 t.n,.slice a t.kids.length cp,.int .i64 t.place] 24)) nd0 none 0
  rw [hV]
  simpa [nd0,Nd.kind,Nd.text,Nd.n,Nd.kids,Nd.place] using this)
 have hS:=hid (h.below HBV)
 have hb0:=hid h.blocks
 unfold Nd.val
 cases σ with
 | error q =>
   obtain ⟨c,p⟩:=q
   obtain ⟨hk,i,n,hp,h1,h2⟩:=hS.out.error
   have ek : (c == 0)=false:=beq_eq_false_iff_ne.2 hk
   have HK:=hid hk
   obtain ⟨⟨p0,p1,p2,p3,p4⟩,-⟩:=hp.cells
   have hpl:=hp.plt
   obtain ⟨⟨c0,c1,c2,c3,c4⟩,-⟩:=N0.out.cells
   obtain ⟨⟨z0,z1,z2,z3,z4⟩,⟨f0,f1,f2,f3,f4⟩⟩:=N1.out.cells
   have HW:=hid h
   clear h hd hp hk
   subst hV
   go_enter Tryz.func105,Tryz.ntmps105
   go_wp2_with fail
   refine bodyPost_ret (v:=t.val a cp) (by simp [results,Tryz.results105,go_sem,Nd.val]) rfl ?_
   have HF:=((a7 w (.cells #[.int .i64 t.kind,.string t.text,.int .i64 t.n,.slice a t.kids.length cp,.int .i64 t.place] 24)).alloc (a7 _ _).size (.cells #[.int .i64 t.kind,.string t.text,.int .i64 t.n,.slice a t.kids.length cp,.int .i64 t.place] 24))
   exact ⟨rfl,HW.out.below HF,c9 HF⟩
 | ok r =>
   obtain ⟨hd1,av,hav,hl⟩:=hd r rfl
   obtain ⟨i,rfl,hp⟩:=hS.out.ok
   obtain ⟨⟨p0,p1,p2,p3,p4⟩,-⟩:=hp.cells
   have hpl:=hp.plt
   obtain ⟨⟨c0,c1,c2,c3,c4⟩,-⟩:=N0.out.cells
   have C:=hid (vC t a cp w.heap.size V (Nd.lies.hold t (d6 hl (fun b hb => HBV.out.block b (hav b hb)) hav)) HBV.out.size (by omega))
   have hsz : w.heap.size<V.heap.size∧w.heap.size + 1<V.heap.size:=by rw [hsV.out]; omega
   have hpP : w.heap.size + 1≠P∧w.heap.size + 1≠g:=⟨by have:=hb0.out.1; omega,by have:=hb0.out.2; omega⟩
   clear h hd hl hav hp
   go_enter Tryz.func105,Tryz.ntmps105
   subst hV
   by_cases hk : 100<i8 t
   ·have hk' : (100 : Int)<(i8 t : Int):=by omega
    have R:=hid (show dV t (.ok (ts.drop i))=.error (75,t.place) from if_pos hk)
    clear hk
    go_wp2_with fail
    (with_reducible refine Calls.mono C.out ?_)
    rintro e w2 ⟨rfl,hb⟩
    have H2:=hid (hS.out.below hb)
    have HN2:=hid (N0.out.below hb)
    have HM2:=hid (N1.out.below hb)
    have HG:=hid (HBV.out.trans (hb.mono HBV.out.size))
    obtain ⟨⟨c0,c1,c2,c3,c4⟩,-⟩:=HN2.out.cells
    obtain ⟨i',hi',hp2⟩:=H2.out.ok
    have C2:=hid (J0 P g cap ts i' nest w2 75 t.place hp2)
    have hsz2 : w.heap.size<w2.heap.size∧w.heap.size + 1<w2.heap.size:=⟨HN2.out.lt,HM2.out.lt⟩
    clear hb hp2 hi' p0 p1 p2 p3 p4 hpl
    go_wp2_with fail
    (with_reducible refine Calls.mono C2.out ?_)
    rintro e w3 ⟨rfl,hp3,hg⟩
    have HN3:=hid (HN2.out.grown hg (Nat.ne_of_gt hb0.out.1))
    have HM3:=hid (HM2.out.grown hg hpP.1)
    obtain ⟨⟨c0,c1,c2,c3,c4⟩,-⟩:=HN3.out.cells
    obtain ⟨⟨z0,z1,z2,z3,z4⟩,⟨f0,f1,f2,f3,f4⟩⟩:=HM3.out.cells
    have H3:=hid hp3
    have G3:=hid (a6 (c9 HG) hg)
    have hsz3 : w.heap.size<w3.heap.size∧w.heap.size + 1<w3.heap.size:=⟨HN3.out.lt,HM3.out.lt⟩
    clear hp3 hg
    go_wp2_with fail
    refine bodyPost_ret (v:=t.val a cp) (by simp [results,Tryz.results105,go_sem,Nd.val,z0,z1,z2,z3,z4]) rfl ⟨rfl,?_,t6 G3 (Nat.le_succ _) t a cp⟩
    rw [R.out]
    exact (SP.of_error H3 (by decide) (Int.le_refl _) (by omega)).put hpP.1 hpP.2 t a cp
   ·have hk' : ¬ (100 : Int)<(i8 t : Int):=by omega
    have R:=hid (show dV t (.ok (ts.drop i))=.ok (ts.drop i) from if_neg hk)
    clear hk
    go_wp2_with fail
    (with_reducible refine Calls.mono C.out ?_)
    rintro e w2 ⟨rfl,hb⟩
    have H2:=hid (hS.out.below hb)
    have HN2:=hid (N0.out.below hb)
    have HM2:=hid (N1.out.below hb)
    have HG:=hid (HBV.out.trans (hb.mono HBV.out.size))
    obtain ⟨⟨c0,c1,c2,c3,c4⟩,-⟩:=HN2.out.cells
    obtain ⟨⟨z0,z1,z2,z3,z4⟩,⟨f0,f1,f2,f3,f4⟩⟩:=HM2.out.cells
    have hsz2 : w.heap.size<w2.heap.size∧w.heap.size + 1<w2.heap.size:=⟨HN2.out.lt,HM2.out.lt⟩
    clear hb p0 p1 p2 p3 p4 hpl
    go_wp2_with fail
    refine bodyPost_ret (v:=t.val a cp) (by simp [results,Tryz.results105,go_sem,Nd.val,z0,z1,z2,z3,z4]) rfl ⟨rfl,?_,t6 (c9 HG) (Nat.le_succ _) t a cp⟩
    rw [R.out]
    exact H2.out.put hpP.1 hpP.2 t a cp
end
section
open Lib (hid)
open Go.RowKit
def oQ (σ : Sx) : Sx:=match σ with
 | .ok r => .ok (b9 r)
 | .error e => .error e
def bG (t : Tk) : Prop:=(Lit.int .i64 t.n).wf=true∧(Lit.int .i64 t.pos).wf=true∧t.text.length≤16384
section
variable (P g cap : Nat) (ts : List Tk)
theorem SP.mem {P g cap : Nat} {ts : List Tk} {nest : Nat} {l : List Tk} {w : World} (h : SP P g cap ts nest (.ok l) w) : hd l∈ts:=by
 obtain ⟨a,rfl,hp⟩:=h.ok
 rw [gC hp.pos]; exact List.getElem_mem _
theorem eN (nest : Nat) (σ : Sx) (w : World) (h : SP P g cap ts nest σ w) :
 Calls Tryz.prog 65 #[.pointer (some ⟨P,0,none⟩)] w fun e w' => ∃ t : Tk,e=.returned (tkV t)∧Below w.heap.size w w'∧∀ r,σ=.ok r→t=hd r:=by
 obtain ⟨a,n,c,f,hp,hr⟩:=h
 refine (X9 P g cap ts a n c f w hp).mono ?_
 rintro e w' ⟨rfl,hb⟩
 refine ⟨_,rfl,hb,fun r hs => ?_⟩
 subst hs
 rw [hr.1,gC hp.pos]
theorem cK (nest : Nat) (σ : Sx) (x : ByteArray) (w : World) (h : SP P g cap ts nest σ w) :
 Calls Tryz.prog 99 #[.pointer (some ⟨P,0,none⟩),.string x] w fun e w' => ∃ b : Bool,e=.returned (.bool b)∧Below w.heap.size w w'∧∀ r,σ=.ok r→b=isT x.data.toList r:=by
 obtain ⟨a,n,c,f,hp,hr⟩:=h
 refine (qS P g cap ts a n c f x w hp).mono ?_
 rintro e w' ⟨rfl,hb⟩
 refine ⟨_,rfl,hb,fun r hs => ?_⟩
 subst hs
 rw [hr.1]
theorem O3 (nest : Nat) (σ : Sx) (w : World) (h : SP P g cap ts nest σ w) (he : bJ ts) :
 Calls Tryz.prog 100 #[.pointer (some ⟨P,0,none⟩)] w (TkP P g cap ts nest σ (oQ σ) w):=by
 obtain ⟨a,n,c,f,hp,hr⟩:=h
 refine (iL P g cap ts a n c f w hp he).mono ?_
 rintro e w' ⟨a',⟨ha,rfl⟩,hp',hs,hg,-⟩
 refine ⟨_,rfl,⟨a',n,c,f,hp',?_⟩,hg,fun r h => ?_⟩
 ·cases σ with
  | ok r =>
    obtain ⟨rfl,h1,h2,h3⟩:=hr
    exact ⟨hs,h1,h2,h3⟩
  | error e => exact hr
 ·subst h
  rw [hr.1,gC ha]
def CE (l : List Tk) : Prop:=∀ (nest : Nat) (w : World),nest≤300→SP P g cap ts nest (.ok l) w→Calls Tryz.prog 64 #[.pointer (some ⟨P,0,none⟩)] w (RdP P g cap ts nest (rd .expr nest l) w)
def CC (lv : Nat) (l : List Tk) : Prop:=∀ (nest : Nat) (w : World),nest≤300→SP P g cap ts nest (.ok l) w→Calls Tryz.prog 103 #[.pointer (some ⟨P,0,none⟩),.int .i64 lv] w (RdP P g cap ts nest (rd (.chain lv) nest l) w)
def CN (l : List Tk) : Prop:=∀ (nest : Nat) (w : World),nest≤300→SP P g cap ts nest (.ok l) w→Calls Tryz.prog 161 #[.pointer (some ⟨P,0,none⟩)] w (RdP P g cap ts nest (rd .not nest l) w)
def CU (l : List Tk) : Prop:=∀ (nest : Nat) (w : World),nest≤300→SP P g cap ts nest (.ok l) w→Calls Tryz.prog 162 #[.pointer (some ⟨P,0,none⟩)] w (RdP P g cap ts nest (rd .unary nest l) w)
def CA (l : List Tk) : Prop:=∀ (nest : Nat) (w : World),nest≤300→SP P g cap ts nest (.ok l) w→Calls Tryz.prog 179 #[.pointer (some ⟨P,0,none⟩)] w (RdP P g cap ts nest (rd .atom nest l) w)
def CL (lv : Nat) (l : List Tk) : Prop:=∀ (nest : Nat) (w : World),nest≤300→SP P g cap ts nest (.ok l) w→Calls Tryz.prog 136 #[.pointer (some ⟨P,0,none⟩),.int .i64 lv] w (RdP P g cap ts nest (rd (aL lv) nest l) w)
end
theorem a3Y : nd0.val none 0=.agg #[.int .i64 0,.string ⟨#[]⟩,.int .i64 0,.slice none 0 0,.int .i64 0]:=rfl
theorem RdP.fin {P g cap : Nat} {ts : List Tk} {nest : Nat} {x : Rd} {w w2 : World} {b : Nat} {t : Nd} {a : Option Addr} {cp : Nat} (hs : SP P g cap ts nest (l8 x) w2) (hg : w.grownBy w2 (some P)) (hP : b≠P∧b≠g) (hb : w.heap.size≤b)
 (hk : ∀ t' r,x=.ok (t',r)→t'=t∧(∃ av : Nat→Prop,(∀ c,av c→c≠b∧w.heap.size≤c∧c<w2.heap.size)∧t.lies av w2 a cp)∧i8 t≤100) : RdP P g cap ts nest x w (.returned (t.val a cp)) (Q7 w2 b t a cp):=by
 refine ⟨t,a,cp,rfl,hs.put hP.1 hP.2 t a cp,t6 hg hb t a cp,fun t' r hx => ?_⟩
 obtain ⟨e,⟨av,hav,hl⟩,hd⟩:=hk t' r hx
 exact ⟨e,d6 hl ((f8.refl _ _).put (fun c hc => (hav c hc).1) t a cp) (fun c hc => ⟨(hav c hc).2.1,by rw [size_put]; exact (hav c hc).2.2⟩),hd⟩
theorem aY (P g cap : Nat) (ts : List Tk) (nest : Nat) (σ : Sx) (w : World) (hn : nest≤300) (h : SP P g cap ts nest σ w) (hc : ∀ r,σ=.ok r→CE P g cap ts r) :
 Calls Tryz.prog 104 #[.pointer (some ⟨P,0,none⟩)] w (RdP P g cap ts nest (goX σ (rd .expr nest)) w):=by
 obtain ⟨V,hV⟩ : ∃ V,V=w.alloc (.cells #[.int .i64 0,.string ⟨#[]⟩,.int .i64 0,.slice none 0 0,.int .i64 0] 24):=⟨_,rfl⟩
 have HBV:=hid (show Below w.heap.size w V from hV ▸ a7 w _)
 have N1:=hid (show c6 w.heap.size nd0 none 0 V from hV ▸ c6.make w nd0 none 0)
 have hS:=hid (h.below HBV)
 have hb0:=hid h.blocks
 have hpP : w.heap.size≠P∧w.heap.size≠g:=⟨Nat.ne_of_gt hb0.out.1,Nat.ne_of_gt hb0.out.2⟩
 have HP:=hid hpP
 cases σ with
 | error q =>
   obtain ⟨c,p⟩:=q
   obtain ⟨hk,i,n,hp,h1,h2⟩:=hS.out.error
   have ek : (c != 0)=true:=bne_iff_ne.2 hk
   have HK:=hid hk
   obtain ⟨⟨p0,p1,p2,p3,p4⟩,-⟩:=hp.cells
   have hpl:=hp.plt
   have HW:=hid h
   clear h hc hp hk hpP
   subst hV
   go_enter Tryz.func104,Tryz.ntmps104
   go_wp2_with fail
   refine bodyPost_ret (v:=nd0.val none 0) (by simp [results,Tryz.results104,go_sem,a3Y]) rfl ?_
   have HF:=a7 w (.cells #[.int .i64 0,.string ⟨#[]⟩,.int .i64 0,.slice none 0 0,.int .i64 0] 24)
   exact RdP.err nd0 none 0 rfl (HW.out.below HF) (c9 HF)
 | ok r =>
   obtain ⟨i,hi,hp⟩:=hS.out.ok
   obtain ⟨⟨p0,p1,p2,p3,p4⟩,-⟩:=hp.cells
   have hpl:=hp.plt
   have C:=hid (hc r rfl nest V hn hS)
   clear h hc hp hpP hi
   subst hV
   go_enter Tryz.func104,Tryz.ntmps104
   go_wp2_with fail
   (with_reducible refine Calls.mono C.out ?_)
   rintro e w2 ⟨t,a,cp,rfl,hs,hg,hk⟩
   have HS2:=hid hs
   have HG2:=hid hg
   have HK:=hid hk
   obtain ⟨⟨z0,z1,z2,z3,z4⟩,⟨f0,f1,f2,f3,f4⟩⟩:=(N1.out.grown hg HP.out.1).cells
   have hsz : w.heap.size<w2.heap.size:=(N1.out.grown hg HP.out.1).lt
   clear hs hg hk p0 p1 p2 p3 p4 hpl
   unfold Nd.val
   go_wp2_with fail
   refine bodyPost_ret (v:=t.val a cp) (by simp [results,Tryz.results104,go_sem,Nd.val,z0,z1,z2,z3,z4]) rfl ?_
   refine RdP.fin HS2 (a6 (c9 HBV) HG2) HP (Nat.le_refl _) fun t' r' hx => ?_
   obtain ⟨e,hl,hd⟩:=HK.out t' r' hx
   exact ⟨e,⟨_,fun c hc => ⟨fun e => by subst e; have:=hc.1; simp at this; omega,Nat.le_trans HBV.out.size hc.1,hc.2⟩,hl⟩,hd⟩
end
section
open Go.RowKit Go.Maps
def s7 (F : Nat) (c : CM) (w : World) (d : Nat) : Prop:=Far F c w d∧∀ a : Addr,some a∈c.ps→a.block≠d
theorem Cls.ps_lt {B F : Nat} {c : CM} {kn : List (Option Int)} {ro rk : Nat→Nat} {S φ : List Int} {w : World} (h : Cls B F c kn ro rk S φ w) {a : Addr} (ha : some a∈c.ps) : a.block<w.heap.size:=by
 obtain ⟨i,hi,e⟩:=List.getElem_of_mem ha
 have hk : i<kn.length:=by rw [h.hin.len]; exact hi
 cases hkn : kn[i] with
 | none =>
   have:=h.hin.free i (by rw [List.getElem?_eq_getElem hk,hkn])
   rw [List.getElem?_eq_getElem hi,e] at this
   cases this
 | some x =>
   obtain ⟨b,h1,-,h3,-⟩:=h.hin.got i x (by rw [List.getElem?_eq_getElem hk,hkn])
   rw [List.getElem?_eq_getElem hi,e] at h1
   cases h1
   exact h3
theorem Cls.apart_new {B F : Nat} {c : CM} {kn : List (Option Int)} {ro rk : Nat→Nat} {S φ : List Int} {w w' : World} (h : Cls B F c kn ro rk S φ w) {d : Nat} (h1 : w.heap.size≤d) (h2 : d<w'.heap.size) : s7 F c w' d :=
 ⟨⟨h2,by have:=h.hin.lt; have:=h.hin.le; omega,fun e => by have:=(h.hin.u_lt e).2; omega,fun e => by have:=(h.hin.k_lt e).2; omega⟩,fun a ha => by have:=h.ps_lt ha; omega⟩
theorem s7.grown {F : Nat} {c : CM} {w w' : World} {d : Nat} (h : s7 F c w d) (hs : w.heap.size≤w'.heap.size) : s7 F c w' d:=⟨⟨Nat.lt_of_lt_of_le h.1.1 hs,h.1.2⟩,h.2⟩
theorem s7.mv {F : Nat} {c c' : CM} {w w' : World} {d : Nat} (h : s7 F c w d) (k : Mv F c c' w w') (n : V4 c c' w) : s7 F c' w' d∧w'.heap[d]?=w.heap[d]?:=by
 obtain ⟨k1,k2⟩:=k.far h.1
 refine ⟨⟨k1,fun a ha => ?_⟩,k2⟩
 rcases n a ha with g | g
 ·exact h.2 a g
 ·have:=h.1.1; omega
theorem CM.In.other {B F : Nat} {c : CM} {kn : List (Option Int)} {w w' : World} {r : Option Nat} (h : c.In B F kn w) (g : w.grownBy w' r) (hr : ∀ d,r=some d→s7 F c w d) : c.In B F kn w':=by
 have hb : ∀ d,d<w.heap.size→r≠some d→w'.heap[d]?=w.heap[d]?:=fun d hd hn => g.block d hd (fun e => hn e.symm)
 refine ⟨(hb F (Nat.lt_of_lt_of_le h.lt h.le) (fun e => (hr F e).1.2.1 rfl)).trans h.box,h.lt,Nat.le_trans h.le g.size,h.rowU.kept g ?_,h.rowK.kept g ?_,h.ne,h.len,fun i x hx => ?_,h.free⟩
 ·cases hk : (Value.slice c.ua c.up.length c.uc).ownBlock with
  | none => exact .inl rfl
  | some d => exact .inr (fun e => (hr d e.symm).1.2.2.1 (by unfold CM.u; rw [hk]))
 ·cases hk : (Value.slice c.ka c.ps.length c.kc).ownBlock with
  | none => exact .inl rfl
  | some d => exact .inr (fun e => (hr d e.symm).1.2.2.2 (by unfold CM.k; rw [hk]))
 ·obtain ⟨b,h1,h2,h3,h4,h5,h6⟩:=h.got i x hx
  refine ⟨b,h1,h2,Nat.lt_of_lt_of_le h3 g.size,h4,h5,(World.cell?_of_block (hb b h3 (fun e => ?_))).trans h6⟩
  exact (hr b e).2 ⟨b,0,none⟩ (List.mem_of_getElem? h1) rfl
theorem Cls.other {B F : Nat} {c : CM} {kn : List (Option Int)} {ro rk : Nat→Nat} {S φ : List Int} {w w' : World} {r : Option Nat} (h : Cls B F c kn ro rk S φ w) (g : w.grownBy w' r) (hr : ∀ d,r=some d→s7 F c w d) : Cls B F c kn ro rk S φ w':=⟨h.hin.other g hr,h.uf,h.sim,h.norm,h.ps⟩
theorem Mv.other {F : Nat} {c0 c : CM} {w wr w' : World} {r : Option Nat} (h : Mv F c0 c w wr) (g : wr.grownBy w' r) (hr : ∀ d,r=some d→w.heap.size≤d) : Mv F c0 c w w' :=
 ⟨g.os.trans h.os,g.tape.trans h.tape,g.output.trans h.output,Nat.le_trans h.size g.size,fun d h1 h2 h3 h4 => (g.block d (Nat.lt_of_lt_of_le h1 h.size) (fun e => by have:=hr d e.symm; omega)).trans (h.block d h1 h2 h3 h4),h.u,h.k,h.maps⟩
structure UsedQ (S0 S φ L : List Int) (k : Nat) (xs : List Nat) (f : Lit→Option Value) : Prop where
 rel : ∃ (m : List (Int × Int)) (outs : List Int),(∀ t : Int,match m.lookup t with
  | none => f (.int .i64 t)=none
  | some T => ∃ x : Nat,f (.int .i64 t)=some (.int .i64 x)∧φ[x]?=some T)∧xs.map (fun x => φ[x]?)=outs.map some∧outs ++ (o5 (L.drop k) m S).1=(o5 L [] S0).1∧(o5 (L.drop k) m S).2=(o5 L [] S0).2
 len : xs.length=k
theorem Z8 {φ l : List Int} {x : Nat} {T : Int} (h : φ[x]?=some T) : (φ ++ l)[x]?=some T:=by
 rw [List.getElem?_append_left (List.getElem?_eq_some_iff.1 h).1]; exact h
theorem mQ {φ l : List Int} : ∀ {xs : List Nat} {outs : List Int},xs.map (fun x => φ[x]?)=outs.map some→xs.map (fun x => (φ ++ l)[x]?)=outs.map some
 | [],[],_ => rfl
 | [],_ :: _,h => by cases h
 | _ :: _,[],h => by cases h
 | x :: xs,o :: outs,h => by
   rw [List.map_cons,List.map_cons,List.cons.injEq] at h
   rw [List.map_cons,List.map_cons,mQ h.2,Z8 h.1]
theorem UsedQ.start (S0 φ L : List Int) : UsedQ S0 S0 φ L 0 [] (fun _ => none):=⟨⟨[],[],fun _ => rfl,rfl,rfl,rfl⟩,rfl⟩
theorem UsedQ.look {S0 S φ L : List Int} {k : Nat} {xs : List Nat} {f : Lit→Option Value} (h : UsedQ S0 S φ L k xs f) (t : Int) : f (.int .i64 t)=none∨∃ x : Nat,f (.int .i64 t)=some (.int .i64 x):=by
 obtain ⟨m,outs,h1,-⟩:=h.rel
 have:=h1 t
 cases e : m.lookup t with
 | none => rw [e] at this; exact .inl this
 | some T => rw [e] at this; obtain ⟨x,h2,-⟩:=this; exact .inr ⟨x,h2⟩
theorem UsedQ.known {S0 S φ L : List Int} {k : Nat} {xs : List Nat} {f : Lit→Option Value} (h : UsedQ S0 S φ L k xs f) (hk : k<L.length) (h5 : L[k]<5) : UsedQ S0 S (φ ++ [L[k]]) L (k + 1) (xs ++ [φ.length]) f:=by
 obtain ⟨m,outs,h1,h2,h3,h4⟩:=h.rel
 rw [List.drop_eq_getElem_cons hk,pI h5] at h3 h4
 refine ⟨⟨m,outs ++ [L[k]],fun t => ?_,?_,by rw [List.append_assoc]; exact h3,h4⟩,by rw [List.length_append,h.len]; rfl⟩
 ·have:=h1 t
  split at this
  ·exact this
  ·obtain ⟨x,e1,e2⟩:=this; exact ⟨x,e1,Z8 e2⟩
 ·rw [List.map_append,List.map_append,mQ h2]
  simp
theorem UsedQ.old {S0 S φ L : List Int} {k : Nat} {xs : List Nat} {f : Lit→Option Value} (h : UsedQ S0 S φ L k xs f) (hk : k<L.length) (h5 : ¬ L[k]<5) {x : Nat} (e : f (.int .i64 L[k])=some (.int .i64 x)) : UsedQ S0 S φ L (k + 1) (xs ++ [x]) f:=by
 obtain ⟨m,outs,h1,h2,h3,h4⟩:=h.rel
 have hm:=h1 L[k]
 cases em : m.lookup L[k] with
 | none => rw [em] at hm; rw [show f (.int .i64 L[k])=none from hm] at e; cases e
 | some T =>
   rw [em] at hm
   obtain ⟨y,e1,e2⟩:=hm
   have hxy : y=x:=by
    rw [e1] at e
    have:=Value.int.inj (Option.some.inj e)
    omega
   rw [List.drop_eq_getElem_cons hk,yH h5 em] at h3 h4
   refine ⟨⟨m,outs ++ [T],h1,?_,by rw [List.append_assoc]; exact h3,h4⟩,by rw [List.length_append,h.len]; rfl⟩
   rw [List.map_append,List.map_append,h2]
   simp [← hxy,e2]
theorem UsedQ.new {S0 S φ L : List Int} {k : Nat} {xs : List Nat} {f f' : Lit→Option Value} (h : UsedQ S0 S φ L k xs f) (hk : k<L.length) (h5 : ¬ L[k]<5) (e : f (.int .i64 L[k])=none) (e1 : f' (.int .i64 L[k])=some (.int .i64 (φ.length : Nat))) (e2 : ∀ x,x≠.int .i64 L[k]→f' x=f x) :
 UsedQ S0 (frT S) (φ ++ [5 + (S.length : Int)]) L (k + 1) (xs ++ [φ.length]) f':=by
 obtain ⟨m,outs,h1,h2,h3,h4⟩:=h.rel
 have em : m.lookup L[k]=none:=by
  cases em : m.lookup L[k] with
  | none => rfl
  | some T => have hm:=h1 L[k]; rw [em] at hm; obtain ⟨y,e3,-⟩:=hm; rw [e] at e3; cases e3
 rw [List.drop_eq_getElem_cons hk,xW h5 em] at h3 h4
 refine ⟨⟨(L[k],5 + (S.length : Int)) :: m,outs ++ [5 + (S.length : Int)],fun t => ?_,?_,by rw [List.append_assoc]; exact h3,h4⟩,by rw [List.length_append,h.len]; rfl⟩
 ·rw [List.lookup_cons]
  by_cases ht : t=L[k]
  ·subst ht
   rw [beq_self_eq_true]
   exact ⟨φ.length,e1,by simp⟩
  ·rw [beq_eq_false_iff_ne.2 ht]
   have:=h1 t
   have e4:=e2 (.int .i64 t) (fun e => ht (Lit.int.inj e).2)
   split at this
   ·rename_i h; simp only [h]; rw [e4]; exact this
   ·rename_i h; simp only [h]; rw [e4]
    obtain ⟨x,e5,e6⟩:=this
    exact ⟨x,e5,Z8 e6⟩
 ·rw [List.map_append,List.map_append,mQ h2]
  simp
theorem UsedQ.done {S0 S φ L : List Int} {xs : List Nat} {f : Lit→Option Value} (h : UsedQ S0 S φ L L.length xs f) : S=(o5 L [] S0).2∧xs.map (fun x => φ[x]?)=(o5 L [] S0).1.map some:=by
 obtain ⟨m,outs,-,h2,h3,h4⟩:=h.rel
 rw [List.drop_length] at h3 h4
 rw [show o5 [] m S=([],S) from by simp [o5]] at h3 h4
 rw [List.append_nil] at h3
 exact ⟨h4,h3 ▸ h2⟩
structure UsedI (B F : Nat) (c0 : CM) (φ0 L : List Int) (b1 ga : Nat) (w : World) (k : Nat) (v : Value) (xs : List Nat) (c : CM) (kn : List (Option Int)) (ro rk : Nat→Nat) (S φ : List Int) (f : Lit→Option Value) (n : Nat) (wr : World) : Prop where
 cls : Cls B F c kn ro rk S φ wr
 pre : ∃ l,φ=φ0 ++ l
 mv : Mv F c0 c w wr
 np : V4 c0 c w
 map : q7 3 b1 n f wr
 row : wr.ownsRow w.heap.size 3 1 v k (xs.map fun (n : Nat) => .int .i64 n)
 vA : ∀ g,v.ownBlock=some g→s7 F c wr g∧g≠b1∧g≠ga
 mA : s7 F c wr b1∧w.heap.size≤b1
 gA : s7 F c wr ga∧ga≠b1
 all : ∀ j (hj : j<L.length),wr.cell? ⟨ga,j,none⟩=some (.int .i64 L[j])
section
variable {B F : Nat} {c0 : CM} {φ0 L : List Int} {b1 ga : Nat} {w : World} {k : Nat} {v : Value} {xs : List Nat} {c : CM} {kn : List (Option Int)} {ro rk : Nat→Nat} {S φ : List Int} {f : Lit→Option Value} {n : Nat} {wr : World}
theorem UsedI.move (h : UsedI B F c0 φ0 L b1 ga w k v xs c kn ro rk S φ f n wr) {c' : CM} {kn' : List (Option Int)} {ro' rk' : Nat→Nat} {S' l' : List Int} {wr' : World} (hc : Cls B F c' kn' ro' rk' S' (φ ++ l') wr') (hm : Mv F c c' wr wr') (hn : V4 c c' wr) :
 UsedI B F c0 φ0 L b1 ga w k v xs c' kn' ro' rk' S' (φ ++ l') f n wr':=by
 obtain ⟨l,hpre⟩:=h.pre
 refine ⟨hc,⟨l ++ l',by rw [hpre,List.append_assoc]⟩,h.mv.trans hm,h.np.trans hn h.mv.size,h.map.kept (h.mA.1.mv hm hn).2,?_,fun g hg => ⟨((h.vA g hg).1.mv hm hn).1,(h.vA g hg).2⟩,⟨(h.mA.1.mv hm hn).1,h.mA.2⟩,⟨(h.gA.1.mv hm hn).1,h.gA.2⟩,fun j hj => (World.cell?_of_block (h.gA.1.mv hm hn).2).trans (h.all j hj)⟩
 have hr:=h.row
 rcases hr.2 with ⟨e,h0⟩ | ⟨g',cap',cur,e,-⟩
 ·exact ⟨hr.1,.inl ⟨e,h0⟩⟩
 ·subst e
  exact eH hr ((h.vA _ rfl).1.mv hm hn).2
theorem UsedI.put (h : UsedI B F c0 φ0 L b1 ga w k v xs c kn ro rk S φ f n wr) {f' : Lit→Option Value} {wr' : World} (hg : wr.grownBy wr' (some b1)) (hm : q7 3 b1 (n + 1) f' wr') :
 UsedI B F c0 φ0 L b1 ga w k v xs c kn ro rk S φ f' (n + 1) wr':=by
 have hk : ∀ d,d<wr.heap.size→d≠b1→wr'.heap[d]?=wr.heap[d]?:=fun d hd hn => hg.block d hd (fun e => hn (Option.some.inj e))
 have hs:=hg.size
 refine ⟨h.cls.other hg (fun d e => by cases e; exact h.mA.1),h.pre,h.mv.other hg (fun d e => by cases e; exact h.mA.2),h.np,hm,?_,fun g e => ⟨(h.vA g e).1.grown hs,(h.vA g e).2⟩,⟨h.mA.1.grown hs,h.mA.2⟩,⟨h.gA.1.grown hs,h.gA.2⟩,fun j hj => (World.cell?_of_block (hk _ h.gA.1.1.1 h.gA.2)).trans (h.all j hj)⟩
 exact h.row.kept hg (by
  cases hv : v.ownBlock with
  | none => exact .inl rfl
  | some d => exact .inr (fun e => (h.vA d hv).2.1 (Option.some.inj e)))
theorem UsedI.app (h : UsedI B F c0 φ0 L b1 ga w k v xs c kn ro rk S φ f n wr) {x : Nat} {W1 w6 : World} {g cap : Nat} (hb : Below wr.heap.size wr W1) (hg : W1.grownBy w6 v.ownBlock) (hat : v.ownBlock=some g∨g=W1.heap.size) (hlt : g<w6.heap.size) (hrow : w6.ownsRow w.heap.size 3 1 (.slice (some ⟨g,0,none⟩) (k + 1) cap) (k + 1) ((xs.map fun (n : Nat) => .int .i64 n) ++ [.int .i64 x])) :
 UsedI B F c0 φ0 L b1 ga w (k + 1) (.slice (some ⟨g,0,none⟩) (k + 1) cap) (xs ++ [x]) c kn ro rk S φ f n w6:=by
 have hs1:=hb.size
 have hs2:=hg.size
 have hv : ∀ d,v.ownBlock=some d→s7 F c W1 d:=fun d e => (h.vA d e).1.grown hs1
 have hk : ∀ d,d<wr.heap.size→v.ownBlock≠some d→w6.heap[d]?=wr.heap[d]?:=fun d hd hn => (hg.block d (by omega) (fun e => hn e.symm)).trans (hb.block d hd)
 have hb1 : v.ownBlock≠some b1:=fun e => (h.vA _ e).2.1 rfl
 have hga : v.ownBlock≠some ga:=fun e => (h.vA _ e).2.2 rfl
 refine ⟨(h.cls.below hb).other hg hv,h.pre,(h.mv.trans (Mv.of hb)).other hg (fun d e => (h.row.lt d e).1),h.np,h.map.kept (hk _ h.mA.1.1.1 hb1),by rw [List.map_append]; exact hrow,fun g' e => ?_,⟨h.mA.1.grown (by omega),h.mA.2⟩,⟨h.gA.1.grown (by omega),h.gA.2⟩,fun j hj => (World.cell?_of_block (hk _ h.gA.1.1.1 hga)).trans (h.all j hj)⟩
 obtain rfl : g=g':=Option.some.inj (show some g=some g' from e)
 rcases hat with e2 | e2
 ·exact ⟨(h.vA _ e2).1.grown (by omega),(h.vA _ e2).2⟩
 ·have h1:=h.mA.1.1.1
  have h2:=h.gA.1.1.1
  exact ⟨h.cls.apart_new (by omega) hlt,by omega,by omega⟩
end
theorem eU {k : TypeId} {b n : Nat} {f : Lit→Option Value} {w : World} (h : q7 k b n f w) {ops : Array Oper} {rest : List Oper} {o : Oper} {a : Act} {Q : Exit→Act→World→Prop} (hg : o.guard=none) (m x v : Operand) (t : TypeId) (hop : o.op=Op.mapUpdate t m x v) (e : TypeId) (K : Keyed Tryz.prog k) (ht : Tryz.prog.underlying t=some (.map k e))
 (hm : a.eval m=.map (some b)) (hn : n<maxLen) (key val : Value) (kl : Lit) (hx : a.eval x=key) (hv : a.eval v=val) (hkey : keyOf Tryz.prog k key=some kl)
 (hK : ∀ w',(∀ f' : Lit→Option Value,f' kl=some val→(∀ x,x≠kl→f' x=f x)→q7 k b (n + 1) f' w')→w.grownBy w' (some b)→wpList Tryz.prog ops Q rest (a.put o.dst undef) w') : wpList Tryz.prog ops Q (o :: rest) a w:=by
 refine wpList_plain hg fun K' hK' => ?_
 obtain ⟨w',hrun,r1,r2⟩:=h.update K ht hn hkey val
 unfold Oper.wp
 simp [execOp,hop,hm,hx,hv,hrun,Result.andThen]
 exact hK' _ _ (hK w' r1 r2)
theorem a2G : Keyed Tryz.prog 3:=int_keyed Tryz.underlying3
theorem mX {t : Int} (h : 0≤t∧t≤1000000000) : keyOf Tryz.prog 3 (.int .i64 t)=some (.int .i64 t):=keyOf_int_mk Tryz.underlying3 (WalkArith.wf_i64 (by omega))
theorem iP (w : World) : (zeroValue 3).run Tryz.prog w=.ok (.int .i64 0) w:=by kernel_rfl
theorem kH (av : Nat→Prop) (l : List Int) (pa : Option Addr) (pc : Nat) (w : World) (hI : y6 av w pa l) (hl : l.length≤1000) (h0 : pa=none→pc=0) :
 Calls Tryz.prog 31 #[.slice pa l.length pc] w fun e w' => ∃ v',e=.returned v'∧w'.ownsRow w.heap.size 3 1 v' l.length (l.map fun (n : Int) => .int .i64 n)∧Below w.heap.size w w':=by
 cases pa with
 | none =>
   have hn : l=[]:=by
    cases l with
    | nil => rfl
    | cons x l => obtain ⟨b,off,e,-⟩:=hI 0 (by simp); cases e
   subst hn
   refine (Tryz.slices_Clone_int_nil 0 pc w).mono ?_
   rintro e w' ⟨rfl,rfl⟩
   exact ⟨_,rfl,⟨rfl,.inl ⟨rfl,rfl⟩⟩,Below.refl _ _⟩
 | some a =>
   by_cases hn : l=[]
   ·subst hn
    refine (Tryz.slices_Clone_int_zero a pc w).mono ?_
    rintro e w' ⟨v',rfl,h1,-,h2⟩
    exact ⟨v',rfl,h1,h2⟩
   ·obtain ⟨b,off,e,-⟩:=hI 0 (List.length_pos_iff.2 hn)
    cases e
    refine (Tryz.slices_Clone_int b off l.length pc l w (Nat.le_refl _) (by omega) fun j hj => ?_).mono ?_
    ·obtain ⟨b',off',e,-,hc⟩:=hI j hj
     cases e
     rw [dD hj]
     exact hc
    ·rintro e w' ⟨v',rfl,h1,-,h2⟩
     rw [List.take_of_length_le (Nat.le_refl _)] at h1
     exact ⟨v',rfl,h1,h2⟩
end
section
open Lib (hid)
open Go.RowKit Go.Maps
def a4w (B F : Nat) (c : CM) (φ L S : List Int) (w : World) (e : Ending) (w' : World) : Prop :=
 ∃ (c' : CM) (kn' : List (Option Int)) (ro' rk' : Nat→Nat) (l : List Int) (xs : List Nat) (g cap : Nat),e=.returned (.slice (some ⟨g,0,none⟩) L.length cap)∧xs.length=L.length∧Cls B F c' kn' ro' rk' (o5 L [] S).2 (φ ++ l) w'∧xs.map (fun x => (φ ++ l)[x]?)=(o5 L [] S).1.map some∧Mv F c c' w w'∧V4 c c' w∧c'.up.length≤c.up.length + L.length ∧
  s7 F c' w' g∧w.heap.size≤g∧L.length≤cap∧cap≤maxLen∧∀ j (hj : j<xs.length),w'.cell? ⟨g,j,none⟩=some (.int .i64 (xs[j] : Nat))
theorem V2 {w : World} {v : Value} : ∀ (j : Nat) u,[v][j]?=some u→(w.alloc (.cells #[v] 3)).cell? ((⟨w.heap.size,0,none⟩ : Addr).add j)=some u:=by
 intro j u hu
 cases j with
 | zero => cases hu; rw [Go.WideShapes.add_plain]; simp
 | succ j => cases hu
theorem aO {n : Int} : ∀ u∈[Value.int .i64 n],u.oneCell'=true:=by simp [Value.oneCell']
theorem a2D {W : World} {B B' T k n : Nat} {v : Value} {xs : List Value} (h : W.ownsRow B T k v n xs) (hb : B'≤B) : W.ownsRow B' T k v n xs:=by
 obtain ⟨h1,h2⟩:=h
 refine ⟨h1,?_⟩
 rcases h2 with h2 | ⟨g,cap,cur,e,hg,h3⟩
 ·exact .inl h2
 ·exact .inr ⟨g,cap,cur,e,Nat.le_trans hb hg,h3⟩
theorem mW {av : Nat→Prop} {w w' : World} {pa : Option Addr} {l : List Int} (h : y6 av w pa l) (ha : ∀ b,av b→b<w.heap.size) (hb : Below w.heap.size w w') : y6 av w' pa l:=h.move (fun b hb' => hb.block b (ha b hb')) fun _ h => h
theorem pG (av : Nat→Prop) (B F : Nat) (c : CM) (kn : List (Option Int)) (ro rk : Nat→Nat) (S φ : List Int) (nm : ByteArray) (l : List Int) (r : Int) (pa : Option Addr) (pc : Nat) (w : World) (h : Cls B F c kn ro rk S φ w) (hl : c.up.length + 10≤1000000) (hI : y6 av w pa l) (h0 : pa=none→pc=0) (ha : ∀ b,av b→b<w.heap.size) (hn : l.length≤8) (hT : ∀ t∈l ++ [r],0≤t∧t≤20) :
 Calls Tryz.prog 124 #[.pointer (some ⟨F,0,none⟩),.agg #[.string nm,.slice pa l.length pc,.int .i64 r]] w (a4w B F c φ (l ++ [r]) S w):=by
 obtain ⟨i1,hi,hq0,hq1,hq2⟩:=info_parts (show (Tryz.prog.info? 3).map (fun i => (i.zero,i.size,i.bytes))=some (some (.int .i64 0),1,8) by kernel_rfl)
 have HI1:=hid (show _∧_∧_∧_ from ⟨hi,hq0,hq1,hq2⟩)
 clear hi hq0 hq1 hq2
 have hmm:=@run_makeMap Tryz.prog
 obtain ⟨W1,hW1⟩ : ∃ W,W=(w.alloc (.cells #[.string nm,.slice pa l.length pc,.int .i64 r] 36)).alloc (.map #[] 0):=⟨_,rfl⟩
 have B1:=hid (show Below w.heap.size w W1 from hW1 ▸ ((a7 _ _).alloc (by simp) _))
 have Z1:=hid (show W1.heap.size=w.heap.size + 2 by rw [hW1]; simp)
 have K3:=hid (show W1.heap[w.heap.size]?=some (.cells #[.string nm,.slice pa l.length pc,.int .i64 r] 36 (0,0)) by rw [hW1]; refine dJ (by simp) ?_; exact O0 _ _ (by simp))
 have M1:=hid (show q7 3 (w.heap.size + 1) 0 (fun _ => none) W1 by
  have:=q7.made 3 (w.alloc (.cells #[.string nm,.slice pa l.length pc,.int .i64 r] 36))
  rw [hW1]
  rwa [yY] at this)
 have HS:=hid (show ∀ cur,Below W1.heap.size W1 cur→Below W1.heap.size W1 cur∧cur.cell? ⟨w.heap.size,1,none⟩=some (.slice pa l.length pc)∧cur.cell? ⟨w.heap.size,2,none⟩=some (.int .i64 r) from fun cur hb => ⟨hb,(hb.cell (p:=⟨w.heap.size,1,none⟩) (by have:=Z1.out; show w.heap.size<_; omega)).trans (by simp [World.cell?,K3.out]),(hb.cell (p:=⟨w.heap.size,2,none⟩) (by have:=Z1.out; show w.heap.size<_; omega)).trans (by simp [World.cell?,K3.out])⟩)
 have HCl:=hid (show ∀ cur,Below W1.heap.size W1 cur→Calls Tryz.prog 31 #[.slice pa l.length pc] cur fun e w' => ∃ v',e=.returned v'∧w'.ownsRow W1.heap.size 3 1 v' l.length (l.map fun (n : Int) => .int .i64 n)∧Below cur.heap.size cur w' from fun cur hb => (kH av l pa pc cur (mW (mW hI ha B1) (fun b hb => Nat.lt_of_lt_of_le (ha b hb) B1.out.size) hb) (by omega) h0).mono fun _ _ ⟨v',h1,h2,h3⟩ => ⟨v',h1,a2D h2 hb.size,h3⟩)
 have HC:=hid h
 have HT:=hid hT
 have HL:=hid hl
 clear hI h hT hl ha
 go_enter Tryz.func124,Tryz.ntmps124
 go_upto_region 3 with fail
 rw [← hW1]
 clear hW1
 go_cut [18,19,20] from 12 to 20 (fun s18 s19 s20 wx => ∃ ga cap,s18=.slice (some ⟨ga,0,none⟩) (l.length + 1) cap∧s19=.int .i64 ((l.length : Int) + 1)∧s20=.int .i64 0∧Hid (Below W1.heap.size W1 wx∧wx.ownsRow W1.heap.size 3 1 (.slice (some ⟨ga,0,none⟩) (l.length + 1) cap) (l.length + 1) ((l.map fun (n : Int) => .int .i64 n) ++ [.int .i64 r])))
 case first =>
  refine wp_region_held_drew (S:=fun cur => Below W1.heap.size W1 cur∧cur.cell? ⟨w.heap.size,1,none⟩=some (.slice pa l.length pc)∧cur.cell? ⟨w.heap.size,2,none⟩=some (.int .i64 r)) (by kernel_rfl) ?_ (fun hHeld => ?_)
  ·exact HS.out _ (Below.refl _ _).drew
  have HB:=hid (show Below W1.heap.size W1 W1.drew from (Below.refl _ _).drew)
  refine a8 0 ?_; refine a8 1 ?_; refine a8 3 ?_; refine a8 4 ?_; refine a8 8 ?_
  refine wpAnyH_ready (rs:=[2,5]) (by kernel_rfl) (by simp) ?_
  refine AllReadyH.cons (r6 rfl) (fun K hK => ?_) (AllReadyH.cons (r6 rfl) (fun K hK => ?_) AllReadyH.nil)
  ·go_simp
   (with_reducible refine Calls.mono (HCl.out _ HB.out) ?_)
   rintro e wm ⟨v',rfl,own,hb⟩
   go_wp2_with fail
   have OW:=hid own
   have HB2:=hid (HB.out.trans (hb.mono HB.out.size))
   refine hK.out _ _ (HS.out _ HB2) (fun hHeld => ?_)
   clear hK K own hb HB
   try simp only [Act.put,j6,v6,v7]
   refine wpAnyH_ready (rs:=[5]) (by kernel_rfl) (by simp) ?_
   refine AllReadyH.cons (r6 rfl) (fun K hK => ?_) AllReadyH.nil
   go_simp
   have HB3:=hid (show Below W1.heap.size W1 (wm.alloc (.cells #[.int .i64 r] 3)) from HB2.out.alloc HB2.out.size _)
   refine hK.out _ _ (HS.out _ HB3) (fun hHeld => ?_)
   clear hK K
   have OW2:=hid (OW.out.alloc (.cells #[.int .i64 r] 3))
   try simp only [Act.put,j6,v6,v7]
   refine wpAnyH_ready (rs:=[6]) (by kernel_rfl) (by simp) ?_
   refine AllReadyH.cons (r6 rfl) (fun K hK => ?_) AllReadyH.nil
   refine step_append_lies _ rfl _ _ 34 rfl W1.heap.size 3 i1 (.int .i64 0) 1 8 Tryz.underlying34 HI1.out.1 HI1.out.2.1 HI1.out.2.2.1 HI1.out.2.2.2 rfl (by decide) v' l.length _ rfl OW2 ⟨wm.heap.size,0,none⟩ 1 1 [.int .i64 r] rfl rfl V2 aO (by decide) (by unfold maxLen; omega) (by omega) HB3.out.size _ rfl ?_
   intro ga cap w6 hown hgrow hat hlt
   have HB4:=hid (HB3.out.grown hgrow HB3.out.size (fun r e => (OW2.out.lt _ e).1))
   refine hK.out _ _ (HS.out _ HB4) (fun hHeld => ?_)
   clear hK K
   try simp only [Act.put,j6,v6,v7]
   refine a8 7 ?_
   refine wpAnyH_done (by kernel_rfl) ?_ _
   go_wp2_with fail
   go_meet
   case rel => exact ⟨_,_,rfl,rfl,rfl,HB4,hown⟩
  ·go_simp
   obtain ⟨W2,hW2⟩ : ∃ W,W=(W1.alloc (.cells #[.int .i64 r] 3)).drew:=⟨_,rfl⟩
   have HB2:=hid (show Below W1.heap.size W1 W2 from hW2 ▸ r8 (a7 _ _))
   have NEW1:=hid (show (∀ (j : Nat) u,[Value.int .i64 r][j]?=some u→W2.cell? ((⟨W1.heap.size,0,none⟩ : Addr).add j)=some u)∧W1.heap.size<W2.heap.size from hW2 ▸ ⟨fun j u hu => V2 (w:=W1) j u hu,by show W1.heap.size<(W1.alloc _).heap.size; simp⟩)
   rw [← hW2]
   clear hW2
   refine hK.out _ _ (HS.out _ HB2) (fun hHeld => ?_)
   clear hK K
   try simp only [Act.put,j6,v6,v7]
   refine wpAnyH_ready (rs:=[2]) (by kernel_rfl) (by simp) ?_
   refine AllReadyH.cons (r6 rfl) (fun K hK => ?_) AllReadyH.nil
   go_simp
   (with_reducible refine Calls.mono (HCl.out _ HB2.out) ?_)
   rintro e wm ⟨v',rfl,own,hb⟩
   go_wp2_with fail
   have OW2:=hid own
   have HB3:=hid (HB2.out.trans (hb.mono HB2.out.size))
   have NEW:=hid (show ∀ (j : Nat) u,[Value.int .i64 r][j]?=some u→wm.cell? ((⟨W1.heap.size,0,none⟩ : Addr).add j)=some u from fun j u hu => (hb.cell (p:=(⟨W1.heap.size,0,none⟩ : Addr).add j) (by rw [Go.WideShapes.add_plain]; exact NEW1.out.2)).trans (NEW1.out.1 j u hu))
   refine hK.out _ _ (HS.out _ HB3) (fun hHeld => ?_)
   clear hK K own hb
   try simp only [Act.put,j6,v6,v7]
   refine wpAnyH_ready (rs:=[6]) (by kernel_rfl) (by simp) ?_
   refine AllReadyH.cons (r6 rfl) (fun K hK => ?_) AllReadyH.nil
   refine step_append_lies _ rfl _ _ 34 rfl W1.heap.size 3 i1 (.int .i64 0) 1 8 Tryz.underlying34 HI1.out.1 HI1.out.2.1 HI1.out.2.2.1 HI1.out.2.2.2 rfl (by decide) v' l.length _ rfl OW2 ⟨W1.heap.size,0,none⟩ 1 1 [.int .i64 r] rfl rfl NEW aO (by decide) (by unfold maxLen; omega) (by omega) HB3.out.size _ rfl ?_
   intro ga cap w6 hown hgrow hat hlt
   have HB4:=hid (HB3.out.grown hgrow HB3.out.size (fun r e => (OW2.out.lt _ e).1))
   refine hK.out _ _ (HS.out _ HB4) (fun hHeld => ?_)
   clear hK K
   try simp only [Act.put,j6,v6,v7]
   refine a8 7 ?_
   refine wpAnyH_done (by kernel_rfl) ?_ _
   go_wp2_with fail
   go_meet
   case rel => exact ⟨_,_,rfl,rfl,rfl,HB4,hown⟩
 case rest =>
  obtain ⟨ga,cap,rfl,rfl,rfl,HX⟩:=hcut
  obtain ⟨L,hL⟩ : ∃ L,L=l ++ [r]:=⟨_,rfl⟩
  obtain ⟨N,hN⟩ : ∃ N,N=l.length + 1:=⟨_,rfl⟩
  have HN:=hid (show L.length=N by rw [hL,hN]; simp)
  obtain ⟨b1,hb1⟩ : ∃ b,b=w.heap.size + 1:=⟨_,rfl⟩
  have HXB:=hid (show Below w.heap.size w wc from B1.out.trans (HX.out.1.mono B1.out.size))
  have HI0:=hid (show UsedI B F c φ L b1 ga w 0 (.slice none 0 0) [] c kn ro rk S φ (fun _ => none) 0 wc from by
   have hga:=HX.out.2.lt ga rfl
   have hz:=Z1.out
   have hzc:=HX.out.1.size
   refine ⟨HC.out.below HXB,⟨[],by simp⟩,Mv.of HXB,V4.refl _ _,?_,⟨rfl,.inl ⟨rfl,rfl⟩⟩,(fun g e => by cases e),⟨HC.out.apart_new (by omega) (by omega),by omega⟩,⟨HC.out.apart_new (by omega) (by omega),by omega⟩,fun j hj => ?_⟩
   ·rw [hb1]
    exact M1.out.kept (HX.out.1.block _ (by omega))
   ·have:=HX.out.2.cells (g:=ga) rfl j (.int .i64 L[j]) (by rw [← List.map_singleton (f:=fun (n : Int) => Value.int .i64 n),← List.map_append,← hL,List.getElem?_map,List.getElem?_eq_getElem hj]; rfl)
    rwa [Go.WideShapes.add_plain,Nat.zero_add] at this)
  have HN8:=hid (show N≤9 by omega)
  have HLL:=hid hL
  rw [show (l.length : Int) + 1=((N : Nat) : Int) by omega,← hN]
  rw [← hL] at HT
  rw [← hb1]
  have hN9 : N≤9223372036854775807:=by omega
  clear hN hL hn HCl HS HX M1 K3 HC B1 Z1 hb1 h0
  go_wp2_with fail
  go_loopw [6,20] (fun o i wr => ∃ (k : Nat) (xs : List Nat),i=.int .i64 k∧k≤N∧Hid (∃ c' kn' ro' rk' S' φ' f n,UsedI B F c φ L b1 ga w k o xs c' kn' ro' rk' S' φ' f n wr∧UsedQ S S' φ' L k xs f∧c'.up.length≤c.up.length + k∧n≤k)) (fun _ i _ => N - (intOf i).toNat)
  case atStart => exact ⟨0,[],rfl,Nat.zero_le _,c,kn,ro,rk,S,φ,fun _ => none,0,HI0,UsedQ.start S φ L,Nat.le_refl _,Nat.le_refl _⟩
  case round =>
   obtain ⟨k,xs,rfl,hk,HH⟩:=hrel
   clear HI0
   obtain ⟨c',kn',ro',rk',S',φ',f,n,hI,hQ,hcs,hnk⟩:=HH.out
   have HI:=hid hI
   have HQ:=hid hQ
   have HS:=hid hcs
   have HNK:=hid hnk
   clear hI hQ hcs hnk HH
   by_cases hlt : k<N
   ·have hkL : k<L.length:=by have:=HN.out; omega
    have cg:=HI.out.all k hkL
    have HTk:=hid (HT.out L[k] (List.getElem_mem hkL))
    by_cases ht : L[k]<5
    ·have C:=hid (eL HI.out.cls (by have:=HS.out; have:=HL.out; have:=HN8.out; omega) L[k] ⟨HTk.out.1,ht⟩)
     have HQ2:=hid (HQ.out.known hkL ht)
     generalize L[k]=t at cg HTk ht C HQ2
     have HQ3:=hid (HI.out.cls.sim.len.2 ▸ HQ2.out)
     clear HQ2
     have HQ2:=HQ3
     clear HQ3
     go_wp2_with fail
     (with_reducible refine Calls.mono C.out ?_)
     rintro e w2 ⟨c2,kn2,ro2,rk2,rfl,hl2,hcl2,hm2,hn2⟩
     have HI2:=hid (HI.out.move hcl2 hm2 hn2)
     have HS2:=hid (show c2.up.length≤c.up.length + (k + 1) by have:=HS.out; omega)
     clear C hl2 hcl2 hm2 hn2 HI HQ
     generalize c'.up.length=q at HQ2
     obtain ⟨W3,hW3⟩ : ∃ W,W=w2.alloc (.cells #[.int .i64 (q : Nat)] 3):=⟨_,rfl⟩
     have B3:=hid (show Below w2.heap.size w2 W3 from hW3 ▸ a7 _ _)
     have N3:=hid (show ∀ (j : Nat) u,[Value.int .i64 (q : Nat)][j]?=some u→W3.cell? ((⟨w2.heap.size,0,none⟩ : Addr).add j)=some u from hW3 ▸ V2)
     have HW3:=hid hW3
     clear hW3
     go_wp2_with (at_builtin; rw [← HW3.out]; refine wpList_append_lies _ rfl _ _ 34 rfl w.heap.size 3 i1 (.int .i64 0) 1 8 Tryz.underlying34 HI1.out.1 HI1.out.2.1 HI1.out.2.2.1 HI1.out.2.2.2 rfl (by decide) u6 k _ rfl (n8 HI2.out.row B3) ⟨w2.heap.size,0,none⟩ 1 1 [.int .i64 (q : Nat)] rfl rfl N3 aO (by decide) (by have:=HN8.out; unfold maxLen; omega) (by have:=HN8.out; omega) (by have:=HI2.out.mv.size; have:=B3.out.size; omega) _ rfl ?_)
     intro g cap' w6 hown hgrow hat hlt'
     have HI3:=hid (HI2.out.app B3 hgrow hat hlt' hown)
     clear hown hgrow hat hlt' B3 N3 HW3 HI2
     go_wp2_with fail
     go_roundw
     case rel => exact ⟨k + 1,_,by go_num,by omega,_,_,_,_,_,_,_,_,HI3,HQ2,HS2,by have:=HNK.out; omega⟩
     case measure => simp [intOf]; omega
    ·have hm1:=hid HI.out.map
     rcases HQ.out.look L[k] with e | ⟨q,e⟩
     ·have hlk:=(HI.out.map.look a2G Tryz.underlying92 (iP wr) (mX (t:=L[k]) (by have:=HTk.out; omega))).1
      rw [e] at hlk
      have C:=hid (yX HI.out.cls (by have:=HS.out; have:=HL.out; have:=HN8.out; omega))
      have HQ2:=hid (fun f' => HQ.out.new (f':=f') hkL ht e)
      generalize L[k]=t at cg HTk ht HQ2 hlk
      go_wp2_with fail
      (with_reducible refine Calls.mono C.out ?_)
      rintro e' w2 ⟨c2,kn2,ro2,rk2,rfl,hl2,hcl2,hm2,hn2⟩
      have HI4:=hid (HI.out.move hcl2 hm2 hn2)
      have HS2:=hid (show c2.up.length≤c.up.length + (k + 1) by have:=HS.out; omega)
      have HQ3:=hid (show ∀ f' : Lit→Option Value,f' (.int .i64 t)=some (.int .i64 (c'.up.length : Nat))→(∀ x,x≠.int .i64 t→f' x=f x)→UsedQ S (frT S') (φ' ++ [5 + (S'.length : Int)]) L (k + 1) (xs ++ [c'.up.length]) f' from HI.out.cls.sim.len.2 ▸ HQ2.out)
      clear C hl2 hcl2 hm2 hn2 HI HQ HQ2 hlk e hm1 HS
      generalize c'.up.length=q at HQ3
      go_wp2_with (at_mapUpdate; refine eU HI4.out.map rfl _ _ _ 92 rfl 3 a2G Tryz.underlying92 rfl (by have:=HNK.out; have:=HN8.out; unfold maxLen; omega) _ _ _ rfl rfl (mX (t:=t) (by have:=HTk.out; omega)) ?_)
      intro w5 hmp hgr
      obtain ⟨f',e1,e2⟩ : ∃ f' : Lit→Option Value,f' (.int .i64 t)=some (.int .i64 (q : Nat))∧∀ x,x≠.int .i64 t→f' x=f x:=by
       classical exact ⟨fun x => if x=.int .i64 t then some (.int .i64 (q : Nat)) else f x,if_pos rfl,fun x hx => if_neg hx⟩
      have HI2:=hid (HI4.out.put hgr (hmp f' e1 e2))
      have HQ2:=hid (HQ3.out f' e1 e2)
      clear e1 e2
      clear hmp hgr HI4 HQ3
      obtain ⟨W3,hW3⟩ : ∃ W,W=w5.alloc (.cells #[.int .i64 (q : Nat)] 3):=⟨_,rfl⟩
      have B3:=hid (show Below w5.heap.size w5 W3 from hW3 ▸ a7 _ _)
      have N3:=hid (show ∀ (j : Nat) u,[Value.int .i64 (q : Nat)][j]?=some u→W3.cell? ((⟨w5.heap.size,0,none⟩ : Addr).add j)=some u from hW3 ▸ V2)
      have HW3:=hid hW3
      clear hW3
      go_wp2_with (at_builtin; rw [← HW3.out]; refine wpList_append_lies _ rfl _ _ 34 rfl w.heap.size 3 i1 (.int .i64 0) 1 8 Tryz.underlying34 HI1.out.1 HI1.out.2.1 HI1.out.2.2.1 HI1.out.2.2.2 rfl (by decide) u6 k _ rfl (n8 HI2.out.row B3) ⟨w5.heap.size,0,none⟩ 1 1 [.int .i64 (q : Nat)] rfl rfl N3 aO (by decide) (by have:=HN8.out; unfold maxLen; omega) (by have:=HN8.out; omega) (by have:=HI2.out.mv.size; have:=B3.out.size; omega) _ rfl ?_)
      intro g cap' w6 hown hgrow hat hlt'
      have HI3:=hid (HI2.out.app B3 hgrow hat hlt' hown)
      clear hown hgrow hat hlt' B3 N3 HW3 HI2
      go_wp2_with fail
      go_roundw
      case rel => exact ⟨k + 1,_,by go_num,by omega,_,_,_,_,_,_,_,_,HI3,HQ2,HS2,by have:=HNK.out; omega⟩
      case measure => simp [intOf]; omega
     ·have hlk:=(HI.out.map.look a2G Tryz.underlying92 (iP wr) (mX (t:=L[k]) (by have:=HTk.out; omega))).1
      rw [e] at hlk
      have HQ2:=hid (HQ.out.old hkL ht e)
      have HS2:=hid (show c'.up.length≤c.up.length + (k + 1) by have:=HS.out; omega)
      generalize L[k]=t at cg HTk ht HQ2 hlk e
      have HI2:=HI
      clear hm1 HQ HS e HI
      obtain ⟨W3,hW3⟩ : ∃ W,W=wr.alloc (.cells #[.int .i64 (q : Nat)] 3):=⟨_,rfl⟩
      have B3:=hid (show Below wr.heap.size wr W3 from hW3 ▸ a7 _ _)
      have N3:=hid (show ∀ (j : Nat) u,[Value.int .i64 (q : Nat)][j]?=some u→W3.cell? ((⟨wr.heap.size,0,none⟩ : Addr).add j)=some u from hW3 ▸ V2)
      have HW3:=hid hW3
      clear hW3
      go_wp2_with (at_builtin; rw [← HW3.out]; refine wpList_append_lies _ rfl _ _ 34 rfl w.heap.size 3 i1 (.int .i64 0) 1 8 Tryz.underlying34 HI1.out.1 HI1.out.2.1 HI1.out.2.2.1 HI1.out.2.2.2 rfl (by decide) u6 k _ rfl (n8 HI2.out.row B3) ⟨wr.heap.size,0,none⟩ 1 1 [.int .i64 (q : Nat)] rfl rfl N3 aO (by decide) (by have:=HN8.out; unfold maxLen; omega) (by have:=HN8.out; omega) (by have:=HI2.out.mv.size; have:=B3.out.size; omega) _ rfl ?_)
      intro g cap' w6 hown hgrow hat hlt'
      have HI3:=hid (HI2.out.app B3 hgrow hat hlt' hown)
      clear hown hgrow hat hlt' B3 N3 HW3 HI2
      go_wp2_with fail
      go_roundw
      case rel => exact ⟨k + 1,_,by go_num,by omega,_,_,_,_,_,_,_,_,HI3,HQ2,HS2,by have:=HNK.out; omega⟩
      case measure => simp [intOf]; omega
   ·obtain rfl : k=N:=by omega
    have HE:=hid HI.out.row
    obtain ⟨g,cap',e,hg,-⟩:=HI.out.row.form (by have:=HN.out; rw [HLL.out,List.length_append,List.length_singleton] at this; omega)
    subst e
    obtain ⟨l',hl'⟩:=HI.out.pre
    subst hl'
    have HG:=hid hg
    clear hg
    go_wp2_with fail
    go_ret
    rw [← HLL.out]
    obtain ⟨h1,h2⟩:=UsedQ.done (HN.out ▸ HQ.out)
    rw [h1] at HI
    have hcap:=HE.out
    refine ⟨c',kn',ro',rk',l',xs,g,cap',(by rw [HN.out]; rfl),by rw [HN.out]; exact HQ.out.len,HI.out.cls,h2,HI.out.mv,HI.out.np,by rw [HN.out]; exact HS,(HI.out.vA g rfl).1,HG,?_,?_,fun j hj => ?_⟩
    ·rw [HN.out]
     rcases hcap.2 with ⟨e,-⟩ | ⟨g',cap2,cur,e,-,-,h3,h4,-⟩
     ·cases e
     ·cases e; exact h3
    ·rcases hcap.2 with ⟨e,-⟩ | ⟨g',cap2,cur,e,-,-,h3,h4,-⟩
     ·cases e
     ·cases e; exact h4
    ·have:=hcap.cells (g:=g) rfl j (.int .i64 (xs[j] : Nat)) (by rw [List.getElem?_map,List.getElem?_eq_getElem hj]; rfl)
     rwa [Go.WideShapes.add_plain,Nat.zero_add] at this
end
end Go.Proofs.YtppcfebnaieciaaGreatDoor
