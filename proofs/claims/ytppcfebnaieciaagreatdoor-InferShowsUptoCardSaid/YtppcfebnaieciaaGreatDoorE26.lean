/-
  Laws that the proof rests on.
-/
import Derived.Test.YtppcfebnaieciaaGreatDoorE25
import Derived.Test.YtppcfebnaieciaaGreatDoorE07
import Derived.Test.YtppcfebnaieciaaGreatDoorE01
namespace Go.Proofs.YtppcfebnaieciaaGreatDoor
set_option maxRecDepth 100000
set_option maxHeartbeats 16000000
section
open Go.RowKit
structure TkG (t : Tk) : Prop where
 n : -1000000000000000≤t.n∧t.n≤1000000000000000
 len : t.text.length≤49
 z : TkZ t
theorem Z3 {k n p : Int} {s : List UInt8} (h8 : k≠8) (h2 : k≠2) (h4 : k=4→n=0) (hn : -1000000000000000≤n∧n≤1000000000000000) (hs : s.length≤49) : TkG ⟨k,s,n,p⟩ :=
 ⟨hn,hs,⟨fun h => by rcases h with h | h; exact h4 h; exact absurd h h2,fun h => absurd h h8,fun h => absurd h h2⟩⟩
theorem tL {s : List UInt8} {p : Int} (hs : s.length≤2) : TkG ⟨8,s,0,p⟩ :=
 ⟨⟨by show (-1000000000000000 : Int)≤0; decide,by show (0 : Int)≤1000000000000000; decide⟩,by show s.length≤49; omega,⟨fun _ => rfl,fun _ => ⟨fun e => by (have : s=gL:=e); subst this; exact absurd hs (by decide),fun e => by (have : s=dG:=e); subst this; exact absurd hs (by decide),fun e => by (have : s=gS:=e); subst this; exact absurd hs (by decide),fun e => by (have : s=gP:=e); subst this; exact absurd hs (by decide)⟩,fun h => absurd h (by show ¬ (8 : Int)=2; decide)⟩⟩
theorem a0z (c : UInt8) (h : smC c=true) : c≠40:=by
 rintro rfl; exact absurd h (by decide)
theorem wW {c : UInt8} {r : List UInt8} {pos : Int} {t : Tk} {n : Nat} (hc : smC c=true) (h : cQ (c :: r) pos=.ok (t,n)) : TkG t∧t.pos=pos:=by
 unfold cQ at h
 simp only at h
 have h1 : 1≤y6 (c :: r):=by show 1≤(if smC c=true then 1 + (r.takeWhile inC).length else 0); rw [if_pos hc]; omega
 obtain ⟨m,hm⟩ : ∃ m,y6 (c :: r)=m + 1:=⟨y6 (c :: r) - 1,by omega⟩
 split at h
 ·split at h
  ·cases h
  ·rename_i hq
   cases h
   refine ⟨Z3 (by decide) (by decide) (fun e => rfl) (by decide) ?_,rfl⟩
   rw [List.length_append,List.length_cons]
   have a1:=List.length_take_le (y6 (c :: r)) (c :: r)
   have a2:=List.length_take_le (y6 ((c :: r).drop (y6 (c :: r) + 1))) ((c :: r).drop (y6 (c :: r) + 1))
   omega
 ·split at h
  ·cases h
  ·rename_i hq
   cases h
   have hl : ((c :: r).take (y6 (c :: r))).length≤49:=by
    have a1:=List.length_take_le (y6 (c :: r)) (c :: r)
    omega
   split
   ·refine ⟨⟨by show (-1000000000000000 : Int)≤0∧(0 : Int)≤1000000000000000; decide,hl,⟨fun _ => rfl,fun e => absurd e (by show ¬ (2 : Int)=8; decide),fun _ e => ?_⟩⟩,rfl⟩
    replace e : (c :: r).take (y6 (c :: r))=[40]:=e
    rw [hm,List.take_succ_cons] at e
    exact a0z c hc (List.cons.inj e).1
   ·exact ⟨Z3 (by decide) (by decide) (fun e => rfl) (by decide) hl,rfl⟩
theorem tY {l : List UInt8} {v : Int} (h : aT l=some v) : 0≤v:=by
 unfold aT at h
 simp only at h
 split at h
 ·rename_i hq
  cases h
  obtain ⟨h1,h2,h3,h4⟩:=hq
  have hw : (l.takeWhile dgC).all dgC=true:=List.all_takeWhile
  have ht : (l.drop (l.takeWhile dgC).length).tail.all dgC=true:=by
   cases hd : l.drop (l.takeWhile dgC).length with
   | nil => rfl
   | cons c p =>
     rw [hd] at h4
     unfold cN at h4
     simp only [Bool.and_eq_true] at h4
     exact h4.2.2
  refine (fU (n:=(l.takeWhile dgC ++ (l.drop (l.takeWhile dgC).length).tail ++ List.replicate (6 - (l.drop (l.takeWhile dgC).length).tail.length) 48).length) ?_ (Nat.le_refl _)).1
  rw [List.all_append,List.all_append,hw,ht,List.all_eq_true.2 fun x hx => by rw [List.eq_of_mem_replicate hx]; rfl]
  rfl
 ·cases h
theorem a44 {l : List UInt8} {v : Int} (h : oG l=some v) : -1000000000000000≤v∧v≤1000000000000000:=by
 unfold oG at h
 split at h
 ·split at h
  ·rename_i n hn
   have:=tY hn
   split at h
   ·cases h
   ·cases h; omega
  ·cases h
 ·split at h
  ·rename_i n hn
   have:=tY hn
   split at h
   ·cases h
   ·cases h; omega
  ·cases h
theorem a4i {l : List UInt8} {v : Int} (h : wQ l=some v) : 0≤v∧v≤73048:=by
 unfold wQ at h
 split at h
 ·rename_i hq
  cases h
  exact Cal.num_bd hq.2.2
 ·cases h
theorem a3o {c : UInt8} {r : List UInt8} {pos : Int} {t : Tk} {n : Nat} (h : dW c r pos=.ok (t,n)) : TkG t∧t.pos=pos:=by
 unfold dW at h
 split at h
 ·rename_i hs; exact wW hs h
 split at h
 ·unfold aL at h
  split at h
  ·split at h
   ·cases h
   ·rename_i v hv
    have:=a4i hv
    split at h
    ·cases h; exact ⟨Z3 (by decide) (by decide) (fun e => by cases e) (by omega) (by decide),rfl⟩
    ·cases h
  ·split at h
   ·cases h
   ·rename_i v hv
    have:=a44 hv
    split at h
    ·cases h; exact ⟨Z3 (by decide) (by decide) (fun e => by cases e) (by omega) (by decide),rfl⟩
    ·cases h
 split at h
 ·unfold dE at h
  split at h
  ·cases h
  ·split at h
   ·rename_i hn
    cases h
    obtain ⟨c,r,-,-,-,hl⟩:=wR hn
    exact ⟨Z3 (by decide) (by decide) (fun e => by cases e) (by decide) (by omega),rfl⟩
   ·cases h
 split at h
 ·unfold a4L at h
  split at h
  ·cases h
   refine ⟨Z3 (by decide) (by decide) (fun e => rfl) (by decide) ?_,rfl⟩
   have:=List.length_take_le 3 (c :: r)
   omega
  ·cases h
 ·unfold nU at h
  split at h
  ·cases h; exact ⟨tL (by decide),rfl⟩
  ·split at h
   ·cases h; exact ⟨tL (by show [c].length≤2; simp),rfl⟩
   ·cases h
theorem bT.cons {t : Tk} {ts : List Tk} (h : bT ts) (hne : ts≠[]) : bT (t :: ts):=by
 intro j hj hk
 have hp:=List.length_pos_iff.2 hne
 cases j with
 | zero => rw [List.length_cons]; omega
 | succ j =>
   have:=h j (by rw [List.length_cons] at hj; omega) hk
   rw [List.length_cons]; omega
theorem eV : ∀ (l : List UInt8) (pos : Int) (k s : Nat) (ts : List Tk),x7 l pos k s=.ok ts→(∀ t∈ts,TkG t∧pos≤t.pos∧t.pos≤pos + l.length)∧bT ts∧ts≠[]
 | [],pos,k,_,ts,h => by
   unfold x7 at h
   cases h
   refine ⟨fun t ht => ?_,fun j hj hk => ?_,by simp⟩
   ·obtain rfl:=List.mem_singleton.1 ht
    exact ⟨Z3 (by decide) (by decide) (fun e => rfl) (by decide) (by decide),Int.le_refl _,by simp⟩
   ·have : j=0:=by simp at hj; omega
    subst this; exact absurd (show (0 : Int)=0 from rfl) hk
 | c :: r,pos,k,s + 1,ts,h => by
   unfold x7 at h
   obtain ⟨h1,h2,h3⟩:=eV r (pos + 1) k s ts h
   refine ⟨fun t ht => ?_,h2,h3⟩
   obtain ⟨a,b,d⟩:=h1 t ht
   exact ⟨a,by omega,by rw [List.length_cons]; omega⟩
 | c :: r,pos,k,0,ts,h => by
   have go : ∀ s,x7 r (pos + 1) k s=.ok ts→(∀ t∈ts,TkG t∧pos≤t.pos∧t.pos≤pos + (c :: r).length)∧bT ts∧ts≠[]:=fun s hs => by
    obtain ⟨h1,h2,h3⟩:=eV r (pos + 1) k s ts hs
    refine ⟨fun t ht => ?_,h2,h3⟩
    obtain ⟨a,b,d⟩:=h1 t ht
    exact ⟨a,by omega,by rw [List.length_cons]; omega⟩
   unfold x7 at h
   split at h
   ·exact go 0 h
   split at h
   ·exact go _ h
   split at h
   ·cases h
   ·rename_i t n ht
    split at h
    ·cases h
    ·rename_i hk
     split at h
     ·cases h
     ·rename_i us hus
      cases h
      obtain ⟨h1,h2,h3⟩:=eV r (pos + 1) (k + 1) _ us hus
      refine ⟨fun u hu => ?_,h2.cons h3,by simp⟩
      rcases List.mem_cons.1 hu with rfl | hu
      ·obtain ⟨a,b⟩:=a3o ht
       exact ⟨a,by omega,by rw [List.length_cons]; omega⟩
      ·obtain ⟨a,b,d⟩:=h1 u hu
       exact ⟨a,by omega,by rw [List.length_cons]; omega⟩
theorem xO {l : List UInt8} {ts : List Tk} (h : aC l=.ok ts) : (∀ t∈ts,bP t)∧(∀ t∈ts,TkZ t)∧bT ts∧ts≠[]:=by
 unfold aC at h
 split at h
 ·cases h
 ·rename_i hl
  obtain ⟨h1,h2,h3⟩:=eV l 0 0 0 ts h
  refine ⟨fun t ht => ?_,fun t ht => (h1 t ht).1.z,h2,h3⟩
  obtain ⟨⟨hn,hs,-⟩,hp,hq⟩:=h1 t ht
  exact ⟨WalkArith.wf_i64 (by omega),WalkArith.wf_i64 (by omega),by omega⟩
end
section
open Go.RowKit
structure AllC (P g cap : Nat) (ts l : List Tk) : Prop where
 e : CE P g cap ts l
 c : ∀ lv,lv≤3→CC P g cap ts lv l
 n : CN P g cap ts l
 u : CU P g cap ts l
theorem vB (P g cap : Nat) (ts : List Tk) (he : bT ts) (htk : ∀ t∈ts,bP t) (htz : ∀ t∈ts,TkZ t) : ∀ (N : Nat) (l : List Tk),l.length<N→AllC P g cap ts l
 | 0,l,h => absurd h (Nat.not_lt_zero _)
 | N + 1,l,h => by
   have ih : ∀ r,r.length<l.length→AllC P g cap ts r:=fun r hr => vB P g cap ts he htk htz N r (by omega)
   have q : ∀ lv r,lv≤3→AllC P g cap ts r→CL P g cap ts lv r:=fun lv r hlv a => bK P g cap ts lv hlv r (fun _ => a.c 1 (by decide)) (fun _ => a.n) (fun _ => a.c 3 (by decide)) (fun _ => a.u)
   have hA:=a0C P g cap ts he htk htz l fun r hr => (ih r hr).e
   have hU:=wY P g cap ts he htk l hA fun ht => (ih _ (by have:=D8 ht; omega)).u
   have hL3:=bK P g cap ts 3 (by decide) l (fun h => absurd h (by decide)) (fun h => absurd h (by decide)) (fun h => absurd h (by decide)) (fun _ => hU)
   have hC3:=dL P g cap ts he htk 3 (by decide) l hL3 fun r hr => q 3 r (by decide) (ih r hr)
   have hL2:=bK P g cap ts 2 (by decide) l (fun h => absurd h (by decide)) (fun h => absurd h (by decide)) (fun _ => hC3) (fun h => absurd h (by decide))
   have hC2:=dL P g cap ts he htk 2 (by decide) l hL2 fun r hr => q 2 r (by decide) (ih r hr)
   have hN:=a25 P g cap ts he htk l hC2 (fun r hr => (ih r hr).c 2 (by decide)) fun ht => (ih _ (by have:=D8 ht; omega)).n
   have hL1:=bK P g cap ts 1 (by decide) l (fun h => absurd h (by decide)) (fun _ => hN) (fun h => absurd h (by decide)) (fun h => absurd h (by decide))
   have hC1:=dL P g cap ts he htk 1 (by decide) l hL1 fun r hr => q 1 r (by decide) (ih r hr)
   have hL0:=bK P g cap ts 0 (by decide) l (fun _ => hC1) (fun h => absurd h (by decide)) (fun h => absurd h (by decide)) (fun h => absurd h (by decide))
   have hC0:=dL P g cap ts he htk 0 (by decide) l hL0 fun r hr => q 0 r (by decide) (ih r hr)
   exact ⟨a1n P g cap ts he htk l hC0 fun r hr => (ih r hr).e,fun lv hlv => by
    have hc : lv=0∨lv=1∨lv=2∨lv=3:=by omega
    rcases hc with rfl | rfl | rfl | rfl
    ·exact hC0
    ·exact hC1
    ·exact hC2
    ·exact hC3,hN,hU⟩
theorem a1E (P g cap : Nat) (ts : List Tk) (he : bT ts) (htk : ∀ t∈ts,bP t) (htz : ∀ t∈ts,TkZ t) (l : List Tk) : CE P g cap ts l:=(vB P g cap ts he htk htz _ l (Nat.lt_succ_self _)).e
def a6e (x : Rd) : Except (Int × Int) Nd:=match x with
 | .error e => .error e
 | .ok (t,r) => if (hd r).kind=0 then .ok t else .error (74,(hd r).pos)
def lM (x : Except (Int × Int) Nd) (w : World) (e : Ending) (w' : World) : Prop :=
 ∃ (t : Nd) (a : Option Addr) (cp : Nat) (f k : Int),e=.returned (.tuple #[t.val a cp,.int .i64 f,.int .i64 k])∧Below w.heap.size w w'∧match x with
  | .ok u => u=t∧f=0∧k=0∧t.lies (Fr w.heap.size w'.heap.size) w' a cp∧j3 t≤100
  | .error (c,p) => k=c∧f=p∧c≠0
end
section
open Go.RowKit
theorem aY {w W : World} {P : Nat} (h : w.grownBy W (some P)) (hP : w.heap.size≤P) : Below w.heap.size w W:=⟨h.os,h.tape,h.output,h.size,fun k hk => h.block k hk (fun e => by have:=Option.some.inj e; omega)⟩
theorem SP.make {g cap : Nat} {ts : List Tk} {base : Nat} {w : World} {T : TypeId} (h : w.ownsRow base T 4 (.slice (some ⟨g,0,none⟩) ts.length cap) ts.length (F5 ts)) (hne : ts≠[]) :
 SP w.heap.size g cap ts 0 (.ok ts) (w.alloc (.cells #[.slice (some ⟨g,0,none⟩) ts.length cap,.int .i64 0,.int .i64 0,.int .i64 0,.int .i64 0] 105)):=by
 have hg:=h.lt g rfl
 have hb:=a7 w (.cells #[.slice (some ⟨g,0,none⟩) ts.length cap,.int .i64 0,.int .i64 0,.int .i64 0,.int .i64 0] 105)
 refine ⟨0,0,0,0,⟨by show (w.heap.push _)[w.heap.size]?=_; simp,(yG.of_row h).below hb hg.2,by omega,Nat.lt_of_lt_of_le hg.2 hb.size,?_,?_,List.length_pos_iff.2 hne⟩,rfl,rfl,rfl,rfl⟩
 ·rcases h.2 with ⟨e,-⟩ | ⟨g',cap2,cur,e,-,-,h1,-⟩
  ·cases e
  ·cases e; exact h1
 ·rcases h.2 with ⟨e,-⟩ | ⟨g',cap2,cur,e,-,-,-,h1,-⟩
  ·cases e
  ·cases e; exact h1
theorem a1Y {c p : Int} {x : Except (Int × Int) Nd} {w W : World} {P : Nat} (hx : x=.error (c,p)) (hc : c≠0) (h : w.grownBy W (some P)) (hP : w.heap.size≤P) : lM x w (.returned (.tuple #[nd0.val none 0,.int .i64 p,.int .i64 c])) (T1 W w.heap.size nd0 none 0):=by
 subst hx
 exact ⟨nd0,none,0,p,c,rfl,aY (t8 h (Nat.le_refl _) nd0 none 0) hP,rfl,rfl,hc⟩
theorem pT {c p : Int} {x : Except (Int × Int) Nd} {w W : World} {P : Nat} (hx : x=.error (c,p)) (hc : c≠0) (h : w.grownBy W (some P)) (hP : w.heap.size≤P) : lM x w (.returned (.tuple #[nd0.val none 0,.int .i64 p,.int .i64 c])) (T1 W w.heap.size nd0 none 0).drew:=by
 subst hx
 exact ⟨nd0,none,0,p,c,rfl,x9 (aY (t8 h (Nat.le_refl _) nd0 none 0) hP),rfl,rfl,hc⟩
theorem a4I (k n p : Int) (s : ByteArray) (w : World) : (Instr.field 108 (.agg #[.int .i64 k,.string s,.int .i64 n,.int .i64 p]) 0).run Tryz.prog w=.ok (.int .i64 k) w:=by kernel_rfl
end
section
open Go.RowKit
theorem nL {w w' : World} {B T k n g cap : Nat} {xs : List Value} (h : w.ownsRow B T k (.slice (some ⟨g,0,none⟩) n cap) n xs) (hk : w'.heap[g]?=w.heap[g]?) : w'.ownsRow B T k (.slice (some ⟨g,0,none⟩) n cap) n xs:=by
 obtain ⟨h1,h2⟩:=h
 refine ⟨h1,?_⟩
 rcases h2 with h | ⟨g',cap',cur,e,hb,hg,h3⟩
 ·exact .inl h
 ·cases e
  exact .inr ⟨g,cap,cur,rfl,hb,hk.trans hg,h3⟩
structure LB (P g cap : Nat) (ts : List Tk) (nb : Nat) (k : Int) (s : ByteArray) (p : Int) (ao : Option Addr) (cp : Nat) (L : List Ent) (σ : Sx) (w0 W : World) : Prop where
 box : W.heap[nb]?=some (.cells #[.int .i64 k,.string s,.int .i64 0,.slice ao L.length cp,.int .i64 p] 24 (0,0))
 row : W.ownsRow (nb + 1) 24 5 (.slice ao L.length cp) L.length (V8 L)
 lie : ∀ r,σ=.ok r→∀ e∈L,e.1.lies (fun d => nb + 1≤d∧d<W.heap.size∧(Value.slice ao L.length cp).ownBlock≠some d) W e.2.1 e.2.2
 sp : SP P g cap ts 0 σ W
 gr : w0.grownBy W (some P)
 lt : P<nb∧g<nb∧w0.heap.size≤nb
section
variable {P g cap : Nat} {ts : List Tk} {nb : Nat} {k : Int} {s : ByteArray} {p : Int} {ao : Option Addr} {cp : Nat} {L : List Ent} {σ σ' : Sx} {w0 W W' : World}
theorem LB.make (h : SP P g cap ts 0 σ W) (hg : w0.grownBy W (some P)) (hP : P<w0.heap.size∧g<w0.heap.size) (hW : W'=W.alloc (.cells #[.int .i64 k,.string s,.int .i64 0,.slice none 0 0,.int .i64 p] 24)) : LB P g cap ts W.heap.size k s p none 0 [] σ w0 W':=by
 have hb : Below W.heap.size W W':=hW ▸ a7 _ _
 have:=hg.size
 exact ⟨by rw [hW]; show (W.heap.push _)[W.heap.size]?=_; simp,⟨rfl,.inl ⟨rfl,rfl⟩⟩,(fun _ _ e he => by cases he),h.below hb,c8 hg (hb.mono hg.size),by omega,by omega,by omega⟩
theorem LB.blt (h : LB P g cap ts nb k s p ao cp L σ w0 W) : nb<W.heap.size:=(Array.getElem?_eq_some_iff.1 h.box).1
theorem LB.cells (h : LB P g cap ts nb k s p ao cp L σ w0 W) : (W.cell? ⟨nb,0,none⟩=some (.int .i64 k)∧W.cell? ⟨nb,1,none⟩=some (.string s)∧W.cell? ⟨nb,2,none⟩=some (.int .i64 0)∧W.cell? ⟨nb,3,none⟩=some (.slice ao L.length cp)∧W.cell? ⟨nb,4,none⟩=some (.int .i64 p))∧W.frozen? ⟨nb,3,none⟩=false:=by
 have hb:=h.box
 exact ⟨⟨by simp [World.cell?,hb],by simp [World.cell?,hb],by simp [World.cell?,hb],by simp [World.cell?,hb],by simp [World.cell?,hb]⟩,by simp [World.frozen?,hb]⟩
theorem LB.own (h : LB P g cap ts nb k s p ao cp L σ w0 W) : ∀ c,(Value.slice ao L.length cp).ownBlock=some c→nb + 1≤c∧c<W.heap.size:=fun c e => h.row.lt c e
theorem LB.step (h : LB P g cap ts nb k s p ao cp L σ w0 W) (hs : SP P g cap ts 0 σ' W') (hg : W.grownBy W' (some P)) (ho : ∀ r',σ'=.ok r'→∃ r,σ=.ok r) : LB P g cap ts nb k s p ao cp L σ' w0 W':=by
 have hl:=h.lt
 have hk : ∀ d,d<W.heap.size→d≠P→W'.heap[d]?=W.heap[d]?:=fun d h1 h2 => hg.block d h1 (fun e => h2 (Option.some.inj e))
 refine ⟨(hk _ h.blt (by omega)).trans h.box,h.row.kept hg ?_,fun r' hr' e he => ?_,hs,a6 h.gr hg,hl⟩
 ·cases hv : (Value.slice ao L.length cp).ownBlock with
  | none => exact .inl rfl
  | some c => exact .inr (fun e => by have:=(h.own c hv).1; have:=Option.some.inj e; omega)
 ·obtain ⟨r,hr⟩:=ho r' hr'
  exact d8 (h.lie r hr e he) (fun d hd => hk d hd.2.1 (by have:=hd.1; omega)) fun d hd => ⟨hd.1,Nat.lt_of_lt_of_le hd.2.1 hg.size,hd.2.2⟩
theorem LB.below (h : LB P g cap ts nb k s p ao cp L σ w0 W) (hb : Below W.heap.size W W') : LB P g cap ts nb k s p ao cp L σ w0 W':=h.step (h.sp.below hb) (c9 hb) fun r hr => ⟨r,hr⟩
theorem LB.app {W1 W2 : World} {t : Nd} {a : Option Addr} {c gb cq : Nat} (h : LB P g cap ts nb k s p ao cp L σ w0 W) (hW1 : Below W.heap.size W W1) (hgrow : W1.grownBy W2 (Value.slice ao L.length cp).ownBlock) (hat : (Value.slice ao L.length cp).ownBlock=some gb∨gb=W1.heap.size) (hrow : W2.ownsRow (nb + 1) 24 5 (.slice (some ⟨gb,0,none⟩) (L.length + 1) cq) (L.length + 1) (V8 L ++ ndC (t,a,c)))
 (hl : ∀ r,σ=.ok r→t.lies (fun d => nb + 1≤d∧d<W.heap.size∧(Value.slice ao L.length cp).ownBlock≠some d) W a c) :
 LB P g cap ts nb k s p (some ⟨gb,0,none⟩) cq (L ++ [(t,a,c)]) σ w0 (W2.setCell ⟨nb,3,none⟩ (.slice (some ⟨gb,0,none⟩) (L.length + 1) cq)):=by
 have hlt:=h.lt
 have hbl:=h.blt
 have h1:=hW1.size
 have h2:=hgrow.size
 have hgb:=hrow.lt gb rfl
 have hlen : (L ++ [(t,a,c)]).length=L.length + 1:=by simp
 have hk : ∀ d,d<W.heap.size→(Value.slice ao L.length cp).ownBlock≠some d→W2.heap[d]?=W.heap[d]?:=fun d h3 h4 => (hgrow.block d (by omega) (fun e => h4 e.symm)).trans (hW1.block d h3)
 have hlow : ∀ d,d<nb + 1→(Value.slice ao L.length cp).ownBlock≠some d:=fun d hd e => by have:=(h.own d e).1; omega
 have e2 : ∀ d,d≠nb→(W2.setCell ⟨nb,3,none⟩ (.slice (some ⟨gb,0,none⟩) (L.length + 1) cq)).heap[d]?=W2.heap[d]?:=fun d hd => Below.heap_setCell _ _ _ _ hd
 have hz : (W2.setCell ⟨nb,3,none⟩ (.slice (some ⟨gb,0,none⟩) (L.length + 1) cq)).heap.size=W2.heap.size:=by simp [World.setCell]
 have hbox:=l5 ((hk nb hbl (hlow nb (by omega))).trans h.box) 3 (.slice (some ⟨gb,0,none⟩) (L.length + 1) cq)
 have hne : ∀ d,nb + 1≤d∧d<W.heap.size∧(Value.slice ao L.length cp).ownBlock≠some d→gb≠d:=fun d hd e => by
  rcases hat with h9 | h9
  ·exact hd.2.2 (e ▸ h9)
  ·have:=hd.2.1; omega
 refine ⟨by rw [hlen]; exact hbox,?_,fun r hr e he => ?_,?_,?_,hlt⟩
 ·rw [hlen,kX]
  exact nL hrow (e2 gb (by omega))
 ·rw [hlen]
  have mv : ∀ (u : Nd) (b : Option Addr) (q : Nat),u.lies (fun d => nb + 1≤d∧d<W.heap.size∧(Value.slice ao L.length cp).ownBlock≠some d) W b q→u.lies (fun d => nb + 1≤d∧d<(W2.setCell ⟨nb,3,none⟩ (.slice (some ⟨gb,0,none⟩) (L.length + 1) cq)).heap.size∧(Value.slice (some ⟨gb,0,none⟩) (L.length + 1) cq).ownBlock≠some d) (W2.setCell ⟨nb,3,none⟩ (.slice (some ⟨gb,0,none⟩) (L.length + 1) cq)) b q:=fun u b q hu =>
   d8 hu (fun d hd => (e2 d (by have:=hd.1; omega)).trans (hk d hd.2.1 hd.2.2)) fun d hd => ⟨hd.1,by rw [hz]; have:=hd.2.1; omega,fun e => hne d hd (Option.some.inj (show some gb=some d from e))⟩
  rcases List.mem_append.1 he with he | he
  ·exact mv _ _ _ (h.lie r hr e he)
  ·obtain rfl:=List.mem_singleton.1 he
   exact mv _ _ _ (hl r hr)
 ·have hb:=h.sp.blocks
  exact h.sp.keeps (fun b hb' => by
   have hb2 : b<nb:=by rcases hb' with rfl | rfl <;> omega
   exact (e2 b (by omega)).trans (hk b (by omega) (hlow b (by omega)))) (by rw [hz]; omega)
 ·refine ⟨hgrow.os.trans (hW1.os.trans h.gr.os),hgrow.tape.trans (hW1.tape.trans h.gr.tape),hgrow.output.trans (hW1.output.trans h.gr.output),by rw [hz]; have:=h.gr.size; omega,fun d hd hP => ?_⟩
  exact (e2 d (by omega)).trans ((hk d (by have:=h.gr.size; omega) (hlow d (by omega))).trans (h.gr.block d hd hP))
theorem LB.tree (h : LB P g cap ts nb k s p ao cp L σ w0 W) {r : List Tk} (hr : σ=.ok r) (hk : (Lit.int .i64 k).wf=true) (hp : (Lit.int .i64 p).wf=true) (hs : s.size≤maxLen) : (Nd.mk k s 0 (L.map (·.1)) p).lies (fun d => nb + 1≤d∧d<W.heap.size) W ao cp:=by
 have hlie:=h.lie r hr
 rcases h.row.2 with ⟨e,h0⟩ | ⟨g',cap',cur,e,hb,hg,k1,k2,k3⟩
 ·have hL : L=[]:=List.length_eq_zero_iff.1 h0
  subst hL
  cases e
  exact Nd.lies.mk' hk hs rfl hp (Nat.le_refl _) (Nat.zero_le _) trivial
 ·cases e
  refine Nd.lies.mk' hk hs rfl hp (by rw [List.length_map]; exact k1) k2 (kP h.row ⟨hb,(Array.getElem?_eq_some_iff.1 hg).1⟩ fun e he => d8 (hlie e he) (fun _ _ => rfl) fun d hd => ⟨hd.1,hd.2.1⟩)
end
end
section
open Go.RowKit
def RdL (P g cap : Nat) (ts : List Tk) (x : Rd) (w : World) (e : Ending) (w' : World) : Prop :=
 ∃ (t : Nd) (a : Option Addr) (cp : Nat),e=.returned (t.val a cp)∧SP P g cap ts 0 (l9 x) w'∧w.grownBy w' (some P)∧∀ t' r,x=.ok (t',r)→t'=t∧t.lies (Fr w.heap.size w'.heap.size) w' a cp
def Y3 (σ : Sx) (ks : List Nd) : Rd:=goX σ fun r => .ok (mkN 0 [] 0 ks 0,r)
def oR (σ : Sx) (ks : List Nd) : Rd:=goX σ (qG mP (8 - ks.length) ks)
theorem a1X {ks : List Nd} {r : List Tk} (h : ks.length=8) : oR (.ok r) ks=.error (76,(hd r).pos):=by
 unfold oR
 rw [cY,h]
 rfl
theorem uG {ks : List Nd} {σ : Sx} {T : Tk} (h : ks.length<8) (hT : ∀ r,σ=.ok r→T=hd r) : oR σ ks=goX (x8 1 σ) fun r => if isT A9 r=true then qG mP (8 - (ks.length + 1)) (ks ++ [mkN 4 T.text 0 [] T.pos]) (b9 r) else p5 Q6 r fun r => .ok (mkN 0 [] 0 (ks ++ [mkN 4 T.text 0 [] T.pos]) 0,r):=by
 unfold oR
 rw [show 8 - ks.length=(8 - (ks.length + 1)) + 1 by omega]
 cases σ with
 | error e => rfl
 | ok r =>
   obtain rfl:=hT r rfl
   rw [cY,qG,show mP r=(if (hd r).kind=1 then .ok (mkN 4 (hd r).text 0 [] (hd r).pos,b9 r) else .error (74,(hd r).pos)) from rfl,show x8 1 (.ok r)=(if (hd r).kind=1 then .ok (b9 r) else .error (74,(hd r).pos)) from rfl]
   by_cases hk : (hd r).kind=1
   ·rw [if_pos hk,if_pos hk]; rfl
   ·rw [if_neg hk,if_neg hk]; rfl
theorem a2A {ks : List Nd} {σ : Sx} {T : Tk} (h : ks.length<8) (hT : ∀ r,σ=.ok r→T=hd r) (hc : ∀ r,x8 1 σ=.ok r→true=isT A9 r) : oR σ ks=oR (qE (x8 1 σ)) (ks ++ [mkN 4 T.text 0 [] T.pos]):=by
 rw [uG h hT]
 unfold oR
 cases hk : x8 1 σ with
 | error e => rfl
 | ok r =>
   show (if isT A9 r=true then _ else _)=_
   rw [if_pos (hc r hk).symm,List.length_append]
   rfl
theorem a4c {ks : List Nd} {σ : Sx} {T : Tk} (h : ks.length<8) (hT : ∀ r,σ=.ok r→T=hd r) (hc : ∀ r,x8 1 σ=.ok r→false=isT A9 r) : oR σ ks=Y3 (n8 Q6 (x8 1 σ)) (ks ++ [mkN 4 T.text 0 [] T.pos]):=by
 rw [uG h hT]
 unfold Y3
 rw [← D6]
 cases hk : x8 1 σ with
 | error e => rfl
 | ok r =>
   show (if isT A9 r=true then _ else _)=_
   rw [if_neg (by rw [← hc r hk]; decide)]
   rfl
theorem a5N {l : List Tk} {T : Tk} (hT : ∀ r,n8 kK (.ok l)=.ok r→T=hd r) {σ : Sx} {ks : List Nd} (h : goX (x8 1 (n8 kK (.ok l))) V6=Y3 σ ks) {t : Nd} (ht : Is (goX (n8 tEq σ) (rd .expr 0)) t) :
 gC l=goX (n8 Y2 (l9 (goX (n8 tEq σ) (rd .expr 0)))) fun r => .ok (mkN 3 T.text 0 (ks ++ [t]) T.pos,r):=by
 rw [← cY l gC]
 unfold gC
 rw [D6,gI _ _ _ T hT,aA,h]
 have hI : Is (Y3 σ ks) (mkN 0 [] 0 ks 0):=fun t' r hx => by
  obtain ⟨r',-,e⟩:=T3 hx
  cases e; rfl
 rw [F0 hI]
 unfold Y3
 rw [aM,D6,aA,F0 ht,D6 _ Y2]
 rfl
end
section
open Lib (hid)
open Go.RowKit
theorem fC {x : List UInt8} {σ : Sx} (r' : List Tk) (h : n8 x σ=.ok r') : ∃ r,σ=.ok r:=by
 cases σ with
 | ok r => exact ⟨r,rfl⟩
 | error e => cases h
theorem oX {σ : Sx} (r' : List Tk) (h : qE σ=.ok r') : ∃ r,σ=.ok r:=by
 cases σ with
 | ok r => exact ⟨r,rfl⟩
 | error e => cases h
theorem sI {ts : List Tk} (htk : ∀ t∈ts,bP t) {P g cap : Nat} {σ : Sx} {w : World} (h : SP P g cap ts 0 σ w) {T : Tk} (hT : ∀ r,σ=.ok r→T=hd r) {r : List Tk} (hr : σ=.ok r) : bP T:=by
 rw [hT r hr]
 subst hr
 exact htk _ h.mem
theorem pH {av : Nat→Prop} {W : World} {k : Int} {T : Tk} (hk : (Lit.int .i64 k).wf=true) (hT : bP T) : (mkN k T.text 0 [] T.pos).lies av W none 0:=U2 hk hT.2.2 rfl hT.2.1
def a0c (σ : Sx) : Bool:=match σ with
 | .ok r => isT O0 r
 | .error _ => false
theorem a4b {σ : Sx} (h : a0c σ=false) : goX σ V6=Y3 σ []:=by
 cases σ with
 | error e => rfl
 | ok r =>
   show V6 r=.ok (mkN 0 [] 0 [] 0,r)
   unfold V6
   rw [show isT O0 r=false from h]
   rfl
theorem a3i {σ : Sx} (h : a0c σ=true) : goX σ V6=oR (qE σ) []:=by
 cases σ with
 | error e => rfl
 | ok r =>
   show V6 r=qG mP 8 [] (b9 r)
   unfold V6
   rw [show isT O0 r=true from h]
   rfl
theorem a3q (P g cap : Nat) (ts : List Tk) (he : bT ts) (htk : ∀ t∈ts,bP t) (hE : ∀ r,CE P g cap ts r) (l : List Tk) (w : World) (h : SP P g cap ts 0 (.ok l) w) :
 Calls Tryz.prog 101 #[.pointer (some ⟨P,0,none⟩)] w (RdL P g cap ts (gC l) w):=by
 obtain ⟨i0,hi,hz0,hz1,hz2⟩:=info_parts (show (Tryz.prog.info? 24).map (fun i => (i.zero,i.size,i.bytes))=some (some (.agg #[.int .i64 0,.string ⟨#[]⟩,.int .i64 0,.slice none 0 0,.int .i64 0]),5,64) by kernel_rfl)
 have HI0:=hid (show _∧_∧_∧_ from ⟨hi,hz0,hz1,hz2⟩)
 clear hi hz0 hz1 hz2
 obtain ⟨W1,hW1⟩ : ∃ W,W=w.alloc (.cells #[.int .i64 0,.string ⟨#[]⟩,.int .i64 0,.slice none 0 0,.int .i64 0] 24):=⟨_,rfl⟩
 have B1:=hid (show Below w.heap.size w W1 from hW1 ▸ a7 _ _)
 have N1:=hid (show c6 w.heap.size nd0 none 0 W1 from hW1 ▸ c6.make w nd0 none 0)
 have S1:=hid (h.below B1)
 have HP:=hid h.blocks
 have HE:=hid he
 have HTK:=hid htk
 have HEx:=hid hE
 have hpP : w.heap.size≠P∧w.heap.size≠g:=⟨Nat.ne_of_gt h.blocks.1,Nat.ne_of_gt h.blocks.2⟩
 have C1:=hid (n6 P g cap ts 0 (.ok l) ⟨#[108,101,116]⟩ W1 (by omega) S1 he)
 clear h he htk hE
 go_enter Tryz.func101,Tryz.ntmps101
 go_upto_region 1 with fail
 rw [← hW1]
 clear hW1
 go_wp2_with fail
 (with_reducible refine Calls.mono C1.out ?_)
 rintro e w2 ⟨rfl,hs,hg⟩
 have S2:=hid (show SP P g cap ts 0 (n8 kK (.ok l)) w2 from hs)
 have G2:=hid (show w.grownBy w2 (some P) from a6 (c9 B1) hg)
 have N2:=hid (N1.out.grown hg hpP.1)
 clear hs hg C1 S1 N1 B1
 have C2:=hid (bG P g cap ts 0 (n8 kK (.ok l)) 1 w2 (by omega) S2 HE)
 obtain ⟨σ0,hσ0⟩ : ∃ σ0,σ0=n8 kK (.ok l):=⟨_,rfl⟩
 rw [← hσ0] at S2 C2
 have HS0:=hid hσ0
 clear hσ0
 go_wp2_with fail
 (with_reducible refine Calls.mono C2.out ?_)
 rintro e w3 ⟨T,rfl,hs,hg,hT⟩
 have S3:=hid hs
 have G3:=hid (a6 G2 hg)
 have N3:=hid (N2.out.grown hg hpP.1)
 have HT:=hid hT
 have HTO:=hid (fun r (hr : σ0=.ok r) => sI HTK S2 hT hr)
 clear hs hg C2 hT G2 N2 S2
 obtain ⟨W4,hW4⟩ : ∃ W,W=w3.alloc (.cells #[.int .i64 T.kind,.string ⟨T.text.toArray⟩,.int .i64 T.n,.int .i64 T.pos] 108):=⟨_,rfl⟩
 have B4:=hid (show Below w3.heap.size w3 W4 from hW4 ▸ a7 _ _)
 have T4:=hid (show E0 w3.heap.size T W4 from hW4 ▸ E0.make w3 T)
 unfold tkV
 go_upto_region 3 with fail
 rw [← hW4]
 clear hW4
 obtain ⟨W5,hW5⟩ : ∃ W,W=W4.alloc (.cells #[.int .i64 3,.string ⟨T.text.toArray⟩,.int .i64 0,.slice none 0 0,.int .i64 T.pos] 24):=⟨_,rfl⟩
 have B5:=hid (show Below W4.heap.size W4 W5 from hW5 ▸ a7 _ _)
 have L5:=hid (show LB P g cap ts W4.heap.size 3 ⟨T.text.toArray⟩ T.pos none 0 [] (x8 1 σ0) w W5 from LB.make (S3.out.below B4) (c8 G3 (B4.out.mono G3.out.size)) HP hW5)
 have N5:=hid ((N3.out.below B4).below B5)
 obtain ⟨⟨t0,t1,t2,t3⟩,-⟩:=T4.out.cells
 have htl:=T4.out.lt
 go_upto_region 4 with fail
 rw [← hW5]
 have hwb : w.heap.size<W4.heap.size:=by have:=G3.out.size; have:=B4.out.size; omega
 clear hW5 t0 t1 t2 t3 htl T4 N3 S3 G3 B4 B5
 obtain ⟨σ1,hσ1⟩ : ∃ σ1,σ1=x8 1 σ0:=⟨_,rfl⟩
 rw [← hσ1] at L5
 have HS1:=hid hσ1
 clear hσ1
 generalize W4.heap.size=nb at L5 hwb ⊢
 have C4:=hid (dA P g cap ts 0 σ1 ⟨#[40]⟩ W5 L5.out.sp)
 go_wp2_with fail
 (with_reducible refine Calls.mono C4.out ?_)
 rintro e w6 ⟨b,rfl,hb,hbb⟩
 have L6:=hid (L5.out.below hb)
 have N6:=hid (N5.out.below hb)
 have HB:=hid (show ∀ r,σ1=.ok r→b=isT O0 r from hbb)
 clear hb hbb C4 L5 N5
 go_upto_region 5 with fail
 go_cut [26] from 19 (fun s26 wx => s26=.bool (a0c σ1)∧Hid (LB P g cap ts nb 3 ⟨T.text.toArray⟩ T.pos none 0 [] σ1 w wx∧c6 w.heap.size nd0 none 0 wx))
 case first =>
  obtain ⟨c,p3,hc⟩:=L6.out.sp.bad
  have hpl:=L6.out.sp.blocks.1
  cases σ1 with
  | error e =>
    have e0 : (c == 0)=false:=beq_eq_false_iff_ne.2 (fun e => by obtain ⟨r,hr⟩:=hc.1 e; cases hr)
    clear hc
    go_wp2_with fail
    go_meet
    case rel => exact ⟨rfl,L6,N6⟩
  | ok r =>
    obtain rfl:=hc.2 ⟨r,rfl⟩
    have hb:=HB.out r rfl
    clear hc
    go_wp2_with fail
    go_meet
    case rel => exact ⟨rfl,L6,N6⟩
 case rest =>
  obtain ⟨rfl,hwc⟩:=hcut
  replace L6:=hid hwc.out.1
  replace N6:=hid hwc.out.2
  clear hwc HB
  go_upto_if 26 with fail
  go_cut [6,7] from 19 (fun _ _ wx => ∃ (ao : Option Addr) (cp : Nat) (L : List Ent) (σ2 : Sx),Hid (LB P g cap ts nb 3 ⟨T.text.toArray⟩ T.pos ao cp L σ2 w wx∧L.length≤8∧goX σ1 V6=Y3 σ2 (L.map (·.1))∧c6 w.heap.size nd0 none 0 wx))
  case first =>
   cases ho : a0c σ1
   ·have E:=hid (a4b ho)
    clear ho
    go_wp2_with fail
    go_meet
    case rel => exact ⟨none,0,[],σ1,L6,Nat.zero_le _,E,N6⟩
   ·have E:=hid (a3i ho)
    have C7:=hid (O4 P g cap ts 0 σ1 wc L6.out.sp HE)
    clear ho
    go_wp2_with fail
    (with_reducible refine Calls.mono C7.out ?_)
    rintro e w7 ⟨T7,rfl,hs,hg,-⟩
    have L7:=hid (L6.out.step hs hg oX)
    have N7:=hid (N6.out.grown hg hpP.1)
    clear hs hg C7 L6 N6
    unfold tkV
    go_wp2_with fail
    go_loopw [6,7] (fun _ _ wr => ∃ (ao : Option Addr) (cp : Nat) (L : List Ent) (σ : Sx),L.length≤8∧Hid (LB P g cap ts nb 3 ⟨T.text.toArray⟩ T.pos ao cp L σ w wr∧goX σ1 V6=oR σ (L.map (·.1))∧c6 w.heap.size nd0 none 0 wr)) (fun _ _ wr => oP P ts wr)
    case atStart => exact ⟨none,0,[],_,Nat.zero_le _,L7,E,N7⟩
    case round =>
     obtain ⟨ao,cp,L,σ,hL8,HI⟩:=hrel
     clear L7 N7 E
     have HFar:=hid (show oP P ts wr=a4P σ from HI.out.1.sp.far)
     have hpl:=HI.out.1.sp.blocks.1
     obtain ⟨c,p3,hc⟩:=HI.out.1.sp.bad
     cases σ with
     | error q =>
       have e0 : (c == 0)=false:=beq_eq_false_iff_ne.2 (fun e => by obtain ⟨r,hr⟩:=hc.1 e; cases hr)
       have C8:=hid (n6 P g cap ts 0 (.error q) ⟨#[41]⟩ wr (by omega) HI.out.1.sp HE)
       clear hc
       go_wp2_with fail
       (with_reducible refine Calls.mono C8.out ?_)
       rintro e w8 ⟨rfl,hs,hg⟩
       have L8:=hid (HI.out.1.step (σ':=.error q) hs hg (fun r h => by cases h))
       have N8:=hid (HI.out.2.2.grown hg hpP.1)
       clear hs hg C8
       go_wp2_with fail
       go_meet
       case rel => exact ⟨ao,cp,L,.error q,L8,hL8,HI.out.2.1,N8⟩
     | ok r =>
       obtain rfl:=hc.2 ⟨r,rfl⟩
       clear hc
       obtain ⟨⟨b0,b1,b2,b3,b4⟩,-⟩:=HI.out.1.cells
       have hbl:=HI.out.1.blt
       by_cases h8 : L.length=8
       ·have hl8 : ((L.length : Int) == 8)=true:=by rw [h8]; rfl
        have HX8:=hid (show goX σ1 V6=.error (76,(hd r).pos) by rw [HI.out.2.1,a1X (by rw [List.length_map]; exact h8)])
        have C8:=hid (fA P g cap ts 0 (.ok r) wr HI.out.1.sp)
        clear h8
        go_wp2_with fail
        (with_reducible refine Calls.mono C8.out ?_)
        rintro e w8 ⟨T8,rfl,hb,hT⟩
        have HT8:=hid (hT r rfl)
        have L8:=hid (HI.out.1.below hb)
        have N8:=hid (HI.out.2.2.below hb)
        obtain ⟨i2,-,hp2⟩:=L8.out.sp.ok
        have C9:=hid (J6 P g cap ts i2 (0 : Nat) w8 76 T8.pos hp2)
        clear hb hT hp2 p3 hpl b0 b1 b2 b3 b4 hbl C8
        unfold tkV
        have hfd:=aK T8.kind T8.n T8.pos ⟨T8.text.toArray⟩
        go_wp2_with fail
        (with_reducible refine Calls.mono C9.out ?_)
        rintro e w9 ⟨rfl,hp3,hg⟩
        have L9:=hid (L8.out.step (σ':=.error (76,T8.pos)) (SP.of_error hp3 (by decide) (Int.le_refl _) (by omega)) hg (fun r h => by cases h))
        have N9:=hid (N8.out.grown hg hpP.1)
        have C10:=hid (n6 P g cap ts 0 (.error (76,T8.pos)) ⟨#[41]⟩ w9 (by omega) L9.out.sp HE)
        clear hp3 hg hfd C9
        go_wp2_with fail
        (with_reducible refine Calls.mono C10.out ?_)
        rintro e w10 ⟨rfl,hs,hg⟩
        have L10:=hid (L9.out.step (σ':=.error (76,T8.pos)) hs hg (fun r h => by cases h))
        have N10:=hid (N9.out.grown hg hpP.1)
        clear hs hg C10
        go_wp2_with fail
        go_meet
        case rel => exact ⟨ao,cp,L,_,L10,hL8,by rw [HX8.out,HT8.out]; rfl,N10⟩
       ·have hl8 : ((L.length : Int) == 8)=false:=beq_eq_false_iff_ne.2 (by omega)
        have hL7 : L.length≤7:=by omega
        have C8:=hid (bG P g cap ts 0 (.ok r) 1 wr (by omega) HI.out.1.sp HE)
        clear h8
        go_wp2_with fail
        (with_reducible refine Calls.mono C8.out ?_)
        rintro e w8 ⟨T8,rfl,hs,hg,hT⟩
        have HTO8:=hid (fun r' (hr : (.ok r : Sx)=.ok r') => sI HTK HI.out.1.sp hT hr)
        have HT8:=hid hT
        have L8:=hid (HI.out.1.step hs hg (fun r' h => ⟨r,rfl⟩))
        have N8:=hid (HI.out.2.2.grown hg hpP.1)
        clear hs hg C8 hT p3 hpl b0 b1 b2 b3 b4 hbl
        obtain ⟨W9,hW9⟩ : ∃ W,W=w8.alloc (.cells #[.int .i64 T8.kind,.string ⟨T8.text.toArray⟩,.int .i64 T8.n,.int .i64 T8.pos] 108):=⟨_,rfl⟩
        have B9:=hid (show Below w8.heap.size w8 W9 from hW9 ▸ a7 _ _)
        have T9:=hid (show E0 w8.heap.size T8 W9 from hW9 ▸ E0.make w8 T8)
        have L9:=hid (L8.out.below B9)
        have N9:=hid (N8.out.below B9)
        unfold tkV
        go_upto_region 11 with fail
        rw [← hW9]
        clear hW9 B9 L8 N8
        obtain ⟨⟨t0,t1,t2,t3⟩,-⟩:=T9.out.cells
        have htl:=T9.out.lt
        obtain ⟨⟨b0,b1,b2,b3,b4⟩,bf⟩:=L9.out.cells
        have hbl:=L9.out.blt
        obtain ⟨W10,hW10⟩ : ∃ W,W=W9.alloc (.cells #[.int .i64 4,.string ⟨T8.text.toArray⟩,.int .i64 0,.slice none 0 0,.int .i64 T8.pos] 24):=⟨_,rfl⟩
        have B10:=hid (show Below W9.heap.size W9 W10 from hW10 ▸ a7 _ _)
        have L10:=hid (L9.out.below B10)
        have NEW:=hid (show ∀ (j : Nat) u,(ndC (mkN 4 T8.text 0 [] T8.pos,none,0))[j]?=some u→W10.cell? ((⟨W9.heap.size,0,none⟩ : Addr).add j)=some u from fun j u hu => hW10 ▸ bL _ _ _ _ _ _ _ j u hu)
        have HW10:=hid hW10
        have hz10 : nb + 1≤W10.heap.size:=by have:=B10.out.size; omega
        clear hW10
        go_wp2_with (at_builtin; rw [← HW10.out]; refine wpList_append_lies _ rfl _ _ 22 rfl (nb + 1) 24 i0 (.agg #[.int .i64 0,.string ⟨#[]⟩,.int .i64 0,.slice none 0 0,.int .i64 0]) 5 64 Tryz.underlying22 HI0.out.1 HI0.out.2.1 HI0.out.2.2.1 HI0.out.2.2.2 rfl (by decide) (.slice ao L.length cp) L.length (V8 L) rfl L10.out.row ⟨W9.heap.size,0,none⟩ 1 1 (ndC (mkN 4 T8.text 0 [] T8.pos,none,0)) rfl rfl NEW (jG _) (by decide) (by unfold maxLen; omega) (by omega) hz10 _ rfl ?_)
        intro gb cq w11 hown hgrow hat hltg
        have hno : ∀ d,d<nb + 1→(Value.slice ao L.length cp).ownBlock≠some d:=fun d hd e => by have:=(L10.out.own d e).1; omega
        have hsz11:=hgrow.size
        have hnb:=(hgrow.block nb L10.out.blt (fun e => hno nb (by omega) e.symm)).trans L10.out.box
        have x0 : w11.cell? ⟨nb,3,none⟩=some (.slice ao L.length cp):=by simp [World.cell?,hnb]
        have x1 : w11.frozen? ⟨nb,3,none⟩=false:=by simp [World.frozen?,hnb]
        obtain ⟨W12,hW12⟩ : ∃ W,W=w11.setCell ⟨nb,3,none⟩ (.slice (some ⟨gb,0,none⟩) (L.length + 1) cq):=⟨_,rfl⟩
        have L12:=hid (show LB P g cap ts nb 3 ⟨T.text.toArray⟩ T.pos (some ⟨gb,0,none⟩) cq (L ++ [(mkN 4 T8.text 0 [] T8.pos,none,0)]) (x8 1 (.ok r)) w W12 from hW12 ▸ L9.out.app B10 hgrow hat hown fun _ _ => pH rfl (HTO8.out r rfl))
        have N12:=hid (show c6 w.heap.size nd0 none 0 W12 from hW12 ▸ (c6.set ((hgrow.block w.heap.size (by omega) (fun e => hno w.heap.size (by omega) e.symm)).trans (N9.out.below B10)) (by omega) _ _))
        have hbl11 : nb<w11.heap.size:=by have:=L10.out.blt; omega
        have C12:=hid (dA P g cap ts 0 (x8 1 (.ok r)) ⟨#[44]⟩ W12 L12.out.sp)
        have HKL:=hid (show ∀ r',x8 1 (.ok r)=.ok r'→r'.length≤r.length from fun r' h => by
         obtain ⟨r1,e1,-,rfl⟩:=nE h
         cases e1
         exact J4 r)
        have HMO:=hid (fun hc => (HI.out.2.1.trans (a2A (ks:=L.map (·.1)) (σ:=.ok r) (T:=T8) (by rw [List.length_map]; omega) HT8 hc)))
        have HEN:=hid (fun hc => (HI.out.2.1.trans (a4c (ks:=L.map (·.1)) (σ:=.ok r) (T:=T8) (by rw [List.length_map]; omega) HT8 hc)))
        obtain ⟨σk,hσk⟩ : ∃ σk,σk=x8 1 (.ok r):=⟨_,rfl⟩
        rw [← hσk] at L12 C12 HKL HMO HEN
        have HM12:=hid (show (L ++ [(mkN 4 T8.text 0 [] T8.pos,none,0)] : List Ent).map (·.1)=L.map (·.1) ++ [mkN 4 T8.text 0 [] T8.pos] by rw [List.map_append]; rfl)
        have HL12:=hid (show (L ++ [(mkN 4 T8.text 0 [] T8.pos,none,0)] : List Ent).length=L.length + 1 by simp)
        clear hgrow hat hown hnb t0 t1 t2 t3 htl b0 b1 b2 b3 b4 bf hbl L9 L10 N9 T9 B10 NEW HTO8 hσk hno hsz11 hz10
        go_wp2_with fail
        rw [← hW12]
        clear hW12 x0 x1 hbl11
        (with_reducible refine Calls.mono C12.out ?_)
        rintro e w13 ⟨b2,rfl,hb,hb2⟩
        have L13:=hid (L12.out.below hb)
        have N13:=hid (N12.out.below hb)
        have HB2:=hid (show ∀ r',σk=.ok r'→b2=isT A9 r' from hb2)
        clear hb hb2 C12 L12 N12 HW10
        cases b2
        ·have C14:=hid (n6 P g cap ts 0 σk ⟨#[41]⟩ w13 (by omega) L13.out.sp HE)
         go_wp2_with fail
         (with_reducible refine Calls.mono C14.out ?_)
         rintro e w14 ⟨rfl,hs,hg⟩
         have L14:=hid (L13.out.step (σ':=n8 Q6 σk) hs hg fC)
         have N14:=hid (N13.out.grown hg hpP.1)
         clear hs hg C14
         go_wp2_with fail
         go_meet
         case rel => exact ⟨_,_,_,_,L14,by rw [HL12.out]; omega,by rw [HM12.out]; exact HEN.out HB2,N14⟩
        ·have C14:=hid (O4 P g cap ts 0 σk w13 L13.out.sp HE)
         go_wp2_with fail
         (with_reducible refine Calls.mono C14.out ?_)
         rintro e w14 ⟨T14,rfl,hs,hg,-⟩
         have L14:=hid (L13.out.step hs hg oX)
         have N14:=hid (N13.out.grown hg hpP.1)
         clear hs hg C14
         unfold tkV
         go_wp2_with fail
         go_roundw
         case rel => exact ⟨_,_,_,_,by rw [HL12.out]; omega,L14,by rw [HM12.out]; exact HMO.out HB2,N14⟩
         case measure =>
          rw [HFar.out]
          refine Nat.lt_of_le_of_lt (Nat.le_of_eq L14.out.sp.far) ?_
          cases hx : σk with
          | error e => exact Nat.succ_pos _
          | ok r1 =>
            have h1:=HKL.out r1 hx
            have:=D8 (HB2.out r1 hx).symm
            show (b9 r1).length + 1<r.length + 1
            omega
  case rest =>
   obtain ⟨ao,cp,L,σ2,HQ⟩:=hcut
   have L8:=hid HQ.out.2.1
   have HPE:=hid HQ.out.2.2.1
   replace L6:=hid HQ.out.1
   replace N6:=hid HQ.out.2.2.2
   clear HQ
   have C7:=hid (n6 P g cap ts 0 σ2 ⟨#[61]⟩ wc (by omega) L6.out.sp HE)
   go_wp2_with fail
   (with_reducible refine Calls.mono C7.out ?_)
   rintro e w7 ⟨rfl,hs,hg⟩
   have L7:=hid (L6.out.step (σ':=n8 tEq σ2) hs hg fC)
   have N7:=hid (N6.out.grown hg hpP.1)
   clear hs hg C7 L6 N6
   obtain ⟨σ3,hσ3⟩ : ∃ σ3,σ3=n8 tEq σ2:=⟨_,rfl⟩
   rw [← hσ3] at L7
   have HS3:=hid hσ3
   clear hσ3
   have CP:=hid (bI P g cap ts 0 σ3 w7.drew (by omega) (L7.out.sp.below (x9 (Below.refl _ _))) (fun r _ => HEx.out r))
   obtain ⟨⟨b0,b1,b2,b3,b4⟩,bf⟩:=L7.out.cells
   have hbl:=L7.out.blt
   have hL8 : L.length≤8:=L8.out
   have HSB:=hid (show ∀ cur : World,cur.heap[nb]?=w7.heap[nb]?→cur.cell? ⟨nb,3,none⟩=some (.slice ao L.length cp) from fun cur h => (World.cell?_of_block h).trans b3)
   go_upto_region 17 with fail
   refine z6 (S:=fun cur => cur.cell? ⟨nb,3,none⟩=some (.slice ao L.length cp)) (z:=7) (by kernel_rfl) ?_ (fun hHeld => ?_)
   ·exact b3
   refine b8.t 0 ?_; refine b8.t 1 ?_; refine b8.t 2 ?_
   refine b8.nx 3 fun K hK => ?_
   go_simp
   (with_reducible refine Calls.mono CP.out ?_)
   rintro e w8 ⟨t,a,c,rfl,hs,hg,hk⟩
   have HK:=hid hk
   have hgd : w7.grownBy w8 (some P):=a6 (c9 (x9 (Below.refl _ _))) hg
   have hob : ∀ r',l9 (goX σ3 (rd .expr 0))=.ok r'→∃ r,σ3=.ok r:=fun r' h => by
    obtain ⟨t,ht⟩:=q9 h
    obtain ⟨r,hr,-⟩:=T3 ht
    exact ⟨r,hr⟩
   have L9:=hid (L7.out.step hs hgd hob)
   have N9:=hid (N7.out.grown hgd hpP.1)
   have HLI:=hid (show ∀ r',l9 (goX σ3 (rd .expr 0))=.ok r'→t.lies (fun d => nb + 1≤d∧d<w8.heap.size∧(Value.slice ao L.length cp).ownBlock≠some d) w8 a c from fun r' h => by
    obtain ⟨t',ht⟩:=q9 h
    obtain ⟨rfl,hl,-⟩:=hk t' r' ht
    exact d8 hl (fun _ _ => rfl) fun d hd => ⟨by have:=hd.1; have : w7.drew.heap.size=w7.heap.size:=rfl; omega,hd.2,fun e => by have:=(L7.out.own d e).2; have:=hd.1; have : w7.drew.heap.size=w7.heap.size:=rfl; omega⟩)
   have hnb8:=hgd.block nb hbl (fun e => by have:=L7.out.lt.1; have:=Option.some.inj e; omega)
   go_wp2_with fail
   refine hK.out _ _ (HSB.out _ hnb8) (fun hHeld => ?_)
   clear hK K hs hg hk CP hgd b0 b1 b2 b3 b4 bf
   try simp only [Act.put,i6,p8,p7]
   have HBX:=hid hnb8
   clear hnb8
   unfold Nd.val at hHeld ⊢
   refine b8.nx 4 fun K hK => ?_
   go_simp
   obtain ⟨W10,hW10⟩ : ∃ W,W=w8.alloc (.cells #[.int .i64 t.kind,.string t.text,.int .i64 t.n,.slice a t.kids.length c,.int .i64 t.place] 24):=⟨_,rfl⟩
   have B10:=hid (show Below w8.heap.size w8 W10 from hW10 ▸ a7 _ _)
   have L10:=hid (L9.out.below B10)
   have NEW:=hid (show ∀ (j : Nat) u,(ndC (t,a,c))[j]?=some u→W10.cell? ((⟨w8.heap.size,0,none⟩ : Addr).add j)=some u from fun j u hu => hW10 ▸ bL _ _ _ _ _ _ _ j u hu)
   have hz10 : nb + 1≤W10.heap.size:=by have:=L10.out.blt; omega
   rw [← hW10]
   clear hW10
   refine hK.out _ _ (HSB.out _ ((B10.out.block nb L9.out.blt).trans HBX)) (fun hHeld => ?_)
   clear hK K
   try simp only [Act.put,i6,p8,p7]
   refine b8.nx 5 fun K hK => ?_
   refine step_append_lies _ rfl _ _ 22 rfl (nb + 1) 24 i0 (.agg #[.int .i64 0,.string ⟨#[]⟩,.int .i64 0,.slice none 0 0,.int .i64 0]) 5 64 Tryz.underlying22 HI0.out.1 HI0.out.2.1 HI0.out.2.2.1 HI0.out.2.2.2 rfl (by decide) (.slice ao L.length cp) L.length (V8 L) rfl L10.out.row ⟨w8.heap.size,0,none⟩ 1 1 (ndC (t,a,c)) rfl rfl NEW (jG _) (by decide) (by unfold maxLen; omega) (by omega) hz10 _ rfl ?_
   intro gb cq w11 hown hgrow hat hltg
   have hno : ∀ d,d<nb + 1→(Value.slice ao L.length cp).ownBlock≠some d:=fun d hd e => by have:=(L10.out.own d e).1; omega
   have hnb:=(hgrow.block nb L10.out.blt (fun e => hno nb (by omega) e.symm)).trans L10.out.box
   have x0 : w11.cell? ⟨nb,3,none⟩=some (.slice ao L.length cp):=by simp [World.cell?,hnb]
   have x1 : w11.frozen? ⟨nb,3,none⟩=false:=by simp [World.frozen?,hnb]
   obtain ⟨W12,hW12⟩ : ∃ W,W=w11.setCell ⟨nb,3,none⟩ (.slice (some ⟨gb,0,none⟩) (L.length + 1) cq):=⟨_,rfl⟩
   have L12:=hid (show LB P g cap ts nb 3 ⟨T.text.toArray⟩ T.pos (some ⟨gb,0,none⟩) cq (L ++ [(t,a,c)]) (l9 (goX σ3 (rd .expr 0))) w W12 from hW12 ▸ L9.out.app B10 hgrow hat hown fun r' h => HLI.out r' h)
   have N12:=hid (show c6 w.heap.size nd0 none 0 W12 from hW12 ▸ (c6.set ((hgrow.block w.heap.size (by omega) (fun e => hno w.heap.size (by omega) e.symm)).trans (N9.out.below B10)) (by omega) _ _))
   have hbl11 : nb<w11.heap.size:=by have:=L10.out.blt; have:=hgrow.size; omega
   refine hK.out _ _ x0 (fun hHeld => ?_)
   clear hK K
   try simp only [Act.put,i6,p8,p7]
   refine b8.nx 6 fun K hK => ?_
   go_simp
   refine hK.out _ _ hHeld (fun hHeld => ?_)
   clear hK K
   try simp only [Act.put,i6,p8,p7]
   refine b8.la fun K hK => ?_
   go_simp
   rw [← hW12]
   refine hK.out _ _ ?_
   clear hK K hHeld hW12 x0 x1 hnb hgrow hat hown hno hbl11 hltg L10 NEW L9 N9 HBX
   obtain ⟨σ5,hσ5⟩ : ∃ σ5,σ5=l9 (goX σ3 (rd .expr 0)):=⟨_,rfl⟩
   rw [← hσ5] at L12
   have C13:=hid (n6 P g cap ts 0 σ5 ⟨#[59]⟩ W12 (by omega) L12.out.sp HE)
   have HIs:=hid (show Is (goX σ3 (rd .expr 0)) t from fun t' r h => (HK.out t' r h).1)
   have HX:=hid (show gC l=goX (n8 Y2 σ5) fun r => .ok (mkN 3 T.text 0 (L.map (·.1) ++ [t]) T.pos,r) by
    have h1:=HPE.out
    rw [HS1.out] at h1
    have h2:=HIs.out
    rw [hσ5,HS3.out]
    rw [HS3.out] at h2
    rw [HS0.out] at h1
    exact a5N (fun r hr => HT.out r (HS0.out.trans hr)) h1 h2)
   have HOK:=hid (show ∀ p,gC l=.ok p→bP T from fun p hp => by
    rw [← cY l gC] at hp
    unfold gC at hp
    rw [D6] at hp
    obtain ⟨r,hr,-⟩:=T3 hp
    exact HTO.out r (HS0.out.trans hr))
   clear HK HIs HT HTO HPE HS0 HS1 HS3 hσ5 HLI hz10
   go_wp2_with fail
   (with_reducible refine Calls.mono C13.out ?_)
   rintro e w13 ⟨rfl,hs,hg⟩
   have L13:=hid (L12.out.step (σ':=n8 Y2 σ5) hs hg fC)
   have N13:=hid (N12.out.grown hg hpP.1)
   clear hs hg C13 L12 N12
   obtain ⟨⟨b0,b1,b2,b3,b4⟩,-⟩:=L13.out.cells
   obtain ⟨⟨n0,n1,n2,n3,n4⟩,⟨f0,f1,f2,f3,f4⟩⟩:=N13.out.cells
   have hbl:=L13.out.blt
   have hwl : w.heap.size<w13.heap.size:=by omega
   have HLN:=hid (show (L ++ [(t,a,c)]).length=((L ++ [(t,a,c)]).map (·.1)).length by rw [List.length_map])
   have HMP:=hid (show (L ++ [(t,a,c)]).map (·.1)=L.map (·.1) ++ [t] by rw [List.map_append]; rfl)
   go_wp2_with fail
   obtain ⟨u,hu⟩ : ∃ u,u=Nd.mk 3 ⟨T.text.toArray⟩ 0 ((L ++ [(t,a,c)]).map (·.1)) T.pos:=⟨_,rfl⟩
   have hul : L.length + 1=u.kids.length:=by rw [hu]; show _=((L ++ [(t,a,c)]).map (·.1)).length; simp
   obtain ⟨W14,hW14⟩ : ∃ W,W=T1 w13 w.heap.size u (some ⟨gb,0,none⟩) cq:=⟨_,rfl⟩
   have N14:=N13.out.put u (some ⟨gb,0,none⟩) cq
   have KV : j6 (fun d => nb + 1≤d) w13 (T1 w13 w.heap.size u (some ⟨gb,0,none⟩) cq):=(j6.refl _ w13).put (fun d hd => by omega) _ _ _
   have HR:=hid (show RdL P g cap ts (gC l) w (.returned (u.val (some ⟨gb,0,none⟩) cq)) W14 from by
    rw [HX.out,hW14]
    refine ⟨u,some ⟨gb,0,none⟩,cq,rfl,by rw [aM]; exact L13.out.sp.put hpP.1 hpP.2 _ _ _,t8 L13.out.gr (Nat.le_refl _) _ _ _,fun t' r hx => ?_⟩
    have hTk:=HOK.out (t',r) (HX.out.trans hx)
    obtain ⟨r',e1,e2⟩:=T3 hx
    cases e2
    refine ⟨by rw [hu,HMP.out]; rfl,?_⟩
    have hl:=L13.out.tree e1 (show (Lit.int .i64 3).wf=true by rfl) hTk.2.1 (by have:=hTk.2.2; unfold maxLen; show T.text.toArray.size≤_; simp; omega)
    rw [← hu] at hl
    exact d8 hl (fun d hd => KV d hd.1) fun d hd => ⟨by have:=hd.1; omega,by rw [size_put]; exact hd.2⟩)
   rw [← hW14] at N14
   unfold T1 at hW14
   rw [← hul,show u.kind=3 by rw [hu]; rfl,show u.text=⟨T.text.toArray⟩ by rw [hu]; rfl,show u.n=0 by rw [hu]; rfl,show u.place=T.pos by rw [hu]; rfl] at hW14
   rw [← hW14]
   obtain ⟨⟨z0,z1,z2,z3,z4⟩,-⟩:=N14.cells
   refine bodyPost_ret (v:=u.val (some ⟨gb,0,none⟩) cq) (by simp [results,Tryz.results101,go_sem,Nd.val,z0,z1,z2,z3,z4]) rfl ?_
   exact HR
end
end Go.Proofs.YtppcfebnaieciaaGreatDoor
