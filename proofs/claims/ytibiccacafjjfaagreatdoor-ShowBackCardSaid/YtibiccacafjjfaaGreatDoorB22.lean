/-
  Laws that the proof rests on.
-/
import Derived.Test.YtibiccacafjjfaaGreatDoorB21
import Derived.Test.YtibiccacafjjfaaGreatDoorB07
import Derived.Test.YtibiccacafjjfaaGreatDoorB15
import Derived.Test.YtibiccacafjjfaaGreatDoorB03
import Derived.Test.YtibiccacafjjfaaGreatDoorB14
import Derived.Test.YtibiccacafjjfaaGreatDoorB20
import Derived.ScopeJumps
import Derived.WalkMore
import Derived.Test.YtibiccacafjjfaaGreatDoorB01
namespace Go.Proofs.YtibiccacafjjfaaGreatDoor
set_option maxRecDepth 100000
set_option maxHeartbeats 16000000
section
open Go.RowKit
structure TkG (t : Tk) : Prop where
 n : -1000000000000000≤t.n∧t.n≤1000000000000000
 len : t.text.length≤49
 z : TkZ t
theorem cG {k n p : Int} {s : List UInt8} (h8 : k≠8) (h2 : k≠2) (h4 : k=4→n=0) (hn : -1000000000000000≤n∧n≤1000000000000000) (hs : s.length≤49) : TkG ⟨k,s,n,p⟩ :=
 ⟨hn,hs,⟨fun h => by rcases h with h | h; exact h4 h; exact absurd h h2,fun h => absurd h h8,fun h => absurd h h2⟩⟩
theorem yA {s : List UInt8} {p : Int} (hs : s.length≤2) : TkG ⟨8,s,0,p⟩ :=
 ⟨⟨by show (-1000000000000000 : Int)≤0; decide,by show (0 : Int)≤1000000000000000; decide⟩,by show s.length≤49; omega,⟨fun _ => rfl,fun _ => ⟨fun e => by (have : s=bJ:=e); subst this; exact absurd hs (by decide),fun e => by (have : s=U4:=e); subst this; exact absurd hs (by decide),fun e => by (have : s=bX:=e); subst this; exact absurd hs (by decide),fun e => by (have : s=bY:=e); subst this; exact absurd hs (by decide)⟩,fun h => absurd h (by show ¬ (8 : Int)=2; decide)⟩⟩
theorem a2J (c : UInt8) (h : smC c=true) : c≠40:=by
 rintro rfl; exact absurd h (by decide)
theorem a0j {c : UInt8} {r : List UInt8} {pos : Int} {t : Tk} {n : Nat} (hc : smC c=true) (h : bB (c :: r) pos=.ok (t,n)) : TkG t∧t.pos=pos:=by
 unfold bB at h
 simp only at h
 have h1 : 1≤m6 (c :: r):=by show 1≤(if smC c=true then 1 + (r.takeWhile inC).length else 0); rw [if_pos hc]; omega
 obtain ⟨m,hm⟩ : ∃ m,m6 (c :: r)=m + 1:=⟨m6 (c :: r) - 1,by omega⟩
 split at h
 ·split at h
  ·cases h
  ·rename_i hq
   cases h
   refine ⟨cG (by decide) (by decide) (fun e => rfl) (by decide) ?_,rfl⟩
   rw [List.length_append,List.length_cons]
   have a1:=List.length_take_le (m6 (c :: r)) (c :: r)
   have a2:=List.length_take_le (m6 ((c :: r).drop (m6 (c :: r) + 1))) ((c :: r).drop (m6 (c :: r) + 1))
   omega
 ·split at h
  ·cases h
  ·rename_i hq
   cases h
   have hl : ((c :: r).take (m6 (c :: r))).length≤49:=by
    have a1:=List.length_take_le (m6 (c :: r)) (c :: r)
    omega
   split
   ·refine ⟨⟨by show (-1000000000000000 : Int)≤0∧(0 : Int)≤1000000000000000; decide,hl,⟨fun _ => rfl,fun e => absurd e (by show ¬ (2 : Int)=8; decide),fun _ e => ?_⟩⟩,rfl⟩
    replace e : (c :: r).take (m6 (c :: r))=[40]:=e
    rw [hm,List.take_succ_cons] at e
    exact a2J c hc (List.cons.inj e).1
   ·exact ⟨cG (by decide) (by decide) (fun e => rfl) (by decide) hl,rfl⟩
theorem yW {l : List UInt8} {v : Int} (h : V8 l=some v) : 0≤v:=by
 unfold V8 at h
 simp only at h
 split at h
 ·rename_i hq
  cases h
  obtain ⟨h1,h2,h3,h4⟩:=hq
  have hw : (l.takeWhile dgC).all dgC=true:=List.all_takeWhile
  have ht : (l.drop (l.takeWhile dgC).length).tail.all dgC=true:=by
   cases hd : l.drop (l.takeWhile dgC).length with
   | nil => rfl
   | cons c p =>
     rw [hd] at h4
     unfold aJ at h4
     simp only [Bool.and_eq_true] at h4
     exact h4.2.2
  refine (hY (n:=(l.takeWhile dgC ++ (l.drop (l.takeWhile dgC).length).tail ++ List.replicate (6 - (l.drop (l.takeWhile dgC).length).tail.length) 48).length) ?_ (Nat.le_refl _)).1
  rw [List.all_append,List.all_append,hw,ht,List.all_eq_true.2 fun x hx => by rw [List.eq_of_mem_replicate hx]; rfl]
  rfl
 ·cases h
theorem a50 {l : List UInt8} {v : Int} (h : gL l=some v) : -1000000000000000≤v∧v≤1000000000000000:=by
 unfold gL at h
 split at h
 ·split at h
  ·rename_i n hn
   have:=yW hn
   split at h
   ·cases h
   ·cases h; omega
  ·cases h
 ·split at h
  ·rename_i n hn
   have:=yW hn
   split at h
   ·cases h
   ·cases h; omega
  ·cases h
theorem a59 {l : List UInt8} {v : Int} (h : rS l=some v) : 0≤v∧v≤73048:=by
 unfold rS at h
 split at h
 ·rename_i hq
  cases h
  exact Cal.num_bd hq.2.2
 ·cases h
theorem a4w {c : UInt8} {r : List UInt8} {pos : Int} {t : Tk} {n : Nat} (h : aY c r pos=.ok (t,n)) : TkG t∧t.pos=pos:=by
 unfold aY at h
 split at h
 ·rename_i hs; exact a0j hs h
 split at h
 ·unfold aX at h
  split at h
  ·split at h
   ·cases h
   ·rename_i v hv
    have:=a59 hv
    split at h
    ·cases h; exact ⟨cG (by decide) (by decide) (fun e => by cases e) (by omega) (by decide),rfl⟩
    ·cases h
  ·split at h
   ·cases h
   ·rename_i v hv
    have:=a50 hv
    split at h
    ·cases h; exact ⟨cG (by decide) (by decide) (fun e => by cases e) (by omega) (by decide),rfl⟩
    ·cases h
 split at h
 ·unfold aA at h
  split at h
  ·cases h
  ·split at h
   ·rename_i hn
    cases h
    obtain ⟨c,r,-,-,-,hl⟩:=fM hn
    exact ⟨cG (by decide) (by decide) (fun e => by cases e) (by decide) (by omega),rfl⟩
   ·cases h
 split at h
 ·unfold a3s at h
  split at h
  ·cases h
   refine ⟨cG (by decide) (by decide) (fun e => rfl) (by decide) ?_,rfl⟩
   have:=List.length_take_le 3 (c :: r)
   omega
  ·cases h
 ·unfold kZ at h
  split at h
  ·cases h; exact ⟨yA (by decide),rfl⟩
  ·split at h
   ·cases h; exact ⟨yA (by show [c].length≤2; simp),rfl⟩
   ·cases h
theorem y7.cons {t : Tk} {ts : List Tk} (h : y7 ts) (hne : ts≠[]) : y7 (t :: ts):=by
 intro j hj hk
 have hp:=List.length_pos_iff.2 hne
 cases j with
 | zero => rw [List.length_cons]; omega
 | succ j =>
   have:=h j (by rw [List.length_cons] at hj; omega) hk
   rw [List.length_cons]; omega
theorem iD : ∀ (l : List UInt8) (pos : Int) (k s : Nat) (ts : List Tk),s6 l pos k s=.ok ts→(∀ t∈ts,TkG t∧pos≤t.pos∧t.pos≤pos + l.length)∧y7 ts∧ts≠[]
 | [],pos,k,_,ts,h => by
   unfold s6 at h
   cases h
   refine ⟨fun t ht => ?_,fun j hj hk => ?_,by simp⟩
   ·obtain rfl:=List.mem_singleton.1 ht
    exact ⟨cG (by decide) (by decide) (fun e => rfl) (by decide) (by decide),Int.le_refl _,by simp⟩
   ·have : j=0:=by simp at hj; omega
    subst this; exact absurd (show (0 : Int)=0 from rfl) hk
 | c :: r,pos,k,s + 1,ts,h => by
   unfold s6 at h
   obtain ⟨h1,h2,h3⟩:=iD r (pos + 1) k s ts h
   refine ⟨fun t ht => ?_,h2,h3⟩
   obtain ⟨a,b,d⟩:=h1 t ht
   exact ⟨a,by omega,by rw [List.length_cons]; omega⟩
 | c :: r,pos,k,0,ts,h => by
   have go : ∀ s,s6 r (pos + 1) k s=.ok ts→(∀ t∈ts,TkG t∧pos≤t.pos∧t.pos≤pos + (c :: r).length)∧y7 ts∧ts≠[]:=fun s hs => by
    obtain ⟨h1,h2,h3⟩:=iD r (pos + 1) k s ts hs
    refine ⟨fun t ht => ?_,h2,h3⟩
    obtain ⟨a,b,d⟩:=h1 t ht
    exact ⟨a,by omega,by rw [List.length_cons]; omega⟩
   unfold s6 at h
   split at h
   ·exact go 0 h
   split at h
   ·exact go _ h
   split at h
   ·cases h
   ·rename_i t n ht
    split at h
    ·cases h
    ·rename_i hk
     split at h
     ·cases h
     ·rename_i us hus
      cases h
      obtain ⟨h1,h2,h3⟩:=iD r (pos + 1) (k + 1) _ us hus
      refine ⟨fun u hu => ?_,h2.cons h3,by simp⟩
      rcases List.mem_cons.1 hu with rfl | hu
      ·obtain ⟨a,b⟩:=a4w ht
       exact ⟨a,by omega,by rw [List.length_cons]; omega⟩
      ·obtain ⟨a,b,d⟩:=h1 u hu
       exact ⟨a,by omega,by rw [List.length_cons]; omega⟩
theorem qA {l : List UInt8} {ts : List Tk} (h : r6 l=.ok ts) : (∀ t∈ts,z8 t)∧(∀ t∈ts,TkZ t)∧y7 ts∧ts≠[]:=by
 unfold r6 at h
 split at h
 ·cases h
 ·rename_i hl
  obtain ⟨h1,h2,h3⟩:=iD l 0 0 0 ts h
  refine ⟨fun t ht => ?_,fun t ht => (h1 t ht).1.z,h2,h3⟩
  obtain ⟨⟨hn,hs,-⟩,hp,hq⟩:=h1 t ht
  exact ⟨WalkArith.wf_i64 (by omega),WalkArith.wf_i64 (by omega),by omega⟩
end
section
open Go.RowKit
structure AllC (P g cap : Nat) (ts l : List Tk) : Prop where
 e : CE P g cap ts l
 c : ∀ lv,lv≤3→CC P g cap ts lv l
 n : CN P g cap ts l
 u : CU P g cap ts l
theorem yH (P g cap : Nat) (ts : List Tk) (he : y7 ts) (htk : ∀ t∈ts,z8 t) (htz : ∀ t∈ts,TkZ t) : ∀ (N : Nat) (l : List Tk),l.length<N→AllC P g cap ts l
 | 0,l,h => absurd h (Nat.not_lt_zero _)
 | N + 1,l,h => by
   have ih : ∀ r,r.length<l.length→AllC P g cap ts r:=fun r hr => yH P g cap ts he htk htz N r (by omega)
   have q : ∀ lv r,lv≤3→AllC P g cap ts r→CL P g cap ts lv r:=fun lv r hlv a => dX P g cap ts lv hlv r (fun _ => a.c 1 (by decide)) (fun _ => a.n) (fun _ => a.c 3 (by decide)) (fun _ => a.u)
   have hA:=a2n P g cap ts he htk htz l fun r hr => (ih r hr).e
   have hU:=a0l P g cap ts he htk l hA fun ht => (ih _ (by have:=n5 ht; omega)).u
   have hL3:=dX P g cap ts 3 (by decide) l (fun h => absurd h (by decide)) (fun h => absurd h (by decide)) (fun h => absurd h (by decide)) (fun _ => hU)
   have hC3:=fU P g cap ts he htk 3 (by decide) l hL3 fun r hr => q 3 r (by decide) (ih r hr)
   have hL2:=dX P g cap ts 2 (by decide) l (fun h => absurd h (by decide)) (fun h => absurd h (by decide)) (fun _ => hC3) (fun h => absurd h (by decide))
   have hC2:=fU P g cap ts he htk 2 (by decide) l hL2 fun r hr => q 2 r (by decide) (ih r hr)
   have hN:=a3H P g cap ts he htk l hC2 (fun r hr => (ih r hr).c 2 (by decide)) fun ht => (ih _ (by have:=n5 ht; omega)).n
   have hL1:=dX P g cap ts 1 (by decide) l (fun h => absurd h (by decide)) (fun _ => hN) (fun h => absurd h (by decide)) (fun h => absurd h (by decide))
   have hC1:=fU P g cap ts he htk 1 (by decide) l hL1 fun r hr => q 1 r (by decide) (ih r hr)
   have hL0:=dX P g cap ts 0 (by decide) l (fun _ => hC1) (fun h => absurd h (by decide)) (fun h => absurd h (by decide)) (fun h => absurd h (by decide))
   have hC0:=fU P g cap ts he htk 0 (by decide) l hL0 fun r hr => q 0 r (by decide) (ih r hr)
   exact ⟨a2R P g cap ts he htk l hC0 fun r hr => (ih r hr).e,fun lv hlv => by
    have hc : lv=0∨lv=1∨lv=2∨lv=3:=by omega
    rcases hc with rfl | rfl | rfl | rfl
    ·exact hC0
    ·exact hC1
    ·exact hC2
    ·exact hC3,hN,hU⟩
theorem a16 (P g cap : Nat) (ts : List Tk) (he : y7 ts) (htk : ∀ t∈ts,z8 t) (htz : ∀ t∈ts,TkZ t) (l : List Tk) : CE P g cap ts l:=(yH P g cap ts he htk htz _ l (Nat.lt_succ_self _)).e
def a1X (x : Rd) : Except (Int × Int) Nd:=match x with
 | .error e => .error e
 | .ok (t,r) => if (hd r).kind=0 then .ok t else .error (74,(hd r).pos)
def gU (l : List UInt8) : Except (Int × Int) Nd:=match r6 l with
 | .error e => .error e
 | .ok ts => a1X (rd .expr 0 ts)
def tJ (x : Except (Int × Int) Nd) (w : World) (e : Ending) (w' : World) : Prop :=
 ∃ (t : Nd) (a : Option Addr) (cp : Nat) (f k : Int),e=.returned (.tuple #[t.val a cp,.int .i64 f,.int .i64 k])∧Below w.heap.size w w'∧match x with
  | .ok u => u=t∧f=0∧k=0∧t.lies (Fr w.heap.size w'.heap.size) w' a cp∧c8 t≤100
  | .error (c,p) => k=c∧f=p∧c≠0
end
section
open Lib (hid)
open Go.RowKit
theorem L5 {w W : World} {P : Nat} (h : w.grownBy W (some P)) (hP : w.heap.size≤P) : Below w.heap.size w W:=⟨h.os,h.tape,h.output,h.size,fun k hk => h.block k hk (fun e => by have:=Option.some.inj e; omega)⟩
theorem SP.make {g cap : Nat} {ts : List Tk} {base : Nat} {w : World} {T : TypeId} (h : w.ownsRow base T 4 (.slice (some ⟨g,0,none⟩) ts.length cap) ts.length (l8 ts)) (hne : ts≠[]) :
 SP w.heap.size g cap ts 0 (.ok ts) (w.alloc (.cells #[.slice (some ⟨g,0,none⟩) ts.length cap,.int .i64 0,.int .i64 0,.int .i64 0,.int .i64 0] 95)):=by
 have hg:=h.lt g rfl
 have hb:=c6 w (.cells #[.slice (some ⟨g,0,none⟩) ts.length cap,.int .i64 0,.int .i64 0,.int .i64 0,.int .i64 0] 95)
 refine ⟨0,0,0,0,⟨by show (w.heap.push _)[w.heap.size]?=_; simp,(vU.of_row h).below hb hg.2,by omega,Nat.lt_of_lt_of_le hg.2 hb.size,?_,?_,List.length_pos_iff.2 hne⟩,rfl,rfl,rfl,rfl⟩
 ·rcases h.2 with ⟨e,-⟩ | ⟨g',cap2,cur,e,-,-,h1,-⟩
  ·cases e
  ·cases e; exact h1
 ·rcases h.2 with ⟨e,-⟩ | ⟨g',cap2,cur,e,-,-,-,h1,-⟩
  ·cases e
  ·cases e; exact h1
theorem a4g {c p : Int} {x : Except (Int × Int) Nd} {w W : World} {P : Nat} (hx : x=.error (c,p)) (hc : c≠0) (h : w.grownBy W (some P)) (hP : w.heap.size≤P) : tJ x w (.returned (.tuple #[nd0.val none 0,.int .i64 p,.int .i64 c])) (V6 W w.heap.size nd0 none 0):=by
 subst hx
 exact ⟨nd0,none,0,p,c,rfl,L5 (r7 h (Nat.le_refl _) nd0 none 0) hP,rfl,rfl,hc⟩
theorem sV {c p : Int} {x : Except (Int × Int) Nd} {w W : World} {P : Nat} (hx : x=.error (c,p)) (hc : c≠0) (h : w.grownBy W (some P)) (hP : w.heap.size≤P) : tJ x w (.returned (.tuple #[nd0.val none 0,.int .i64 p,.int .i64 c])) (V6 W w.heap.size nd0 none 0).drew:=by
 subst hx
 exact ⟨nd0,none,0,p,c,rfl,A7 (L5 (r7 h (Nat.le_refl _) nd0 none 0) hP),rfl,rfl,hc⟩
theorem a6K {w W : World} {r : Option Nat} (h : w.grownBy W r) : w.grownBy W.drew r:=⟨h.os,h.tape,h.output,h.size,h.block⟩
theorem a6n (k n p : Int) (s : ByteArray) (w : World) : (Instr.field 67 (.agg #[.int .i64 k,.string s,.int .i64 n,.int .i64 p]) 0).run Tryz.prog w=.ok (.int .i64 k) w:=by kernel_rfl
theorem a2i {u t : Nd} {a : Option Addr} {cp b lo : Nat} {W4 W5 W6 : World} (h : u=t∧t.lies (Fr W4.heap.size W5.heap.size) W5 a cp∧c8 t≤100) (hW : W6=V6 W5 b t a cp) (h0 : lo≤W4.heap.size) (hb : b<W4.heap.size) :
 u=t∧t.lies (Fr lo W6.heap.size) W6 a cp∧c8 t≤100:=by
 refine ⟨h.1,d5 h.2.1 (hW ▸ (j0.refl _ _).put (fun k hk e => by have:=hk.1; omega) t a cp) fun k hk => ⟨Nat.le_trans h0 hk.1,?_⟩,h.2.2⟩
 rw [hW,L8]
 exact hk.2
theorem a6b {u t : Nd} {a : Option Addr} {cp : Nat} {x : Except (Int × Int) Nd} {w W6 W7 : World} {P : Nat} (hx : x=.ok u) (hl : u=t∧t.lies (Fr (w.heap.size + 1) W6.heap.size) W6 a cp∧c8 t≤100) (hb : Below W6.heap.size W6 W7) (hg : w.grownBy W6 (some P)) (hP : w.heap.size≤P) :
 tJ x w (.returned (.tuple #[t.val a cp,.int .i64 0,.int .i64 0])) (V6 W7 w.heap.size t a cp):=by
 subst hx
 refine ⟨t,a,cp,0,0,rfl,L5 (r7 (d8 hg (hb.mono hg.size)) (Nat.le_refl _) t a cp) hP,hl.1,rfl,rfl,?_,hl.2.2⟩
 refine d5 hl.2.1 (((show j0 _ W6 W7 from fun k hk => hb.block k hk.2)).put (fun k hk e => by have:=hk.1; omega) t a cp) fun k hk => ⟨by have:=hk.1; omega,?_⟩
 rw [L8]
 exact Nat.lt_of_lt_of_le hk.2 hb.size
theorem a3K {t : Nd} {a : Option Addr} {cp : Nat} {f k : Int} {x : Except (Int × Int) Nd} {w W1 W2 : World} (hx : match x with
 | .ok u => u=t∧f=0∧k=0∧t.lies (Fr W1.heap.size W2.heap.size) W2 a cp∧c8 t≤100
 | .error (c,p) => k=c∧f=p∧c≠0) (hb : Below w.heap.size w W2) (hlt : w.heap.size < W1.heap.size) :
 tJ x w (.returned (.tuple #[t.val a cp,.int .i64 f,.int .i64 k])) (V6 W2 w.heap.size t a cp):=by
 refine ⟨t,a,cp,f,k,rfl,L5 (P:=w.heap.size) (r7 (b8 hb) (Nat.le_refl _) t a cp) (Nat.le_refl _),?_⟩
 match x,hx with
 | .ok u,hx =>
   refine ⟨hx.1,hx.2.1,hx.2.2.1,d5 hx.2.2.2.1 ((j0.refl _ _).put (fun k hk e => by have:=hk.1; omega) t a cp) fun k hk => ⟨by have:=hk.1; omega,?_⟩,hx.2.2.2.2⟩
   rw [L8]
   exact hk.2
 | .error (c,p),hx => exact hx
theorem a2F (s : ByteArray) (w : World) (hs : s.size≤maxLen) :
 Calls Tryz.prog 38 #[.string s,.bool false] w (tJ (gU s.data.toList) w):=by
 obtain ⟨W1,hW1⟩ : ∃ W,W=w.alloc (.cells #[.int .i64 0,.string ⟨#[]⟩,.int .i64 0,.slice none 0 0,.int .i64 0] 24):=⟨_,rfl⟩
 have B1:=hid (show f6 w.heap.size nd0 none 0 W1 from hW1 ▸ f6.make w nd0 none 0)
 have E1:=hid (show Below w.heap.size w W1 from hW1 ▸ c6 _ _)
 obtain ⟨X,hX⟩ : ∃ X,X=gU s.data.toList:=⟨_,rfl⟩
 rw [← hX]
 have C1:=hid (sJ s W1 hs)
 unfold gU at hX
 generalize hsc : r6 s.data.toList=x at C1 hX
 have HX:=hid hX
 have HSC:=hid hsc
 clear hX hsc hs
 go_enter Tryz.func38,Tryz.ntmps38
 go_wp2_with fail
 rw [← hW1]
 clear hW1
 (with_reducible refine Calls.mono C1.out ?_)
 intro e W2 hsp
 obtain ⟨hb,hsp⟩:=hsp
 have B2:=hid (B1.out.below hb)
 have G2:=hid (b8 (r:=some w.heap.size) (E1.out.trans (hb.mono E1.out.size)))
 have HB2:=hid hb
 clear hb C1
 cases x with
 | error q =>
   obtain ⟨c,p⟩:=q
   obtain ⟨hc,rfl⟩:=hsp
   have ek : (c != 0)=true:=bne_iff_ne.2 hc
   have HC:=hid hc
   have HX':=hid (show X=.error (c,p) from HX)
   obtain ⟨⟨z0,z1,z2,z3,z4⟩,⟨f0,f1,f2,f3,f4⟩⟩:=B2.out.cells
   have hsz : w.heap.size<W2.heap.size:=B2.out.lt
   clear hc HX
   go_wp2_with fail
   refine bodyPost_ret (v:=.tuple #[nd0.val none 0,.int .i64 p,.int .i64 c]) (by simp [results,Tryz.results38,go_sem,Nd.val,nd0,Nd.kind,Nd.text,Nd.n,Nd.kids,Nd.place,z0,z1,z2,z3,z4]) rfl ?_
   exact a4g HX' HC G2 (Nat.le_refl _)
 | ok ts =>
   obtain ⟨g,cap,rfl,how⟩:=hsp
   obtain ⟨htk,htz,he,hne⟩:=qA HSC
   have HTK:=hid htk
   have HTZ:=hid htz
   have HEn:=hid he
   have P3':=hid (SP.make how hne)
   have hgw:=hid (show w.heap.size<W2.heap.size∧W1.heap.size≤g∧g<W2.heap.size from ⟨B2.out.lt,(how.lt g rfl).1,(how.lt g rfl).2⟩)
   have HW1:=hid (show w.heap.size<W1.heap.size from B1.out.lt)
   clear htk htz he hne how
   obtain ⟨W3,hW3⟩ : ∃ W,W=W2.alloc (.cells #[.slice (some ⟨g,0,none⟩) ts.length cap,.int .i64 0,.int .i64 0,.int .i64 0,.int .i64 0] 95):=⟨_,rfl⟩
   have P3:=hid (show SP W2.heap.size g cap ts 0 (.ok ts) W3 from hW3 ▸ P3'.out)
   have E3:=hid (show Below W2.heap.size W2 W3 from hW3 ▸ c6 _ _)
   have hs3 : W3.heap.size=W2.heap.size + 1:=by rw [hW3]; simp
   obtain ⟨W4,hW4⟩ : ∃ W,W=W3.alloc (.cells #[.int .i64 0,.string ⟨#[]⟩,.int .i64 0,.slice none 0 0,.int .i64 0] 24):=⟨_,rfl⟩
   have N4:=hid (show f6 W3.heap.size nd0 none 0 W4 from hW4 ▸ f6.make W3 nd0 none 0)
   have E4:=hid (show Below W3.heap.size W3 W4 from hW4 ▸ c6 _ _)
   have P4:=hid (P3.out.below E4)
   have B4:=hid ((B2.out.below E3).below E4)
   have G4:=hid (show w.grownBy W4 (some W2.heap.size) from b8 ((E1.out.trans (HB2.out.mono E1.out.size)).trans ((E3.out.trans (E4.out.mono E3.out.size)).mono (Nat.le_of_lt hgw.out.1))))
   have hne4:=hid (show (w.heap.size≠W2.heap.size∧w.heap.size≠g)∧(W3.heap.size≠W2.heap.size∧W3.heap.size≠g)∧w.heap.size≠W3.heap.size∧W2.heap.size≠g by have:=hgw.out; have:=HW1.out; omega)
   have C5:=hid (a16 W2.heap.size g cap ts HEn HTK HTZ ts 0 W4 (by decide) P4)
   have HXe:=hid (show X=a1X (rd .expr 0 ts) from HX)
   generalize rd .expr 0 ts=y at C5 HXe
   clear HX P3'
   have HS3:=hid hs3
   go_upto_region 5 with fail
   rw [← hW3]
   clear hW3 hs3
   go_upto_region 6 with fail
   rw [← hW4]
   clear hW4
   go_wp2_with fail
   (with_reducible refine Calls.mono C5.out ?_)
   rintro e W5 ⟨t,a,cp,rfl,hs,hg,hk⟩
   have HK:=hid hk
   have P5:=hid hs
   have G5:=hid (b6 G4 hg)
   have B5:=hid (B4.out.grown hg hne4.out.1.1)
   have N5:=hid (N4.out.grown hg hne4.out.2.1.1)
   have HS5:=hid (show W4.heap.size≤W5.heap.size from hg.size)
   clear hs hg hk C5
   obtain ⟨W6,hW6⟩ : ∃ W,W=V6 W5 W3.heap.size t a cp:=⟨_,rfl⟩
   have P6:=hid (show SP W2.heap.size g cap ts 0 (p5 y) W6 from hW6 ▸ P5.out.put hne4.out.2.1.1 hne4.out.2.1.2 t a cp)
   have B6:=hid (show f6 w.heap.size nd0 none 0 W6 from hW6 ▸ B5.out.oput hne4.out.2.2.1 t a cp)
   have N6:=hid (show f6 W3.heap.size t a cp W6 from hW6 ▸ N5.out.put t a cp)
   have G6:=hid (show w.grownBy W6 (some W2.heap.size) from hW6 ▸ r7 G5 (by have:=hgw.out; have:=HS3.out; omega) t a cp)
   obtain ⟨⟨n0,n1,n2,n3,n4⟩,⟨e0,e1,e2,e3,e4⟩⟩:=N5.out.cells
   have hl5 : W3.heap.size<W5.heap.size:=N5.out.lt
   have hW6':=hW6
   unfold V6 at hW6'
   unfold Nd.val
   go_upto_region 9 with fail
   rw [← hW6']
   have HW6:=hid hW6
   clear hW6 hW6' n0 n1 n2 n3 n4 e0 e1 e2 e3 e4 hl5
   have hpl : W2.heap.size<W6.heap.size:=P6.out.blocks.1
   cases hy : y with
   | error q =>
     obtain ⟨c,p⟩:=q
     have P6':=P6.out
     rw [hy] at P6'
     have HX':=hid (show X=.error (c,p) by rw [HXe.out,hy]; rfl)
     obtain ⟨hc,i,n,hp,-,-⟩:=P6'.error
     obtain ⟨⟨p0,p1,p2,p3,p4⟩,-⟩:=hp.cells
     have ek : (c == 0)=false:=beq_eq_false_iff_ne.2 hc
     have ek' : (c != 0)=true:=bne_iff_ne.2 hc
     have HC:=hid hc
     obtain ⟨⟨z0,z1,z2,z3,z4⟩,⟨f0,f1,f2,f3,f4⟩⟩:=B6.out.cells
     have hsz : w.heap.size<W6.heap.size:=B6.out.lt
     have hb1 : ¬ w.heap.size=W2.heap.size:=hne4.out.1.1
     have hb2 : ¬ W2.heap.size=w.heap.size:=fun h => hb1 h.symm
     clear hc hp P6' hy
     go_wp2_with fail
     go_region
     all_goals
      go_wp2_with fail
      refine bodyPost_ret (v:=.tuple #[nd0.val none 0,.int .i64 p,.int .i64 c]) (by simp [results,Tryz.results38,go_sem,Nd.val,nd0,Nd.kind,Nd.text,Nd.n,Nd.kids,Nd.place,z0,z1,z2,z3,z4]) rfl ?_
      exact sV HX' HC G6 (Nat.le_of_lt hgw.out.1)
   | ok q =>
     obtain ⟨u,r⟩:=q
     have P6':=P6.out
     rw [hy] at P6'
     have HL6:=hid (a2i (HK.out u r hy) HW6 (lo:=w.heap.size + 1) (by have:=hgw.out; have:=E4.out.size; have:=HS3.out; omega) N4.out.lt)
     obtain ⟨i,hr,hp⟩:=P6'.ok
     have hT:=lB hp.pos
     rw [← hr] at hT
     have HPS:=hid hp
     obtain ⟨⟨p0,p1,p2,p3,p4⟩,-⟩:=hp.cells
     have CL:=hid (show ∀ W,PS W2.heap.size g cap ts i 0 0 0 W→Calls Tryz.prog 70 #[.pointer (some ⟨W2.heap.size,0,none⟩)] W fun e w' => e=.returned (tkV (hd r))∧Below W.heap.size W w' from fun W h => by
      have:=cB W2.heap.size g cap ts i 0 0 0 W h
      rwa [← hT] at this)
     have HX':=hid (show X=if (hd r).kind=0 then .ok u else .error (74,(hd r).pos) by rw [HXe.out,hy]; rfl)
     generalize hd r=T at CL HX'
     have C7:=hid (CL.out W6 HPS)
     have hfd:=jW T.kind T.n T.pos ⟨T.text.toArray⟩
     have hfk:=a6n T.kind T.n T.pos ⟨T.text.toArray⟩
     clear P6' hp hr hT hy
     go_wp2_with fail
     (with_reducible refine Calls.mono C7.out ?_)
     rintro e W7 ⟨rfl,hb⟩
     have HB7:=hid hb
     have HPS7:=hid (HPS.out.below hb)
     have B7:=hid (B6.out.below hb)
     have N7:=hid (N6.out.below hb)
     have G7:=hid (d8 G6 (hb.mono G6.out.size))
     clear hb C7 p0 p1 p2 p3 p4 hpl
     obtain ⟨⟨p0,p1,p2,p3,p4⟩,-⟩:=HPS7.out.cells
     have hpl : W2.heap.size<W7.heap.size:=HPS7.out.plt
     unfold tkV
     by_cases hk : T.kind=0
     ·have ek : (T.kind != 0)=false:=by rw [hk]; rfl
      have HX2:=hid (show X=.ok u by rw [HX'.out,if_pos hk])
      obtain ⟨⟨n0,n1,n2,n3,n4⟩,-⟩:=N7.out.cells
      obtain ⟨⟨z0,z1,z2,z3,z4⟩,⟨f0,f1,f2,f3,f4⟩⟩:=B7.out.cells
      have hsz : w.heap.size<W7.heap.size:=B7.out.lt
      have hs3' : W3.heap.size<W7.heap.size:=N7.out.lt
      clear hk
      go_wp2_with fail
      refine bodyPost_ret (v:=.tuple #[t.val a cp,.int .i64 0,.int .i64 0]) (by simp [results,Tryz.results38,go_sem,Nd.val,z0,z1,z2,z3,z4]) rfl ?_
      exact a6b HX2 HL6 HB7 G6 (Nat.le_of_lt hgw.out.1)
     ·have ek : (T.kind != 0)=true:=bne_iff_ne.2 hk
      have HX2:=hid (show X=.error (74,T.pos) by rw [HX'.out,if_neg hk])
      clear hk
      have C8:=hid (CL.out W7 HPS7)
      go_wp2_with fail
      (with_reducible refine Calls.mono C8.out ?_)
      rintro e W8 ⟨rfl,hb⟩
      have HPS8:=hid (HPS7.out.below hb)
      have B8:=hid (B7.out.below hb)
      have G8:=hid (d8 G7 (hb.mono G7.out.size))
      have C9:=hid (cD W2.heap.size g cap ts i 0 W8 74 T.pos HPS8)
      clear hb C8 p0 p1 p2 p3 p4 hpl
      unfold tkV
      go_wp2_with fail
      (with_reducible refine Calls.mono C9.out ?_)
      rintro e W9 ⟨rfl,hp9,hg9⟩
      have B9:=hid (B8.out.grown hg9 hne4.out.1.1)
      have G9:=hid (b6 G8 hg9)
      obtain ⟨⟨p0,p1,p2,p3,p4⟩,-⟩:=hp9.cells
      have hpl : W2.heap.size<W9.heap.size:=hp9.plt
      obtain ⟨⟨z0,z1,z2,z3,z4⟩,⟨f0,f1,f2,f3,f4⟩⟩:=B9.out.cells
      have hsz : w.heap.size<W9.heap.size:=B9.out.lt
      have hb1 : ¬ w.heap.size=W2.heap.size:=hne4.out.1.1
      have hb2 : ¬ W2.heap.size=w.heap.size:=fun h => hb1 h.symm
      clear hp9 hg9 C9
      go_wp2_with fail
      go_region
      all_goals
       go_wp2_with fail
       refine bodyPost_ret (v:=.tuple #[nd0.val none 0,.int .i64 T.pos,.int .i64 74]) (by simp [results,Tryz.results38,go_sem,Nd.val,nd0,Nd.kind,Nd.text,Nd.n,Nd.kids,Nd.place,z0,z1,z2,z3,z4]) rfl ?_
       exact sV HX2 (by decide) G9 (Nat.le_of_lt hgw.out.1)
theorem a0K (s : ByteArray) (w : World) (hs : s.size≤maxLen) :
 Calls Tryz.prog 16 #[.string s] w (tJ (gU s.data.toList) w):=by
 obtain ⟨W1,hW1⟩ : ∃ W,W=w.alloc (.cells #[.int .i64 0,.string ⟨#[]⟩,.int .i64 0,.slice none 0 0,.int .i64 0] 24):=⟨_,rfl⟩
 have B1:=hid (show f6 w.heap.size nd0 none 0 W1 from hW1 ▸ f6.make w nd0 none 0)
 have E1:=hid (show Below w.heap.size w W1 from hW1 ▸ c6 _ _)
 have C1:=hid (a2F s W1 hs)
 generalize gU s.data.toList=x at C1
 go_enter Tryz.func16,Tryz.ntmps16
 go_wp2_with fail
 rw [← hW1]
 clear hW1
 (with_reducible refine Calls.mono C1.out ?_)
 rintro e W2 ⟨t,a,cp,f,k,rfl,hb,hx⟩
 have B2:=hid (B1.out.below hb)
 have HB2:=hid hb
 have HX:=hid hx
 clear hb hx C1
 obtain ⟨⟨z0,z1,z2,z3,z4⟩,⟨f0,f1,f2,f3,f4⟩⟩:=B2.out.cells
 have hsz : w.heap.size<W2.heap.size:=B2.out.lt
 unfold Nd.val
 go_wp2_with fail
 refine bodyPost_ret (v:=.tuple #[t.val a cp,.int .i64 f,.int .i64 k]) (by simp [results,Tryz.results16,go_sem,Nd.val,z0,z1,z2,z3,z4]) rfl ?_
 exact a3K HX (E1.out.trans (HB2.out.mono E1.out.size)) B1.out.lt
end
section
open Lib (hid)
open Go.RowKit
theorem a0X : gU a3F=.ok J4:=by
 unfold gU
 rw [a1c]
 show a1X (rd .expr 0 a0u)=_
 rw [a1k]
 rfl
theorem nG : r8 J4:=by
 refine ⟨by decide,⟨by decide,⟨by decide,trivial⟩,⟨by decide,trivial⟩,trivial⟩,⟨by decide,trivial⟩,trivial⟩
theorem a2d (w : World) (he : Env w) (hta : Tab w) : Calls Tryz.prog 6 #[] w fun e w' => e=.returned (.bool true)∧Below w.heap.size w w':=by
 have C1:=hid (a0K ⟨#[97,32,45,32,98,32,45,32,49,46,53]⟩ w (by unfold maxLen; decide))
 have HE:=hid he
 have HT:=hid hta
 clear he hta
 go_enter Tryz.func6,Tryz.ntmps6
 go_wp2_with fail
 (with_reducible refine Calls.mono C1.out ?_)
 rintro e w1 ⟨t,a,cp,f,k,rfl,hb,hx⟩
 rw [show gU (ByteArray.mk #[97,32,45,32,98,32,45,32,49,46,53]).data.toList=.ok J4 from a0X] at hx
 obtain ⟨rfl,rfl,rfl,hl,-⟩:=hx
 have HL:=hid (show J4.hold w1.heap.size w1 a cp from Nd.lies.hold J4 (d5 hl (j0.refl _ _) fun b hb => hb.2))
 have HB1:=hid hb
 obtain ⟨W2,hW2⟩ : ∃ W,W=w1.alloc (.cells #[.int .i64 J4.kind,.string J4.text,.int .i64 J4.n,.slice a J4.kids.length cp,.int .i64 J4.place] 24):=⟨_,rfl⟩
 have N2:=hid (show f6 w1.heap.size J4 a cp W2 from hW2 ▸ f6.make w1 J4 a cp)
 have E2:=hid (show Below w1.heap.size w1 W2 from hW2 ▸ c6 _ _)
 have HX:=hid (show ∀ cur,Below W2.heap.size W2 cur→Env cur∧Tab cur∧w1.heap.size≤cur.heap.size∧J4.hold w1.heap.size cur a cp∧f6 w1.heap.size J4 a cp cur from fun cur hc => ⟨((HE.out.below HB1).below E2).below hc,((HT.out.below HB1).below E2).below hc,Nat.le_trans E2.out.size hc.size,HL.out.below (E2.out.trans (hc.mono E2.out.size)),N2.out.below hc⟩)
 have HW2:=hid (Below.refl W2.heap.size W2)
 have HA:=hid (HB1.out.trans (E2.out.mono HB1.out.size))
 have HAs:=hid (show w.heap.size≤W2.heap.size from HA.out.size)
 clear hb hl C1
 have C2:=hid (a26 J4 a cp w1.heap.size W2 (HX.out _ HW2).2.2.2.1 nG (HX.out _ HW2).2.2.1 (HX.out _ HW2).1 (HX.out _ HW2).2.1)
 rw [show wV J4=[40,97,32,45,32,98,41,32,45,32,49,46,53] from (a5m iB).trans zQ,show xD J4=0 from a4n iB] at C2
 obtain ⟨N,hN⟩ : ∃ N,N=J4:=⟨_,rfl⟩
 have hr:=iB
 have hm:=a3m
 have hsh:=nG
 rw [← hN] at C2 HX hr hm hsh hW2 N2 ⊢
 have HR:=hid hr
 have HM:=hid hm
 have HSH:=hid hsh
 clear hr hm hsh hN HL
 obtain ⟨⟨n0,n1,n2,n3,n4⟩,-⟩:=N2.out.cells
 have hlt : w1.heap.size<W2.heap.size:=N2.out.lt
 unfold Nd.val
 go_upto_region 2 with fail
 rw [← hW2]
 clear hW2
 go_wp2_with fail
 (with_reducible refine Calls.mono C2.out ?_)
 rintro e W3 ⟨rfl,hb⟩
 have HW3:=hid (HW2.out.trans (hb.mono HW2.out.size))
 clear hb C2 n0 n1 n2 n3 n4 hlt
 have C3:=hid (qR N a cp w1.heap.size W3 (HX.out _ HW3).2.2.2.1 HSH (HX.out _ HW3).2.2.1 (HX.out _ HW3).1 (HX.out _ HW3).2.1)
 rw [HR.out] at C3
 obtain ⟨⟨n0,n1,n2,n3,n4⟩,-⟩:=(HX.out _ HW3).2.2.2.2.cells
 have hlt : w1.heap.size<W3.heap.size:=(HX.out _ HW3).2.2.2.2.lt
 go_wp2_with fail
 (with_reducible refine Calls.mono C3.out ?_)
 rintro e W4 ⟨rfl,hb⟩
 have HW4:=hid (HW3.out.trans (hb.mono HW3.out.size))
 clear hb C3 n0 n1 n2 n3 n4 hlt
 have C4:=hid (a0L N a cp w1.heap.size W4 (HX.out _ HW4).2.2.2.1 HSH (HX.out _ HW4).2.2.1 (HX.out _ HW4).1 (HX.out _ HW4).2.1)
 rw [HM.out] at C4
 obtain ⟨⟨n0,n1,n2,n3,n4⟩,-⟩:=(HX.out _ HW4).2.2.2.2.cells
 have hlt : w1.heap.size<W4.heap.size:=(HX.out _ HW4).2.2.2.2.lt
 go_wp2_with fail
 (with_reducible refine Calls.mono C4.out ?_)
 rintro e W5 ⟨rfl,hb⟩
 have HW5:=hid (HW4.out.trans (hb.mono HW4.out.size))
 clear hb C4 n0 n1 n2 n3 n4 hlt
 go_wp2_with fail
 go_ret
 exact ⟨rfl,HA.out.trans (HW5.out.mono HAs)⟩
end
theorem uI (b : Bool) : ∀ ks,(x6 b ks).length=ks.length
 | [] => by rw [x6]
 | k :: ks => by rw [x6,List.length_cons,List.length_cons,uI b ks]
mutual
theorem sK (b : Bool) : ∀ t : Nd,aV (o0 b t)=aV t
 | .mk k s n ks p => by rw [o0,aV,aV,qD b ks]
theorem qD (b : Bool) : ∀ ks : List Nd,O4 (x6 b ks)=O4 ks
 | [] => by rw [x6]
 | k :: ks => by rw [x6,O4,O4,sK b k,qD b ks]
end
mutual
theorem tT (b : Bool) : ∀ (t : Nd) (d : Int),d7 (o0 b t) d=d7 t d
 | .mk k s n ks p,d => by rw [o0,d7,d7,uI,oN b ks]
theorem oN (b : Bool) : ∀ (ks : List Nd) (d : Int),m9 (x6 b ks) d=m9 ks d
 | [],d => by rw [x6]
 | k :: ks,d => by rw [x6,m9,m9,tT b k,oN b ks]
end
mutual
theorem lF (b : Bool) : ∀ t : Nd,r8 (o0 b t)=r8 t
 | .mk k s n ks p => by rw [o0,r8,r8,qU b ks]
theorem qU (b : Bool) : ∀ ks : List Nd,cO (x6 b ks)=cO ks
 | [] => by rw [x6]
 | k :: ks => by rw [x6,cO,cO,lF b k,qU b ks]
end
theorem a03 {a b : Nd} (h : aM a b=true) : r8 a=r8 b:=by
 rw [← lF false a,← lF false b,(fH a b).1 h]
section
open Go.RowKit
theorem rZ {Pr : Program} {pre rest : Code} {a : Act} {w : World} {Q : Exit→Act→World→Prop} (J : Act→World→Prop) (μ : Act→World→Nat) (hpre : findLabel pre 0=none) (first : pre.wp Pr (Exit.then J (Exit.noGoto Q)) a w)
 (pass : ∀ a w,J a w→rest.wp Pr (Exit.jump 0 (fun a' w' => J a' w'∧μ a' w'<μ a w) Q) a w) : (Code.scope (.seq pre (.seq (.label 0) rest))).wp Pr Q a w:=by
 refine wp_scope_jumps (rest:=.seq .skip rest) 0 J μ (by simp [findLabel,hpre]) ?_ ?_
 ·refine wp_seq (wp_mono first fun e a w h => ?_)
  cases e with
  | normal =>
    refine wp_seq (wp_label ?_)
    exact wp_mono (pass a w h) fun e a w h => by
     cases e <;> first | exact h | exact ⟨h.1,h.2.1⟩
  | goto l => exact h.elim
  | exit id => exact h
  | ret => exact h
  | panic ch => exact h
  | outgrown => exact h
 ·intro a w hJ
  exact wp_seq (wp_skip (pass a w hJ))
def a5f (P : Nat) (W : World) : Nat:=match W.cell? ⟨P,0,none⟩ with
 | some (.slice _ n _) => n
 | _ => 0
theorem SQ.len {P g cap : Nat} {ts : List Tk} {n : Nat} {l : List Tk} {W : World} (h : SQ P g cap ts n l W) : a5f P W=l.length:=by
 obtain ⟨a,rfl,h⟩:=h
 unfold a5f
 rw [h.cells.1.1,List.length_drop]
theorem a7z (w : World) (T : TypeId) (e1 : Ent) : mG (w.alloc (.cells #[.int .i64 e1.1.kind,.string e1.1.text,.int .i64 e1.1.n,.slice e1.2.1 e1.1.kids.length e1.2.2,.int .i64 e1.1.place,.int .i64 (c8 e1.1)] T)) w.heap.size 0 [e1]:=by
 intro j hj
 obtain rfl : j=0:=by simp at hj; omega
 refine ⟨?_,?_,?_,?_,?_,?_⟩ <;> simp
theorem a6M (w : World) (T : TypeId) (e1 e2 : Ent) : mG (w.alloc (.cells #[.int .i64 e1.1.kind,.string e1.1.text,.int .i64 e1.1.n,.slice e1.2.1 e1.1.kids.length e1.2.2,.int .i64 e1.1.place,.int .i64 (c8 e1.1),.int .i64 e2.1.kind,.string e2.1.text,.int .i64 e2.1.n,.slice e2.2.1 e2.1.kids.length e2.2.2,.int .i64 e2.1.place,.int .i64 (c8 e2.1)] T)) w.heap.size 0 [e1,e2]:=by
 intro j hj
 have : j=0∨j=1:=by simp at hj; omega
 rcases this with rfl | rfl <;> (refine ⟨?_,?_,?_,?_,?_,?_⟩ <;> simp)
theorem a6J (w : World) (T : TypeId) (e1 e2 e3 : Ent) : mG (w.alloc (.cells #[.int .i64 e1.1.kind,.string e1.1.text,.int .i64 e1.1.n,.slice e1.2.1 e1.1.kids.length e1.2.2,.int .i64 e1.1.place,.int .i64 (c8 e1.1),.int .i64 e2.1.kind,.string e2.1.text,.int .i64 e2.1.n,.slice e2.2.1 e2.1.kids.length e2.2.2,.int .i64 e2.1.place,.int .i64 (c8 e2.1),
 .int .i64 e3.1.kind,.string e3.1.text,.int .i64 e3.1.n,.slice e3.2.1 e3.1.kids.length e3.2.2,.int .i64 e3.1.place,.int .i64 (c8 e3.1)] T)) w.heap.size 0 [e1,e2,e3]:=by
 intro j hj
 have : j=0∨j=1∨j=2:=by simp at hj; omega
 rcases this with rfl | rfl | rfl <;> (refine ⟨?_,?_,?_,?_,?_,?_⟩ <;> simp)
def jB (x : Rd) (av : Nat→Prop) (w : World) (e : Ending) (w' : World) : Prop:=Below w.heap.size w w'∧match x with
 | .ok (t,_) => ∃ a cp,e=.returned (trV t a cp)∧t.lies (fun b => av b∨Fr w.heap.size w'.heap.size b) w' a cp∧c8 t≤100
 | .error (k,p) => e=flt k p
theorem gI.use {k n p : Int} {s : List UInt8} {L : List Ent} {w w' : World} {e : Ending} (h : gI k s n p L w e w') (hk : (Lit.int .i64 k).wf=true) (hs : s.length≤16384) (hn : (Lit.int .i64 n).wf=true) (hp : (Lit.int .i64 p).wf=true) {av : Nat→Prop} (hav : ∀ b,av b→b<w.heap.size) (hl : ∀ e∈L,e.1.lies av w e.2.1 e.2.2) (r : List Tk) :
 jB (made (mkN k s n (L.map (·.1)) p) r) av w e w':=by
 obtain ⟨hb,h⟩:=h
 refine ⟨hb,?_⟩
 unfold made
 split at h
 ·rename_i hd
  rw [if_pos hd]; exact h
 ·rename_i hd
  rw [if_neg hd]
  obtain ⟨a,cp,he,hq⟩:=h
  obtain ⟨h1,h2,h3⟩:=hq av hav hl
  exact ⟨a,cp,he,Nd.lies.mk' hk (by show s.toArray.size≤maxLen; unfold maxLen; simp; omega) hn hp (by rw [List.length_map]; exact h2) h3 h1,by omega⟩
end
section
open Lib (hid)
open Go.RowKit
def a4D (P g cap : Nat) (ts : List Tk) (nest lv : Nat) (l : List Tk) (X : Rd) (w : World) (tb : Nat) (t : Nd) (a : Option Addr) (cp : Nat) (r : List Tk) (wr : World) : Prop :=
 SQ P g cap ts nest r wr∧w.grownBy wr (some P)∧T6 tb t.kind t.text t.n a t.kids.length cp t.place (c8 t) wr∧T6 w.heap.size 0 ⟨#[]⟩ 0 none 0 0 0 0 wr∧w.heap.size<tb∧c8 t≤100∧X=rd (.loop lv t) nest r∧r.length≤l.length ∧
  ∃ av : Nat→Prop,(∀ c,av c→w.heap.size<c∧c<wr.heap.size∧c≠tb)∧t.lies av wr a cp
theorem iL (k n p : Int) (s : ByteArray) (w : World) : (Instr.field 79 (.agg #[.int .i64 k,.string s,.int .i64 n,.int .i64 p]) 3).run Tryz.prog w=.ok (.int .i64 p) w:=by kernel_rfl
theorem a6g (lv : Nat) : ∀ x∈s9 lv,x.length≤3:=by
 unfold s9
 split
 ·decide
 split
 ·decide
 split <;> decide
theorem a1w (s : ByteArray) : (⟨s.data.toList.toArray⟩ : ByteArray)=s:=by cases s; simp
theorem a3C (lv nest : Nat) (l : List Tk) : rd (.chain lv) nest l=(rd (I6 lv) nest l).then fun t r => rd (.loop lv t) nest r:=by rw [t7]; rfl
theorem a5V {lv nest : Nat} {t : Nd} {r : List Tk} (h : U6 (s9 lv) r=false) : rd (.loop lv t) nest r=.ok (t,r):=by
 rw [t7]
 show (if U6 (s9 lv) r=true then _ else _)=_
 rw [h,if_neg (by decide)]
theorem a4I {lv nest : Nat} {t : Nd} {r : List Tk} {x : List UInt8} (hx : x∈s9 lv) (h : isT x r=true) : rd (.loop lv t) nest r=(rd (I6 lv) nest (b9 r)).then fun m q => (made (mkN 13 x 0 [t,m] (hd r).pos) q).then fun t q => rd (.loop lv t) nest q:=by
 rw [t7]
 show (if U6 (s9 lv) r=true then _ else _)=_
 rw [if_pos (by unfold U6; exact List.any_eq_true.2 ⟨x,hx,h⟩),(kS h).2]
theorem a3M {P g cap : Nat} {ts : List Tk} {n : Nat} {l : List Tk} {W W' : World} {b : Nat} (h : SQ P g cap ts n l W) (k : W.grownBy W' (some b)) (hb : b≠P∧b≠g) : SQ P g cap ts n l W' :=
 h.keeps (fun c hc => by
  have hl:=h.blocks
  rcases hc with rfl | rfl
  ·exact k.block _ hl.1 (fun e => hb.1 (Option.some.inj e).symm)
  ·exact k.block _ hl.2.1 (fun e => hb.2 (Option.some.inj e).symm)) k.size
theorem dP {w A B : World} {P b : Nat} (h : w.grownBy A (some P)) (k : A.grownBy B (some b)) (hb : w.heap.size≤b) : w.grownBy B (some P) :=
 ⟨k.os.trans h.os,k.tape.trans h.tape,k.output.trans h.output,Nat.le_trans h.size k.size,fun i hi hne => (k.block i (Nat.lt_of_lt_of_le hi h.size) (fun e => by have:=Option.some.inj e; omega)).trans (h.block i hi hne)⟩
theorem gC (P g cap : Nat) (ts : List Tk) (he : y7 ts) (htk : ∀ t∈ts,z8 t) (nest lv : Nat) (l : List Tk) (K : Nat) (fs : Array Value) (ss : List ByteArray) (sa : Nat) (w : World) (hK : m7 K) (hss : ss.map (·.data.toList)=s9 lv) (hsl : ss.length≤2)
 (h : SQ P g cap ts nest l w) (hsa : sa<w.heap.size∧sa≠P) (hsc : ∀ j (hj : j<ss.length),w.cell? ⟨sa,j,none⟩=some (.string ss[j]))
 (hpart : ∀ r,r.length≤l.length→∀ W,SQ P g cap ts nest r W→Calls Tryz.prog K fs W (QP P g cap ts nest (rd (I6 lv) nest r) W)) :
 Calls Tryz.prog 87 #[.pointer (some ⟨P,0,none⟩),.func (.func K) fs #[],.slice (some ⟨sa,0,none⟩) ss.length ss.length] w (QP P g cap ts nest (rd (.chain lv) nest l) w):=by
 unfold m7 at hK
 have HP:=hid hpart
 have HE:=hid he
 have HTK:=hid htk
 have HSS:=hid hss
 have HSC:=hid hsc
 have HSA:=hid hsa
 have H:=hid h
 obtain ⟨X,hX⟩ : ∃ X,X=rd (.chain lv) nest l:=⟨_,rfl⟩
 rw [← hX]
 rw [a3C] at hX
 have HX:=hid hX
 clear h he htk hpart hss hsc hsa hX
 go_enter Tryz.func87,Tryz.ntmps87
 go_wp2_with fail
 obtain ⟨W1,hW1⟩ : ∃ W,W=w.alloc (.cells #[.int .i64 0,.string ⟨#[]⟩,.int .i64 0,.slice none 0 0,.int .i64 0,.int .i64 0] 50):=⟨_,rfl⟩
 have B1:=hid (show Below w.heap.size w W1 from hW1 ▸ c6 _ _)
 have Z1:=hid (show T6 w.heap.size 0 ⟨#[]⟩ 0 none 0 0 0 0 W1 from hW1 ▸ T6.make w _ _ _ _ _ _ _ _)
 rw [← hW1]
 clear hW1
 refine rZ (fun a' wr => ∃ (tb : Nat) (t : Nd) (a : Option Addr) (cp : Nat) (r : List Tk) (u8 u9 u10 u11 u12 u13 u14 u15 u16 u17 u18 u19 u20 u21 u22 u23 u24 u25 u26 u27 u28 u29 u30 u31 u32 u33 u34 u35 : Value),a'={ tmps:=#[.pointer (some ⟨P,0,none⟩),.func (.func K) fs #[],.slice (some ⟨sa,0,none⟩) ss.length ss.length,undef,undef,undef,.pointer (some ⟨w.heap.size,0,none⟩),.pointer (some ⟨tb,0,none⟩),u8,u9,u10,u11,u12,u13,u14,u15,u16,u17,u18,u19,u20,u21,u22,u23,u24,u25,u26,u27,u28,u29,u30,u31,u32,u33,u34,u35],defers:=[] }∧Hid (a4D P g cap ts nest lv l X w tb t a cp r wr)) (fun _ wr => a5f P wr) rfl ?_ ?_
 ·have C1:=hid (HP.out l (Nat.le_refl _) W1 (H.out.below B1))
  have HRL:=hid (fun t q (h : rd (I6 lv) nest l=.ok (t,q)) => aZ (I6 lv) nest l h)
  generalize rd (I6 lv) nest l=x at HX C1 HRL
  go_wp2_with fail
  (with_reducible refine Calls.mono C1.out ?_)
  intro e w2 hq
  cases x with
  | error q =>
    obtain ⟨k,p⟩:=q
    obtain ⟨rfl,hg⟩:=hq
    refine And.intro rfl ?_
    rw [HX.out]
    exact ⟨rfl,b6 (b8 B1) hg⟩
  | ok q =>
    obtain ⟨t,r⟩:=q
    obtain ⟨a,cp,rfl,hs,hg,hl,hd⟩:=hq
    have HI:=hid (show a4D P g cap ts nest lv l X w w2.heap.size t a cp r (w2.alloc (.cells #[.int .i64 t.kind,.string t.text,.int .i64 t.n,.slice a t.kids.length cp,.int .i64 t.place,.int .i64 (c8 t)] 50)) by
     have b:=c6 w2 (.cells #[.int .i64 t.kind,.string t.text,.int .i64 t.n,.slice a t.kids.length cp,.int .i64 t.place,.int .i64 (c8 t)] 50)
     have z:=Z1.out.lt
     have hbl:=H.out.blocks
     have hsz:=hg.size
     refine ⟨hs.below b,b6 (b6 (b8 B1) hg) (b8 b),T6.make w2 _ _ _ _ _ _ _ _,(Z1.out.grown hg (fun e => by have:=Option.some.inj e; omega)).below b,by omega,hd,HX,HRL.out t r rfl,Fr W1.heap.size w2.heap.size,fun c hc => ⟨by have:=hc.1; omega,by have:=hc.2; simp; omega,by have:=hc.2; omega⟩,d5 hl (fun c hc => b.block c hc.2) fun c hc => hc⟩)
    clear hs hg hl hd C1
    unfold trV
    go_wp2_with fail
    exact ⟨w2.heap.size,t,a,cp,r,_,_,_,_,_,_,_,_,_,_,_,_,_,_,_,_,_,_,_,_,_,_,_,_,_,_,_,_,rfl,HI⟩
 ·rintro a' wo ⟨tb,t,a,cp,r,u8,u9,u10,u11,u12,u13,u14,u15,u16,u17,u18,u19,u20,u21,u22,u23,u24,u25,u26,u27,u28,u29,u30,u31,u32,u33,u34,u35,rfl,HI⟩
  have HBl:=hid H.out.blocks
  clear H HX
  go_wp2_with fail
  go_loopw [15] (fun i wr => ∃ k : Nat,k≤ss.length∧i=.int .i64 k∧Hid (∀ j (hj : j<ss.length),j<k→isT ss[j].data.toList r=false)∧Hid (Below wo.heap.size wo wr)) (fun i _ => (ss.length - (intOf i).toNat))
  case atStart => exact ⟨0,Nat.zero_le _,rfl,fun j hj h => by omega,Below.refl _ _⟩
  case round =>
   obtain ⟨k,hk,rfl,HN,HB⟩:=hrel
   by_cases hlt : k<ss.length
   ·have hga:=HI.out.2.1.size
    have c0 : wr.cell? ⟨sa,k,none⟩=some (.string ss[k]) :=
     (HB.out.cell (p:=⟨sa,k,none⟩) (by show sa<wo.heap.size; have:=HSA.out; omega)).trans ((World.cell?_of_block (HI.out.2.1.block sa HSA.out.1 (fun e => HSA.out.2 (Option.some.inj e)))).trans (HSC.out k hlt))
    have HM:=hid (show ss[k].data.toList∈s9 lv by rw [← HSS.out]; exact List.mem_map.2 ⟨_,List.getElem_mem hlt,rfl⟩)
    have HAll:=hid (show isT ss[k].data.toList r=false→∀ j (hj : j<ss.length),j<k + 1→isT ss[j].data.toList r=false from fun h j hj hjk => by
     by_cases e : j=k
     ·subst e; exact h
     ·exact HN.out j hj (by omega))
    have S1:=hid (HI.out.1.below HB)
    have hs2 : ss.length≤9223372036854775807:=by omega
    generalize ss[k]=s at c0 HM HAll
    have C2:=hid (aO P g cap ts nest r s wr S1)
    generalize hbe : isT s.data.toList r=b at C2 HAll
    have HBE:=hid hbe
    clear hbe HN
    cases b
    ·have HA:=hid (HAll.out rfl)
     clear HAll
     go_wp2_with fail
     (with_reducible refine Calls.mono C2.out ?_)
     rintro e w4 ⟨rfl,hb⟩
     have HB4:=hid (HB.out.trans (hb.mono HB.out.size))
     clear hb C2
     go_wp2_with fail
     go_roundw
     case rel => exact ⟨k + 1,by omega,by go_num,HA,HB4⟩
     case measure => simp [intOf]; omega
    ·clear HAll
     have HXn:=hid (HI.out.2.2.2.2.2.2.1.trans (a4I HM HBE))
     have HLn:=hid (n5 HBE)
     go_wp2_with fail
     (with_reducible refine Calls.mono C2.out ?_)
     rintro e w4 ⟨rfl,hb⟩
     have HB4:=hid (HB.out.trans (hb.mono HB.out.size))
     have S4:=hid (S1.out.below hb)
     have C3:=hid (dG P g cap ts nest r w4 S4 HE)
     have HT0:=hid (HTK.out _ S4.out.mem)
     generalize hd r=T at C3 HXn HT0
     have hfd:=iL T.kind T.n T.pos ⟨T.text.toArray⟩
     clear hb C2
     go_wp2_with fail
     (with_reducible refine Calls.mono C3.out ?_)
     rintro e wi ⟨rfl,hs5,hg5⟩
     have S5:=hid hs5
     have G0:=hid hg5
     have G5:=hid (b6 (b8 HB4) hg5)
     clear hs5 hg5 C3
     unfold tkV
     obtain ⟨W5,hW5⟩ : ∃ W,W=wi.alloc (.cells #[.int .i64 13,.string s,.int .i64 0,.slice none 0 0,.int .i64 T.pos] 24):=⟨_,rfl⟩
     have B5:=hid (show Below wi.heap.size wi W5 from hW5 ▸ c6 _ _)
     have htb:=hid HI.out.2.2.2.2.1
     have TI:=hid ((HI.out.2.2.1.below HB4).grown G0 (fun e => by have:=Option.some.inj e; have:=htb.out; have:=HBl.out; omega))
     have hti:=hid TI.out.lt
     have N5:=hid (show f6 wi.heap.size (.mk 13 s 0 [] T.pos) none 0 W5 from hW5 ▸ f6.make wi (.mk 13 s 0 [] T.pos) none 0)
     have T5:=hid (TI.out.below B5)
     have Z5:=hid (((HI.out.2.2.2.1.below HB4).grown G0 (fun e => by have:=Option.some.inj e; have:=HBl.out; omega)).below B5)
     have BD:=hid (show Below W5.heap.size W5 W5.drew from A7 (Below.refl _ _))
     have C6:=hid (HP.out (b9 r) (by have:=HLn.out; have:=HI.out.2.2.2.2.2.2.2.1; omega) W5.drew ((S5.out.below B5).below BD))
     have HR6:=hid (fun t q (h : rd (I6 lv) nest (b9 r)=.ok (t,q)) => aZ (I6 lv) nest (b9 r) h)
     have GW:=hid (show w.grownBy W5.drew (some P) from b6 (b6 HI.out.2.1 G5) (b8 (B5.out.trans (BD.out.mono B5.out.size))))
     generalize rd (I6 lv) nest (b9 r)=x at C6 HXn HR6
     go_upto_region 7 with fail
     rw [← hW5]
     clear hW5
     refine e8 (S:=(fun cur => (cur.cell? ⟨wi.heap.size,0,none⟩=some (.int .i64 13)∧cur.cell? ⟨wi.heap.size,1,none⟩=some (.string s)∧cur.cell? ⟨wi.heap.size,2,none⟩=some (.int .i64 0)∧cur.cell? ⟨wi.heap.size,3,none⟩=some (.slice none 0 0)∧cur.cell? ⟨wi.heap.size,4,none⟩=some (.int .i64 T.pos))∧(cur.cell? ⟨tb,0,none⟩=some (.int .i64 t.kind)∧cur.cell? ⟨tb,1,none⟩=some (.string t.text)∧cur.cell? ⟨tb,2,none⟩=some (.int .i64 t.n)∧cur.cell? ⟨tb,3,none⟩=some (.slice a t.kids.length cp)∧cur.cell? ⟨tb,4,none⟩=some (.int .i64 t.place)∧cur.cell? ⟨tb,5,none⟩=some (.int .i64 (c8 t))))) (z:=7) (by kernel_rfl) ?_ (fun hHeld => ?_)
     ·exact ⟨N5.out.cells.1,T5.out.cells.1⟩
     refine b7.t 0 ?_; refine b7.t 1 ?_; refine b7.t 2 ?_; refine b7.t 3 ?_
     refine b7.nx 4 fun K hK => ?_
     go_simp
     (with_reducible refine Calls.mono C6.out ?_)
     intro e w6 hq
     cases x with
     | error q =>
       obtain ⟨k0,p0⟩:=q
       obtain ⟨rfl,hg⟩:=hq
       refine And.intro rfl ?_
       rw [HXn.out]
       exact ⟨rfl,b6 GW hg⟩
     | ok q =>
     obtain ⟨m,q⟩:=q
     obtain ⟨a2,cp2,rfl,hs6,hg6,hl6,hd6⟩:=hq
     have S6:=hid hs6
     have G6:=hid (b6 GW hg6)
     have N6:=hid (f6.grown (show f6 wi.heap.size (.mk 13 s 0 [] T.pos) none 0 W5.drew from N5) hg6 (by have:=S5.out.blocks; omega))
     have T6':=hid (T6.grown (show T6 tb t.kind t.text t.n a t.kids.length cp t.place (c8 t) W5.drew from T5) hg6 (fun e => by have:=Option.some.inj e; have:=htb.out; have:=HBl.out; omega))
     have HG6:=hid hg6
     have HL6:=hid hl6
     have HD6:=hid hd6
     clear hs6 hg6 hl6 hd6 C6
     unfold trV
     go_wp2_with fail
     refine hK.out _ _ ?_ (fun hHeld => ?_)
     ·exact ⟨N6.out.cells.1,T6'.out.cells.1⟩
     clear hK K
     try simp only [Act.put,c9,f8,f7]
     refine b7.nx 5 fun K hK => ?_
     go_simp
     obtain ⟨W7,hW7⟩ : ∃ W,W=w6.alloc (.cells #[.int .i64 t.kind,.string t.text,.int .i64 t.n,.slice a t.kids.length cp,.int .i64 t.place,.int .i64 (c8 t),.int .i64 m.kind,.string m.text,.int .i64 m.n,.slice a2 m.kids.length cp2,.int .i64 m.place,.int .i64 (c8 m)] 50):=⟨_,rfl⟩
     have R7:=hid (show mG W7 w6.heap.size 0 [(t,a,cp),(m,a2,cp2)] from hW7 ▸ a6M w6 _ (t,a,cp) (m,a2,cp2))
     have B7:=hid (show Below w6.heap.size w6 W7 from hW7 ▸ c6 _ _)
     have hz7:=hid (show W7.heap.size=w6.heap.size + 1 by rw [hW7]; simp)
     have N7:=hid (N6.out.below B7)
     have T7:=hid (T6'.out.below B7)
     have C7:=hid (show Calls Tryz.prog 54 #[.pointer (some ⟨P,0,none⟩),.agg #[.int .i64 13,.string s,.int .i64 0,.slice none 0 0,.int .i64 T.pos],.slice (some ⟨w6.heap.size,0,none⟩) 2 2] W7 (gI 13 s.data.toList 0 T.pos [(t,a,cp),(m,a2,cp2)] W7) by
      have:=aG P 13 s.data.toList 0 T.pos (some ⟨w6.heap.size,0,none⟩) 2 [(t,a,cp),(m,a2,cp2)] W7 (by show 2≤8; decide) (fun _ => ⟨w6.heap.size,0,rfl,by have:=hz7.out; omega,R7⟩) (fun e he => by
       rcases List.mem_cons.1 he with rfl | he
       ·exact HI.out.2.2.2.2.2.1
       ·obtain rfl:=List.mem_singleton.1 he; exact HD6)
      rw [a1w] at this
      exact this)
     rw [← hW7]
     clear hW7
     refine hK.out _ _ ?_ (fun hHeld => ?_)
     ·exact ⟨N7.out.cells.1,T7.out.cells.1⟩
     clear hK K
     try simp only [Act.put,c9,f8,f7]
     refine b7.nx 6 fun K hK => ?_
     go_simp
     (with_reducible refine Calls.mono C7.out ?_)
     intro e w8 hm
     have HMR:=hid (show jB (made (mkN 13 s.data.toList 0 [t,m] T.pos) q) (fun c => w.heap.size<c∧c<W7.heap.size∧c≠tb) W7 e w8 from by
      have hsz6:=HG6.out.size
      have hszo:=HB4.out.size
      have hszi:=G0.out.size
      have hsz5:=B5.out.size
      have hh:=hz7.out
      have hPw:=HBl.out
      have hsd : W5.drew.heap.size=W5.heap.size:=rfl
      have hti':=hti.out
      have htb':=htb.out
      refine hm.use rfl ?_ rfl HT0.out.2.1 (fun c hc => hc.2.1) (fun e he => ?_) q
      ·have:=a6g lv _ HM.out; omega
      ·rcases List.mem_cons.1 he with rfl | he
       ·obtain ⟨av,hav,hl⟩:=HI.out.2.2.2.2.2.2.2.2
        refine d5 hl (fun c hc => ?_) fun c hc => ⟨(hav c hc).1,by have:=(hav c hc).2.1; omega,(hav c hc).2.2⟩
        have h1:=hav c hc
        refine (B7.out.block c (by omega)).trans ((HG6.out.block c (by omega) (fun e => by have:=Option.some.inj e; omega)).trans ?_)
        exact (B5.out.block c (by omega)).trans ((G0.out.block c (by omega) (fun e => by have:=Option.some.inj e; omega)).trans (HB4.out.block c h1.2.1))
       ·obtain rfl:=List.mem_singleton.1 he
        exact d5 HL6 (fun c hc => B7.out.block c hc.2) fun c hc => ⟨by have:=hc.1; omega,by have:=hc.2; omega,by have:=hc.1; omega⟩)
     clear hm C7
     obtain ⟨hb8,hm⟩:=HMR.out
     have B8:=hid hb8
     have HXm:=hid (show X=(made (mkN 13 s.data.toList 0 [t,m] T.pos) q).then fun t q => rd (.loop lv t) nest q from HXn)
     cases hmd : made (mkN 13 s.data.toList 0 [t,m] T.pos) q with
     | error z =>
       obtain ⟨k0,p0⟩:=z
       rw [hmd] at hm
       obtain rfl:=hm
       refine And.intro rfl ?_
       rw [HXm.out,hmd]
       exact ⟨rfl,b6 G6 (b8 (B7.out.trans (B8.out.mono B7.out.size)))⟩
     | ok z =>
     obtain ⟨t2,q2⟩:=z
     have hq2 : q2=q:=by
      unfold made at hmd
      split at hmd
      ·cases hmd
      ·cases hmd; rfl
     subst hq2
     rw [hmd] at hm
     obtain ⟨a3,cp3,rfl,hl3,hd3⟩:=hm
     have HMD:=hid hmd
     have HL3:=hid hl3
     have HD3:=hid hd3
     have N8:=hid (N7.out.below B8)
     have T8:=hid (T7.out.below B8)
     clear hmd hl3 hd3 hb8
     unfold trV
     go_wp2_with fail
     refine hK.out _ _ ?_ (fun hHeld => ?_)
     ·exact ⟨N8.out.cells.1,T8.out.cells.1⟩
     clear hK K
     try simp only [Act.put,c9,f8,f7]
     obtain ⟨⟨x0,x1,x2,x3,x4,x5⟩,⟨f0,f1,f2,f3,f4,f5⟩⟩:=T8.out.cells
     have hx8:=T8.out.lt
     refine b7.la fun K hK => ?_
     go_simp
     refine hK.out _ _ ?_
     clear hK K
     go_wp2_with fail
     go_step3
     have hPw:=HBl.out
     have htb':=htb.out
     have hG8 : w6.grownBy w8 (some P):=b8 (B7.out.trans (B8.out.mono B7.out.size))
     have hput:=jK (b:=tb) w8 t2.kind t2.text t2.n a3 t2.kids.length cp3 t2.place (c8 t2)
     have hZ8 : T6 w.heap.size 0 ⟨#[]⟩ 0 none 0 0 0 0 w8:=((T6.grown (show T6 w.heap.size 0 ⟨#[]⟩ 0 none 0 0 0 0 W5.drew from Z5) HG6 (fun e => by have:=Option.some.inj e; omega)).below B7).below B8
     have hS9:=a3M ((S6.out.below B7).below B8) hput (by omega)
     have hlq : q2.length<r.length:=by have:=HR6.out m q2 rfl; have:=HLn.out; omega
     refine And.intro rfl (And.intro ⟨tb,t2,a3,cp3,q2,_,_,_,_,_,_,_,_,_,_,_,_,_,_,_,_,_,_,_,_,_,_,_,_,_,_,_,_,rfl,hS9,dP (b6 G6 hG8) hput (by omega),T8.out.put _ _ _ _ _ _ _ _,(hput.block _ hZ8.lt (fun e => by have:=Option.some.inj e; omega)).trans hZ8,htb',HD3,?_,by have:=HI.out.2.2.2.2.2.2.2.1; omega,_,fun c hc => ?_,d5 HL3 (fun c hc => hput.block c ?_ fun e => ?_) fun c hc => hc⟩ ?_)
     ·rw [HXm.out,HMD.out]; rfl
     ·have:=T7.out.lt
      have:=B8.out.size
      have:=hput.size
      rcases hc with hc | hc
      ·exact ⟨hc.1,Nat.lt_of_lt_of_le (by have:=hc.2.1; omega) hput.size,hc.2.2⟩
      ·exact ⟨by have:=hc.1; omega,Nat.lt_of_lt_of_le hc.2 hput.size,by have:=hc.1; omega⟩
     ·have:=B8.out.size
      rcases hc with hc | hc
      ·omega
      ·exact hc.2
     ·have:=T7.out.lt
      have:=Option.some.inj e
      rcases hc with hc | hc
      ·exact hc.2.2 this
      ·have:=hc.1; omega
     ·show a5f P _<a5f P wo
      rw [HI.out.1.len]
      exact Nat.lt_of_le_of_lt (Nat.le_of_eq hS9.len) hlq
   ·have HA:=hid (show U6 (s9 lv) r=false by
     rw [← HSS.out]
     unfold U6
     rw [List.any_eq_false]
     intro x hx
     obtain ⟨y,hy,rfl⟩:=List.mem_map.1 hx
     obtain ⟨j,hj,rfl⟩:=List.getElem_of_mem hy
     rw [HN.out j hj (by omega)]
     decide)
    have HXn:=hid (HI.out.2.2.2.2.2.2.1.trans (a5V HA))
    have TR:=hid (HI.out.2.2.1.below HB)
    have ZR:=hid (HI.out.2.2.2.1.below HB)
    obtain ⟨⟨x0,x1,x2,x3,x4,x5⟩,-⟩:=TR.out.cells
    obtain ⟨⟨z0,z1,z2,z3,z4,z5⟩,⟨f0,f1,f2,f3,f4,f5⟩⟩:=ZR.out.cells
    have hxl:=TR.out.lt
    have hzl:=ZR.out.lt
    go_wp2_with fail
    refine bodyPost_ret (v:=trV t a cp) (by simp [results,Tryz.results87,go_sem,trV,z0,z1,z2,z3,z4,z5]) rfl ?_
    rw [HXn.out]
    obtain ⟨av,hav,hl⟩:=HI.out.2.2.2.2.2.2.2.2
    have hPw:=HBl.out
    have hsz:=HB.out.size
    exact QP.fin (av:=av) (HI.out.1.below HB) (b6 HI.out.2.1 (b8 HB)) (Nat.le_refl _) (by omega) (d5 hl (fun c hc => HB.out.block c (hav c hc).2.1) fun c hc => hc) (fun c hc => ⟨by have:=(hav c hc).1; omega,by have:=(hav c hc).2.1; omega,by have:=(hav c hc).1; omega⟩) HI.out.2.2.2.2.2.1
end
end Go.Proofs.YtibiccacafjjfaaGreatDoor
