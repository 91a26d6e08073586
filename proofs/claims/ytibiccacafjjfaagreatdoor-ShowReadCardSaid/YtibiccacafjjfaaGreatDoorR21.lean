/-
  Laws that the proof rests on.
-/
import Derived.Test.YtibiccacafjjfaaGreatDoorR20
import Derived.Test.YtibiccacafjjfaaGreatDoorR06
import Derived.Test.YtibiccacafjjfaaGreatDoorR14
import Derived.Test.YtibiccacafjjfaaGreatDoorR07
import Derived.Test.YtibiccacafjjfaaGreatDoorR03
import Derived.Test.YtibiccacafjjfaaGreatDoorR13
import Derived.Test.YtibiccacafjjfaaGreatDoorR10
import Derived.Test.YtibiccacafjjfaaGreatDoorR04
import Derived.Laws.RangeString
import Derived.Lib.OthersKept
namespace Go.Proofs.YtibiccacafjjfaaGreatDoor
set_option maxRecDepth 100000
set_option maxHeartbeats 16000000
section
open Go.RowKit
structure TkG (t : Tk) : Prop where
 n : -1000000000000000≤t.n∧t.n≤1000000000000000
 len : t.text.length≤49
 z : TkZ t
theorem cO {k n p : Int} {s : List UInt8} (h8 : k≠8) (h2 : k≠2) (h4 : k=4→n=0) (hn : -1000000000000000≤n∧n≤1000000000000000) (hs : s.length≤49) : TkG ⟨k,s,n,p⟩ :=
 ⟨hn,hs,⟨fun h => by rcases h with h | h; exact h4 h; exact absurd h h2,fun h => absurd h h8,fun h => absurd h h2⟩⟩
theorem zA {s : List UInt8} {p : Int} (hs : s.length≤2) : TkG ⟨8,s,0,p⟩ :=
 ⟨⟨by show (-1000000000000000 : Int)≤0; decide,by show (0 : Int)≤1000000000000000; decide⟩,by show s.length≤49; omega,⟨fun _ => rfl,fun _ => ⟨fun e => by (have : s=bO:=e); subst this; exact absurd hs (by decide),fun e => by (have : s=X4:=e); subst this; exact absurd hs (by decide),fun e => by (have : s=cE:=e); subst this; exact absurd hs (by decide),fun e => by (have : s=cD:=e); subst this; exact absurd hs (by decide)⟩,fun h => absurd h (by show ¬ (8 : Int)=2; decide)⟩⟩
theorem a2A (c : UInt8) (h : smC c=true) : c≠40:=by
 rintro rfl; exact absurd h (by decide)
theorem a1p {c : UInt8} {r : List UInt8} {pos : Int} {t : Tk} {n : Nat} (hc : smC c=true) (h : Y5 (c :: r) pos=.ok (t,n)) : TkG t∧t.pos=pos:=by
 unfold Y5 at h
 simp only at h
 have h1 : 1≤m5 (c :: r):=by show 1≤(if smC c=true then 1 + (r.takeWhile inC).length else 0); rw [if_pos hc]; omega
 obtain ⟨m,hm⟩ : ∃ m,m5 (c :: r)=m + 1:=⟨m5 (c :: r) - 1,by omega⟩
 split at h
 ·split at h
  ·cases h
  ·rename_i hq
   cases h
   refine ⟨cO (by decide) (by decide) (fun e => rfl) (by decide) ?_,rfl⟩
   rw [List.length_append,List.length_cons]
   have a1:=List.length_take_le (m5 (c :: r)) (c :: r)
   have a2:=List.length_take_le (m5 ((c :: r).drop (m5 (c :: r) + 1))) ((c :: r).drop (m5 (c :: r) + 1))
   omega
 ·split at h
  ·cases h
  ·rename_i hq
   cases h
   have hl : ((c :: r).take (m5 (c :: r))).length≤49:=by
    have a1:=List.length_take_le (m5 (c :: r)) (c :: r)
    omega
   split
   ·refine ⟨⟨by show (-1000000000000000 : Int)≤0∧(0 : Int)≤1000000000000000; decide,hl,⟨fun _ => rfl,fun e => absurd e (by show ¬ (2 : Int)=8; decide),fun _ e => ?_⟩⟩,rfl⟩
    replace e : (c :: r).take (m5 (c :: r))=[40]:=e
    rw [hm,List.take_succ_cons] at e
    exact a2A c hc (List.cons.inj e).1
   ·exact ⟨cO (by decide) (by decide) (fun e => rfl) (by decide) hl,rfl⟩
theorem xJ {l : List UInt8} {v : Int} (h : V4 l=some v) : 0≤v:=by
 unfold V4 at h
 simp only at h
 split at h
 ·rename_i hq
  cases h
  obtain ⟨h1,h2,h3,h4⟩:=hq
  have hw : (l.takeWhile dgC).all dgC=true:=List.all_takeWhile
  have ht : (l.drop (l.takeWhile dgC).length).tail.all dgC=true:=by
   cases hd : l.drop (l.takeWhile dgC).length with
   | nil => rfl
   | cons c p =>
     rw [hd] at h4
     unfold aD at h4
     simp only [Bool.and_eq_true] at h4
     exact h4.2.2
  refine (gK (n:=(l.takeWhile dgC ++ (l.drop (l.takeWhile dgC).length).tail ++ List.replicate (6 - (l.drop (l.takeWhile dgC).length).tail.length) 48).length) ?_ (Nat.le_refl _)).1
  rw [List.all_append,List.all_append,hw,ht,List.all_eq_true.2 fun x hx => by rw [List.eq_of_mem_replicate hx]; rfl]
  rfl
 ·cases h
theorem a6I {l : List UInt8} {v : Int} (h : fM l=some v) : -1000000000000000≤v∧v≤1000000000000000:=by
 unfold fM at h
 split at h
 ·split at h
  ·rename_i n hn
   have:=xJ hn
   split at h
   ·cases h
   ·cases h; omega
  ·cases h
 ·split at h
  ·rename_i n hn
   have:=xJ hn
   split at h
   ·cases h
   ·cases h; omega
  ·cases h
theorem a55 {l : List UInt8} {v : Int} (h : nR l=some v) : 0≤v∧v≤73048:=by
 unfold nR at h
 split at h
 ·rename_i hq
  cases h
  exact Cal.num_bd hq.2.2
 ·cases h
theorem a4V {c : UInt8} {r : List UInt8} {pos : Int} {t : Tk} {n : Nat} (h : aB c r pos=.ok (t,n)) : TkG t∧t.pos=pos:=by
 unfold aB at h
 split at h
 ·rename_i hs; exact a1p hs h
 split at h
 ·unfold aP at h
  split at h
  ·split at h
   ·cases h
   ·rename_i v hv
    have:=a55 hv
    split at h
    ·cases h; exact ⟨cO (by decide) (by decide) (fun e => by cases e) (by omega) (by decide),rfl⟩
    ·cases h
  ·split at h
   ·cases h
   ·rename_i v hv
    have:=a6I hv
    split at h
    ·cases h; exact ⟨cO (by decide) (by decide) (fun e => by cases e) (by omega) (by decide),rfl⟩
    ·cases h
 split at h
 ·unfold Y1 at h
  split at h
  ·cases h
  ·split at h
   ·rename_i hn
    cases h
    obtain ⟨c,r,-,-,-,hl⟩:=gD hn
    exact ⟨cO (by decide) (by decide) (fun e => by cases e) (by decide) (by omega),rfl⟩
   ·cases h
 split at h
 ·unfold yF at h
  split at h
  ·cases h
   refine ⟨cO (by decide) (by decide) (fun e => rfl) (by decide) ?_,rfl⟩
   have:=List.length_take_le 3 (c :: r)
   omega
  ·cases h
 ·unfold iA at h
  split at h
  ·cases h; exact ⟨zA (by decide),rfl⟩
  ·split at h
   ·cases h; exact ⟨zA (by show [c].length≤2; simp),rfl⟩
   ·cases h
theorem y6.cons {t : Tk} {ts : List Tk} (h : y6 ts) (hne : ts≠[]) : y6 (t :: ts):=by
 intro j hj hk
 have hp:=List.length_pos_iff.2 hne
 cases j with
 | zero => rw [List.length_cons]; omega
 | succ j =>
   have:=h j (by rw [List.length_cons] at hj; omega) hk
   rw [List.length_cons]; omega
theorem iS : ∀ (l : List UInt8) (pos : Int) (k s : Nat) (ts : List Tk),r9 l pos k s=.ok ts→(∀ t∈ts,TkG t∧pos≤t.pos∧t.pos≤pos + l.length)∧y6 ts∧ts≠[]
 | [],pos,k,_,ts,h => by
   unfold r9 at h
   cases h
   refine ⟨fun t ht => ?_,fun j hj hk => ?_,by simp⟩
   ·obtain rfl:=List.mem_singleton.1 ht
    exact ⟨cO (by decide) (by decide) (fun e => rfl) (by decide) (by decide),Int.le_refl _,by simp⟩
   ·have : j=0:=by simp at hj; omega
    subst this; exact absurd (show (0 : Int)=0 from rfl) hk
 | c :: r,pos,k,s + 1,ts,h => by
   unfold r9 at h
   obtain ⟨h1,h2,h3⟩:=iS r (pos + 1) k s ts h
   refine ⟨fun t ht => ?_,h2,h3⟩
   obtain ⟨a,b,d⟩:=h1 t ht
   exact ⟨a,by omega,by rw [List.length_cons]; omega⟩
 | c :: r,pos,k,0,ts,h => by
   have go : ∀ s,r9 r (pos + 1) k s=.ok ts→(∀ t∈ts,TkG t∧pos≤t.pos∧t.pos≤pos + (c :: r).length)∧y6 ts∧ts≠[]:=fun s hs => by
    obtain ⟨h1,h2,h3⟩:=iS r (pos + 1) k s ts hs
    refine ⟨fun t ht => ?_,h2,h3⟩
    obtain ⟨a,b,d⟩:=h1 t ht
    exact ⟨a,by omega,by rw [List.length_cons]; omega⟩
   unfold r9 at h
   split at h
   ·exact go 0 h
   split at h
   ·exact go _ h
   split at h
   ·cases h
   ·rename_i t n ht
    split at h
    ·cases h
    ·rename_i hk
     split at h
     ·cases h
     ·rename_i us hus
      cases h
      obtain ⟨h1,h2,h3⟩:=iS r (pos + 1) (k + 1) _ us hus
      refine ⟨fun u hu => ?_,h2.cons h3,by simp⟩
      rcases List.mem_cons.1 hu with rfl | hu
      ·obtain ⟨a,b⟩:=a4V ht
       exact ⟨a,by omega,by rw [List.length_cons]; omega⟩
      ·obtain ⟨a,b,d⟩:=h1 u hu
       exact ⟨a,by omega,by rw [List.length_cons]; omega⟩
theorem pR {l : List UInt8} {ts : List Tk} (h : p5 l=.ok ts) : (∀ t∈ts,z7 t)∧(∀ t∈ts,TkZ t)∧y6 ts∧ts≠[]:=by
 unfold p5 at h
 split at h
 ·cases h
 ·rename_i hl
  obtain ⟨h1,h2,h3⟩:=iS l 0 0 0 ts h
  refine ⟨fun t ht => ?_,fun t ht => (h1 t ht).1.z,h2,h3⟩
  obtain ⟨⟨hn,hs,-⟩,hp,hq⟩:=h1 t ht
  exact ⟨WalkArith.wf_i64 (by omega),WalkArith.wf_i64 (by omega),by omega⟩
end
section
open Go.RowKit
structure AllC (P g cap : Nat) (ts l : List Tk) : Prop where
 e : CE P g cap ts l
 c : ∀ lv,lv≤3→CC P g cap ts lv l
 n : CN P g cap ts l
 u : CU P g cap ts l
theorem zL (P g cap : Nat) (ts : List Tk) (he : y6 ts) (htk : ∀ t∈ts,z7 t) (htz : ∀ t∈ts,TkZ t) : ∀ (N : Nat) (l : List Tk),l.length<N→AllC P g cap ts l
 | 0,l,h => absurd h (Nat.not_lt_zero _)
 | N + 1,l,h => by
   have ih : ∀ r,r.length<l.length→AllC P g cap ts r:=fun r hr => zL P g cap ts he htk htz N r (by omega)
   have q : ∀ lv r,lv≤3→AllC P g cap ts r→CL P g cap ts lv r:=fun lv r hlv a => eB P g cap ts lv hlv r (fun _ => a.c 1 (by decide)) (fun _ => a.n) (fun _ => a.c 3 (by decide)) (fun _ => a.u)
   have hA:=a2k P g cap ts he htk htz l fun r hr => (ih r hr).e
   have hU:=a00 P g cap ts he htk l hA fun ht => (ih _ (by have:=n5 ht; omega)).u
   have hL3:=eB P g cap ts 3 (by decide) l (fun h => absurd h (by decide)) (fun h => absurd h (by decide)) (fun h => absurd h (by decide)) (fun _ => hU)
   have hC3:=fZ P g cap ts he htk 3 (by decide) l hL3 fun r hr => q 3 r (by decide) (ih r hr)
   have hL2:=eB P g cap ts 2 (by decide) l (fun h => absurd h (by decide)) (fun h => absurd h (by decide)) (fun _ => hC3) (fun h => absurd h (by decide))
   have hC2:=fZ P g cap ts he htk 2 (by decide) l hL2 fun r hr => q 2 r (by decide) (ih r hr)
   have hN:=a3X P g cap ts he htk l hC2 (fun r hr => (ih r hr).c 2 (by decide)) fun ht => (ih _ (by have:=n5 ht; omega)).n
   have hL1:=eB P g cap ts 1 (by decide) l (fun h => absurd h (by decide)) (fun _ => hN) (fun h => absurd h (by decide)) (fun h => absurd h (by decide))
   have hC1:=fZ P g cap ts he htk 1 (by decide) l hL1 fun r hr => q 1 r (by decide) (ih r hr)
   have hL0:=eB P g cap ts 0 (by decide) l (fun _ => hC1) (fun h => absurd h (by decide)) (fun h => absurd h (by decide)) (fun h => absurd h (by decide))
   have hC0:=fZ P g cap ts he htk 0 (by decide) l hL0 fun r hr => q 0 r (by decide) (ih r hr)
   exact ⟨a2l P g cap ts he htk l hC0 fun r hr => (ih r hr).e,fun lv hlv => by
    have hc : lv=0∨lv=1∨lv=2∨lv=3:=by omega
    rcases hc with rfl | rfl | rfl | rfl
    ·exact hC0
    ·exact hC1
    ·exact hC2
    ·exact hC3,hN,hU⟩
theorem a2o (P g cap : Nat) (ts : List Tk) (he : y6 ts) (htk : ∀ t∈ts,z7 t) (htz : ∀ t∈ts,TkZ t) (l : List Tk) : CE P g cap ts l:=(zL P g cap ts he htk htz _ l (Nat.lt_succ_self _)).e
def wT (x : Rd) : Except (Int × Int) Nd:=match x with
 | .error e => .error e
 | .ok (t,r) => if (hd r).kind=0 then .ok t else .error (74,(hd r).pos)
def gW (l : List UInt8) : Except (Int × Int) Nd:=match p5 l with
 | .error e => .error e
 | .ok ts => wT (rd .expr 0 ts)
def sM (x : Except (Int × Int) Nd) (w : World) (e : Ending) (w' : World) : Prop :=
 ∃ (t : Nd) (a : Option Addr) (cp : Nat) (f k : Int),e=.returned (.tuple #[t.val a cp,.int .i64 f,.int .i64 k])∧Below w.heap.size w w'∧match x with
  | .ok u => u=t∧f=0∧k=0∧t.lies (Fr w.heap.size w'.heap.size) w' a cp∧c8 t≤100
  | .error (c,p) => k=c∧f=p∧c≠0
end
section
open Lib (hid)
open Go.RowKit
theorem O0 {w W : World} {P : Nat} (h : w.grownBy W (some P)) (hP : w.heap.size≤P) : Below w.heap.size w W:=⟨h.os,h.tape,h.output,h.size,fun k hk => h.block k hk (fun e => by have:=Option.some.inj e; omega)⟩
theorem SP.make {g cap : Nat} {ts : List Tk} {base : Nat} {w : World} {T : TypeId} (h : w.ownsRow base T 4 (.slice (some ⟨g,0,none⟩) ts.length cap) ts.length (l8 ts)) (hne : ts≠[]) :
 SP w.heap.size g cap ts 0 (.ok ts) (w.alloc (.cells #[.slice (some ⟨g,0,none⟩) ts.length cap,.int .i64 0,.int .i64 0,.int .i64 0,.int .i64 0] 95)):=by
 have hg:=h.lt g rfl
 have hb:=c6 w (.cells #[.slice (some ⟨g,0,none⟩) ts.length cap,.int .i64 0,.int .i64 0,.int .i64 0,.int .i64 0] 95)
 refine ⟨0,0,0,0,⟨by show (w.heap.push _)[w.heap.size]?=_; simp,(wB.of_row h).below hb hg.2,by omega,Nat.lt_of_lt_of_le hg.2 hb.size,?_,?_,List.length_pos_iff.2 hne⟩,rfl,rfl,rfl,rfl⟩
 ·rcases h.2 with ⟨e,-⟩ | ⟨g',cap2,cur,e,-,-,h1,-⟩
  ·cases e
  ·cases e; exact h1
 ·rcases h.2 with ⟨e,-⟩ | ⟨g',cap2,cur,e,-,-,-,h1,-⟩
  ·cases e
  ·cases e; exact h1
theorem a4X {c p : Int} {x : Except (Int × Int) Nd} {w W : World} {P : Nat} (hx : x=.error (c,p)) (hc : c≠0) (h : w.grownBy W (some P)) (hP : w.heap.size≤P) : sM x w (.returned (.tuple #[nd0.val none 0,.int .i64 p,.int .i64 c])) (Y2 W w.heap.size nd0 none 0):=by
 subst hx
 exact ⟨nd0,none,0,p,c,rfl,O0 (s8 h (Nat.le_refl _) nd0 none 0) hP,rfl,rfl,hc⟩
theorem uS {c p : Int} {x : Except (Int × Int) Nd} {w W : World} {P : Nat} (hx : x=.error (c,p)) (hc : c≠0) (h : w.grownBy W (some P)) (hP : w.heap.size≤P) : sM x w (.returned (.tuple #[nd0.val none 0,.int .i64 p,.int .i64 c])) (Y2 W w.heap.size nd0 none 0).drew:=by
 subst hx
 exact ⟨nd0,none,0,p,c,rfl,z8 (O0 (s8 h (Nat.le_refl _) nd0 none 0) hP),rfl,rfl,hc⟩
theorem a61 {w W : World} {r : Option Nat} (h : w.grownBy W r) : w.grownBy W.drew r:=⟨h.os,h.tape,h.output,h.size,h.block⟩
theorem a56 (k n p : Int) (s : ByteArray) (w : World) : (Instr.field 67 (.agg #[.int .i64 k,.string s,.int .i64 n,.int .i64 p]) 0).run Tryz.prog w=.ok (.int .i64 k) w:=by kernel_rfl
theorem a3F {u t : Nd} {a : Option Addr} {cp b lo : Nat} {W4 W5 W6 : World} (h : u=t∧t.lies (Fr W4.heap.size W5.heap.size) W5 a cp∧c8 t≤100) (hW : W6=Y2 W5 b t a cp) (h0 : lo≤W4.heap.size) (hb : b<W4.heap.size) :
 u=t∧t.lies (Fr lo W6.heap.size) W6 a cp∧c8 t≤100:=by
 refine ⟨h.1,d5 h.2.1 (hW ▸ (j7.refl _ _).put (fun k hk e => by have:=hk.1; omega) t a cp) fun k hk => ⟨Nat.le_trans h0 hk.1,?_⟩,h.2.2⟩
 rw [hW,Q9]
 exact hk.2
theorem a6Q {u t : Nd} {a : Option Addr} {cp : Nat} {x : Except (Int × Int) Nd} {w W6 W7 : World} {P : Nat} (hx : x=.ok u) (hl : u=t∧t.lies (Fr (w.heap.size + 1) W6.heap.size) W6 a cp∧c8 t≤100) (hb : Below W6.heap.size W6 W7) (hg : w.grownBy W6 (some P)) (hP : w.heap.size≤P) :
 sM x w (.returned (.tuple #[t.val a cp,.int .i64 0,.int .i64 0])) (Y2 W7 w.heap.size t a cp):=by
 subst hx
 refine ⟨t,a,cp,0,0,rfl,O0 (s8 (d8 hg (hb.mono hg.size)) (Nat.le_refl _) t a cp) hP,hl.1,rfl,rfl,?_,hl.2.2⟩
 refine d5 hl.2.1 (((show j7 _ W6 W7 from fun k hk => hb.block k hk.2)).put (fun k hk e => by have:=hk.1; omega) t a cp) fun k hk => ⟨by have:=hk.1; omega,?_⟩
 rw [Q9]
 exact Nat.lt_of_lt_of_le hk.2 hb.size
theorem a3O {t : Nd} {a : Option Addr} {cp : Nat} {f k : Int} {x : Except (Int × Int) Nd} {w W1 W2 : World} (hx : match x with
 | .ok u => u=t∧f=0∧k=0∧t.lies (Fr W1.heap.size W2.heap.size) W2 a cp∧c8 t≤100
 | .error (c,p) => k=c∧f=p∧c≠0) (hb : Below w.heap.size w W2) (hlt : w.heap.size < W1.heap.size) :
 sM x w (.returned (.tuple #[t.val a cp,.int .i64 f,.int .i64 k])) (Y2 W2 w.heap.size t a cp):=by
 refine ⟨t,a,cp,f,k,rfl,O0 (P:=w.heap.size) (s8 (b8 hb) (Nat.le_refl _) t a cp) (Nat.le_refl _),?_⟩
 match x,hx with
 | .ok u,hx =>
   refine ⟨hx.1,hx.2.1,hx.2.2.1,d5 hx.2.2.2.1 ((j7.refl _ _).put (fun k hk e => by have:=hk.1; omega) t a cp) fun k hk => ⟨by have:=hk.1; omega,?_⟩,hx.2.2.2.2⟩
   rw [Q9]
   exact hk.2
 | .error (c,p),hx => exact hx
theorem a2G (s : ByteArray) (w : World) (hs : s.size≤maxLen) :
 Calls Tryz.prog 38 #[.string s,.bool false] w (sM (gW s.data.toList) w):=by
 obtain ⟨W1,hW1⟩ : ∃ W,W=w.alloc (.cells #[.int .i64 0,.string ⟨#[]⟩,.int .i64 0,.slice none 0 0,.int .i64 0] 24):=⟨_,rfl⟩
 have B1:=hid (show f6 w.heap.size nd0 none 0 W1 from hW1 ▸ f6.make w nd0 none 0)
 have E1:=hid (show Below w.heap.size w W1 from hW1 ▸ c6 _ _)
 obtain ⟨X,hX⟩ : ∃ X,X=gW s.data.toList:=⟨_,rfl⟩
 rw [← hX]
 have C1:=hid (tT s W1 hs)
 unfold gW at hX
 generalize hsc : p5 s.data.toList=x at C1 hX
 have HX:=hid hX
 have HSC:=hid hsc
 clear hX hsc hs
 go_enter Tryz.func38,Tryz.ntmps38
 go_wp2_with fail
 rw [← hW1]
 clear hW1
 (with_reducible refine Calls.mono C1.out ?_)
 intro e W2 hsp
 obtain ⟨hb,hsp⟩:=hsp
 have B2:=hid (B1.out.below hb)
 have G2:=hid (b8 (r:=some w.heap.size) (E1.out.trans (hb.mono E1.out.size)))
 have HB2:=hid hb
 clear hb C1
 cases x with
 | error q =>
   obtain ⟨c,p⟩:=q
   obtain ⟨hc,rfl⟩:=hsp
   have ek : (c != 0)=true:=bne_iff_ne.2 hc
   have HC:=hid hc
   have HX':=hid (show X=.error (c,p) from HX)
   obtain ⟨⟨z0,z1,z2,z3,z4⟩,⟨f0,f1,f2,f3,f4⟩⟩:=B2.out.cells
   have hsz : w.heap.size<W2.heap.size:=B2.out.lt
   clear hc HX
   go_wp2_with fail
   refine bodyPost_ret (v:=.tuple #[nd0.val none 0,.int .i64 p,.int .i64 c]) (by simp [results,Tryz.results38,go_sem,Nd.val,nd0,Nd.kind,Nd.text,Nd.n,Nd.kids,Nd.place,z0,z1,z2,z3,z4]) rfl ?_
   exact a4X HX' HC G2 (Nat.le_refl _)
 | ok ts =>
   obtain ⟨g,cap,rfl,how⟩:=hsp
   obtain ⟨htk,htz,he,hne⟩:=pR HSC
   have HTK:=hid htk
   have HTZ:=hid htz
   have HEn:=hid he
   have P3':=hid (SP.make how hne)
   have hgw:=hid (show w.heap.size<W2.heap.size∧W1.heap.size≤g∧g<W2.heap.size from ⟨B2.out.lt,(how.lt g rfl).1,(how.lt g rfl).2⟩)
   have HW1:=hid (show w.heap.size<W1.heap.size from B1.out.lt)
   clear htk htz he hne how
   obtain ⟨W3,hW3⟩ : ∃ W,W=W2.alloc (.cells #[.slice (some ⟨g,0,none⟩) ts.length cap,.int .i64 0,.int .i64 0,.int .i64 0,.int .i64 0] 95):=⟨_,rfl⟩
   have P3:=hid (show SP W2.heap.size g cap ts 0 (.ok ts) W3 from hW3 ▸ P3'.out)
   have E3:=hid (show Below W2.heap.size W2 W3 from hW3 ▸ c6 _ _)
   have hs3 : W3.heap.size=W2.heap.size + 1:=by rw [hW3]; simp
   obtain ⟨W4,hW4⟩ : ∃ W,W=W3.alloc (.cells #[.int .i64 0,.string ⟨#[]⟩,.int .i64 0,.slice none 0 0,.int .i64 0] 24):=⟨_,rfl⟩
   have N4:=hid (show f6 W3.heap.size nd0 none 0 W4 from hW4 ▸ f6.make W3 nd0 none 0)
   have E4:=hid (show Below W3.heap.size W3 W4 from hW4 ▸ c6 _ _)
   have P4:=hid (P3.out.below E4)
   have B4:=hid ((B2.out.below E3).below E4)
   have G4:=hid (show w.grownBy W4 (some W2.heap.size) from b8 ((E1.out.trans (HB2.out.mono E1.out.size)).trans ((E3.out.trans (E4.out.mono E3.out.size)).mono (Nat.le_of_lt hgw.out.1))))
   have hne4:=hid (show (w.heap.size≠W2.heap.size∧w.heap.size≠g)∧(W3.heap.size≠W2.heap.size∧W3.heap.size≠g)∧w.heap.size≠W3.heap.size∧W2.heap.size≠g by have:=hgw.out; have:=HW1.out; omega)
   have C5:=hid (a2o W2.heap.size g cap ts HEn HTK HTZ ts 0 W4 (by decide) P4)
   have HXe:=hid (show X=wT (rd .expr 0 ts) from HX)
   generalize rd .expr 0 ts=y at C5 HXe
   clear HX P3'
   have HS3:=hid hs3
   go_upto_region 5 with fail
   rw [← hW3]
   clear hW3 hs3
   go_upto_region 6 with fail
   rw [← hW4]
   clear hW4
   go_wp2_with fail
   (with_reducible refine Calls.mono C5.out ?_)
   rintro e W5 ⟨t,a,cp,rfl,hs,hg,hk⟩
   have HK:=hid hk
   have P5:=hid hs
   have G5:=hid (b6 G4 hg)
   have B5:=hid (B4.out.grown hg hne4.out.1.1)
   have N5:=hid (N4.out.grown hg hne4.out.2.1.1)
   have HS5:=hid (show W4.heap.size≤W5.heap.size from hg.size)
   clear hs hg hk C5
   obtain ⟨W6,hW6⟩ : ∃ W,W=Y2 W5 W3.heap.size t a cp:=⟨_,rfl⟩
   have P6:=hid (show SP W2.heap.size g cap ts 0 (p6 y) W6 from hW6 ▸ P5.out.put hne4.out.2.1.1 hne4.out.2.1.2 t a cp)
   have B6:=hid (show f6 w.heap.size nd0 none 0 W6 from hW6 ▸ B5.out.oput hne4.out.2.2.1 t a cp)
   have N6:=hid (show f6 W3.heap.size t a cp W6 from hW6 ▸ N5.out.put t a cp)
   have G6:=hid (show w.grownBy W6 (some W2.heap.size) from hW6 ▸ s8 G5 (by have:=hgw.out; have:=HS3.out; omega) t a cp)
   obtain ⟨⟨n0,n1,n2,n3,n4⟩,⟨e0,e1,e2,e3,e4⟩⟩:=N5.out.cells
   have hl5 : W3.heap.size<W5.heap.size:=N5.out.lt
   have hW6':=hW6
   unfold Y2 at hW6'
   unfold Nd.val
   go_upto_region 9 with fail
   rw [← hW6']
   have HW6:=hid hW6
   clear hW6 hW6' n0 n1 n2 n3 n4 e0 e1 e2 e3 e4 hl5
   have hpl : W2.heap.size<W6.heap.size:=P6.out.blocks.1
   cases hy : y with
   | error q =>
     obtain ⟨c,p⟩:=q
     have P6':=P6.out
     rw [hy] at P6'
     have HX':=hid (show X=.error (c,p) by rw [HXe.out,hy]; rfl)
     obtain ⟨hc,i,n,hp,-,-⟩:=P6'.error
     obtain ⟨⟨p0,p1,p2,p3,p4⟩,-⟩:=hp.cells
     have ek : (c == 0)=false:=beq_eq_false_iff_ne.2 hc
     have ek' : (c != 0)=true:=bne_iff_ne.2 hc
     have HC:=hid hc
     obtain ⟨⟨z0,z1,z2,z3,z4⟩,⟨f0,f1,f2,f3,f4⟩⟩:=B6.out.cells
     have hsz : w.heap.size<W6.heap.size:=B6.out.lt
     have hb1 : ¬ w.heap.size=W2.heap.size:=hne4.out.1.1
     have hb2 : ¬ W2.heap.size=w.heap.size:=fun h => hb1 h.symm
     clear hc hp P6' hy
     go_wp2_with fail
     go_region
     all_goals
      go_wp2_with fail
      refine bodyPost_ret (v:=.tuple #[nd0.val none 0,.int .i64 p,.int .i64 c]) (by simp [results,Tryz.results38,go_sem,Nd.val,nd0,Nd.kind,Nd.text,Nd.n,Nd.kids,Nd.place,z0,z1,z2,z3,z4]) rfl ?_
      exact uS HX' HC G6 (Nat.le_of_lt hgw.out.1)
   | ok q =>
     obtain ⟨u,r⟩:=q
     have P6':=P6.out
     rw [hy] at P6'
     have HL6:=hid (a3F (HK.out u r hy) HW6 (lo:=w.heap.size + 1) (by have:=hgw.out; have:=E4.out.size; have:=HS3.out; omega) N4.out.lt)
     obtain ⟨i,hr,hp⟩:=P6'.ok
     have hT:=kR hp.pos
     rw [← hr] at hT
     have HPS:=hid hp
     obtain ⟨⟨p0,p1,p2,p3,p4⟩,-⟩:=hp.cells
     have CL:=hid (show ∀ W,PS W2.heap.size g cap ts i 0 0 0 W→Calls Tryz.prog 70 #[.pointer (some ⟨W2.heap.size,0,none⟩)] W fun e w' => e=.returned (tkV (hd r))∧Below W.heap.size W w' from fun W h => by
      have:=cL W2.heap.size g cap ts i 0 0 0 W h
      rwa [← hT] at this)
     have HX':=hid (show X=if (hd r).kind=0 then .ok u else .error (74,(hd r).pos) by rw [HXe.out,hy]; rfl)
     generalize hd r=T at CL HX'
     have C7:=hid (CL.out W6 HPS)
     have hfd:=kN T.kind T.n T.pos ⟨T.text.toArray⟩
     have hfk:=a56 T.kind T.n T.pos ⟨T.text.toArray⟩
     clear P6' hp hr hT hy
     go_wp2_with fail
     (with_reducible refine Calls.mono C7.out ?_)
     rintro e W7 ⟨rfl,hb⟩
     have HB7:=hid hb
     have HPS7:=hid (HPS.out.below hb)
     have B7:=hid (B6.out.below hb)
     have N7:=hid (N6.out.below hb)
     have G7:=hid (d8 G6 (hb.mono G6.out.size))
     clear hb C7 p0 p1 p2 p3 p4 hpl
     obtain ⟨⟨p0,p1,p2,p3,p4⟩,-⟩:=HPS7.out.cells
     have hpl : W2.heap.size<W7.heap.size:=HPS7.out.plt
     unfold tkV
     by_cases hk : T.kind=0
     ·have ek : (T.kind != 0)=false:=by rw [hk]; rfl
      have HX2:=hid (show X=.ok u by rw [HX'.out,if_pos hk])
      obtain ⟨⟨n0,n1,n2,n3,n4⟩,-⟩:=N7.out.cells
      obtain ⟨⟨z0,z1,z2,z3,z4⟩,⟨f0,f1,f2,f3,f4⟩⟩:=B7.out.cells
      have hsz : w.heap.size<W7.heap.size:=B7.out.lt
      have hs3' : W3.heap.size<W7.heap.size:=N7.out.lt
      clear hk
      go_wp2_with fail
      refine bodyPost_ret (v:=.tuple #[t.val a cp,.int .i64 0,.int .i64 0]) (by simp [results,Tryz.results38,go_sem,Nd.val,z0,z1,z2,z3,z4]) rfl ?_
      exact a6Q HX2 HL6 HB7 G6 (Nat.le_of_lt hgw.out.1)
     ·have ek : (T.kind != 0)=true:=bne_iff_ne.2 hk
      have HX2:=hid (show X=.error (74,T.pos) by rw [HX'.out,if_neg hk])
      clear hk
      have C8:=hid (CL.out W7 HPS7)
      go_wp2_with fail
      (with_reducible refine Calls.mono C8.out ?_)
      rintro e W8 ⟨rfl,hb⟩
      have HPS8:=hid (HPS7.out.below hb)
      have B8:=hid (B7.out.below hb)
      have G8:=hid (d8 G7 (hb.mono G7.out.size))
      have C9:=hid (cM W2.heap.size g cap ts i 0 W8 74 T.pos HPS8)
      clear hb C8 p0 p1 p2 p3 p4 hpl
      unfold tkV
      go_wp2_with fail
      (with_reducible refine Calls.mono C9.out ?_)
      rintro e W9 ⟨rfl,hp9,hg9⟩
      have B9:=hid (B8.out.grown hg9 hne4.out.1.1)
      have G9:=hid (b6 G8 hg9)
      obtain ⟨⟨p0,p1,p2,p3,p4⟩,-⟩:=hp9.cells
      have hpl : W2.heap.size<W9.heap.size:=hp9.plt
      obtain ⟨⟨z0,z1,z2,z3,z4⟩,⟨f0,f1,f2,f3,f4⟩⟩:=B9.out.cells
      have hsz : w.heap.size<W9.heap.size:=B9.out.lt
      have hb1 : ¬ w.heap.size=W2.heap.size:=hne4.out.1.1
      have hb2 : ¬ W2.heap.size=w.heap.size:=fun h => hb1 h.symm
      clear hp9 hg9 C9
      go_wp2_with fail
      go_region
      all_goals
       go_wp2_with fail
       refine bodyPost_ret (v:=.tuple #[nd0.val none 0,.int .i64 T.pos,.int .i64 74]) (by simp [results,Tryz.results38,go_sem,Nd.val,nd0,Nd.kind,Nd.text,Nd.n,Nd.kids,Nd.place,z0,z1,z2,z3,z4]) rfl ?_
       exact uS HX2 (by decide) G9 (Nat.le_of_lt hgw.out.1)
theorem a0S (s : ByteArray) (w : World) (hs : s.size≤maxLen) :
 Calls Tryz.prog 16 #[.string s] w (sM (gW s.data.toList) w):=by
 obtain ⟨W1,hW1⟩ : ∃ W,W=w.alloc (.cells #[.int .i64 0,.string ⟨#[]⟩,.int .i64 0,.slice none 0 0,.int .i64 0] 24):=⟨_,rfl⟩
 have B1:=hid (show f6 w.heap.size nd0 none 0 W1 from hW1 ▸ f6.make w nd0 none 0)
 have E1:=hid (show Below w.heap.size w W1 from hW1 ▸ c6 _ _)
 have C1:=hid (a2G s W1 hs)
 generalize gW s.data.toList=x at C1
 go_enter Tryz.func16,Tryz.ntmps16
 go_wp2_with fail
 rw [← hW1]
 clear hW1
 (with_reducible refine Calls.mono C1.out ?_)
 rintro e W2 ⟨t,a,cp,f,k,rfl,hb,hx⟩
 have B2:=hid (B1.out.below hb)
 have HB2:=hid hb
 have HX:=hid hx
 clear hb hx C1
 obtain ⟨⟨z0,z1,z2,z3,z4⟩,⟨f0,f1,f2,f3,f4⟩⟩:=B2.out.cells
 have hsz : w.heap.size<W2.heap.size:=B2.out.lt
 unfold Nd.val
 go_wp2_with fail
 refine bodyPost_ret (v:=.tuple #[t.val a cp,.int .i64 f,.int .i64 k]) (by simp [results,Tryz.results16,go_sem,Nd.val,z0,z1,z2,z3,z4]) rfl ?_
 exact a3O HX (E1.out.trans (HB2.out.mono E1.out.size)) B1.out.lt
end
section
open Lib (hid)
open Go.RowKit
theorem a0l : gW a5m=.ok J4:=by
 unfold gW
 rw [a01]
 show wT (rd .expr 0 a0G)=_
 rw [a0D]
 rfl
theorem nN : y9 J4:=by
 refine ⟨by decide,⟨by decide,⟨by decide,trivial⟩,⟨by decide,trivial⟩,trivial⟩,⟨by decide,trivial⟩,trivial⟩
theorem a2Y (w : World) (he : Env w) (hta : Tab w) : Calls Tryz.prog 6 #[] w fun e w' => e=.returned (.bool true)∧Below w.heap.size w w':=by
 have C1:=hid (a0S ⟨#[97,32,45,32,98,32,45,32,49,46,53]⟩ w (by unfold maxLen; decide))
 have HE:=hid he
 have HT:=hid hta
 clear he hta
 go_enter Tryz.func6,Tryz.ntmps6
 go_wp2_with fail
 (with_reducible refine Calls.mono C1.out ?_)
 rintro e w1 ⟨t,a,cp,f,k,rfl,hb,hx⟩
 rw [show gW (ByteArray.mk #[97,32,45,32,98,32,45,32,49,46,53]).data.toList=.ok J4 from a0l] at hx
 obtain ⟨rfl,rfl,rfl,hl,-⟩:=hx
 have HL:=hid (show J4.hold w1.heap.size w1 a cp from Nd.lies.hold J4 (d5 hl (j7.refl _ _) fun b hb => hb.2))
 have HB1:=hid hb
 obtain ⟨W2,hW2⟩ : ∃ W,W=w1.alloc (.cells #[.int .i64 J4.kind,.string J4.text,.int .i64 J4.n,.slice a J4.kids.length cp,.int .i64 J4.place] 24):=⟨_,rfl⟩
 have N2:=hid (show f6 w1.heap.size J4 a cp W2 from hW2 ▸ f6.make w1 J4 a cp)
 have E2:=hid (show Below w1.heap.size w1 W2 from hW2 ▸ c6 _ _)
 have HX:=hid (show ∀ cur,Below W2.heap.size W2 cur→Env cur∧Tab cur∧w1.heap.size≤cur.heap.size∧J4.hold w1.heap.size cur a cp∧f6 w1.heap.size J4 a cp cur from fun cur hc => ⟨((HE.out.below HB1).below E2).below hc,((HT.out.below HB1).below E2).below hc,Nat.le_trans E2.out.size hc.size,HL.out.below (E2.out.trans (hc.mono E2.out.size)),N2.out.below hc⟩)
 have HW2:=hid (Below.refl W2.heap.size W2)
 have HA:=hid (HB1.out.trans (E2.out.mono HB1.out.size))
 have HAs:=hid (show w.heap.size≤W2.heap.size from HA.out.size)
 clear hb hl C1
 have C2:=hid (a2Q J4 a cp w1.heap.size W2 (HX.out _ HW2).2.2.2.1 nN (HX.out _ HW2).2.2.1 (HX.out _ HW2).1 (HX.out _ HW2).2.1)
 rw [show yN J4=[40,97,32,45,32,98,41,32,45,32,49,46,53] from (a4A iI).trans a1d,show yL J4=0 from a5H iI] at C2
 obtain ⟨N,hN⟩ : ∃ N,N=J4:=⟨_,rfl⟩
 have hr:=iI
 have hm:=a2u
 have hsh:=nN
 rw [← hN] at C2 HX hr hm hsh hW2 N2 ⊢
 have HR:=hid hr
 have HM:=hid hm
 have HSH:=hid hsh
 clear hr hm hsh hN HL
 obtain ⟨⟨n0,n1,n2,n3,n4⟩,-⟩:=N2.out.cells
 have hlt : w1.heap.size<W2.heap.size:=N2.out.lt
 unfold Nd.val
 go_upto_region 2 with fail
 rw [← hW2]
 clear hW2
 go_wp2_with fail
 (with_reducible refine Calls.mono C2.out ?_)
 rintro e W3 ⟨rfl,hb⟩
 have HW3:=hid (HW2.out.trans (hb.mono HW2.out.size))
 clear hb C2 n0 n1 n2 n3 n4 hlt
 have C3:=hid (oV N a cp w1.heap.size W3 (HX.out _ HW3).2.2.2.1 HSH (HX.out _ HW3).2.2.1 (HX.out _ HW3).1 (HX.out _ HW3).2.1)
 rw [HR.out] at C3
 obtain ⟨⟨n0,n1,n2,n3,n4⟩,-⟩:=(HX.out _ HW3).2.2.2.2.cells
 have hlt : w1.heap.size<W3.heap.size:=(HX.out _ HW3).2.2.2.2.lt
 go_wp2_with fail
 (with_reducible refine Calls.mono C3.out ?_)
 rintro e W4 ⟨rfl,hb⟩
 have HW4:=hid (HW3.out.trans (hb.mono HW3.out.size))
 clear hb C3 n0 n1 n2 n3 n4 hlt
 have C4:=hid (pG N a cp w1.heap.size W4 (HX.out _ HW4).2.2.2.1 HSH (HX.out _ HW4).2.2.1 (HX.out _ HW4).1 (HX.out _ HW4).2.1)
 rw [HM.out] at C4
 obtain ⟨⟨n0,n1,n2,n3,n4⟩,-⟩:=(HX.out _ HW4).2.2.2.2.cells
 have hlt : w1.heap.size<W4.heap.size:=(HX.out _ HW4).2.2.2.2.lt
 go_wp2_with fail
 (with_reducible refine Calls.mono C4.out ?_)
 rintro e W5 ⟨rfl,hb⟩
 have HW5:=hid (HW4.out.trans (hb.mono HW4.out.size))
 clear hb C4 n0 n1 n2 n3 n4 hlt
 go_wp2_with fail
 go_ret
 exact ⟨rfl,HA.out.trans (HW5.out.mono HAs)⟩
end
theorem tI (b : Bool) : ∀ ks,(y7 b ks).length=ks.length
 | [] => by rw [y7]
 | k :: ks => by rw [y7,List.length_cons,List.length_cons,tI b ks]
mutual
theorem sO (b : Bool) : ∀ t : Nd,p9 (o4 b t)=p9 t
 | .mk k s n ks p => by rw [o4,p9,p9,pX b ks]
theorem pX (b : Bool) : ∀ ks : List Nd,l7 (y7 b ks)=l7 ks
 | [] => by rw [y7]
 | k :: ks => by rw [y7,l7,l7,sO b k,pX b ks]
end
mutual
theorem tV (b : Bool) : ∀ (t : Nd) (d : Int),e7 (o4 b t) d=e7 t d
 | .mk k s n ks p,d => by rw [o4,e7,e7,tI,pY b ks]
theorem pY (b : Bool) : ∀ (ks : List Nd) (d : Int),m8 (y7 b ks) d=m8 ks d
 | [],d => by rw [y7]
 | k :: ks,d => by rw [y7,m8,m8,tV b k,pY b ks]
end
section
open Lib (hid)
open Go.RowKit Go.Shelf
def a4r : ByteArray:=⟨#[48,49,50,51,52,53,54,55,56,57]⟩
theorem uN : ∀ (j : Nat) (b : UInt8),a4r.data.toList[j]?=some b→b.toNat<128:=ascii_of_all (by decide)
theorem a6z (c : UInt8) : a4r.data.toList.contains c=dgC c:=by
 have:=jM (p:=fun c => a4r.data.toList.contains c == dgC c) (by decide +kernel) c
 simpa using this
theorem jD (s : ByteArray) (w : World) (hs : s.size≤maxLen) :
 Calls Tryz.prog 177 #[.string s] w fun e w' => e=.returned (.bool (lF s.data.toList))∧Below w.heap.size w w':=by
 have e:=hid (show (Lib.trimS s.data.toList a4r.data.toList).isEmpty=s.data.toList.all dgC by rw [pK]; exact List.all_congr rfl fun a => a6z a)
 by_cases h0 : 0<s.size
 ·have hne : ¬ s.toList=[]:=fun e => by have:=d6 s; rw [← Lib.toList_data,e] at this; simp at this; omega
  have hne' : s.toList.isEmpty=false:=by cases h : s.toList with | nil => exact absurd h hne | cons a l => rfl
  have F:=hid (show lF s.data.toList=(Lib.trimS s.data.toList a4r.data.toList).isEmpty by unfold lF; rw [e.out,← Lib.toList_data,hne']; rfl)
  go_enter Tryz.func177,Tryz.ntmps177
  go_wp2_with (go_at_call 137; refine (lI _ _ _ hs (by decide) uN).mono ?_; rintro e w' ⟨rfl,hb⟩)
  go_ret
  exact ⟨x8 F.out.symm,hb⟩
 ·have h1:=uZ h0
  subst h1
  go_enter Tryz.func177,Tryz.ntmps177
  go_wp2_with (go_at_call 137; refine (lI _ _ _ hs (by decide) uN).mono ?_; rintro e w' ⟨rfl,hb⟩)
  go_ret
  exact ⟨rfl,Below.refl _ _⟩
theorem a2Z (k : Nat) (hk : k≤6) (w : World) :
 Calls Tryz.prog 178 #[.string ⟨#[48]⟩,.int .i64 k] w fun e w' => e=.returned (.string ⟨(List.replicate k 48).toArray⟩)∧Below w.heap.size w w':=by
 by_cases h2 : 2≤k
 ·refine (Tryz.strings_Repeat_main ⟨#[48]⟩ k w h2 (by omega) (by show 1 * k≤_; omega) (by decide)).mono ?_
  rintro e w' ⟨rfl,hb⟩
  refine ⟨?_,hb⟩
  have : Lib.repeatL [48] k=List.replicate k 48:=by
   match k,hk with
   | 0,_ => rfl
   | 1,_ => rfl
   | 2,_ => rfl
   | 3,_ => rfl
   | 4,_ => rfl
   | 5,_ => rfl
   | 6,_ => rfl
  rw [show (⟨#[48]⟩ : ByteArray).data.toList=[48] from rfl,this]
 ·obtain rfl | rfl : k=0∨k=1:=by omega
  ·refine (Tryz.strings_Repeat_zero ⟨#[48]⟩ w).mono ?_
   rintro e w' ⟨rfl,rfl⟩
   exact ⟨rfl,Below.refl _ _⟩
  ·refine (Tryz.strings_Repeat_one ⟨#[48]⟩ w).mono ?_
   rintro e w' ⟨rfl,rfl⟩
   exact ⟨rfl,Below.refl _ _⟩
theorem a5o (l : List UInt8) : (Lib.cut l [46]).1.length + (Lib.cut l [46]).2.1.length≤l.length:=by
 cases h : (Lib.cut l [46]).2.2 with
 | false => rw [kD h]; simp
 | true =>
   have:=congrArg List.length (a5R h)
   rw [List.length_append,List.length_cons] at this
   omega
def a7x (r : Option Int) (w : World) (e : Ending) (w' : World) : Prop :=
 Below w.heap.size w w'∧match r with
  | some v => e=.returned (.tuple #[.int .i64 v,.bool true])
  | none => e=.returned (.tuple #[.int .i64 0,.bool false])
theorem gH {r : Option Int} {w w' : World} (h : r=none) (hb : Below w.heap.size w w') : a7x r w (.returned (.tuple #[.int .i64 0,.bool false])) w':=by subst h; exact ⟨hb,rfl⟩
theorem xN {r : Option Int} {w w' : World} {v u : Int} (h : r=some v) (hu : u=v) (hb : Below w.heap.size w w') : a7x r w (.returned (.tuple #[.int .i64 u,.bool true])) w':=by subst h hu; exact ⟨hb,rfl⟩
def a4z (below : Bool) (c : Option Int) : Option Int:=match c with
 | some n => if 1000000000000000 < n∨(below=true∧n=0) then none else some (if below=true then -n else n)
 | none => none
theorem a42 (l : List UInt8) : fM l=a4z (Lib.hasPrefix l [45]) (rY (Lib.cut (Lib.trimPrefix l [45]) [46])):=by
 rw [← a41]
 unfold fM Lib.trimPrefix Lib.hasPrefix
 cases l with
 | nil => rfl
 | cons c r =>
   have e : [45].isPrefixOf (c :: r)=(45 == c):=by rw [List.isPrefixOf,List.isPrefixOf,Bool.and_true]
   rw [e]
   by_cases hc : c=45
   ·subst hc
    show (match V4 r with | some n => if 1000000000000000<n∨n=0 then none else some (-n) | none => none)=a4z true (V4 r)
    cases V4 r with
    | none => rfl
    | some n =>
      show (if 1000000000000000<n∨n=0 then none else some (-n))=(if 1000000000000000<n∨(true=true∧n=0) then none else some (if true=true then -n else n))
      simp only [true_and,if_true]
   ·have h45 : (45 == c)=false:=beq_eq_false_iff_ne.2 fun e => hc e.symm
    rw [List.headD_cons,if_neg hc,h45]
    show _=a4z false (V4 (c :: r))
    cases V4 (c :: r) with
    | none => rfl
    | some n =>
      show (if 1000000000000000<n then none else some n)=(if 1000000000000000<n∨(false=true∧n=0) then none else some (if false=true then -n else n))
      simp only [Bool.false_eq_true,false_and,or_false,if_false]
theorem a39 (k : Nat) : (List.replicate k (48 : UInt8)).all dgC=true:=List.all_eq_true.2 fun c hc => by rw [List.eq_of_mem_replicate hc]; decide
theorem a5K {z : ByteArray} {k : Nat} (h : k<z.size) : Cal.val (z.data.toList.take (k + 1))=10 * Cal.val (z.data.toList.take k) + ((z[k].toNat : Int) - 48):=by
 rw [List.take_succ_eq_append_getElem (by rw [d6]; exact h),Cal.val_snoc]; rfl
theorem sA (s : ByteArray) (w : World) (hs : s.size≤16384) : Calls Tryz.prog 148 #[.string s] w (a7x (fM s.data.toList) w):=by
 have hz : s.data.toList.length=s.size:=d6 s
 have R:=hid (a42 s.data.toList)
 obtain ⟨t,ht⟩ : ∃ t : ByteArray,t=⟨(Lib.trimPrefix s.data.toList [45]).toArray⟩:=⟨_,rfl⟩
 have htl : t.data.toList=Lib.trimPrefix s.data.toList [45]:=by rw [ht]
 have hts : t.size≤16384:=by
  rw [← d6,htl]
  unfold Lib.trimPrefix
  split
  ·rw [List.length_drop]; omega
  ·omega
 rw [← htl] at R
 have C1:=hid (Tryz.strings_CutPrefix s ⟨#[45]⟩ w)
 rw [show (⟨#[45]⟩ : ByteArray).data.toList=[45] from rfl,← ht] at C1
 generalize Lib.hasPrefix s.data.toList [45]=below at R C1
 generalize fM s.data.toList=N at R ⊢
 have C2:=hid (a1E t w (Nat.le_trans hts (by decide)))
 have hcut:=a5o t.data.toList
 rw [d6] at hcut
 rcases hc : Lib.cut t.data.toList [46] with ⟨a,b,pt⟩
 rw [hc] at C2 R hcut
 replace hcut : a.length + b.length≤t.size:=hcut
 replace R:=hid (show N=a4z below (rY (a,b,pt)) from R)
 obtain ⟨A,hA⟩ : ∃ A : ByteArray,A=⟨a.toArray⟩:=⟨_,rfl⟩
 obtain ⟨B,hB⟩ : ∃ B : ByteArray,B=⟨b.toArray⟩:=⟨_,rfl⟩
 have hAl : A.data.toList=a:=by rw [hA]
 have hBl : B.data.toList=b:=by rw [hB]
 have hAs : A.size≤16384:=by rw [← d6,hAl]; omega
 have hBs : B.size≤16384:=by rw [← d6,hBl]; omega
 replace C2:=hid (show Calls Tryz.prog 111 #[.string t,.string ⟨#[46]⟩] w fun e w' => e=.returned (.tuple #[.string A,.string B,.bool pt])∧Below w.heap.size w w' by rw [hA,hB]; exact C2)
 have HBE:=hid (show pt=false→B.data.toList=[] from fun e => by
  have:=kD (l:=t.data.toList) (by rw [hc]; exact e)
  rw [hc] at this
  rw [hBl]
  exact (Prod.mk.inj (Prod.mk.inj this).2).1)
 subst hAl hBl
 clear hc hcut hA hB ht htl hz hs hts
 have LA:=hid (d6 A)
 have LB:=hid (d6 B)
 go_enter Tryz.func148,Tryz.ntmps148
 go_wp2_with fail
 (with_reducible refine Calls.mono C1.out ?_)
 rintro e w0 ⟨rfl,hw0⟩
 rw [hw0]
 clear C1 hw0 w0
 go_wp2_with fail
 (with_reducible refine Calls.mono C2.out ?_)
 rintro e w1 ⟨rfl,hb⟩
 have HB:=hid hb
 clear hb C2
 have C3:=hid (jD A w1 (Nat.le_trans hAs (by decide)))
 cases hd : lF A.data.toList
 case false =>
  have X:=hid (show N=none by rw [R.out]; unfold rY U4; rw [hd]; rfl)
  rw [hd] at C3
  clear hd
  go_wp2_with fail
  (with_reducible refine Calls.mono C3.out ?_)
  rintro e w2 ⟨rfl,hb⟩
  have HC:=hid (HB.out.trans (hb.mono HB.out.size))
  clear hb C3
  go_wp2_with fail
  go_ret2
  exact gH X HC
 have HD:=hid hd
 rw [hd] at C3
 clear hd
 go_wp2_with fail
 (with_reducible refine Calls.mono C3.out ?_)
 rintro e w2 ⟨rfl,hb⟩
 replace HB:=hid (HB.out.trans (hb.mono HB.out.size))
 clear hb C3
 by_cases h10 : 10<A.size
 ·have X:=hid (show N=none by rw [R.out]; unfold rY U4; rw [LA.out,decide_eq_true h10]; simp; rfl)
  have h10' : (10 : Int)<A.size:=by omega
  clear h10
  go_wp2_with fail
  go_ret2
  exact gH X HB
 have hA0 : 0<A.size:=by
  rcases Nat.eq_zero_or_pos A.size with h | h
  ·have e : A.data.toList=[]:=List.eq_nil_of_length_eq_zero (by rw [LA.out]; exact h)
   have:=HD.out
   rw [e] at this
   exact absurd this (by decide)
  ·exact h
 have HH:=hid (aQ hA0)
 by_cases h48 : 1<A.size∧(A[0].toNat : Int)=48
 ·obtain ⟨h1,h2⟩:=h48
  have q : ((A[0].toNat : Int) == 48)=true:=by rw [h2]; rfl
  have e0 : A[0]=48:=UInt8.toNat_inj.1 (Int.ofNat.inj h2)
  have X:=hid (show N=none by rw [R.out]; unfold rY U4; rw [LA.out,decide_eq_true h1,HH.out,e0]; simp; rfl)
  clear h2 e0
  go_wp2_with fail
  go_ret2
  exact gH X HB
 have HW:=hid (show U4 A.data.toList=true by
  unfold U4
  rw [HD.out,LA.out,decide_eq_false h10,HH.out]
  by_cases h1 : 1<A.size
  ·have : ¬ A[0]=48:=fun e => h48 ⟨h1,by rw [e]; rfl⟩
   rw [beq_eq_false_iff_ne.2 this]; simp
  ·rw [decide_eq_false h1]; rfl)
 have h1or : (1<A.size∧((A[0].toNat : Int) == 48)=false)∨¬ 1<A.size:=by
  by_cases h1 : 1<A.size
  ·exact .inl ⟨h1,beq_eq_false_iff_ne.2 fun e => h48 ⟨h1,e⟩⟩
  ·exact .inr h1
 have hbig : A.size + B.size≤32768:=by omega
 have h10i : ¬ (10 : Int)<A.size:=by omega
 have hA10 : A.size≤10:=by omega
 clear h10 h48
 rcases h1or with ⟨h1,q⟩ | h1
 all_goals
  cases pt
  case' true =>
   have C4:=hid (jD B w2 (Nat.le_trans hBs (by decide)))
   cases hd2 : lF B.data.toList
   case false =>
    have X:=hid (show N=none by rw [R.out]; unfold rY gL; rw [hd2]; simp; rfl)
    rw [hd2] at C4
    clear hd2
    go_wp2_with fail
    (with_reducible refine Calls.mono C4.out ?_)
    rintro e w3 ⟨rfl,hb⟩
    have HC:=hid (HB.out.trans (hb.mono HB.out.size))
    clear hb C4
    go_wp2_with fail
    go_ret2
    exact gH X HC
   have HD2:=hid hd2
   rw [hd2] at C4
   clear hd2
   by_cases h6 : 6<B.size
   case pos =>
    have X:=hid (show N=none by rw [R.out]; unfold rY gL; rw [LB.out,decide_eq_true h6]; simp; rfl)
    have h6' : (6 : Int)<B.size:=by omega
    clear h6
    go_wp2_with fail
    (with_reducible refine Calls.mono C4.out ?_)
    rintro e w3 ⟨rfl,hb⟩
    have HC:=hid (HB.out.trans (hb.mono HB.out.size))
    clear hb C4
    go_wp2_with fail
    go_ret2
    exact gH X HC
   have h6' : ¬ (6 : Int)<B.size:=by omega
   have h6n : B.size≤6:=by omega
   clear h6
   have HT:=hid (show gL true B.data.toList=true by unfold gL; rw [HD2.out,LB.out,decide_eq_false (by omega)]; rfl)
   have HBd:=hid (show B.data.toList.all dgC=true by have:=HD2.out; unfold lF at this; rw [Bool.and_eq_true] at this; exact this.2)
   go_upto_region 8 with (first | ((with_reducible refine Calls.mono C4.out ?_); rintro e w3 ⟨rfl,hb⟩))
   replace HB:=hid (HB.out.trans (hb.mono HB.out.size))
   clear hb C4 HD2
  case' false =>
   have hbe:=HBE.out rfl
   have h6n : B.size≤6:=by rw [← LB.out,hbe]; decide
   have HT:=hid (show gL false B.data.toList=true from rfl)
   have HBd:=hid (show B.data.toList.all dgC=true by rw [hbe]; rfl)
   clear hbe
   go_upto_region 8 with fail
  all_goals
   clear HBE
   have X:=hid (show N=a4z below (some (a5X A.data.toList B.data.toList)) by rw [R.out]; unfold rY; rw [if_pos ⟨HW,HT⟩])
   have CZ:=hid (fun v : World => a2Z (6 - B.size) (by omega) v)
   rw [show ((6 - B.size : Nat) : Int)=6 - (B.size : Int) by omega] at CZ
   obtain ⟨Z,hZ⟩ : ∃ Z : ByteArray,Z=⟨(List.replicate (6 - B.size) 48).toArray⟩:=⟨_,rfl⟩
   rw [← hZ] at CZ
   have hZl : Z.data.toList=List.replicate (6 - B.size) 48:=by rw [hZ]
   have hZs : Z.size=6 - B.size:=by rw [← d6,hZl,List.length_replicate]
   have hs1 : ¬ 9223372036854775807<A.size + B.size:=by omega
   have hs2 : ¬ 9223372036854775807<(A ++ B).size + Z.size:=by rw [ByteArray.size_append]; omega
   have HS:=hid (show (A ++ B ++ Z).data.toList=A.data.toList ++ B.data.toList ++ List.replicate (6 - B.data.toList.length) 48 by
    rw [ByteArray.data_append,ByteArray.data_append,Array.toList_append,Array.toList_append,hZl,LB.out])
   have hsz : (A ++ B ++ Z).size≤16:=by rw [ByteArray.size_append,ByteArray.size_append]; omega
   clear hZ hZl hZs
   go_wp2_with fail
   (with_reducible refine Calls.mono (CZ.out _) ?_)
   rintro e w4 ⟨rfl,hb⟩
   replace HB:=hid (HB.out.trans (hb.mono HB.out.size))
   clear hb CZ
   have HDz:=hid (show (A ++ B ++ Z).data.toList.all dgC=true by rw [HS.out,List.all_append,List.all_append,HBd.out,a39]; have:=HD.out; unfold lF at this; rw [Bool.and_eq_true] at this; rw [this.2]; rfl)
   go_wp2_with fail
   have HV:=hid (show a5X A.data.toList B.data.toList=Cal.val (A ++ B ++ Z).data.toList by rw [HS.out]; rfl)
   have HZL:=hid (d6 (A ++ B ++ Z))
   have hk0:=World.iter_heap w4 (A ++ B ++ Z) 0
   have hlt4 : w4.heap.size<(w4.iter (A ++ B ++ Z) 0).heap.size:=by show _<(w4.heap.push _).size; simp
   have hb0 : Below w.heap.size w (w4.iter (A ++ B ++ Z) 0):=HB.out.alloc HB.out.size _
   have hit:=HB.out.size
   generalize w4.iter (A ++ B ++ Z) 0=W5 at hk0 hb0 hlt4 ⊢
   generalize w4.heap.size=it at hk0 hit hlt4 ⊢
   clear HS hs1 hs2
   generalize (A ++ B ++ Z)=z at hk0 hsz HDz HV HZL ⊢
   have HK0:=hid hk0
   have HB0:=hid hb0
   clear hk0 hb0
   go_loopw [9] (fun n wr => ∃ k : Nat,k≤z.size∧n=.int .i64 (Cal.val (z.data.toList.take k))∧Hid (wr.heap[it]?=some (.stringIter z k))∧Hid (Below w.heap.size w wr)) (fun _ wr => z.size - wr.iterPos it)
   case atStart => exact ⟨0,Nat.zero_le _,rfl,HK0,HB0⟩
   case round =>
    obtain ⟨k,hk,rfl,HK,HBr⟩:=hrel
    have hvb:=gK (l:=z.data.toList.take k) (n:=16) (by
     refine List.all_eq_true.2 fun c hc => List.all_eq_true.1 HDz c (List.mem_of_mem_take hc)) (by rw [List.length_take,HZL.out]; omega)
    have hvb1 : 0≤Cal.val (z.data.toList.take k):=hvb.1
    have hvb2 : Cal.val (z.data.toList.take k)<10000000000000000:=hvb.2
    have hmu:=hid (show wr.iterPos it=k by simp [World.iterPos,HK.out])
    clear hvb
    by_cases hp : k<z.size
    ·have hdz : dgC z[k]=true:=List.all_eq_true.1 HDz _ (by rw [show z[k]=z.data.toList[k]'(by rw [HZL.out]; exact hp) from rfl]; exact List.getElem_mem _)
     have hd1 : 48≤(z[k].toNat : Int)∧(z[k].toNat : Int)≤57:=by
      unfold dgC at hdz; rw [Bool.and_eq_true,decide_eq_true_eq,decide_eq_true_eq] at hdz; omega
     obtain ⟨hd2,hd3⟩:=hd1
     have hnext : ∀ ty,(Instr.next (.pointer (some ⟨it,0,none⟩)) true ty).run Tryz.prog wr=_:=fun ty => Lib.run_next_ascii_at wr it z k ty HK hp (by omega)
     have HK1:=hid (Lib.iterAt_heap wr it z k (k + 1) HK)
     have HB1:=hid (Lib.below_iterAt HBr hit z (k + 1))
     have HV1:=hid (a5K hp)
     generalize wr.iterAt it z (k + 1)=W6 at hnext HK1 HB1
     clear hdz
     go_wp2_with fail
     go_roundw
     case rel => exact ⟨k + 1,by omega,by rw [HV1.out],HK1,HB1⟩
     case measure =>
      have : W6.iterPos it=k + 1:=by simp [World.iterPos,HK1.out]
      rw [hmu.out,this]; omega
    ·obtain rfl : k=z.size:=by omega
     have hnext : ∀ ty,(Instr.next (.pointer (some ⟨it,0,none⟩)) true ty).run Tryz.prog wr=_:=fun ty => Lib.run_next_end_at wr it z z.size ty HK hp
     have HVV:=hid (show a5X A.data.toList B.data.toList=Cal.val (z.data.toList.take z.size) by rw [HV.out,List.take_of_length_le (by rw [HZL.out]; exact Nat.le_refl _)])
     generalize Cal.val (z.data.toList.take z.size)=v at hvb1 hvb2 HVV
     rw [HVV.out] at X
     clear HVV HV
     by_cases hmx : 1000000000000000<v
     ·have Y:=hid (show N=none by rw [X.out]; show (if _ then _ else _)=_; rw [if_pos (.inl hmx)])
      go_wp2_with fail
      go_ret2
      exact gH Y HBr
     cases below
     ·have Y:=hid (show N=some v by rw [X.out]; show (if _ then _ else _)=_; rw [if_neg (by rintro (h | h); exact hmx h; exact absurd h.1 (by decide))]; rfl)
      go_wp2_with fail
      go_ret2
      exact xN Y rfl HBr
     ·by_cases h0 : v=0
      ·have q0 : (v == 0)=true:=by rw [h0]; rfl
       have Y:=hid (show N=none by rw [X.out]; show (if _ then _ else _)=_; rw [if_pos (.inr ⟨rfl,h0⟩)])
       clear h0
       go_wp2_with fail
       go_ret2
       exact gH Y HBr
      ·have q0 : (v == 0)=false:=beq_eq_false_iff_ne.2 h0
       have Y:=hid (show N=some (-v) by rw [X.out]; show (if _ then _ else _)=_; rw [if_neg (by rintro (h | h); exact hmx h; exact h0 h.2)]; rfl)
       clear h0
       go_wp2_with fail
       go_ret2
       exact xN Y rfl HBr
end
end Go.Proofs.YtibiccacafjjfaaGreatDoor
