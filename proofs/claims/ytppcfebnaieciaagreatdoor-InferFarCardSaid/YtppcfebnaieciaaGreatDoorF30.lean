/-
  Laws that the proof rests on.
-/
import Derived.Test.YtppcfebnaieciaaGreatDoorF29
import Derived.Test.YtppcfebnaieciaaGreatDoorF14
import Derived.Deep.DeepHandedRow
import Derived.Lay
namespace Go.Proofs.YtppcfebnaieciaaGreatDoor
set_option maxRecDepth 100000
set_option maxHeartbeats 16000000
section
open Lib (hid)
open Go.RowKit
def J9 (d : Sch) : Nd:=.mk 3 (bsA d.name) 0 [.mk 5 ⟨#[]⟩ 0 [] 0] 0
def bQ (s : Sht) : Nd:=.mk 1 (bsA s.name) 0 (s.defs.map J9) 0
def cN (d : Sch) : Bool:=p9 d.result && decide (d.params.length≤8) && !(d.params.any fun t => !p9 t)
theorem a4Z (d : Sch) : aK d=(l3 d.name && cN d):=by
 unfold aK cN
 have : d.params.all p9=!(d.params.any fun t => !p9 t):=by rw [List.all_eq_not_any_not]
 rw [this]
 cases l3 d.name <;> cases p9 d.result <;> cases decide (d.params.length≤8) <;> simp
theorem zD (d : Sch) : H6 (J9 d)=l3 d.name:=by
 rw [aR]
 have h : d9 (D6 (J9 d)) 1=true:=(by decide : d9 (.mk 5 ⟨#[]⟩ 0 [] 0) 1=true)
 rw [h]
 show (_ && l3 (bsA d.name).data.toList && _ && _ && _ && _)=_
 rw [show (bsA d.name).data.toList=d.name from rfl]
 cases l3 d.name <;> rfl
theorem yM : ∀ l : List Sch,j7 (l.map J9)=2 * l.length
 | [] => rfl
 | d :: l => by
   rw [List.map_cons,j7,yM l]
   show i7 (J9 d) + _=_
   have : i7 (J9 d)=2:=rfl
   rw [this,List.length_cons]; omega
theorem a4N : ∀ l : List Sch,q9 (l.map J9)=0
 | [] => rfl
 | d :: l => by
   unfold q9
   rw [List.map_cons,List.takeWhile_cons]
   have : m5 2 (J9 d)=false:=by rw [sU]; rfl
   rw [this]; rfl
theorem zT (s : Sht) : J4 (bQ s)=(l3 s.name && decide (s.defs.length≤200) && s.defs.all fun d => l3 d.name):=by
 unfold J4
 have e1 : (bQ s).kids=s.defs.map J9:=rfl
 have e2 : (bQ s).text.data.toList=s.name:=rfl
 have e3 : i7 (bQ s)=2 * s.defs.length + 1:=by rw [t8,e1,yM]
 rw [e1,e2,a4N,cP,e3,List.length_map,Nat.sub_zero,List.drop_zero,List.all_map]
 have e4 : (H6 ∘ J9)=fun d => l3 d.name:=funext fun d => zD d
 rw [e4]
 show (true && l3 s.name && true && _ && (true && _ && _))=_
 by_cases h : s.defs.length≤200
 ·rw [decide_eq_true h,decide_eq_true (show 2 * s.defs.length + 1≤8192 by omega)]
  cases l3 s.name <;> simp
 ·rw [decide_eq_false h]
  cases l3 s.name <;> simp
theorem a3h (s : Sht) : o7 s=(s.defs.all cN && J4 (bQ s)):=by
 unfold o7
 rw [zT]
 have : s.defs.all aK=((s.defs.all fun d => l3 d.name) && s.defs.all cN):=by
  have e : aK=fun d => l3 d.name && cN d:=funext a4Z
  rw [e]
  induction s.defs with
  | nil => rfl
  | cons d l ih =>
    rw [List.all_cons,List.all_cons,List.all_cons,ih]
    cases l3 d.name <;> cases cN d <;> simp
 rw [this]
 cases l3 s.name <;> cases decide (s.defs.length≤200) <;> cases (s.defs.all fun d => l3 d.name) <;> cases s.defs.all cN <;> rfl
def a0Y : Obj:=.cells #[.int .i64 5,.string ⟨#[]⟩,.int .i64 0,.slice none 0 0,.int .i64 0] 24 (0,0)
theorem a5d {av : Nat→Prop} {W : World} {d : Sch} {h : Nat} (hh : W.heap[h]?=some a0Y) (ha : av h) (hs : d.name.length≤maxLen) : (J9 d).lies av W (some ⟨h,0,none⟩) 1:=by
 unfold a0Y at hh
 refine ⟨by decide,by simpa [bsA,ByteArray.size] using hs,by decide,by decide,Nat.le_refl _,by decide,⟨h,0,none,0,rfl,ha,?_,?_,?_,?_,?_,⟨by decide,by decide,by decide,by decide,Nat.le_refl _,by decide,trivial⟩⟩,trivial⟩ <;> simp [World.cell?,hh]
theorem a3q {α : Type} {f : α→Bool} {l : List α} (h : ∀ j (hj : j<l.length),f l[j]=true) : l.all f=true:=by
 rw [List.all_eq_true]
 intro x hx
 obtain ⟨j,hj,rfl⟩:=List.getElem_of_mem hx
 exact h j hj
theorem pF : ∀ {l : List Sch},(∀ d∈l,d.name.length≤140737488355328)→H8 (l.map J9)
 | [],_ => trivial
 | d :: l,h => ⟨⟨by have:=h d (List.mem_cons_self ..); simpa [bsA,ByteArray.size] using this,⟨by decide,trivial⟩,trivial⟩,pF fun x hx => h x (List.mem_cons_of_mem _ hx)⟩
def iS (b4 : Nat) (B : Nat) (l : List Sch) (nm : List UInt8) (k : Nat) (v : Value) (L : List Ent) (wr : World) : Prop :=
 wr.heap[b4]?=some (.cells #[.int .i64 1,.string (bsA nm),.int .i64 0,v,.int .i64 0] 24 (0,0))∧wr.ownsRow B 24 5 v k (bH L)∧L.length=k∧L.map (·.1)=(l.take k).map J9∧∀ e∈L,∃ d h,e=(J9 d,some ⟨h,0,none⟩,1)∧d.name.length≤maxLen∧B≤h∧v.ownBlock≠some h∧wr.heap[h]?=some a0Y
theorem iS.below {b4 B : Nat} {l : List Sch} {nm : List UInt8} {k : Nat} {v : Value} {L : List Ent} {wr w' : World} (h : iS b4 B l nm k v L wr) (hb : Below wr.heap.size wr w') : iS b4 B l nm k v L w':=by
 obtain ⟨h1,h2,h3,h4,h5⟩:=h
 refine ⟨(hb.block _ (Array.getElem?_eq_some_iff.1 h1).1).trans h1,n8 h2 hb,h3,h4,fun e he => ?_⟩
 obtain ⟨d,x,e1,e2,e3,e4,e5⟩:=h5 e he
 exact ⟨d,x,e1,e2,e3,e4,(hb.block _ (Array.getElem?_eq_some_iff.1 e5).1).trans e5⟩
theorem vD (av : Nat→Prop) (s : Sht) (da : Option Addr) (dc : Nat) (w : World) (h : bS av w da s.defs) (hc : s.defs.length≤dc∧dc≤maxLen) (hn : s.defs.length≤1000000) (hnm : s.name.length≤140737488355328) (hds : ∀ d∈s.defs,d.name.length≤140737488355328) (he : Env w) (ht : Tab w) :
 Calls Tryz.prog 26 #[.agg #[.string (bsA s.name),.slice da s.defs.length dc]] w fun e w' => e=.returned (.bool (o7 s))∧Below w.heap.size w w':=by
 have eg:=enters_of Tryz.func45 (by kernel_rfl) rfl
 obtain ⟨W1,hW1⟩ : ∃ W,W=(w.alloc (.cells #[.string (bsA s.name),.slice da s.defs.length dc] 29)).alloc (.cells #[.int .i64 1,.string (bsA s.name),.int .i64 0,.slice none 0 0,.int .i64 0] 24):=⟨_,rfl⟩
 have B1:=hid (show Below w.heap.size w W1 from hW1 ▸ ((a7 _ _).alloc (by simp) _))
 have Z1:=hid (show W1.heap.size=w.heap.size + 2 by rw [hW1]; simp)
 have hS1 : W1.heap[w.heap.size]?=some (.cells #[.string (bsA s.name),.slice da s.defs.length dc] 29 (0,0)):=by rw [hW1]; exact dJ (by simp) (U6 _ _)
 have c0 : W1.cell? ⟨w.heap.size,0,none⟩=some (.string (bsA s.name)):=by simp [World.cell?,hS1]
 have c1 : W1.cell? ⟨w.heap.size,1,none⟩=some (.slice da s.defs.length dc):=by simp [World.cell?,hS1]
 have hl1 : w.heap.size<W1.heap.size:=by have:=Z1.out; omega
 have HI0:=hid (show iS (w.heap.size + 1) (w.heap.size + 2) s.defs s.name 0 (.slice none 0 0) [] W1 from ⟨by rw [hW1]; exact O0 _ _ (by simp),⟨rfl,.inl ⟨rfl,rfl⟩⟩,rfl,rfl,fun e he => by cases he⟩)
 have HR:=hid (a3h s)
 have HD:=hid h
 have HE:=hid he
 have HT:=hid ht
 have HNM:=hid hnm
 have HDS:=hid hds
 have hdl : s.defs.length≤9223372036854775807:=by omega
 have HDC:=hid hc
 clear hS1 h he ht hnm hds hc
 go_enter Tryz.func26,Tryz.ntmps26
 go_upto_region 3 with fail
 rw [← hW1]
 clear hW1
 go_wp2_with fail
 clear c0 c1
 go_loopw [13] (fun i wr => ∃ k : Nat,i=.int .i64 k∧k≤s.defs.length∧Hid (∀ j (hj : j<s.defs.length),j<k→cN s.defs[j]=true)∧Hid (Below w.heap.size w wr)∧Hid (∃ v L,iS (w.heap.size + 1) (w.heap.size + 2) s.defs s.name k v L wr)) (fun i _ => s.defs.length - (intOf i).toNat)
 case atStart => exact ⟨0,rfl,Nat.zero_le _,fun j hj h => by omega,B1,_,_,HI0⟩
 case round =>
  obtain ⟨k,rfl,hk,HAll,HBr,HQ⟩:=hrel
  clear HI0
  obtain ⟨v,L,hI⟩:=HQ.out
  have HI:=hid hI
  clear hI HQ
  by_cases hlt : k<s.defs.length
  ·obtain ⟨b,off,rfl,hav,hbl,pa,pc,c0,c1,c2,hP,hpc⟩:=HD.out k hlt
   have k0 : wr.cell? ⟨b,off + k * 3,none⟩=some (.string (bsA s.defs[k].name)):=(HBr.out.cell (p:=⟨b,off + k * 3,none⟩) hbl).trans c0
   have k1 : wr.cell? ⟨b,off + k * 3 + 1,none⟩=some (.slice pa s.defs[k].params.length pc):=(HBr.out.cell (p:=⟨b,off + k * 3 + 1,none⟩) hbl).trans c1
   have k2 : wr.cell? ⟨b,off + k * 3 + 2,none⟩=some (.int .i64 s.defs[k].result):=(HBr.out.cell (p:=⟨b,off + k * 3 + 2,none⟩) hbl).trans c2
   have hbr : b<wr.heap.size:=by have:=HBr.out.size; omega
   have HAD:=hid (show s.defs[k].name.length≤140737488355328 from HDS.out _ (List.getElem_mem hlt))
   obtain ⟨W4,hW4⟩ : ∃ W,W=wr.alloc (.cells #[.string (bsA s.defs[k].name),.slice pa s.defs[k].params.length pc,.int .i64 s.defs[k].result] 36):=⟨_,rfl⟩
   have B4:=hid (show Below wr.heap.size wr W4 from hW4 ▸ a7 _ _)
   have K4:=hid (show y5 wr.heap.size (bsA s.defs[k].name) pa s.defs[k].params.length pc s.defs[k].result W4 from hW4 ▸ y5.make _ _ _ _ _ _)
   have HB4:=hid (HBr.out.trans (B4.out.mono HBr.out.size))
   have HI4:=hid (HI.out.below B4)
   have C1:=hid (mS s.defs[k].result W4)
   have C2:=hid (zQ _ s.defs[k].params pa pc W4 ((aV hP).move (fun b hb => HB4.out.block b hb.2) fun _ h => h) ⟨hpc.1,hpc.2.1⟩)
   have hpl : s.defs[k].params.length≤9223372036854775807:=by have h1:=hpc.1; have h2:=hpc.2.1; unfold maxLen at h2; omega
   have HFA:=hid (show cN s.defs[k]=false→o7 s=false from fun h => by rw [HR.out,yB (List.getElem_mem hlt) h]; rfl)
   have HTY:=hid (show cN s.defs[k]=(p9 s.defs[k].result && decide (s.defs[k].params.length≤8) && !(s.defs[k].params.any fun t => !p9 t)) from rfl)
   have HKD:=hid (show (s.defs.take (k + 1)).map J9=(s.defs.take k).map J9 ++ [J9 s.defs[k]] by rw [List.take_succ_eq_append_getElem hlt,List.map_append]; rfl)
   have HTK:=hid (show cN s.defs[k]=true→∀ j (hj : j<s.defs.length),j<k + 1→cN s.defs[j]=true from fun h j hj h2 => by
    by_cases e : j=k
    ·subst e; exact h
    ·exact HAll.out j hj (by omega))
   generalize s.defs[k]=d at k0 k1 k2 hW4 K4 C1 C2 hpl HFA HTY HKD HTK HAD
   obtain ⟨⟨m0,m1,m2⟩,-,hml⟩:=K4.out.cells
   clear c0 c1 c2 hP hpc HAll
   go_upto_region 6 with fail
   rw [← hW4]
   clear hW4 k0 k1 k2
   cases hr1 : p9 d.result with
   | false =>
     have FF:=hid (HFA.out (by rw [HTY.out,hr1]; rfl))
     rw [hr1] at C1
     clear hr1 HFA HTY C2
     go_wp2_with fail
     (with_reducible refine Calls.mono C1.out ?_)
     rintro e w5 ⟨rfl,rfl⟩
     go_wp2_with fail
     go_ret
     exact ⟨by rw [FF.out]; rfl,HB4⟩
   | true =>
   by_cases h8 : 8<d.params.length
   ·have FF:=hid (HFA.out (by rw [HTY.out,hr1,decide_eq_false (by omega)]; rfl))
    rw [hr1] at C1
    clear hr1 HFA HTY C2
    go_wp2_with fail
    (with_reducible refine Calls.mono C1.out ?_)
    rintro e w5 ⟨rfl,rfl⟩
    go_wp2_with fail
    go_ret
    exact ⟨by rw [FF.out]; rfl,HB4⟩
   cases hr2 : (d.params.any fun t => !p9 t) with
   | true =>
     have FF:=hid (HFA.out (by rw [HTY.out,hr1,hr2,decide_eq_true (show d.params.length≤8 by omega)]; rfl))
     rw [hr1] at C1
     rw [hr2] at C2
     clear hr1 hr2 HFA HTY
     go_wp2_with fail
     (with_reducible refine Calls.mono C1.out ?_)
     rintro e w5 ⟨rfl,rfl⟩
     go_wp2_with fail
     (with_reducible refine Calls.mono C2.out ?_)
     rintro e w5 ⟨rfl,rfl⟩
     go_wp2_with fail
     go_ret
     exact ⟨by rw [FF.out]; rfl,HB4⟩
   | false =>
     have FF:=hid (HTK.out (by rw [HTY.out,hr1,hr2,decide_eq_true (show d.params.length≤8 by omega)]; rfl))
     rw [hr1] at C1
     rw [hr2] at C2
     clear hr1 hr2 HFA HTY HTK
     go_wp2_with fail
     (with_reducible refine Calls.mono C1.out ?_)
     rintro e w5 ⟨rfl,rfl⟩
     go_wp2_with fail
     (with_reducible refine Calls.mono C2.out ?_)
     rintro e w5 ⟨rfl,rfl⟩
     clear C1 C2
     obtain ⟨q1,q2,q3,q4,q5⟩:=HI4.out
     have z0 : W4.cell? ⟨w.heap.size + 1,3,none⟩=some v:=by simp [World.cell?,q1]
     have y0 : W4.frozen? ⟨w.heap.size + 1,3,none⟩=false:=by simp [World.frozen?,q1]
     have hl4 : w.heap.size + 1<W4.heap.size:=(Array.getElem?_eq_some_iff.1 q1).1
     clear q1 q2 q3 q4 q5
     obtain ⟨i0,hi,hz0,hz1,hz2⟩:=info_parts (show (Tryz.prog.info? 24).map (fun i => (i.zero,i.size,i.bytes))=some (some (.agg #[.int .i64 0,.string ⟨#[]⟩,.int .i64 0,.slice none 0 0,.int .i64 0]),5,64) by kernel_rfl)
     have HI9:=hid (show _∧_∧_∧_ from ⟨hi,hz0,hz1,hz2⟩)
     obtain ⟨W6,hW6⟩ : ∃ W,W=(W4.alloc a0Y).alloc (.cells #[.int .i64 3,.string (bsA d.name),.int .i64 0,.slice (some ⟨W4.heap.size,0,none⟩) 1 1,.int .i64 0] 24):=⟨_,rfl⟩
     have B6:=hid (show Below W4.heap.size W4 W6 from hW6 ▸ ((a7 _ _).alloc (by simp) _))
     have HI6:=hid (HI4.out.below B6)
     have Z6:=hid (show W6.heap.size=W4.heap.size + 2 by rw [hW6]; simp)
     have HNO:=hid (show W6.heap[W4.heap.size]?=some a0Y by rw [hW6]; exact dJ (by simp) (U6 _ _))
     have HEN:=hid (show ∀ (j : Nat) u,(ndC (J9 d,some ⟨W4.heap.size,0,none⟩,1))[j]?=some u→W6.cell? ((⟨W4.heap.size + 1,0,none⟩ : Addr).add j)=some u from fun j u hu => by
      have h9 : W6.heap[W4.heap.size + 1]?=some (.cells (ndC (J9 d,some ⟨W4.heap.size,0,none⟩,1)).toArray 24 (0,0)):=by rw [hW6]; exact O0 _ _ (by simp)
      rw [Go.WideShapes.add_plain,Nat.zero_add]
      simp only [World.cell?,h9]
      simpa using hu)
     unfold a0Y at hW6
     have HW6:=hid hW6
     clear hi hz0 hz1 hz2 hW6
     go_wp2_with (at_builtin; rw [← HW6.out]; refine wpList_append_lies _ rfl _ _ 22 rfl (w.heap.size + 2) 24 i0 (.agg #[.int .i64 0,.string ⟨#[]⟩,.int .i64 0,.slice none 0 0,.int .i64 0]) 5 64 Tryz.underlying22 HI9.out.1 HI9.out.2.1 HI9.out.2.2.1 HI9.out.2.2.2 rfl (by decide) v k (bH L) rfl HI6.out.2.1 ⟨W4.heap.size + 1,0,none⟩ 1 1 (ndC (J9 d,some ⟨W4.heap.size,0,none⟩,1)) rfl rfl HEN (by intro u hu; simp [ndC] at hu; rcases hu with rfl | rfl | rfl | rfl | rfl <;> rfl) (by decide) (by unfold maxLen; omega) (by omega) (by have:=HB4.out.size; have:=B6.out.size; omega) _ rfl ?_)
     intro g cap' w7 hown hgrow hat hlt'
     have hL9:=HI6.out
     obtain ⟨q1,q2,q3,q4,q5⟩:=hL9
     have hvb : ∀ c,v.ownBlock=some c→w.heap.size + 2≤c∧c<W6.heap.size:=fun c e => q2.lt c e
     have hb4 : w7.heap[w.heap.size + 1]?=some (.cells #[.int .i64 1,.string (bsA s.name),.int .i64 0,v,.int .i64 0] 24 (0,0)):=(hgrow.block _ (Array.getElem?_eq_some_iff.1 q1).1 (fun e => by have:=(hvb _ e.symm).1; omega)).trans q1
     have hb4l : w.heap.size + 1<w7.heap.size:=(Array.getElem?_eq_some_iff.1 hb4).1
     have x0 : w7.cell? ⟨w.heap.size + 1,3,none⟩=some v:=by simp [World.cell?,hb4]
     have x1 : w7.frozen? ⟨w.heap.size + 1,3,none⟩=false:=by simp [World.frozen?,hb4]
     have hz9:=Z6.out
     have hB7:=hid (show Below w.heap.size w w7 from (HB4.out.trans (B6.out.mono HB4.out.size)).grown hgrow (by have:=HB4.out.size; have:=B6.out.size; omega) (fun r e => by have:=(hvb r e).1; omega))
     have hgl : g<w7.heap.size∧w.heap.size + 2≤g:=⟨hlt',(hown.lt g rfl).1⟩
     have hI8 : iS (w.heap.size + 1) (w.heap.size + 2) s.defs s.name (k + 1) (.slice (some ⟨g,0,none⟩) (k + 1) cap') (L ++ [(J9 d,some ⟨W4.heap.size,0,none⟩,1)]) (w7.setCell ⟨w.heap.size + 1,3,none⟩ (.slice (some ⟨g,0,none⟩) (k + 1) cap')):=by
      have hk9 : ∀ c,c≠w.heap.size + 1→(w7.setCell ⟨w.heap.size + 1,3,none⟩ (.slice (some ⟨g,0,none⟩) (k + 1) cap')).heap[c]?=w7.heap[c]?:=fun c hc => Below.heap_setCell _ _ _ _ hc
      refine ⟨j9 hb4 3 _,eH (by rw [fX]; exact hown) (hk9 g (by omega)),by rw [List.length_append,q3]; rfl,by rw [HKD.out,List.map_append,q4]; rfl,fun e he => ?_⟩
      rcases List.mem_append.1 he with he | he
      ·obtain ⟨d',x,e1,e2,e3,e4,e5⟩:=q5 e he
       have hx6 : x<W6.heap.size:=(Array.getElem?_eq_some_iff.1 e5).1
       refine ⟨d',x,e1,e2,e3,fun e9 => ?_,(hk9 x (by omega)).trans ((hgrow.block x hx6 (fun e9 => e4 e9.symm)).trans e5)⟩
       have e9' : g=x:=Option.some.inj (show some g=some x from e9)
       rcases hat with h9 | h9
       ·exact e4 (e9' ▸ h9)
       ·omega
      ·obtain rfl:=List.mem_singleton.1 he
       have h4:=HB4.out.size
       have hw4:=(Array.getElem?_eq_some_iff.1 HNO).1
       have hv4 : v.ownBlock≠some W4.heap.size:=fun e9 => by
        have:=HI4.out.2.1.lt _ e9
        omega
       refine ⟨d,W4.heap.size,rfl,Nat.le_trans HAD (by unfold maxLen; omega),by omega,fun e9 => ?_,(hk9 _ (by omega)).trans ((hgrow.block _ hw4 (fun e9 => hv4 e9.symm)).trans HNO)⟩
       have e9' : g=W4.heap.size:=Option.some.inj (show some g=some W4.heap.size from e9)
       rcases hat with h9 | h9
       ·exact hv4 (e9' ▸ h9)
       ·omega
     obtain ⟨W8,hW8⟩ : ∃ W,W=w7.setCell ⟨w.heap.size + 1,3,none⟩ (.slice (some ⟨g,0,none⟩) (k + 1) cap'):=⟨_,rfl⟩
     have HB8:=hid (show Below w.heap.size w W8 from hW8 ▸ hB7.out.setCell (p:=⟨w.heap.size + 1,3,none⟩) (by show w.heap.size≤w.heap.size + 1; omega) _)
     rw [← hW8] at hI8
     have HI8:=hid hI8
     clear q1 q2 q3 q4 q5 hvb hgrow hat hlt' hown hI8 hb4 hgl hz9
     go_wp2_with fail
     rw [← hW8]
     clear hW8
     go_roundw
     case rel => exact ⟨k + 1,by go_num,by omega,FF,HB8,_,_,HI8⟩
     case measure => simp [intOf]; omega
  ·obtain rfl : k=s.defs.length:=by omega
   obtain ⟨q1,q2,q3,q4,q5⟩:=HI.out
   obtain ⟨a,cp,hv⟩ : ∃ a cp,v=.slice a s.defs.length cp∧Nd.lie (· < wr.heap.size) wr (s.defs.map J9) a 0∧s.defs.length≤cp∧cp≤maxLen:=by
    have hls : ∀ e∈L,e.1.lies (· < wr.heap.size) wr e.2.1 e.2.2:=fun e he => by
     obtain ⟨d',x,rfl,e2,e3,e4,e5⟩:=q5 e he
     exact a5d e5 (Array.getElem?_eq_some_iff.1 e5).1 e2
    have q4' : L.map (·.1)=s.defs.map J9:=by rw [q4,List.take_of_length_le (Nat.le_refl _)]
    have q2':=q2
    rw [← q3] at q2'
    rcases q2.2 with ⟨e,h0⟩ | ⟨g,cap,cur,e,hb,hg,h1,h2,-⟩
    ·have h9 : s.defs=[]:=List.length_eq_zero_iff.1 h0
     exact ⟨none,0,by rw [e,h0],by rw [h9]; trivial,by omega,Nat.zero_le _⟩
    ·rw [e,← q3] at q2'
     refine ⟨some ⟨g,0,none⟩,cap,e,?_,h1,h2⟩
     rw [← q4']
     exact jY q2' (Array.getElem?_eq_some_iff.1 hg).1 hls
   obtain ⟨rfl,hlie,hcp⟩:=hv
   have hok : s.defs.all cN=true:=a3q fun j hj => HAll.out j hj hj
   have HRR:=hid (show o7 s=J4 (bQ s) by rw [HR.out,hok]; rfl)
   have hlies : (bQ s).lies (· < wr.heap.size) wr a cp:=⟨by decide,(by have:=HNM.out; show (bsA s.name).size≤maxLen; unfold maxLen; simp only [bsA,ByteArray.size,List.size_toArray]; omega),by decide,by decide,by rw [List.length_map]; exact hcp.1,hcp.2,hlie⟩
   have hshort : o6 (bQ s):=⟨by have:=HNM.out; simpa [bsA,ByteArray.size] using this,pF fun d hd => HDS.out d hd⟩
   have C:=hid (kQ (bQ s) a cp wr.heap.size wr (Nd.lies.hold _ hlies) hshort (Nat.le_refl _) (HE.out.below HBr) (HT.out.below HBr))
   rw [show (bQ s).kind=1 from rfl,show (bQ s).text=bsA s.name from rfl,show (bQ s).n=0 from rfl,show (bQ s).place=0 from rfl,show (bQ s).kids.length=s.defs.length from List.length_map ..] at C
   have z0 : wr.cell? ⟨w.heap.size + 1,0,none⟩=some (.int .i64 1):=by simp [World.cell?,q1]
   have z1 : wr.cell? ⟨w.heap.size + 1,1,none⟩=some (.string (bsA s.name)):=by simp [World.cell?,q1]
   have z2 : wr.cell? ⟨w.heap.size + 1,2,none⟩=some (.int .i64 0):=by simp [World.cell?,q1]
   have z3 : wr.cell? ⟨w.heap.size + 1,3,none⟩=some (.slice a s.defs.length cp):=by simp [World.cell?,q1]
   have z4 : wr.cell? ⟨w.heap.size + 1,4,none⟩=some (.int .i64 0):=by simp [World.cell?,q1]
   clear q1 q2 q3 q4 q5 hlie hcp hok hlies hshort HI
   go_wp2_with fail
   (with_reducible refine Calls.mono C.out ?_)
   rintro e w9 ⟨rfl,hb⟩
   rw [← HRR.out]
   have HB9:=hid (HBr.out.trans (hb.mono HBr.out.size))
   clear hb C
   go_wp2_with fail
   go_ret
   exact ⟨rfl,HB9⟩
end
section
open Lib (hid)
open Go.RowKit
def kZ (l : List Sht) : Prop:=∀ s∈l,s.defs.length≤1000000∧s.name.length≤140737488355328∧∀ d∈s.defs,d.name.length≤140737488355328
theorem a2A {av : Nat→Prop} {W W' : World} {a : Option Addr} {l : List Int} (h : y6 av W a l) (hb : Below W.heap.size W W') : y6 av W' a l :=
 (aV h).move (fun b hb' => hb.block b hb'.2) fun _ h => h.1
theorem dS {av : Nat→Prop} {W W' : World} {a : Option Addr} {l : List Sch} (h : bS av W a l) (hb : Below W.heap.size W W') : bS av W' a l:=fun j hj => by
 obtain ⟨b,off,h1,h2,h3,pa,pc,c0,c1,c2,hI,hp⟩:=h j hj
 exact ⟨b,off,h1,h2,Nat.lt_of_lt_of_le h3 hb.size,pa,pc,(hb.cell (p:=⟨b,off + j * 3,none⟩) h3).trans c0,(hb.cell (p:=⟨b,off + j * 3 + 1,none⟩) h3).trans c1,(hb.cell (p:=⟨b,off + j * 3 + 2,none⟩) h3).trans c2,a2A hI hb,hp⟩
theorem tN {av : Nat→Prop} {W W' : World} {a : Option Addr} {l : List Sht} (h : bB av W a l) (hb : Below W.heap.size W W') : bB av W' a l:=fun j hj => by
 obtain ⟨b,off,da,dc,k1,k2,k3,k4,k5,k6,k7,k8⟩:=h j hj
 exact ⟨b,off,da,dc,k1,k2,Nat.lt_of_lt_of_le k3 hb.size,(hb.cell (p:=⟨b,off + j * 2,none⟩) k3).trans k4,(hb.cell (p:=⟨b,off + j * 2 + 1,none⟩) k3).trans k5,k6,k7,dS k8 hb⟩
theorem nJ (av : Nat→Prop) (s : Sht) (da : Option Addr) (dc : Nat) (w : World) (h : bS av w da s.defs) (hc : s.defs.length≤dc∧dc≤maxLen) (hg : s.defs.length≤1000000∧s.name.length≤140737488355328∧∀ d∈s.defs,d.name.length≤140737488355328) (he : Env w) (ht : Tab w) :
 Calls Tryz.prog 25 #[.agg #[.string (bsA s.name),.slice da s.defs.length dc]] w fun e w' => e=.returned (.bool (!o7 s))∧Below w.heap.size w w':=by
 obtain ⟨W1,hW1⟩ : ∃ W,W=w.alloc (.cells #[.string (bsA s.name),.slice da s.defs.length dc] 29):=⟨_,rfl⟩
 have B1:=hid (show Below w.heap.size w W1 from hW1 ▸ a7 _ _)
 have hS1 : W1.heap[w.heap.size]?=some (.cells #[.string (bsA s.name),.slice da s.defs.length dc] 29 (0,0)):=by rw [hW1]; exact U6 _ _
 have c0 : W1.cell? ⟨w.heap.size,0,none⟩=some (.string (bsA s.name)):=by simp [World.cell?,hS1]
 have c1 : W1.cell? ⟨w.heap.size,1,none⟩=some (.slice da s.defs.length dc):=by simp [World.cell?,hS1]
 have hl1 : w.heap.size<W1.heap.size:=(Array.getElem?_eq_some_iff.1 hS1).1
 have C:=hid (vD av s da dc W1 (dS h B1) hc hg.1 hg.2.1 hg.2.2 (he.below B1) (ht.below B1))
 clear hS1 h hc hg he ht
 go_enter Tryz.func25,Tryz.ntmps25
 go_upto_region 1 with fail
 rw [← hW1]
 clear hW1
 go_wp2_with fail
 (with_reducible refine Calls.mono C.out ?_)
 rintro e w2 ⟨rfl,hb⟩
 have HB:=hid (B1.out.trans (hb.mono B1.out.size))
 clear hb C
 go_wp2_with fail
 go_ret
 exact ⟨rfl,HB⟩
theorem a06 (av : Nat→Prop) (l : List Sht) (a : Option Addr) (cap : Nat) (w : World) (h : bB av w a l) (hc : l.length≤cap∧cap≤maxLen) (hg : kZ l) (he : Env w) (ht : Tab w) :
 Calls Tryz.prog 44 #[.slice a l.length cap,.func (.func 25) #[] #[]] w fun e w' => e=.returned (.int .i64 (cF (fun s => !o7 s) l))∧Below w.heap.size w w':=by
 have eg:=enters_of Tryz.func25 (by kernel_rfl) rfl
 have hl : l.length≤9223372036854775807:=by have:=hc; unfold maxLen at this; omega
 have HL:=hid h
 have HG:=hid hg
 have HE:=hid he
 have HT:=hid ht
 clear h hc hg he ht
 go_enter Tryz.func44,Tryz.ntmps44
 go_wp2_with fail
 go_loopw [8] (fun i wr => ∃ k : Nat,k≤l.length∧i=.int .i64 k∧Hid (∀ j (hj : j<l.length),j<k→o7 l[j]=true)∧Hid (Below w.heap.size w wr)) (fun i _ => l.length - (intOf i).toNat)
 case atStart => exact ⟨0,Nat.zero_le _,rfl,fun j hj h => by omega,Below.refl _ _⟩
 case round =>
  obtain ⟨k,hk,rfl,HAll,HBr⟩:=hrel
  by_cases hlt : k<l.length
  ·obtain ⟨b,off,da,dc,rfl,-,hbl,c0,c1,hd1,hd2,hS⟩:=tN HL HBr k hlt
   have C:=hid (nJ av l[k] da dc wr hS ⟨hd1,hd2⟩ (HG.out _ (List.getElem_mem hlt)) (HE.out.below HBr) (HT.out.below HBr))
   clear hS
   cases hr : o7 l[k]
   ·have F:=hid (show cF (fun s => !o7 s) l=k from kA hlt (fun j hj h => by rw [HAll.out j hj h]; rfl) (by rw [hr]; rfl))
    rw [hr] at C
    clear hr
    go_wp2_with fail
    refine Calls.mono C.out ?_
    rintro e w4 ⟨rfl,hb⟩
    have HB:=hid (HBr.out.trans (hb.mono HBr.out.size))
    clear hb
    go_wp2_with fail
    go_ret
    exact ⟨dH F.out.symm,HB⟩
   ·have HR:=hid hr
    rw [hr] at C
    clear hr
    go_wp2_with fail
    refine Calls.mono C.out ?_
    rintro e w4 ⟨rfl,hb⟩
    have HB:=hid (HBr.out.trans (hb.mono HBr.out.size))
    clear hb
    go_wp2_with fail
    go_roundw
    case rel =>
     refine ⟨k + 1,by omega,by go_num,fun j hj h => ?_,HB⟩
     by_cases e : j=k
     ·subst e; exact HR
     ·exact HAll.out j hj (by omega)
    case measure => simp [intOf]; omega
  ·have F:=hid (show cF (fun s => !o7 s) l=-1 from iM fun j hj => by rw [HAll.out j hj (by omega)]; rfl)
   go_wp2_with fail
   go_ret
   exact ⟨dH F.out.symm,HBr⟩
theorem zY (av : Nat→Prop) (l : List Sht) (a : Option Addr) (cap : Nat) (w : World) (h : bB av w a l) (hc : l.length≤cap∧cap≤maxLen) (hg : kZ l) (he : Env w) (ht : Tab w) :
 Calls Tryz.prog 24 #[.slice a l.length cap,.func (.func 25) #[] #[]] w fun e w' => e=.returned (.bool (l.any fun s => !o7 s))∧Below w.heap.size w w':=by
 have C:=hid (a06 av l a cap w h hc hg he ht)
 have E:=hid (tO (fun s => !o7 s) l)
 generalize cF (fun s => !o7 s) l=x at C E
 clear h hc hg he ht
 go_enter Tryz.func24,Tryz.ntmps24
 go_wp2_with fail
 (with_reducible refine Calls.mono C.out ?_)
 rintro e w2 ⟨rfl,hb⟩
 have HB:=hid hb
 clear hb C
 go_wp2_with fail
 go_ret
 exact ⟨y9 E,HB⟩
theorem rU (s : Sht) (t : Nd) (ta : Option Addr) (tc nb : Nat) (dv : Option Addr) (dn dc : Nat) (w : World) (hn : c6 nb t ta tc w) :
 Calls Tryz.prog 51 #[.agg #[.string (bsA s.name),.slice dv dn dc],.pointer (some ⟨nb,0,none⟩)] w fun e w' => e=.returned (.bool (s.name == t.text.data.toList))∧Below w.heap.size w w':=by
 obtain ⟨⟨n0,n1,n2,n3,n4⟩,-⟩:=hn.cells
 have hl:=hn.lt
 have E : Hid ((s.name == t.text.data.toList)=((bsA s.name).toList == t.text.toList)):=by
  rw [Lib.toList_data,Lib.toList_data]; rfl
 clear hn
 go_enter Tryz.func51,Tryz.ntmps51
 go_wp2_with fail
 go_ret
 exact ⟨by rw [E.out]; rfl,a7 _ _⟩
theorem iV (av : Nat→Prop) (l : List Sht) (a : Option Addr) (cap : Nat) (t : Nd) (ta : Option Addr) (tc nb : Nat) (w : World) (h : bB av w a l) (hc : l.length≤cap∧cap≤maxLen) (hn : c6 nb t ta tc w) :
 Calls Tryz.prog 44 #[.slice a l.length cap,.func (.func 51) #[] #[.pointer (some ⟨nb,0,none⟩)]] w fun e w' => e=.returned (.int .i64 (cF (fun s => s.name == t.text.data.toList) l))∧Below w.heap.size w w':=by
 have eg:=enters_of Tryz.func51 (by kernel_rfl) rfl
 have hl : l.length≤9223372036854775807:=by have:=hc; unfold maxLen at this; omega
 have HL:=hid h
 have HN:=hid hn
 clear h hc hn
 go_enter Tryz.func44,Tryz.ntmps44
 go_wp2_with fail
 go_loopw [8] (fun i wr => ∃ k : Nat,k≤l.length∧i=.int .i64 k∧Hid (∀ j (hj : j<l.length),j<k→(l[j].name == t.text.data.toList)=false)∧Hid (Below w.heap.size w wr)) (fun i _ => l.length - (intOf i).toNat)
 case atStart => exact ⟨0,Nat.zero_le _,rfl,fun j hj h => by omega,Below.refl _ _⟩
 case round =>
  obtain ⟨k,hk,rfl,HAll,HBr⟩:=hrel
  by_cases hlt : k<l.length
  ·obtain ⟨b,off,da,dc,rfl,-,hbl,c0,c1,hd1,hd2,hS⟩:=tN HL HBr k hlt
   have C:=hid (rU l[k] t ta tc nb da l[k].defs.length dc wr (HN.out.below HBr))
   clear hS
   cases hr : (l[k].name == t.text.data.toList)
   ·have HR:=hid hr
    rw [hr] at C
    clear hr
    go_wp2_with fail
    refine Calls.mono C.out ?_
    rintro e w4 ⟨rfl,hb⟩
    have HB:=hid (HBr.out.trans (hb.mono HBr.out.size))
    clear hb
    go_wp2_with fail
    go_roundw
    case rel =>
     refine ⟨k + 1,by omega,by go_num,fun j hj h => ?_,HB⟩
     by_cases e : j=k
     ·subst e; exact HR
     ·exact HAll.out j hj (by omega)
    case measure => simp [intOf]; omega
   ·have F:=hid (show cF (fun s => s.name == t.text.data.toList) l=k from kA hlt (fun j hj h => HAll.out j hj h) hr)
    rw [hr] at C
    clear hr
    go_wp2_with fail
    refine Calls.mono C.out ?_
    rintro e w4 ⟨rfl,hb⟩
    have HB:=hid (HBr.out.trans (hb.mono HBr.out.size))
    clear hb
    go_wp2_with fail
    go_ret
    exact ⟨dH F.out.symm,HB⟩
  ·have F:=hid (show cF (fun s => s.name == t.text.data.toList) l=-1 from iM fun j hj => HAll.out j hj (by omega))
   go_wp2_with fail
   go_ret
   exact ⟨dH F.out.symm,HBr⟩
end
section
open Go.ChangeShapes Go.WideShapes Go.ChangeAt Go.RowKit
theorem jX {H : Type} {enc : TypeId × Value→H} {C : Checked} {os : Os} {f : FuncId} {fn : Func} {s : OpenSpec} {conds : List PathCond} {apart : Bool} {laid : List (String × DataW Unit)} (modest : Bool) (w0 : World) (args : Array Value) (hos : w0.os=os)
 (hv : (w0.forCall (fun _ _ => 0) ⟨#[],args,[]⟩).variablesZipB C.prog=true)
 (hr : ((w0.forCall (fun _ _ => 0) ⟨#[],args,[]⟩).heap.toList.drop C.prog.globals.size).take ((begin C.prog (fun _ _ => 0) default).world.heap.size - C.prog.globals.size) =
   (begin C.prog (fun _ _ => 0) default).world.heap.toList.drop C.prog.globals.size)
 (hok : Input.okWideB C.prog (w0.forCall (fun _ _ => 0) ⟨#[],args,[]⟩) f ⟨#[],args,[]⟩=true)
 (hrow : s.preRow enc C.prog fn conds apart laid (w0.forCall (fun _ _ => 0) ⟨#[],args,[]⟩).memory args) :
 ∃ (w : World) (tape : Tape) (i : Input),w.os=os∧(w.forCall tape i).Shaped C.prog∧i.vars=[]∧Input.okWide C.prog (w.forCall tape i) .any w.heap.size f i ∧
  s.preRow enc C.prog fn conds apart laid (w.forCall tape i).memory i.args∧({ modest:=modest } : Assume).holds C.prog (lone (Frame.enter C.prog f i.args .normal) [] (w.forCall tape i)) :=
 ⟨w0,fun _ _ => 0,⟨#[],args,[]⟩,hos,World.shaped_of_ZipB hv hr,(Input.okWide_of_okWideB (base:=0) hok).1,(Input.okWide_of_okWideB hok).2,hrow,by
  simp only [Assume.holds]
  exact ⟨by simp,by simp,fun _ => Modest.zero,by simp,by simp⟩⟩
theorem a4C : Tryz.prog.globalNamed "strings.asciiSpace"=some 0:=by kernel_rfl
theorem xC : (Tryz.prog.globals[0]?).map (·.type)=some 123:=by kernel_rfl
theorem a3k : Tryz.prog.underlying 123=some (.array 256 5):=by kernel_rfl
theorem u8U : Tryz.prog.underlying 5=some (.int .u8):=by kernel_rfl
theorem u8C : Tryz.prog.cellsOf 5=1:=by kernel_rfl
theorem a3z : Tryz.prog.cellsOf 123=256:=by kernel_rfl
end
section
open Go.ChangeShapes Go.WideShapes Go.ChangeAt Go.RowKit
def fL : List (String × DataW Unit):=[("math/bits.deBruijn32tab",Rows.laid_math_bits_deBruijn32tab),("math/bits.deBruijn64tab",Rows.laid_math_bits_deBruijn64tab),("internal/strconv.uint64pow10",Rows.laid_internal_strconv_uint64pow10),("unicode/utf8.acceptRanges",Rows.laid_unicode_utf8_acceptRanges),("unicode.White_Space",Rows.laid_unicode_White_Space),("strings.asciiSpace",Rows.laid_strings_asciiSpace),("unicode/utf8.first",Rows.laid_unicode_utf8_first)]
noncomputable def fM (os : Os) : World:=World.laidAll Tryz.prog os fL
theorem a2F {W : World} (h : laidMetH Tryz.prog fL W) : bZ W:=by
 have h' : laidMet Tryz.prog fL W:=h
 exact Lib.tabIs_of_head a4C xC a3k u8U u8C a3z h'.tail.tail.tail.tail.tail
theorem a3j {W : World} (h : laidMetH Tryz.prog fL W) : Tab W:=by
 have h' : laidMet Tryz.prog fL W:=h
 exact Lib.tabIs_of_head a5L a2i a5A a5J a5H a5q h'.tail.tail
end
end Go.Proofs.YtppcfebnaieciaaGreatDoor
