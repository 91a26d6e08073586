/-
  Laws that the proof rests on.
-/
import Derived.Test.YteefedkmgnepmaaGreatDoorE28
import Derived.Test.YteefedkmgnepmaaGreatDoorE08
namespace Go.Proofs.YteefedkmgnepmaaGreatDoor
set_option maxRecDepth 100000
set_option maxHeartbeats 16000000
def bZz : List UInt8:=[122,122]
def gH (d : Sch) : Int:=if d.result<5 then d.result else if d.result∈d.params then 0 else 5
theorem a6w : OwnM [] 0:=⟨fun _ _ h => (by cases h),fun _ _ _ h => (by cases h),fun _ _ h => (by cases h)⟩
theorem a02 {s : List UInt8} (h : l9 s=true) : ∀ j (hj : j<s.length),s[j]≠46:=by
 have hn : p6 s=true:=by unfold l9 at h; rw [Bool.and_eq_true] at h; exact h.1
 obtain ⟨c,r,rfl,hc,ht,-⟩:=bC hn
 have h1 : ∀ c,smC c=true→c≠46:=fun c h => by
  have:=R8 (p:=fun c => !smC c || c != 46) (by decide +kernel) c
  rw [h] at this
  simpa using this
 have h2 : ∀ c,inC c=true→c≠46:=fun c h => by
  have:=R8 (p:=fun c => !inC c || c != 46) (by decide +kernel) c
  rw [h] at this
  simpa using this
 intro j hj
 cases j with
 | zero => exact h1 _ hc
 | succ j => exact h2 _ (List.all_eq_true.1 ht _ (List.getElem_mem _))
theorem a4i {E : Env7} (hp : E.params=[]) (h1 : i8 E.defs vN=none) (h2 : i8 E.defs jU=none) {d : Sch} (hd : i8 E.defs d.name=some d) (hok : O8 d=true) :
 ∃ r S',g9 E (nC d) []=.ok (r,S')∧D9 ([r].map (j6 S')) []=[gH d]:=by
 have hok':=hok
 unfold O8 p9 at hok'
 simp only [Bool.and_eq_true,decide_eq_true_eq,List.all_eq_true] at hok'
 obtain ⟨⟨⟨hnear,hres⟩,-⟩,hpars⟩:=hok'
 have hm : y5 E d.name=some d:=by rw [lY (a02 hnear),hd]; rfl
 have hpar : aM E d.name=none:=by unfold aM; rw [hp]; rfl
 obtain ⟨m,n,e1,-,hM,hall⟩:=kJ (d.params ++ [d.result]) [] 0 a6w
 obtain ⟨S',a1,a2⟩:=rN hp h1 h2 hM d.params (fun _ => False) (l7 n) (fun t ht => (hpars t ht).1) (fun t ht => hall t (List.mem_append_left _ ht)) ⟨U2 n,fun t x hx => ⟨fun h => h.elim,fun _ => by
  obtain ⟨i,hi,rfl⟩:=hM.range t x hx
  rw [a45,dW (by rw [U2]; exact hi)]
  have:=a1w hi
  rw [List.getElem?_eq_getElem (by rw [U2]; exact hi)] at this
  exact Option.some.inj this⟩⟩
 have hw : ∀ k : Int,(k=10∧d.params.length=0)∨k=11→R7 E k d.name d.params.length 0 []=.ok ((d.params.map (lkT m),lkT m d.result),l7 n):=fun k hk => by
  unfold R7
  rw [if_neg (by omega),if_neg (by omega),if_neg (by omega),if_neg (by omega),if_neg (by omega),if_neg (by omega),if_neg (by omega),if_neg (by omega),hpar,hm]
  show (if d.params.length=d.params.length then Except.ok (((p5 (d.params ++ [d.result]) [] []).1.dropLast,(p5 (d.params ++ [d.result]) [] []).1.getLastD 0),(p5 (d.params ++ [d.result]) [] []).2) else _)=_
  rw [if_pos rfl]
  have e2 : p5 (d.params ++ [d.result]) [] []=((d.params ++ [d.result]).map (lkT m),l7 n):=e1
  rw [e2,List.map_append]
  show Except.ok ((((d.params.map (lkT m)) ++ [lkT m d.result]).dropLast,((d.params.map (lkT m)) ++ [lkT m d.result]).getLastD 0),l7 n)=_
  rw [List.dropLast_concat,List.getLastD_concat]
 have hu : g9 E (nC d) []=.ok (lkT m d.result,S'):=by
  unfold nC
  split
  ·rename_i h0
   have hnil : d.params=[]:=List.length_eq_zero_iff.1 h0
   unfold mkN
   rw [g9]
   have:=hw 10 (.inl ⟨rfl,h0⟩)
   rw [h0] at this
   show ((R7 E 10 d.name 0 0 []).then fun l S => (l8 E [] l.1 S).then fun _ S => .ok (l.2,S))=_
   rw [this]
   rw [hnil] at a1 ⊢
   show ((l8 E [] [] (l7 n)).then fun _ S => .ok (lkT m d.result,S))=_
   rw [show l8 E [] [] (l7 n)=.ok ((),S') from a1]
   rfl
  ·unfold mkN
   rw [g9,List.length_map]
   show ((R7 E 11 d.name d.params.length 0 []).then fun l S => (l8 E (d.params.map eS) l.1 S).then fun _ S => .ok (l.2,S))=_
   rw [hw 11 (.inr rfl)]
   show ((l8 E (d.params.map eS) (d.params.map (lkT m)) (l7 n)).then fun _ S => .ok (lkT m d.result,S))=_
   rw [a1]
   rfl
 refine ⟨_,_,hu,?_⟩
 rw [List.map_cons,List.map_nil]
 unfold gH
 by_cases h5 : d.result<5
 ·have e : j6 S' (lkT m d.result)=d.result:=by unfold lkT; rw [if_pos h5]; unfold j6; rw [if_pos h5]
  rw [e,if_pos h5,D9,if_pos h5,D9]
 ·obtain ⟨x,hx⟩:=hall d.result (by simp) h5
  have elk : lkT m d.result=x:=by unfold lkT; rw [if_neg h5,hx]; rfl
  rw [elk,if_neg h5]
  by_cases hin : d.result∈d.params
  ·rw [(a2.2 _ x hx).1 (.inr hin),if_pos hin]
   rfl
  ·rw [(a2.2 _ x hx).2 (fun h => h.elim id hin),if_neg hin]
   obtain ⟨i,hi,rfl⟩:=hM.range _ x hx
   rw [D9,if_neg (by omega),if_neg (by simp),D9]
   rfl
theorem a6G {sheets : List Sht} {defs : List Sch} {t : Nd} {d : Sch} (h : cH sheets defs t=.ok d) : i8 m5 d.name=none∧i8 defs d.name=none:=by
 unfold cH at h
 split at h
 ·cases h
 rename_i hno
 rw [Bool.or_eq_true,not_or] at hno
 have hn : ∀ x : Option Sch,¬ x.isSome=true→x=none:=fun x h => by cases x with
  | none => rfl
  | some _ => exact (h rfl).elim
 cases hp : Q3 t.kids.dropLast [] with
 | error e => rw [hp] at h; cases h
 | ok ps =>
   rw [hp] at h
   simp only at h
   cases hty : g9 ⟨sheets,defs,ps⟩ (I5 t) (l7 ps.length) with
   | error e => rw [hty] at h; cases h
   | ok q =>
     rw [hty] at h
     cases h
     exact ⟨hn _ hno.1,hn _ hno.2⟩
theorem sW {own : List UInt8} {all sheets : List Sht} : ∀ (ks : List Nd) (defs ds : List Sch),(∀ k∈ks,k.kind=3)→(∀ d∈defs,i8 defs d.name=some d∧i8 m5 d.name=none)→r8 own all ks sheets defs=.ok ds→∀ d∈ds,i8 ds d.name=some d∧i8 m5 d.name=none
 | [],defs,ds,_,hd,h => by
   rw [r8] at h
   cases h
   exact hd
 | k :: ks,defs,ds,hk,hd,h => by
   rw [r8,if_neg (by rw [hk k (List.mem_cons_self ..)]; decide)] at h
   cases hl : cH sheets defs k with
   | error e => rw [hl] at h; cases h
   | ok d =>
     rw [hl] at h
     have hnew:=a6G hl
     refine sW ks (defs ++ [d]) ds (fun x hx => hk x (List.mem_cons_of_mem _ hx)) (fun x hx => ?_) h
     rw [a3O]
     rcases List.mem_append.1 hx with hx | hx
     ·rw [(hd x hx).1]; exact ⟨rfl,(hd x hx).2⟩
     ·obtain rfl:=List.mem_singleton.1 hx
      rw [hnew.2]
      refine ⟨?_,hnew.1⟩
      show i8 [x] x.name=some x
      unfold i8
      simp
theorem sI {own : List UInt8} {all sheets : List Sht} {k : Nd} {d : Sch} : ∀ (ks : List Nd) (defs ds : List Sch),(∀ x∈ks,x.kind=3)→k.kind=3→r8 own all ks sheets defs=.ok ds→cH sheets ds k=.ok d→r8 own all (ks ++ [k]) sheets defs=.ok (ds ++ [d])
 | [],defs,ds,_,h3,h,hl => by
   rw [r8] at h
   cases h
   rw [List.nil_append,r8,if_neg (by rw [h3]; decide),hl]
   show r8 own all [] sheets _=_
   rw [r8]
 | x :: ks,defs,ds,hk,h3,h,hl => by
   have hx:=hk x (List.mem_cons_self ..)
   rw [r8,if_neg (by rw [hx]; decide)] at h
   rw [List.cons_append,r8,if_neg (by rw [hx]; decide)]
   cases hlt : cH sheets defs x with
   | error e => rw [hlt] at h; cases h
   | ok y =>
     rw [hlt] at h
     exact sI ks _ ds (fun x hx => hk x (List.mem_cons_of_mem _ hx)) h3 h hl
def fS (t u : Nd) : Nd:=.mk t.kind t.text t.n (t.kids ++ [mkN 3 bZz 0 [u] 0]) t.place
theorem a4b {t u : Nd} {s : Sht} {d : Sch} (h : y4 t []=.ok s) (hl : t.kids.length<200) (hd : d∈s.defs) (hz : i8 s.defs bZz=none) (hu : fW u (nC d)=true) (hs : O4 (fS t u)=true) :
 y4 (fS t u) []=.ok ⟨s.name,s.defs ++ [⟨bZz,[],gH d⟩]⟩:=by
 have h3:=a5U h
 obtain ⟨-,hsht,-⟩:=kR h
 obtain ⟨hm,-,hn,hks⟩:=a3H h
 have hok : O8 d=true:=by
  unfold O0 at hsht
  simp only [Bool.and_eq_true,List.all_eq_true] at hsht
  exact hsht.2 d hd
 have huq:=sW t.kids [] s.defs h3 (fun x hx => (List.not_mem_nil hx).elim) hks
 have hb : ∀ b,i8 m5 b≠none→i8 s.defs b=none:=fun b hb => iY fun j hj e => hb (e ▸ (huq _ (List.getElem_mem hj)).2)
 obtain ⟨r,S',ht,hnum⟩:=a4i (E:=⟨[],s.defs,[]⟩) rfl (hb vN (by decide)) (hb jU (by decide)) (huq d hd).1 hok
 have hlet : cH [] s.defs (mkN 3 bZz 0 [u] 0)=.ok ⟨bZz,[],gH d⟩:=by
  unfold cH
  have e0 : (mkN 3 bZz 0 [u] 0).text.data.toList=bZz:=rfl
  rw [e0,hz,show i8 m5 bZz=none by decide]
  show (match Q3 [] [] with
   | .error e => .error e
   | .ok ps => match g9 ⟨[],s.defs,ps⟩ u (l7 ps.length) with
     | .error e => .error e
     | .ok (r,S) => .ok ⟨bZz,(D9 ((l7 ps.length ++ [r]).map (j6 S)) []).dropLast,(D9 ((l7 ps.length ++ [r]).map (j6 S)) []).getLastD 0⟩ : Except (Int × Int) Sch)=_
  rw [Q3]
  show (match g9 ⟨[],s.defs,[]⟩ u [] with
   | .error e => .error e
   | .ok (r,S) => .ok ⟨bZz,(D9 (([] ++ [r]).map (j6 S)) []).dropLast,(D9 (([] ++ [r]).map (j6 S)) []).getLastD 0⟩ : Except (Int × Int) Sch)=_
  rw [tQ u (nC d) [] _ hu ht]
  show Except.ok (⟨bZz,(D9 (([] ++ [r]).map (j6 S')) []).dropLast,(D9 (([] ++ [r]).map (j6 S')) []).getLastD 0⟩ : Sch)=_
  rw [List.nil_append,hnum]
  rfl
 have hmod : L4 (fS t u)=true:=by
  rw [cU,decide_eq_true_eq] at hs
  unfold fS at hs ⊢
  rw [j3] at hs
  refine a3N hm (fun x hx => ?_) hs (by rw [List.length_append]; show _ + 1≤200; omega)
  rcases List.mem_append.1 hx with hx | hx
  ·have hkx:=h3 x hx
   obtain ⟨j,hj,rfl⟩:=List.getElem_of_mem hx
   rcases tZ hm j hj with ⟨e,-⟩ | ⟨-,e⟩
   ·omega
   ·exact ⟨hkx,e⟩
  ·obtain rfl:=List.mem_singleton.1 hx
   refine ⟨rfl,?_⟩
   rw [cO]
   have hr : d5 (I5 (mkN 3 bZz 0 [u] 0)) 1=true:=by
    show d5 u 1=true
    rw [a0p hu 1]
    exact tH hok
   rw [hr]
   show (true && l9 bZz && true && true && true && true)=true
   rw [show l9 bZz=true by decide +kernel]
   rfl
 unfold y4
 rw [if_pos ⟨hmod,rfl⟩]
 show (match r8 t.text.data.toList [] (t.kids ++ [mkN 3 bZz 0 [u] 0]) [] [] with
  | .error e => (.error e : Except (Int × Int) Sht)
  | .ok ds => .ok ⟨t.text.data.toList,ds⟩)=_
 rw [sI t.kids [] s.defs h3 rfl hks hlet,hn]
section
open Lib (hid)
open Go.RowKit
theorem V0 {w W : World} {P : Nat} (h : w.grownBy W (some P)) (hP : w.heap.size≤P) : Below w.heap.size w W:=⟨h.os,h.tape,h.output,h.size,fun k hk => h.block k hk (fun e => by have:=Option.some.inj e; omega)⟩
theorem SP.make {g cap : Nat} {ts : List Tk} {base : Nat} {w : World} {T : TypeId} (h : w.ownsRow base T 4 (.slice (some ⟨g,0,none⟩) ts.length cap) ts.length (F4 ts)) (hne : ts≠[]) :
 SP w.heap.size g cap ts 0 (.ok ts) (w.alloc (.cells #[.slice (some ⟨g,0,none⟩) ts.length cap,.int .i64 0,.int .i64 0,.int .i64 0,.int .i64 0] 90)):=by
 have hg:=h.lt g rfl
 have hb:=a7 w (.cells #[.slice (some ⟨g,0,none⟩) ts.length cap,.int .i64 0,.int .i64 0,.int .i64 0,.int .i64 0] 90)
 refine ⟨0,0,0,0,⟨by show (w.heap.push _)[w.heap.size]?=_; simp,(a0R.of_row h).below hb hg.2,by omega,Nat.lt_of_lt_of_le hg.2 hb.size,?_,?_,List.length_pos_iff.2 hne⟩,rfl,rfl,rfl,rfl⟩
 ·rcases h.2 with ⟨e,-⟩ | ⟨g',cap2,cur,e,-,-,h1,-⟩
  ·cases e
  ·cases e; exact h1
 ·rcases h.2 with ⟨e,-⟩ | ⟨g',cap2,cur,e,-,-,-,h1,-⟩
  ·cases e
  ·cases e; exact h1
theorem wH {c p : Int} {x : Except (Int × Int) Nd} {w W : World} {P : Nat} (hx : x=.error (c,p)) (hc : c≠0) (h : w.grownBy W (some P)) (hP : w.heap.size≤P) : gK x w (.returned (.tuple #[nd0.val none 0,.int .i64 p,.int .i64 c])) (U0 W w.heap.size nd0 none 0):=by
 subst hx
 exact ⟨nd0,none,0,p,c,rfl,V0 (p7 h (Nat.le_refl _) nd0 none 0) hP,rfl,rfl,hc⟩
theorem iA {c p : Int} {x : Except (Int × Int) Nd} {w W : World} {P : Nat} (hx : x=.error (c,p)) (hc : c≠0) (h : w.grownBy W (some P)) (hP : w.heap.size≤P) : gK x w (.returned (.tuple #[nd0.val none 0,.int .i64 p,.int .i64 c])) (U0 W w.heap.size nd0 none 0).drew:=by
 subst hx
 exact ⟨nd0,none,0,p,c,rfl,A8 (V0 (p7 h (Nat.le_refl _) nd0 none 0) hP),rfl,rfl,hc⟩
theorem a1v (k n p : Int) (s : ByteArray) (w : World) : (Instr.field 93 (.agg #[.int .i64 k,.string s,.int .i64 n,.int .i64 p]) 0).run Tryz.prog w=.ok (.int .i64 k) w:=by kernel_rfl
theorem a2B {u t : Nd} {a : Option Addr} {cp b lo : Nat} {W4 W5 W6 : World} (h : u=t∧t.lies (Fr W4.heap.size W5.heap.size) W5 a cp∧d9 t≤100) (hW : W6=U0 W5 b t a cp) (h0 : lo≤W4.heap.size) (hb : b<W4.heap.size) :
 u=t∧t.lies (Fr lo W6.heap.size) W6 a cp∧d9 t≤100:=by
 refine ⟨h.1,e7 h.2.1 (hW ▸ (j4.refl _ _).put (fun k hk e => by have:=hk.1; omega) t a cp) fun k hk => ⟨Nat.le_trans h0 hk.1,?_⟩,h.2.2⟩
 rw [hW,size_put]
 exact hk.2
theorem a68 {u t : Nd} {a : Option Addr} {cp : Nat} {x : Except (Int × Int) Nd} {w W6 W7 : World} {P : Nat} (hx : x=.ok u) (hl : u=t∧t.lies (Fr (w.heap.size + 1) W6.heap.size) W6 a cp∧d9 t≤100) (hb : Below W6.heap.size W6 W7) (hg : w.grownBy W6 (some P)) (hP : w.heap.size≤P) :
 gK x w (.returned (.tuple #[t.val a cp,.int .i64 0,.int .i64 0])) (U0 W7 w.heap.size t a cp):=by
 subst hx
 refine ⟨t,a,cp,0,0,rfl,V0 (p7 (c8 hg (hb.mono hg.size)) (Nat.le_refl _) t a cp) hP,hl.1,rfl,rfl,?_,hl.2.2⟩
 refine e7 hl.2.1 (((show j4 _ W6 W7 from fun k hk => hb.block k hk.2)).put (fun k hk e => by have:=hk.1; omega) t a cp) fun k hk => ⟨by have:=hk.1; omega,?_⟩
 rw [size_put]
 exact Nat.lt_of_lt_of_le hk.2 hb.size
theorem a4Q {t : Nd} {a : Option Addr} {cp : Nat} {f k : Int} {x : Except (Int × Int) Nd} {w W1 W2 : World} (hx : match x with
 | .ok u => u=t∧f=0∧k=0∧t.lies (Fr W1.heap.size W2.heap.size) W2 a cp∧d9 t≤100
 | .error (c,p) => k=c∧f=p∧c≠0) (hb : Below w.heap.size w W2) (hlt : w.heap.size < W1.heap.size) :
 gK x w (.returned (.tuple #[t.val a cp,.int .i64 f,.int .i64 k])) (U0 W2 w.heap.size t a cp):=by
 refine ⟨t,a,cp,f,k,rfl,V0 (P:=w.heap.size) (p7 (d6 hb) (Nat.le_refl _) t a cp) (Nat.le_refl _),?_⟩
 match x,hx with
 | .ok u,hx =>
   refine ⟨hx.1,hx.2.1,hx.2.2.1,e7 hx.2.2.2.1 ((j4.refl _ _).put (fun k hk e => by have:=hk.1; omega) t a cp) fun k hk => ⟨by have:=hk.1; omega,?_⟩,hx.2.2.2.2⟩
   rw [size_put]
   exact hk.2
 | .error (c,p),hx => exact hx
theorem a3S (s : ByteArray) (w : World) (hs : s.size≤maxLen) :
 Calls Tryz.prog 21 #[.string s,.bool false] w (gK (mE s.data.toList) w):=by
 obtain ⟨W1,hW1⟩ : ∃ W,W=w.alloc (.cells #[.int .i64 0,.string ⟨#[]⟩,.int .i64 0,.slice none 0 0,.int .i64 0] 24):=⟨_,rfl⟩
 have B1:=hid (show c9 w.heap.size nd0 none 0 W1 from hW1 ▸ c9.make w nd0 none 0)
 have E1:=hid (show Below w.heap.size w W1 from hW1 ▸ a7 _ _)
 obtain ⟨X,hX⟩ : ∃ X,X=mE s.data.toList:=⟨_,rfl⟩
 rw [← hX]
 have C1:=hid (sR s W1 hs)
 unfold mE at hX
 generalize hsc : Q6 s.data.toList=x at C1 hX
 have HX:=hid hX
 have HSC:=hid hsc
 clear hX hsc hs
 go_enter Tryz.func21,Tryz.ntmps21
 go_wp2_with fail
 rw [← hW1]
 clear hW1
 (with_reducible refine Calls.mono C1.out ?_)
 intro e W2 hsp
 obtain ⟨hb,hsp⟩:=hsp
 have B2:=hid (B1.out.below hb)
 have G2:=hid (d6 (r:=some w.heap.size) (E1.out.trans (hb.mono E1.out.size)))
 have HB2:=hid hb
 clear hb C1
 cases x with
 | error q =>
   obtain ⟨c,p⟩:=q
   obtain ⟨hc,rfl⟩:=hsp
   have ek : (c != 0)=true:=bne_iff_ne.2 hc
   have HC:=hid hc
   have HX':=hid (show X=.error (c,p) from HX)
   obtain ⟨⟨z0,z1,z2,z3,z4⟩,⟨f0,f1,f2,f3,f4⟩⟩:=B2.out.cells
   have hsz : w.heap.size<W2.heap.size:=B2.out.lt
   clear hc HX
   go_wp2_with fail
   refine bodyPost_ret (v:=.tuple #[nd0.val none 0,.int .i64 p,.int .i64 c]) (by simp [results,Tryz.results21,go_sem,Nd.val,nd0,Nd.kind,Nd.text,Nd.n,Nd.kids,Nd.place,z0,z1,z2,z3,z4]) rfl ?_
   exact wH HX' HC G2 (Nat.le_refl _)
 | ok ts =>
   obtain ⟨g,cap,rfl,how⟩:=hsp
   obtain ⟨htk,htz,he,hne⟩:=nS HSC
   have HTK:=hid htk
   have HTZ:=hid htz
   have HEn:=hid he
   have P3':=hid (SP.make how hne)
   have hgw:=hid (show w.heap.size<W2.heap.size∧W1.heap.size≤g∧g<W2.heap.size from ⟨B2.out.lt,(how.lt g rfl).1,(how.lt g rfl).2⟩)
   have HW1:=hid (show w.heap.size<W1.heap.size from B1.out.lt)
   clear htk htz he hne how
   obtain ⟨W3,hW3⟩ : ∃ W,W=W2.alloc (.cells #[.slice (some ⟨g,0,none⟩) ts.length cap,.int .i64 0,.int .i64 0,.int .i64 0,.int .i64 0] 90):=⟨_,rfl⟩
   have P3:=hid (show SP W2.heap.size g cap ts 0 (.ok ts) W3 from hW3 ▸ P3'.out)
   have E3:=hid (show Below W2.heap.size W2 W3 from hW3 ▸ a7 _ _)
   have hs3 : W3.heap.size=W2.heap.size + 1:=by rw [hW3]; simp
   obtain ⟨W4,hW4⟩ : ∃ W,W=W3.alloc (.cells #[.int .i64 0,.string ⟨#[]⟩,.int .i64 0,.slice none 0 0,.int .i64 0] 24):=⟨_,rfl⟩
   have N4:=hid (show c9 W3.heap.size nd0 none 0 W4 from hW4 ▸ c9.make W3 nd0 none 0)
   have E4:=hid (show Below W3.heap.size W3 W4 from hW4 ▸ a7 _ _)
   have P4:=hid (P3.out.below E4)
   have B4:=hid ((B2.out.below E3).below E4)
   have G4:=hid (show w.grownBy W4 (some W2.heap.size) from d6 ((E1.out.trans (HB2.out.mono E1.out.size)).trans ((E3.out.trans (E4.out.mono E3.out.size)).mono (Nat.le_of_lt hgw.out.1))))
   have hne4:=hid (show (w.heap.size≠W2.heap.size∧w.heap.size≠g)∧(W3.heap.size≠W2.heap.size∧W3.heap.size≠g)∧w.heap.size≠W3.heap.size∧W2.heap.size≠g by have:=hgw.out; have:=HW1.out; omega)
   have C5:=hid (tI W2.heap.size g cap ts HEn HTK HTZ ts 0 W4 (by decide) P4)
   have HXe:=hid (show X=a4E (rd .expr 0 ts) from HX)
   generalize rd .expr 0 ts=y at C5 HXe
   clear HX P3'
   have HS3:=hid hs3
   go_upto_region 5 with fail
   rw [← hW3]
   clear hW3 hs3
   go_upto_region 6 with fail
   rw [← hW4]
   clear hW4
   go_wp2_with fail
   (with_reducible refine Calls.mono C5.out ?_)
   rintro e W5 ⟨t,a,cp,rfl,hs,hg,hk⟩
   have HK:=hid hk
   have P5:=hid hs
   have G5:=hid (a6 G4 hg)
   have B5:=hid (B4.out.grown hg hne4.out.1.1)
   have N5:=hid (N4.out.grown hg hne4.out.2.1.1)
   have HS5:=hid (show W4.heap.size≤W5.heap.size from hg.size)
   clear hs hg hk C5
   obtain ⟨W6,hW6⟩ : ∃ W,W=U0 W5 W3.heap.size t a cp:=⟨_,rfl⟩
   have P6:=hid (show SP W2.heap.size g cap ts 0 (n7 y) W6 from hW6 ▸ P5.out.put hne4.out.2.1.1 hne4.out.2.1.2 t a cp)
   have B6:=hid (show c9 w.heap.size nd0 none 0 W6 from hW6 ▸ B5.out.oput hne4.out.2.2.1 t a cp)
   have N6:=hid (show c9 W3.heap.size t a cp W6 from hW6 ▸ N5.out.put t a cp)
   have G6:=hid (show w.grownBy W6 (some W2.heap.size) from hW6 ▸ p7 G5 (by have:=hgw.out; have:=HS3.out; omega) t a cp)
   obtain ⟨⟨n0,n1,n2,n3,n4⟩,⟨e0,e1,e2,e3,e4⟩⟩:=N5.out.cells
   have hl5 : W3.heap.size<W5.heap.size:=N5.out.lt
   have hW6':=hW6
   unfold U0 at hW6'
   unfold Nd.val
   go_upto_region 9 with fail
   rw [← hW6']
   have HW6:=hid hW6
   clear hW6 hW6' n0 n1 n2 n3 n4 e0 e1 e2 e3 e4 hl5
   have hpl : W2.heap.size<W6.heap.size:=P6.out.blocks.1
   cases hy : y with
   | error q =>
     obtain ⟨c,p⟩:=q
     have P6':=P6.out
     rw [hy] at P6'
     have HX':=hid (show X=.error (c,p) by rw [HXe.out,hy]; rfl)
     obtain ⟨hc,i,n,hp,-,-⟩:=P6'.error
     obtain ⟨⟨p0,p1,p2,p3,p4⟩,-⟩:=hp.cells
     have ek : (c == 0)=false:=beq_eq_false_iff_ne.2 hc
     have ek' : (c != 0)=true:=bne_iff_ne.2 hc
     have HC:=hid hc
     obtain ⟨⟨z0,z1,z2,z3,z4⟩,⟨f0,f1,f2,f3,f4⟩⟩:=B6.out.cells
     have hsz : w.heap.size<W6.heap.size:=B6.out.lt
     have hb1 : ¬ w.heap.size=W2.heap.size:=hne4.out.1.1
     have hb2 : ¬ W2.heap.size=w.heap.size:=fun h => hb1 h.symm
     clear hc hp P6' hy
     go_wp2_with fail
     go_region
     all_goals
      go_wp2_with fail
      refine bodyPost_ret (v:=.tuple #[nd0.val none 0,.int .i64 p,.int .i64 c]) (by simp [results,Tryz.results21,go_sem,Nd.val,nd0,Nd.kind,Nd.text,Nd.n,Nd.kids,Nd.place,z0,z1,z2,z3,z4]) rfl ?_
      exact iA HX' HC G6 (Nat.le_of_lt hgw.out.1)
   | ok q =>
     obtain ⟨u,r⟩:=q
     have P6':=P6.out
     rw [hy] at P6'
     have HL6:=hid (a2B (HK.out u r hy) HW6 (lo:=w.heap.size + 1) (by have:=hgw.out; have:=E4.out.size; have:=HS3.out; omega) N4.out.lt)
     obtain ⟨i,hr,hp⟩:=P6'.ok
     have hT:=iQ hp.pos
     rw [← hr] at hT
     have HPS:=hid hp
     obtain ⟨⟨p0,p1,p2,p3,p4⟩,-⟩:=hp.cells
     have CL:=hid (show ∀ W,PS W2.heap.size g cap ts i 0 0 0 W→Calls Tryz.prog 41 #[.pointer (some ⟨W2.heap.size,0,none⟩)] W fun e w' => e=.returned (tkV (hd r))∧Below W.heap.size W w' from fun W h => by
      have:=Y8 W2.heap.size g cap ts i 0 0 0 W h
      rwa [← hT] at this)
     have HX':=hid (show X=if (hd r).kind=0 then .ok u else .error (74,(hd r).pos) by rw [HXe.out,hy]; rfl)
     generalize hd r=T at CL HX'
     have C7:=hid (CL.out W6 HPS)
     have hfd:=aH T.kind T.n T.pos ⟨T.text.toArray⟩
     have hfk:=a1v T.kind T.n T.pos ⟨T.text.toArray⟩
     clear P6' hp hr hT hy
     go_wp2_with fail
     (with_reducible refine Calls.mono C7.out ?_)
     rintro e W7 ⟨rfl,hb⟩
     have HB7:=hid hb
     have HPS7:=hid (HPS.out.below hb)
     have B7:=hid (B6.out.below hb)
     have N7:=hid (N6.out.below hb)
     have G7:=hid (c8 G6 (hb.mono G6.out.size))
     clear hb C7 p0 p1 p2 p3 p4 hpl
     obtain ⟨⟨p0,p1,p2,p3,p4⟩,-⟩:=HPS7.out.cells
     have hpl : W2.heap.size<W7.heap.size:=HPS7.out.plt
     unfold tkV
     by_cases hk : T.kind=0
     ·have ek : (T.kind != 0)=false:=by rw [hk]; rfl
      have HX2:=hid (show X=.ok u by rw [HX'.out,if_pos hk])
      obtain ⟨⟨n0,n1,n2,n3,n4⟩,-⟩:=N7.out.cells
      obtain ⟨⟨z0,z1,z2,z3,z4⟩,⟨f0,f1,f2,f3,f4⟩⟩:=B7.out.cells
      have hsz : w.heap.size<W7.heap.size:=B7.out.lt
      have hs3' : W3.heap.size<W7.heap.size:=N7.out.lt
      clear hk
      go_wp2_with fail
      refine bodyPost_ret (v:=.tuple #[t.val a cp,.int .i64 0,.int .i64 0]) (by simp [results,Tryz.results21,go_sem,Nd.val,z0,z1,z2,z3,z4]) rfl ?_
      exact a68 HX2 HL6 HB7 G6 (Nat.le_of_lt hgw.out.1)
     ·have ek : (T.kind != 0)=true:=bne_iff_ne.2 hk
      have HX2:=hid (show X=.error (74,T.pos) by rw [HX'.out,if_neg hk])
      clear hk
      have C8:=hid (CL.out W7 HPS7)
      go_wp2_with fail
      (with_reducible refine Calls.mono C8.out ?_)
      rintro e W8 ⟨rfl,hb⟩
      have HPS8:=hid (HPS7.out.below hb)
      have B8:=hid (B7.out.below hb)
      have G8:=hid (c8 G7 (hb.mono G7.out.size))
      have C9:=hid (J7 W2.heap.size g cap ts i 0 W8 74 T.pos HPS8)
      clear hb C8 p0 p1 p2 p3 p4 hpl
      unfold tkV
      go_wp2_with fail
      (with_reducible refine Calls.mono C9.out ?_)
      rintro e W9 ⟨rfl,hp9,hg9⟩
      have B9:=hid (B8.out.grown hg9 hne4.out.1.1)
      have G9:=hid (a6 G8 hg9)
      obtain ⟨⟨p0,p1,p2,p3,p4⟩,-⟩:=hp9.cells
      have hpl : W2.heap.size<W9.heap.size:=hp9.plt
      obtain ⟨⟨z0,z1,z2,z3,z4⟩,⟨f0,f1,f2,f3,f4⟩⟩:=B9.out.cells
      have hsz : w.heap.size<W9.heap.size:=B9.out.lt
      have hb1 : ¬ w.heap.size=W2.heap.size:=hne4.out.1.1
      have hb2 : ¬ W2.heap.size=w.heap.size:=fun h => hb1 h.symm
      clear hp9 hg9 C9
      go_wp2_with fail
      go_region
      all_goals
       go_wp2_with fail
       refine bodyPost_ret (v:=.tuple #[nd0.val none 0,.int .i64 T.pos,.int .i64 74]) (by simp [results,Tryz.results21,go_sem,Nd.val,nd0,Nd.kind,Nd.text,Nd.n,Nd.kids,Nd.place,z0,z1,z2,z3,z4]) rfl ?_
       exact iA HX2 (by decide) G9 (Nat.le_of_lt hgw.out.1)
theorem a0d (s : ByteArray) (w : World) (hs : s.size≤maxLen) :
 Calls Tryz.prog 7 #[.string s] w (gK (mE s.data.toList) w):=by
 obtain ⟨W1,hW1⟩ : ∃ W,W=w.alloc (.cells #[.int .i64 0,.string ⟨#[]⟩,.int .i64 0,.slice none 0 0,.int .i64 0] 24):=⟨_,rfl⟩
 have B1:=hid (show c9 w.heap.size nd0 none 0 W1 from hW1 ▸ c9.make w nd0 none 0)
 have E1:=hid (show Below w.heap.size w W1 from hW1 ▸ a7 _ _)
 have C1:=hid (a3S s W1 hs)
 generalize mE s.data.toList=x at C1
 go_enter Tryz.func7,Tryz.ntmps7
 go_wp2_with fail
 rw [← hW1]
 clear hW1
 (with_reducible refine Calls.mono C1.out ?_)
 rintro e W2 ⟨t,a,cp,f,k,rfl,hb,hx⟩
 have B2:=hid (B1.out.below hb)
 have HB2:=hid hb
 have HX:=hid hx
 clear hb hx C1
 obtain ⟨⟨z0,z1,z2,z3,z4⟩,⟨f0,f1,f2,f3,f4⟩⟩:=B2.out.cells
 have hsz : w.heap.size<W2.heap.size:=B2.out.lt
 unfold Nd.val
 go_wp2_with fail
 refine bodyPost_ret (v:=.tuple #[t.val a cp,.int .i64 f,.int .i64 k]) (by simp [results,Tryz.results7,go_sem,Nd.val,z0,z1,z2,z3,z4]) rfl ?_
 exact a4Q HX (E1.out.trans (HB2.out.mono E1.out.size)) B1.out.lt
end
section
open Go.RowKit
theorem nV {w w' : World} {B T k n g cap : Nat} {xs : List Value} (h : w.ownsRow B T k (.slice (some ⟨g,0,none⟩) n cap) n xs) (hk : w'.heap[g]?=w.heap[g]?) : w'.ownsRow B T k (.slice (some ⟨g,0,none⟩) n cap) n xs:=by
 obtain ⟨h1,h2⟩:=h
 refine ⟨h1,?_⟩
 rcases h2 with h | ⟨g',cap',cur,e,hb,hg,h3⟩
 ·exact .inl h
 ·cases e
  exact .inr ⟨g,cap,cur,rfl,hb,hk.trans hg,h3⟩
structure LB (P g cap : Nat) (ts : List Tk) (nb : Nat) (k : Int) (s : ByteArray) (p : Int) (ao : Option Addr) (cp : Nat) (L : List Ent) (σ : Sx) (w0 W : World) : Prop where
 box : W.heap[nb]?=some (.cells #[.int .i64 k,.string s,.int .i64 0,.slice ao L.length cp,.int .i64 p] 24 (0,0))
 row : W.ownsRow (nb + 1) 24 5 (.slice ao L.length cp) L.length (J6 L)
 lie : ∀ r,σ=.ok r→∀ e∈L,e.1.lies (fun d => nb + 1≤d∧d<W.heap.size∧(Value.slice ao L.length cp).ownBlock≠some d) W e.2.1 e.2.2
 sp : SP P g cap ts 0 σ W
 gr : w0.grownBy W (some P)
 lt : P<nb∧g<nb∧w0.heap.size≤nb
section
variable {P g cap : Nat} {ts : List Tk} {nb : Nat} {k : Int} {s : ByteArray} {p : Int} {ao : Option Addr} {cp : Nat} {L : List Ent} {σ σ' : Sx} {w0 W W' : World}
theorem LB.make (h : SP P g cap ts 0 σ W) (hg : w0.grownBy W (some P)) (hP : P<w0.heap.size∧g<w0.heap.size) (hW : W'=W.alloc (.cells #[.int .i64 k,.string s,.int .i64 0,.slice none 0 0,.int .i64 p] 24)) : LB P g cap ts W.heap.size k s p none 0 [] σ w0 W':=by
 have hb : Below W.heap.size W W':=hW ▸ a7 _ _
 have:=hg.size
 exact ⟨by rw [hW]; show (W.heap.push _)[W.heap.size]?=_; simp,⟨rfl,.inl ⟨rfl,rfl⟩⟩,(fun _ _ e he => by cases he),h.below hb,c8 hg (hb.mono hg.size),by omega,by omega,by omega⟩
theorem LB.blt (h : LB P g cap ts nb k s p ao cp L σ w0 W) : nb<W.heap.size:=(Array.getElem?_eq_some_iff.1 h.box).1
theorem LB.cells (h : LB P g cap ts nb k s p ao cp L σ w0 W) : (W.cell? ⟨nb,0,none⟩=some (.int .i64 k)∧W.cell? ⟨nb,1,none⟩=some (.string s)∧W.cell? ⟨nb,2,none⟩=some (.int .i64 0)∧W.cell? ⟨nb,3,none⟩=some (.slice ao L.length cp)∧W.cell? ⟨nb,4,none⟩=some (.int .i64 p))∧W.frozen? ⟨nb,3,none⟩=false:=by
 have hb:=h.box
 exact ⟨⟨by simp [World.cell?,hb],by simp [World.cell?,hb],by simp [World.cell?,hb],by simp [World.cell?,hb],by simp [World.cell?,hb]⟩,by simp [World.frozen?,hb]⟩
theorem LB.own (h : LB P g cap ts nb k s p ao cp L σ w0 W) : ∀ c,(Value.slice ao L.length cp).ownBlock=some c→nb + 1≤c∧c<W.heap.size:=fun c e => h.row.lt c e
theorem LB.step (h : LB P g cap ts nb k s p ao cp L σ w0 W) (hs : SP P g cap ts 0 σ' W') (hg : W.grownBy W' (some P)) (ho : ∀ r',σ'=.ok r'→∃ r,σ=.ok r) : LB P g cap ts nb k s p ao cp L σ' w0 W':=by
 have hl:=h.lt
 have hk : ∀ d,d<W.heap.size→d≠P→W'.heap[d]?=W.heap[d]?:=fun d h1 h2 => hg.block d h1 (fun e => h2 (Option.some.inj e))
 refine ⟨(hk _ h.blt (by omega)).trans h.box,h.row.kept hg ?_,fun r' hr' e he => ?_,hs,a6 h.gr hg,hl⟩
 ·cases hv : (Value.slice ao L.length cp).ownBlock with
  | none => exact .inl rfl
  | some c => exact .inr (fun e => by have:=(h.own c hv).1; have:=Option.some.inj e; omega)
 ·obtain ⟨r,hr⟩:=ho r' hr'
  exact e7 (h.lie r hr e he) (fun d hd => hk d hd.2.1 (by have:=hd.1; omega)) fun d hd => ⟨hd.1,Nat.lt_of_lt_of_le hd.2.1 hg.size,hd.2.2⟩
theorem LB.below (h : LB P g cap ts nb k s p ao cp L σ w0 W) (hb : Below W.heap.size W W') : LB P g cap ts nb k s p ao cp L σ w0 W':=h.step (h.sp.below hb) (d6 hb) fun r hr => ⟨r,hr⟩
theorem LB.app {W1 W2 : World} {t : Nd} {a : Option Addr} {c gb cq : Nat} (h : LB P g cap ts nb k s p ao cp L σ w0 W) (hW1 : Below W.heap.size W W1) (hgrow : W1.grownBy W2 (Value.slice ao L.length cp).ownBlock) (hat : (Value.slice ao L.length cp).ownBlock=some gb∨gb=W1.heap.size) (hrow : W2.ownsRow (nb + 1) 24 5 (.slice (some ⟨gb,0,none⟩) (L.length + 1) cq) (L.length + 1) (J6 L ++ ndC (t,a,c)))
 (hl : ∀ r,σ=.ok r→t.lies (fun d => nb + 1≤d∧d<W.heap.size∧(Value.slice ao L.length cp).ownBlock≠some d) W a c) :
 LB P g cap ts nb k s p (some ⟨gb,0,none⟩) cq (L ++ [(t,a,c)]) σ w0 (W2.setCell ⟨nb,3,none⟩ (.slice (some ⟨gb,0,none⟩) (L.length + 1) cq)):=by
 have hlt:=h.lt
 have hbl:=h.blt
 have h1:=hW1.size
 have h2:=hgrow.size
 have hgb:=hrow.lt gb rfl
 have hlen : (L ++ [(t,a,c)]).length=L.length + 1:=by simp
 have hk : ∀ d,d<W.heap.size→(Value.slice ao L.length cp).ownBlock≠some d→W2.heap[d]?=W.heap[d]?:=fun d h3 h4 => (hgrow.block d (by omega) (fun e => h4 e.symm)).trans (hW1.block d h3)
 have hlow : ∀ d,d<nb + 1→(Value.slice ao L.length cp).ownBlock≠some d:=fun d hd e => by have:=(h.own d e).1; omega
 have e2 : ∀ d,d≠nb→(W2.setCell ⟨nb,3,none⟩ (.slice (some ⟨gb,0,none⟩) (L.length + 1) cq)).heap[d]?=W2.heap[d]?:=fun d hd => Below.heap_setCell _ _ _ _ hd
 have hz : (W2.setCell ⟨nb,3,none⟩ (.slice (some ⟨gb,0,none⟩) (L.length + 1) cq)).heap.size=W2.heap.size:=by simp [World.setCell]
 have hbox:=l6 ((hk nb hbl (hlow nb (by omega))).trans h.box) 3 (.slice (some ⟨gb,0,none⟩) (L.length + 1) cq)
 have hne : ∀ d,nb + 1≤d∧d<W.heap.size∧(Value.slice ao L.length cp).ownBlock≠some d→gb≠d:=fun d hd e => by
  rcases hat with h9 | h9
  ·exact hd.2.2 (e ▸ h9)
  ·have:=hd.2.1; omega
 refine ⟨by rw [hlen]; exact hbox,?_,fun r hr e he => ?_,?_,?_,hlt⟩
 ·rw [hlen,jZ]
  exact nV hrow (e2 gb (by omega))
 ·rw [hlen]
  have mv : ∀ (u : Nd) (b : Option Addr) (q : Nat),u.lies (fun d => nb + 1≤d∧d<W.heap.size∧(Value.slice ao L.length cp).ownBlock≠some d) W b q→u.lies (fun d => nb + 1≤d∧d<(W2.setCell ⟨nb,3,none⟩ (.slice (some ⟨gb,0,none⟩) (L.length + 1) cq)).heap.size∧(Value.slice (some ⟨gb,0,none⟩) (L.length + 1) cq).ownBlock≠some d) (W2.setCell ⟨nb,3,none⟩ (.slice (some ⟨gb,0,none⟩) (L.length + 1) cq)) b q:=fun u b q hu =>
   e7 hu (fun d hd => (e2 d (by have:=hd.1; omega)).trans (hk d hd.2.1 hd.2.2)) fun d hd => ⟨hd.1,by rw [hz]; have:=hd.2.1; omega,fun e => hne d hd (Option.some.inj (show some gb=some d from e))⟩
  rcases List.mem_append.1 he with he | he
  ·exact mv _ _ _ (h.lie r hr e he)
  ·obtain rfl:=List.mem_singleton.1 he
   exact mv _ _ _ (hl r hr)
 ·have hb:=h.sp.blocks
  exact h.sp.keeps (fun b hb' => by
   have hb2 : b<nb:=by rcases hb' with rfl | rfl <;> omega
   exact (e2 b (by omega)).trans (hk b (by omega) (hlow b (by omega)))) (by rw [hz]; omega)
 ·refine ⟨hgrow.os.trans (hW1.os.trans h.gr.os),hgrow.tape.trans (hW1.tape.trans h.gr.tape),hgrow.output.trans (hW1.output.trans h.gr.output),by rw [hz]; have:=h.gr.size; omega,fun d hd hP => ?_⟩
  exact (e2 d (by omega)).trans ((hk d (by have:=h.gr.size; omega) (hlow d (by omega))).trans (h.gr.block d hd hP))
theorem LB.tree (h : LB P g cap ts nb k s p ao cp L σ w0 W) {r : List Tk} (hr : σ=.ok r) (hk : (Lit.int .i64 k).wf=true) (hp : (Lit.int .i64 p).wf=true) (hs : s.size≤maxLen) : (Nd.mk k s 0 (L.map (·.1)) p).lies (fun d => nb + 1≤d∧d<W.heap.size) W ao cp:=by
 have hlie:=h.lie r hr
 rcases h.row.2 with ⟨e,h0⟩ | ⟨g',cap',cur,e,hb,hg,k1,k2,k3⟩
 ·have hL : L=[]:=List.length_eq_zero_iff.1 h0
  subst hL
  cases e
  exact Nd.lies.mk' hk hs rfl hp (Nat.le_refl _) (Nat.zero_le _) trivial
 ·cases e
  refine Nd.lies.mk' hk hs rfl hp (by rw [List.length_map]; exact k1) k2 (nJ h.row ⟨hb,(Array.getElem?_eq_some_iff.1 hg).1⟩ fun e he => e7 (hlie e he) (fun _ _ => rfl) fun d hd => ⟨hd.1,hd.2.1⟩)
end
end
section
open Go.RowKit
def RdL (P g cap : Nat) (ts : List Tk) (x : Rd) (w : World) (e : Ending) (w' : World) : Prop :=
 ∃ (t : Nd) (a : Option Addr) (cp : Nat),e=.returned (t.val a cp)∧SP P g cap ts 0 (n7 x) w'∧w.grownBy w' (some P)∧∀ t' r,x=.ok (t',r)→t'=t∧t.lies (Fr w.heap.size w'.heap.size) w' a cp
def aW (σ : Sx) (ks : List Nd) : Rd:=goX σ fun r => .ok (mkN 0 [] 0 ks 0,r)
def rB (σ : Sx) (ks : List Nd) : Rd:=goX σ (rM oR (8 - ks.length) ks)
theorem a58 {ks : List Nd} {r : List Tk} (h : ks.length=8) : rB (.ok r) ks=.error (76,(hd r).pos):=by
 unfold rB
 rw [eE,h]
 rfl
theorem vS {ks : List Nd} {σ : Sx} {T : Tk} (h : ks.length<8) (hT : ∀ r,σ=.ok r→T=hd r) : rB σ ks=goX (x8 1 σ) fun r => if isT q6 r=true then rM oR (8 - (ks.length + 1)) (ks ++ [mkN 4 T.text 0 [] T.pos]) (b8 r) else o8 y7 r fun r => .ok (mkN 0 [] 0 (ks ++ [mkN 4 T.text 0 [] T.pos]) 0,r):=by
 unfold rB
 rw [show 8 - ks.length=(8 - (ks.length + 1)) + 1 by omega]
 cases σ with
 | error e => rfl
 | ok r =>
   obtain rfl:=hT r rfl
   rw [eE,rM,show oR r=(if (hd r).kind=1 then .ok (mkN 4 (hd r).text 0 [] (hd r).pos,b8 r) else .error (74,(hd r).pos)) from rfl,show x8 1 (.ok r)=(if (hd r).kind=1 then .ok (b8 r) else .error (74,(hd r).pos)) from rfl]
   by_cases hk : (hd r).kind=1
   ·rw [if_pos hk,if_pos hk]; rfl
   ·rw [if_neg hk,if_neg hk]; rfl
theorem a56 {ks : List Nd} {σ : Sx} {T : Tk} (h : ks.length<8) (hT : ∀ r,σ=.ok r→T=hd r) (hc : ∀ r,x8 1 σ=.ok r→true=isT q6 r) : rB σ ks=rB (tG (x8 1 σ)) (ks ++ [mkN 4 T.text 0 [] T.pos]):=by
 rw [vS h hT]
 unfold rB
 cases hk : x8 1 σ with
 | error e => rfl
 | ok r =>
   show (if isT q6 r=true then _ else _)=_
   rw [if_pos (hc r hk).symm,List.length_append]
   rfl
theorem a60 {ks : List Nd} {σ : Sx} {T : Tk} (h : ks.length<8) (hT : ∀ r,σ=.ok r→T=hd r) (hc : ∀ r,x8 1 σ=.ok r→false=isT q6 r) : rB σ ks=aW (o5 y7 (x8 1 σ)) (ks ++ [mkN 4 T.text 0 [] T.pos]):=by
 rw [vS h hT]
 unfold aW
 rw [← F6]
 cases hk : x8 1 σ with
 | error e => rfl
 | ok r =>
   show (if isT q6 r=true then _ else _)=_
   rw [if_neg (by rw [← hc r hk]; decide)]
   rfl
theorem a7H {l : List Tk} {T : Tk} (hT : ∀ r,o5 mX (.ok l)=.ok r→T=hd r) {σ : Sx} {ks : List Nd} (h : goX (x8 1 (o5 mX (.ok l))) aI=aW σ ks) {t : Nd} (ht : Is (goX (o5 tEq σ) (rd .expr 0)) t) :
 jH l=goX (o5 aY (n7 (goX (o5 tEq σ) (rd .expr 0)))) fun r => .ok (mkN 3 T.text 0 (ks ++ [t]) T.pos,r):=by
 rw [← eE l jH]
 unfold jH
 rw [F6,jX _ _ _ T hT,bM,h]
 have hI : Is (aW σ ks) (mkN 0 [] 0 ks 0):=fun t' r hx => by
  obtain ⟨r',-,e⟩:=Y0 hx
  cases e; rfl
 rw [G0 hI]
 unfold aW
 rw [bW,F6,bM,G0 ht,F6 _ aY]
 rfl
end
end Go.Proofs.YteefedkmgnepmaaGreatDoor
