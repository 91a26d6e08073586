/-
  Laws that the proof rests on.
-/
import Derived.Test.YtibiccacafjjfaaGreatDoorB13
import Derived.Test.YtibiccacafjjfaaGreatDoorB10
import Derived.Test.YtibiccacafjjfaaGreatDoorB03
import Derived.Deep.AppendLies
import Derived.Laws.Cover3
import Derived.Test.YtibiccacafjjfaaGreatDoorB04
namespace Go.Proofs.YtibiccacafjjfaaGreatDoor
set_option maxRecDepth 100000
set_option maxHeartbeats 16000000
section
open Go.RowKit Go.Shelf
structure KF (B : Nat) (fx : List (Fm × Value)) (v : Value) (W : World) : Prop where
 own : W.ownsRow B 36 1 v fx.length (fx.map fun p => Value.iface p.1.ty p.2)
 is : ∀ p∈fx,p.1.is (fun k => B≤k∧v.ownBlock≠some k) W p.2
theorem mW {w w' : World} (hb : Below w.heap.size w w') : w.grownBy w' none:=⟨hb.os,hb.tape,hb.output,hb.size,fun k hk _ => hb.block k hk⟩
theorem aF {W : World} {k : Nat} {o : Obj} (h : W.heap[k]?=some o) : k<W.heap.size:=(Array.getElem?_eq_some_iff.1 h).1
theorem Fm.is.below {av av' : Nat→Prop} {W W' : World} (hav : ∀ k,av k→av' k) (hb : Below W.heap.size W W') {f : Fm} {x : Value} (h : f.is av W x) : f.is av' W' x :=
 Fm.is.kept (fun g _ _ hg hh => ⟨hav g hg,(hb.block g (aF hh)).trans hh⟩) f h
theorem KF.nil (B : Nat) (W : World) : KF B [] (.slice none 0 0) W:=⟨World.ownsRow_nil W B _ 1,fun p h => by cases h⟩
theorem KF.below {B : Nat} {fx : List (Fm × Value)} {v : Value} {W W' : World} (h : KF B fx v W) (hb : Below W.heap.size W W') : KF B fx v W' :=
 ⟨h.own.kept (mW hb) (by cases v.ownBlock with | none => exact .inl rfl | some k => exact .inr (by simp)),fun p hp => Fm.is.below (fun _ h => h) hb (h.is p hp)⟩
theorem KF.snoc {B : Nat} {fx : List (Fm × Value)} {v v' : Value} {W w3 : World} {f : Fm} {x : Value} {g cap : Nat} (h : KF B fx v W) (hf : f.is (fun k => B≤k∧v.ownBlock≠some k) W x)
 (hv : v'=.slice (some ⟨g,0,none⟩) (fx.length + 1) cap) (hown : w3.ownsRow B 36 1 v' (fx.length + 1) (fx.map (fun p => Value.iface p.1.ty p.2) ++ [.iface f.ty x])) (hgrow : W.grownBy w3 v.ownBlock) (hat : v.ownBlock=some g∨g=W.heap.size) : KF B (fx ++ [(f,x)]) v' w3:=by
 refine ⟨by rw [List.length_append,List.map_append]; exact hown,fun p hp => ?_⟩
 have hp' : p.1.is (fun k => B≤k∧v.ownBlock≠some k) W p.2:=by
  rcases List.mem_append.1 hp with hp | hp
  ·exact h.is p hp
  ·rw [List.mem_singleton.1 hp]; exact hf
 refine Fm.is.kept (fun k cur fz hk hh => ⟨⟨hk.1,fun e => ?_⟩,(hgrow.block k (aF hh) (fun e => hk.2 e.symm)).trans hh⟩) p.1 hp'
 rw [hv] at e
 have hgk : g=k:=by simpa [Value.ownBlock] using e
 rcases hat with hat | hat
 ·exact hk.2 (by rw [hat,hgk])
 ·have:=aF hh; omega
theorem Fm.are.of {av : Nat→Prop} {W : World} {g : Nat} {cur : Array Value} {fz : Nat × Nat} (hg : av g) (hh : W.heap[g]?=some (.cells cur 36 fz)) : ∀ (fx : List (Fm × Value)) (i : Nat),(∀ j (hj : j<fx.length),cur[i + j]?=some (.iface fx[j].1.ty fx[j].2))→(∀ p∈fx,p.1.is av W p.2)→Fm.are av W (fx.map (·.1)) (some ⟨g,0,none⟩) i
 | [],_,_,_ => trivial
 | p :: r,i,hc,hi => by
   refine ⟨⟨g,p.2,cur,fz,rfl,hg,hh,hc 0 (by simp),hi p (List.mem_cons_self ..)⟩,Fm.are.of hg hh r (i + 1) (fun j hj => ?_) fun q hq => hi q (List.mem_cons_of_mem _ hq)⟩
   have:=hc (j + 1) (by simpa using hj)
   rw [show i + (j + 1)=i + 1 + j by omega] at this
   exact this
theorem KF.row {B : Nat} {fx : List (Fm × Value)} {v : Value} {W : World} (h : KF B fx v W) (h0 : 0<fx.length) : ∃ g cap,v=.slice (some ⟨g,0,none⟩) fx.length cap∧fx.length≤cap∧cap≤maxLen ∧
 Fm.are (B ≤ ·) W (fx.map (·.1)) (some ⟨g,0,none⟩) 0∧(∀ j (hj : j<fx.length),W.cell? ⟨g,j,none⟩=some (.iface fx[j].1.ty fx[j].2)):=by
 rcases h.own.2 with ⟨_,hz⟩ | ⟨g,cap,cur,hv,hBg,hg,hnc,hcm,hcs,htake⟩
 ·omega
 ·have hcur : ∀ j (hj : j<fx.length),cur[j]?=some (.iface fx[j].1.ty fx[j].2):=fun j hj => by
   have e : (cur.toList.take (fx.length * 1))[j]?=some (.iface fx[j].1.ty fx[j].2):=by
    rw [htake,List.getElem?_map,List.getElem?_eq_getElem hj]; rfl
   rw [List.getElem?_take,if_pos (by omega)] at e
   simpa using e
  refine ⟨g,cap,hv,hnc,hcm,Fm.are.of hBg hg fx 0 (fun j hj => by rw [Nat.zero_add]; exact hcur j hj) (fun p hp => ?_),fun j hj => ?_⟩
  ·exact Fm.is.kept (fun k cur fz hk hh => ⟨hk.1,hh⟩) p.1 (h.is p hp)
  ·rw [Lib.cell_of_heap hg]; exact hcur j hj
def uE (p : Fm × Value) : Bool × List UInt8:=(p.1.wrap,p.1.text)
def tY (k : Nd) : Bool × List UInt8:=(I9 k.kind,e7 k)
theorem wC {fx : List (Fm × Value)} {ks : List Nd} (h : fx.map uE=ks.map tY) : (fx.map (·.1)).map Fm.text=(r4 ks).map (·.2):=by
 have:=congrArg (List.map (·.2)) h
 rw [List.map_map,List.map_map] at this
 rw [jR,List.map_map,List.map_map]
 exact this
def mT (t : Nd) (d : Int) (w : World) (e : Ending) (w' : World) : Prop :=
 Below w.heap.size w w'∧((d7 t d=true∧∃ (f : Fm) (x : Value),e=.returned (.iface f.ty x)∧f.is (w.heap.size ≤ ·) w' x∧f.text=e7 t∧f.wrap=I9 t.kind)∨(d7 t d=false∧e=.returned .nilIface))
mutual
def r8 : Nd→Prop
 | .mk _ s _ ks _ => s.size≤140737488355328∧cO ks
def cO : List Nd→Prop
 | [] => True
 | k :: ks => r8 k∧cO ks
end
theorem nD : ∀ (ks : List Nd),cO ks→∀ j (hj : j<ks.length),r8 ks[j]
 | k :: ks,h,0,_ => by rw [cO] at h; exact h.1
 | k :: ks,h,j + 1,hj => by rw [cO] at h; exact nD ks h.2 j (by simpa using hj)
theorem r8.text {t : Nd} (h : r8 t) : t.text.size≤140737488355328:=by cases t; rw [r8] at h; exact h.1
theorem r8.kid {t : Nd} (h : r8 t) (j : Nat) (hj : j<t.kids.length) : r8 t.kids[j]:=by cases t; rw [r8] at h; exact nD _ h.2 j hj
end
section
open Lib (hid)
open Go.RowKit Go.Shelf
theorem a4h (x : Value) (w : World) : (Instr.makeInterface 90 x).run Tryz.prog w=.ok (.iface 90 x) w:=run_makeInterface w 90 x (by kernel_rfl)
theorem a6z (x : Value) (w : World) : (Instr.makeInterface 101 x).run Tryz.prog w=.ok (.iface 101 x) w:=run_makeInterface w 101 x (by kernel_rfl)
theorem a5v (x : Value) (w : World) : (Instr.makeInterface 103 x).run Tryz.prog w=.ok (.iface 103 x) w:=run_makeInterface w 103 x (by kernel_rfl)
theorem a3S (x : Value) (w : World) : (Instr.makeInterface 99 x).run Tryz.prog w=.ok (.iface 99 x) w:=run_makeInterface w 99 x (by kernel_rfl)
theorem p8 {t : Nd} {d : Int} {w w' : World} (h : d7 t d=false) (hb : Below w.heap.size w w') : mT t d w (.returned .nilIface) w':=⟨hb,.inr ⟨h,rfl⟩⟩
theorem a0d {t : Nd} {d : Int} {w w' : World} (hd : d≤100) (hp : y9 t=true) (hb : Below w.heap.size w w') : mT t d w (.returned (nI (e7 t))) w':=by
 have hr : d7 t d=true:=by rw [yK,decide_eq_true hd,hp]; rfl
 have hk : 5≤t.kind∧t.kind≤10:=by
  unfold y9 at hp
  simp only [Bool.and_eq_true,decide_eq_true_eq] at hp
  exact hp.1.1
 refine ⟨hb,.inl ⟨hr,.leaf ⟨(e7 t).toArray⟩,.string ⟨(e7 t).toArray⟩,rfl,⟨rfl,?_⟩,by rw [Fm.text],?_⟩⟩
 ·have h1:=mC t d hr
  have h2:=oT t
  rw [fZ hr hk,O4] at h2
  show (e7 t).toArray.size≤maxLen
  rw [List.size_toArray]
  unfold maxLen
  omega
 ·unfold I9
  rw [decide_eq_false (by omega),decide_eq_false (by omega),decide_eq_false (by omega)]; rfl
theorem Boxed.mono {b B : Nat} {t : Nd} {a : Option Addr} {cap : Nat} {w w' : World} (h : Boxed b t a cap w) (hb : Below B w w') (hB : b<B) : Boxed b t a cap w' :=
 ⟨Nat.lt_of_lt_of_le h.lt hb.size,(hb.cell (p:=⟨b,0,none⟩) hB).trans h.c0,(hb.cell (p:=⟨b,1,none⟩) hB).trans h.c1,(hb.cell (p:=⟨b,2,none⟩) hB).trans h.c2,(hb.cell (p:=⟨b,3,none⟩) hB).trans h.c3,(hb.cell (p:=⟨b,4,none⟩) hB).trans h.c4⟩
theorem kV {t : Nd} {d : Int} {w w' : World} {h : ByteArray} {fx : List (Fm × Value)} {g gc n : Nat} (hn : fx.length=n) (hr : d7 t d=true) (hb : Below w.heap.size w w') (hs : h.size≤maxLen) (hpos : 0<fx.length) (hgc : fx.length≤gc) (hgm : gc≤maxLen)
 (hare : Fm.are (w.heap.size ≤ ·) w' (fx.map (·.1)) (some ⟨g,0,none⟩) 0) (htx : (fx.map (·.1)).map Fm.text=(r4 t.kids).map (·.2)) (hf : e7 t=h.data.toList ++ bF ((r4 t.kids).map (·.2))) (hk : I9 t.kind=false) :
 mT t d w (.returned (.iface 90 (.agg #[.string h,.slice (some ⟨g,0,none⟩) n gc]))) w':=by
 subst hn
 refine ⟨hb,.inl ⟨hr,.called h (fx.map (·.1)),_,rfl,⟨some ⟨g,0,none⟩,gc,by rw [List.length_map],hs,by rw [List.length_map]; exact hgc,hgm,hare⟩,?_,by rw [hk]; rfl⟩⟩
 rw [Fm.text,List.append_assoc,oB _ (fun e => by rw [List.map_eq_nil_iff] at e; rw [e] at hpos; simp at hpos),htx,hf]
theorem fF {av : Nat→Prop} {w : World} {fs : List Fm} {a : Option Addr} {j : Nat} (h : Fm.are av w fs a 0) (hj : j<fs.length) {g : Nat} (ha : a=some ⟨g,0,none⟩) {x : Value} (hc : w.cell? ⟨g,j,none⟩=some (.iface fs[j].ty x)) : fs[j].is av w x:=by
 obtain ⟨g',y,cur,fz,e,-,hh,hcur,hy⟩:=Fm.are.get fs 0 h j hj
 rw [ha] at e
 obtain rfl : g=g':=by injection e with e; injection e
 rw [Lib.cell_of_heap hh] at hc
 rw [Nat.zero_add] at hcur
 rw [hcur] at hc
 injection hc with hc
 injection hc with _ hc
 rw [← hc]
 exact hy
theorem mJ (f : Fm) (k : Nd) (h : f.wrap=I9 k.kind) (h' : f.text=e7 k) : bK f.wrap f.text=Y2 k.kind (e7 k):=by
 unfold bK Y2
 rw [h,h']
theorem mR {t k : Nd} {d : Int} {w w' : World} {s : ByteArray} {f : Fm} {y : Value} (hr : d7 t d=true) (hb : Below w.heap.size w w') (hs : s.size≤maxLen) (hf : f.is (w.heap.size ≤ ·) w' y) (hw : f.wrap=I9 k.kind) (ht : f.text=e7 k)
 (hform : e7 t=s.data.toList ++ Y2 k.kind (e7 k)) (hk : I9 t.kind=true) : mT t d w (.returned (.iface 101 (.agg #[.iface 91 (.string s),.iface f.ty y]))) w':=by
 refine ⟨hb,.inl ⟨hr,.unary (.leaf s) f,_,rfl,⟨.string s,y,rfl,⟨rfl,hs⟩,hf⟩,?_,by rw [hk]; rfl⟩⟩
 rw [Fm.text,Fm.text,mJ f k hw ht,hform]
theorem uR {t k u : Nd} {d : Int} {w w' : World} {s : ByteArray} {f g : Fm} {y z : Value} (hr : d7 t d=true) (hb : Below w.heap.size w w') (hs : s.size≤maxLen) (hf : f.is (w.heap.size ≤ ·) w' y) (hw : f.wrap=I9 k.kind) (ht : f.text=e7 k)
 (hg : g.is (w.heap.size ≤ ·) w' z) (hw' : g.wrap=I9 u.kind) (ht' : g.text=e7 u)
 (hform : e7 t=Y2 k.kind (e7 k) ++ 32 :: (s.data.toList ++ 32 :: Y2 u.kind (e7 u))) (hk : I9 t.kind=true) : mT t d w (.returned (.iface 103 (.agg #[.iface f.ty y,.iface 91 (.string s),.iface g.ty z]))) w':=by
 refine ⟨hb,.inl ⟨hr,.binary f (.leaf s) g,_,rfl,⟨y,.string s,z,rfl,hf,⟨rfl,hs⟩,hg⟩,?_,by rw [hk]; rfl⟩⟩
 rw [Fm.text,Fm.text,mJ f k hw ht,mJ g u hw' ht',hform]
 simp
theorem vW {t k u v : Nd} {d : Int} {w w' : World} {f g h : Fm} {y z x : Value} (hr : d7 t d=true) (hb : Below w.heap.size w w') (hf : f.is (w.heap.size ≤ ·) w' y) (ht : f.text=e7 k)
 (hg : g.is (w.heap.size ≤ ·) w' z) (ht' : g.text=e7 u) (hh : h.is (w.heap.size ≤ ·) w' x) (ht'' : h.text=e7 v)
 (hform : e7 t=105 :: 102 :: 32 :: (e7 k ++ 32 :: ([116,104,101,110] ++ 32 :: (e7 u ++ 32 :: ([101,108,115,101] ++ 32 :: e7 v))))) (hk : I9 t.kind=true) : mT t d w (.returned (.iface 99 (.agg #[.iface f.ty y,.iface g.ty z,.iface h.ty x]))) w':=by
 refine ⟨hb,.inl ⟨hr,.choice f g h,_,rfl,⟨y,z,x,rfl,hf,hg,hh⟩,?_,by rw [hk]; rfl⟩⟩
 rw [Fm.text,ht,ht',ht'',hform]
 simp
theorem a1T {av : Nat→Prop} {w : World} {f : Fm} {x : Value} (h : f.is av w x) : f.is av w.drew x:=Fm.is.kept (W:=w) (W':=w.drew) (fun _ _ _ h h' => ⟨h,h'⟩) f h
theorem bU {p : Fm × Value} {k : Nd} (h : uE p=tY k) : p.1.wrap=I9 k.kind∧p.1.text=e7 k:=⟨congrArg (·.1) h,congrArg (·.2) h⟩
theorem a7c {t k u v : Nd} (h : t.kind=14) (hk : t.kids=[k,u,v]) : e7 t=105 :: 102 :: 32 :: (e7 k ++ 32 :: ([116,104,101,110] ++ 32 :: (e7 u ++ 32 :: ([101,108,115,101] ++ 32 :: e7 v)))):=by
 cases t with
 | mk kind s n ks p =>
 obtain rfl : kind=14:=h
 obtain rfl : ks=[k,u,v]:=hk
 exact a1U s n p k u v
theorem a6S {t k u : Nd} (h : t.kind=13) (hk : t.kids=[k,u]) : e7 t=Y2 k.kind (e7 k) ++ 32 :: (t.text.data.toList ++ 32 :: Y2 u.kind (e7 u)):=by
 cases t with
 | mk kind s n ks p =>
 obtain rfl : kind=13:=h
 obtain rfl : ks=[k,u]:=hk
 exact yQ s n p k u
theorem a6X {t k : Nd} (h : t.kind=12) (hk : t.kids=[k]) : e7 t=(if t.text.data.toList=[45] then [45] else [110,111,116,32]) ++ Y2 k.kind (e7 k):=by
 cases t with
 | mk kind s n ks p =>
 obtain rfl : kind=12:=h
 obtain rfl : ks=[k]:=hk
 exact wR s n p k
theorem zK {fx : List (Fm × Value)} {ks : List Nd} {k : Nat} (hk : k<ks.length) (h : fx.map uE=(ks.take k).map tY) {f : Fm} {y : Value} (hft : f.text=e7 ks[k]) (hfw : f.wrap=I9 ks[k].kind) : (fx ++ [(f,y)]).map uE=(ks.take (k + 1)).map tY:=by
 rw [List.map_append,h,List.take_succ_eq_append_getElem hk,List.map_append]
 show _ ++ [(f.wrap,f.text)]=_ ++ [(I9 ks[k].kind,e7 ks[k])]
 rw [hft,hfw]
theorem a3p (N : Nat) : ∀ t : Nd,SizeOf.sizeOf t<N→∀ (a : Option Addr) (cap n₀ : Nat) (d : Int) (w : World),t.hold n₀ w a cap→r8 t→n₀≤w.heap.size→Env w→Tab w→0≤d→d≤1000 →
 Calls Tryz.prog 43 #[.agg #[.int .i64 t.kind,.string t.text,.int .i64 t.n,.slice a t.kids.length cap,.int .i64 t.place],.int .i64 d] w (mT t d w):=by
 induction N with
 | zero => intro t ht; omega
 | succ N ih =>
 intro t ht a cap n₀ d w hh hsh hn he hta hd0 hd1
 have hkc:=hh.bounds.2.2.2.2
 have hts:=hsh.text
 have hkd : ∀ (k : Nat) (hk : k<t.kids.length),SizeOf.sizeOf t.kids[k]<N:=by
  cases t with
  | mk kind s n ks p => exact fun k hk => dQ hk ht
 have IH:=hid fun (k : Nat) (h : k<t.kids.length) => ih _ (hkd k h)
 have HH:=hid hh
 have HSH:=hid hsh
 have HE:=hid he
 have HTA:=hid hta
 have R:=hid (yK t d)
 have hkl : t.kids.length≤9223372036854775807:=Nat.le_trans hkc.1 hkc.2
 clear hh hsh he hta ih ht hkd
 have HB:=hid (c6 w (.cells #[.int .i64 t.kind,.string t.text,.int .i64 t.n,.slice a t.kids.length cap,.int .i64 t.place] 24))
 have B0:=hid (Boxed.make w t a cap)
 go_enter Tryz.func43,Tryz.ntmps43
 by_cases hd : 100<d
 ·have F:=hid (show d7 t d=false by rw [R.out,decide_eq_false (by omega)]; rfl)
  go_wp2_with fail
  go_ret
  exact p8 F HB
 have hd' : d≤100:=by omega
 go_wp2_with fail
 generalize hW : w.alloc (.cells #[.int .i64 t.kind,.string t.text,.int .i64 t.n,.slice a t.kids.length cap,.int .i64 t.place] 24)=W1 at HB B0 ⊢
 clear hW
 have hn1 : n₀≤W1.heap.size:=Nat.le_trans hn HB.out.size
 refine Calls.mono (a12 t a cap W1 hts hkc (HE.out.below HB) (HTA.out.below HB)) ?_
 rintro e w2 ⟨rfl,hb⟩
 have HC:=hid (HB.out.trans (hb.mono HB.out.size))
 have B1:=hid (B0.out.below hb)
 clear hb HB B0 hn1
 by_cases hp : y9 t=true
 ·have V:=hid (show t6 t=nI (e7 t) from if_pos hp)
  rw [show t6 t=.iface 91 (.string ⟨(e7 t).toArray⟩) from V.out]
  have HP:=hid hp
  clear hp
  go_wp2_with fail
  go_ret
  exact a0d hd' HP HC
 have V:=hid (show t6 t=.nilIface from if_neg hp)
 rw [V.out]
 have R2:=hid (show d7 t d=(decide (t.n=0) && (decide (1≤t.kids.length) && decide (t.kids.length≤8)) && m9 t.kids (d + 1) && iX t) by
  rw [R.out,decide_eq_true hd',Bool.eq_false_iff.2 hp]; rfl)
 clear V hp R
 have c2:=B1.out.c2
 have c3:=B1.out.c3
 by_cases h0 : t.n=0
 case neg =>
  have F:=hid (show d7 t d=false by rw [R2.out,decide_eq_false h0]; rfl)
  have e0 : (t.n != 0)=true:=by simpa using h0
  clear h0
  go_wp2_with fail
  go_ret
  exact p8 F HC
 replace c2 : w2.cell? ⟨w.heap.size,2,none⟩=some (.int .i64 0):=h0 ▸ c2
 by_cases h1 : t.kids.length=0
 ·have F:=hid (show d7 t d=false by rw [R2.out,decide_eq_false (show ¬ 1≤t.kids.length by omega)]; simp)
  have e1 : ((t.kids.length : Int) == 0)=true:=by rw [beq_iff_eq]; omega
  clear h0 h1
  go_wp2_with fail
  go_ret
  exact p8 F HC
 have e1 : ((t.kids.length : Int) == 0)=false:=by rw [beq_eq_false_iff_ne]; omega
 by_cases h8 : 8<t.kids.length
 ·have F:=hid (show d7 t d=false by rw [R2.out,decide_eq_false (show ¬ t.kids.length≤8 by omega)]; simp)
  clear h0 h1
  go_wp2_with fail
  go_ret
  exact p8 F HC
 have R3:=hid (show d7 t d=(m9 t.kids (d + 1) && iX t) by
  rw [R2.out,decide_eq_true h0,decide_eq_true (show 1≤t.kids.length by omega),decide_eq_true (show t.kids.length≤8 by omega)]; rfl)
 have h9 : t.kids.length≤8:=by omega
 clear h0 h1 R2 h8
 go_wp2_with fail
 clear c2 c3
 obtain ⟨i0,hi,hz0,hz1,hz2⟩:=info_parts (show (Tryz.prog.info? 36).map (fun i => (i.zero,i.size,i.bytes))=some (some .nilIface,1,16) by kernel_rfl)
 have HI0:=hid (show _∧_∧_∧_ from ⟨hi,hz0,hz1,hz2⟩)
 clear hi hz0 hz1 hz2
 go_loopw [6,35] (fun v i wr => ∃ (k : Nat) (fx : List (Fm × Value)),k≤t.kids.length∧i=.int .i64 k∧fx.length=k∧Hid (fx.map uE=(t.kids.take k).map tY)∧Hid (KF (w.heap.size + 1) fx v wr)∧Hid (Below w.heap.size w wr)∧Hid (Boxed w.heap.size t a cap wr)∧Hid (∀ j (hj : j<t.kids.length),j<k→d7 t.kids[j] (d + 1)=true)) (fun _ i _ => t.kids.length - (intOf i).toNat)
 case atStart => exact ⟨0,[],Nat.zero_le _,rfl,rfl,rfl,KF.nil _ _,HC,B1,fun j hj h => by omega⟩
 case round =>
  obtain ⟨k,fx,hk,rfl,hfl,HTL,HKF,HBr,HBx,HAll⟩:=hrel
  clear B1 HC
  by_cases hlt : k<t.kids.length
  ·obtain ⟨b,off,x,cx,A⟩:=(HH.out.below (HBr.out.mono hn)).kid k hlt
   obtain ⟨rfl,hb0,c0,c1,c2,c3,c4,hk1⟩:=A
   have HK:=hid hk1
   clear hk1
   have hnr : n₀≤wr.heap.size:=Nat.le_trans hn HBr.out.size
   go_wp2_with fail
   have hb1:=c6 wr (.cells #[.int .i64 t.kids[k].kind,.string t.kids[k].text,.int .i64 t.kids[k].n,.slice x t.kids[k].kids.length cx,.int .i64 t.kids[k].place] 24)
   generalize hW3 : wr.alloc (.cells #[.int .i64 t.kids[k].kind,.string t.kids[k].text,.int .i64 t.kids[k].n,.slice x t.kids[k].kids.length cx,.int .i64 t.kids[k].place] 24)=W3 at hb1 ⊢
   clear hW3
   have HB3:=hid (HBr.out.trans (hb1.mono HBr.out.size))
   have hn3 : n₀≤W3.heap.size:=Nat.le_trans hnr hb1.size
   refine Calls.mono (IH.out k hlt x cx n₀ (d + 1) W3 (HK.out.below (hb1.mono hnr)) (HSH.out.kid k hlt) hn3 (HE.out.below HB3) (HTA.out.below HB3) (by omega) (by omega)) ?_
   rintro e w4 ⟨hb4,⟨hr,f,y,rfl,hf,hft,hfw⟩ | ⟨hr,rfl⟩⟩
   ·have HB4:=hid (HB3.out.trans (hb4.mono HB3.out.size))
    have hb14:=hb1.trans (hb4.mono hb1.size)
    have HKF4:=hid (HKF.out.below hb14)
    have HBx4:=hid (HBx.out.below hb14)
    have HF:=hid (show f.is (fun k => w.heap.size + 1≤k∧u6.ownBlock≠some k) w4 y from Fm.is.kept (fun g _ _ hg hh => ⟨⟨by have:=hb1.size; have:=HBx.out.lt; have : W3.heap.size≤g:=hg; omega,fun e => by have:=(HKF.out.own.lt g e).2; have:=hb1.size; have : W3.heap.size≤g:=hg; omega⟩,hh⟩) f hf)
    have HT4:=hid (zK hlt HTL hft hfw (y:=y))
    have HR4:=hid hr
    have hB4 : w.heap.size + 1≤w4.heap.size:=HBx4.out.lt
    clear hb14 hb4 hb1 hf hft hfw hr
    go_wp2_with (at_builtin; refine wpList_append_lies _ rfl _ _ 88 rfl (w.heap.size + 1) 36 i0 .nilIface 1 16 Tryz.underlying88 HI0.out.1 HI0.out.2.1 HI0.out.2.2.1 HI0.out.2.2.2 rfl (by decide) _ _ _ rfl (HKF4.out.own.alloc _) ⟨w4.heap.size,0,none⟩ 1 1 [.iface f.ty y] rfl rfl (cell_one_new _ _ _) (fun u hu => by simp at hu; subst hu; rfl) (by decide) (by unfold maxLen; omega) (by omega) (by simp; omega) _ rfl ?_; intro g cap' w5 hown' hgrow' hat hltg)
    have HKF5:=hid (KF.snoc (HKF4.out.below (c6 w4 _)) (Fm.is.below (fun _ h => h) (c6 w4 _) HF) rfl hown' hgrow' hat)
    have hbg : Below (w.heap.size + 1) w4 w5:=((c6 w4 (.cells #[.iface f.ty y] 36)).mono hB4).grown hgrow' (by simp; omega) (fun r e => (HKF4.out.own.lt r e).1)
    have HBx5:=hid (HBx4.out.mono hbg (by omega))
    have HB5:=hid (HB4.out.trans (hbg.mono (by omega)))
    clear hown' hgrow' hat hltg hbg
    go_roundw
    case rel =>
     refine ⟨k + 1,fx ++ [(f,y)],by omega,by go_num,by simp [hfl],HT4,(by have h5:=HKF5.out; rw [hfl] at h5; exact h5),HB5,HBx5,fun j hj h => ?_⟩
     by_cases ej : j=k
     ·subst ej; exact HR4
     ·exact HAll.out j hj (by omega)
    case measure => simp [intOf]; omega
   ·have F:=hid (show d7 t d=false by rw [R3.out,gM hlt hr]; rfl)
    have HB4:=hid (HB3.out.trans (hb4.mono HB3.out.size))
    clear hb4 hb1 hr
    go_wp2_with fail
    go_ret
    exact p8 F HB4
  ·obtain rfl : k=t.kids.length:=by omega
   have hall : m9 t.kids (d + 1)=true:=by
    have:=kL t.kids (d + 1) t.kids.length fun j hj _ => HAll.out j hj hj
    rwa [List.take_length] at this
   have R4:=hid (show d7 t d=iX t by rw [R3.out,hall]; rfl)
   have hpos : 0<fx.length:=by
    have : (t.kids.length : Int)≠0:=by simpa using e1
    omega
   obtain ⟨g,gc,rfl,hgc,hgm,hare,hcell⟩:=HKF.out.row hpos
   rw [hfl] at hgc
   have HTN:=hid (show fx.map uE=t.kids.map tY by have:=HTL.out; rwa [List.take_length] at this)
   have HAre:=hid (show Fm.are (w.heap.size ≤ ·) wr (fx.map (·.1)) (some ⟨g,0,none⟩) 0 from Fm.are.kept (fun _ _ _ h h' => ⟨by have h2 : w.heap.size + 1≤_:=h; show w.heap.size≤_; omega,h'⟩) _ hare)
   have HCell:=hid hcell
   have FE:=hid (vI t)
   have HTX:=hid (wC HTN)
   clear hall hare hcell HAll HTL HKF R3 hlt hk
   have c1:=HBx.out.c1
   have mkl:=a3D
   have mkc:=a4h
   have mku:=a6z
   have mkb:=a5v
   have mkh:=a3S
   have hk5 : t.kind=11∨t.kind=15∨t.kind=14∨t.kind=12∨t.kind=13∨(t.kind≠11∧t.kind≠15∧t.kind≠14∧t.kind≠12∧t.kind≠13):=by omega
   rcases hk5 with hk | hk | hk | hk | hk | hk
   ·have c0:=HBx.out.kind hk
    have F:=hid (show d7 t d=gT t.text.data.toList by rw [R4.out]; unfold iX; rw [if_pos hk])
    have G:=hid (show e7 t=t.text.data.toList ++ bF ((r4 t.kids).map (·.2)) by rw [FE.out,hk]; rfl)
    have K:=hid (show I9 t.kind=false by rw [hk]; rfl)
    have HK:=hid hk
    clear hk
    go_wp2_with fail
    refine Calls.mono (oR t.text _ (Nat.le_trans hts (by decide)) (HE.out.below HBr)) ?_
    rintro e w' ⟨rfl,hb⟩
    have HB2:=hid (HBr.out.trans (hb.mono HBr.out.size))
    have HAre2:=hid (show Fm.are (w.heap.size ≤ ·) w' (fx.map (·.1)) (some ⟨g,0,none⟩) 0 from Fm.are.kept (fun _ _ _ h h' => ⟨h,(hb.block _ (aF h')).trans h'⟩) _ HAre)
    have HBx2:=hid (HBx.out.below hb)
    clear c0 c1 hb
    have c0:=HBx2.out.kind HK
    have c1:=HBx2.out.c1
    cases hq : gT t.text.data.toList
    ·have F':=hid (show d7 t d=false by rw [F.out,hq])
     go_wp2_with fail
     go_ret
     exact p8 F' HB2
    ·have F':=hid (show d7 t d=true by rw [F.out,hq])
     go_wp2_with fail
     go_ret
     exact kV hfl F' HB2 (Nat.le_trans hts (by decide)) hpos (by rw [hfl]; exact hgc) hgm HAre2 HTX G K
   ·have c0:=HBx.out.kind hk
    have F:=hid (show d7 t d=(r9 t.text.data.toList && decide (t.kids.length=3)) by rw [R4.out]; unfold iX; rw [hk]; rfl)
    have G:=hid (show e7 t=((⟨#[112,105,99,107,32,34]⟩ : ByteArray) ++ t.text ++ ⟨#[34]⟩).data.toList ++ bF ((r4 t.kids).map (·.2)) by
     rw [FE.out,hk]
     show [112,105,99,107,32,34] ++ t.text.data.toList ++ [34] ++ bF ((r4 t.kids).map (·.2))=_
     simp)
    have K:=hid (show I9 t.kind=false by rw [hk]; rfl)
    have HK:=hid hk
    clear hk
    go_wp2_with fail
    refine Calls.mono (eS t.text _ (Nat.le_trans hts (by decide))) ?_
    rintro e w' ⟨rfl,hb⟩
    have HB2:=hid (HBr.out.trans (hb.mono HBr.out.size))
    have HAre2:=hid (show Fm.are (w.heap.size ≤ ·) w' (fx.map (·.1)) (some ⟨g,0,none⟩) 0 from Fm.are.kept (fun _ _ _ h h' => ⟨h,(hb.block _ (aF h')).trans h'⟩) _ HAre)
    have HBx2:=hid (HBx.out.below hb)
    clear c0 c1 hb
    have c0:=HBx2.out.kind HK
    have c1:=HBx2.out.c1
    cases hq : r9 t.text.data.toList
    ·have F':=hid (show d7 t d=false by rw [F.out,hq]; rfl)
     go_wp2_with fail
     go_ret
     exact p8 F' HB2
    ·by_cases hl : t.kids.length=3
     ·have F':=hid (show d7 t d=true by rw [F.out,hq,hl]; rfl)
      have e3 : ((t.kids.length : Int) == 3)=true:=by rw [beq_iff_eq]; omega
      have hl0:=hid hl
      clear hl
      go_wp2_with fail
      go_ret
      exact kV hfl F' HB2 (by rw [ByteArray.size_append,ByteArray.size_append]; show 6 + _ + 1≤maxLen; unfold maxLen; omega) hpos (by rw [hfl]; exact hgc) hgm HAre2 HTX G K
     ·have F':=hid (show d7 t d=false by rw [F.out,decide_eq_false hl]; simp)
      have e3 : ((t.kids.length : Int) == 3)=false:=by rw [beq_eq_false_iff_ne]; omega
      clear hl
      go_wp2_with fail
      go_ret
      exact p8 F' HB2
   ·have c0:=HBx.out.kind hk
    have F:=hid (show d7 t d=(t.text.toList.isEmpty && decide (t.kids.length=3)) by rw [R4.out,Lib.toList_data]; unfold iX; rw [hk]; rfl)
    have K:=hid (show I9 t.kind=true by rw [hk]; rfl)
    have HK:=hid hk
    clear hk
    by_cases hq : t.text.toList=[]
    ·have hq2 : t.text.toList.isEmpty=true:=by rw [hq]; rfl
     by_cases hl : t.kids.length=3
     ·have F':=hid (show d7 t d=true by rw [F.out,hq2,hl]; rfl)
      have e3 : ((t.kids.length : Int) == 3)=true:=by rw [beq_iff_eq]; omega
      obtain ⟨p0,p1,p2,rfl⟩:=a5z (show fx.length=3 by omega)
      have g0:=HCell.out 0 (by simp)
      have g1:=HCell.out 1 (by simp)
      have g2:=HCell.out 2 (by simp)
      have arr:=fun w => run_arrayAt (P:=Tryz.prog) (w:=w) 99 36 3 (some ⟨g,0,none⟩) t.kids.length gc Tryz.underlying99 (by omega)
      have hl0:=hid hl
      obtain ⟨k0,k1,k2,hks⟩:=a5z hl
      have G:=hid (a7c HK hks)
      have T:=HTN.out
      rw [hks] at T
      simp only [List.map_cons,List.map_nil,List.cons.injEq,and_true] at T
      have HTT:=hid T
      have I0:=hid (fF (j:=0) HAre (by simp) rfl g0)
      have I1:=hid (fF (j:=1) HAre (by simp) rfl g1)
      have I2:=hid (fF (j:=2) HAre (by simp) rfl g2)
      clear hl hks T
      go_wp2_with fail
      go_ret
      exact vW F' HBr I0 (bU HTT.out.1).2 I1 (bU HTT.out.2.1).2 I2 (bU HTT.out.2.2).2 G K
     ·have F':=hid (show d7 t d=false by rw [F.out,decide_eq_false hl]; simp)
      have e3 : ((t.kids.length : Int) == 3)=false:=by rw [beq_eq_false_iff_ne]; omega
      clear hl
      go_wp2_with fail
      go_ret
      exact p8 F' HBr
    ·have hq2 : t.text.toList.isEmpty=false:=by simpa using hq
     have F':=hid (show d7 t d=false by rw [F.out,hq2]; rfl)
     go_wp2_with fail
     go_ret
     exact p8 F' HBr
   ·have c0:=HBx.out.kind hk
    have F:=hid (show d7 t d=((t.text.toList == [45] || t.text.toList == [110,111,116]) && decide (t.kids.length=1)) by rw [R4.out,Lib.toList_data]; unfold iX; rw [hk]; rfl)
    have K:=hid (show I9 t.kind=true by rw [hk]; rfl)
    have HK:=hid hk
    clear hk
    by_cases hl : t.kids.length=1
    ·have e3 : ((t.kids.length : Int) == 1)=true:=by rw [beq_iff_eq]; omega
     obtain ⟨p0,rfl⟩:=a7b (show fx.length=1 by omega)
     have g0:=HCell.out 0 (by simp)
     have hl0:=hid hl
     obtain ⟨k0,hks⟩:=a7b hl
     have G:=hid (a6X HK hks)
     have T:=HTN.out
     rw [hks] at T
     simp only [List.map_cons,List.map_nil,List.cons.injEq,and_true] at T
     have HTT:=hid T
     have I0:=hid (fF (j:=0) HAre (by simp) rfl g0)
     have hi1 : (0 : Int)<t.kids.length:=by omega
     clear hks T
     by_cases hq : t.text.toList=[45]
     ·have F':=hid (show d7 t d=true by rw [F.out,hq,hl]; rfl)
      have G2:=hid (show e7 t=(⟨#[45]⟩ : ByteArray).data.toList ++ Y2 k0.kind (e7 k0) by rw [G.out,if_pos (by rw [← Lib.toList_data]; exact hq)])
      have q1 : (t.text.toList == [45])=true:=by rw [hq]; rfl
      clear hl
      go_wp2_with fail
      go_ret
      exact mR F' HBr (by decide) I0 (bU HTT).1 (bU HTT).2 G2 K
     ·have q1 : (t.text.toList == [45])=false:=beq_eq_false_iff_ne.2 hq
      by_cases hq' : t.text.toList=[110,111,116]
      ·have F':=hid (show d7 t d=true by rw [F.out,hq',hl]; rfl)
       have G2:=hid (show e7 t=(⟨#[110,111,116,32]⟩ : ByteArray).data.toList ++ Y2 k0.kind (e7 k0) by rw [G.out,if_neg (by rw [← Lib.toList_data]; exact hq)])
       have q2 : (t.text.toList == [110,111,116])=true:=by rw [hq']; rfl
       clear hl
       go_wp2_with fail
       go_ret
       exact mR F' HBr (by decide) I0 (bU HTT).1 (bU HTT).2 G2 K
      ·have q2 : (t.text.toList == [110,111,116])=false:=beq_eq_false_iff_ne.2 hq'
       have F':=hid (show d7 t d=false by rw [F.out,q1,q2]; rfl)
       clear hl
       go_wp2_with fail
       go_ret
       exact p8 F' HBr
    ·have F':=hid (show d7 t d=false by rw [F.out,decide_eq_false hl]; simp)
     have e3 : ((t.kids.length : Int) == 1)=false:=by rw [beq_eq_false_iff_ne]; omega
     clear hl
     by_cases hq : t.text.toList=[45]
     ·have q1 : (t.text.toList == [45])=true:=by rw [hq]; rfl
      have q2 : (t.text.toList == [110,111,116])=false:=by rw [hq]; rfl
      have q2' : ¬ t.text.toList=[110,111,116]:=by rw [hq]; decide
      go_wp2_with fail
      go_ret
      exact p8 F' HBr
     ·have q1 : (t.text.toList == [45])=false:=beq_eq_false_iff_ne.2 hq
      by_cases hq' : t.text.toList=[110,111,116]
      ·have q2 : (t.text.toList == [110,111,116])=true:=by rw [hq']; rfl
       go_wp2_with fail
       go_ret
       exact p8 F' HBr
      ·have q2 : (t.text.toList == [110,111,116])=false:=beq_eq_false_iff_ne.2 hq'
       go_wp2_with fail
       go_ret
       exact p8 F' HBr
   ·have c0:=HBx.out.kind hk
    have SC:=hid (rR t.text.data.toList)
    have F:=hid (show d7 t d=(dE t.text.data.toList && decide (t.kids.length=2)) by rw [R4.out]; unfold iX; rw [hk]; rfl)
    have K:=hid (show I9 t.kind=true by rw [hk]; rfl)
    have HK:=hid hk
    clear hk
    obtain ⟨m,hm⟩:=HE.out.below HBr
    by_cases hq : t.text.toList=[]
    ·have hq2 : t.text.toList.isEmpty=true:=by rw [hq]; rfl
     have F':=hid (show d7 t d=false by rw [F.out,← SC.out,← Lib.toList_data,hq2]; rfl)
     go_wp2_with fail
     go_ret
     exact p8 F' HBr
    ·have hq2 : t.text.toList.isEmpty=false:=by simpa using hq
     have C1:=hid (show decide (0≤Lib.indexByte t.text.data.toList 32)=Lib.contains t.text.data.toList [32] by unfold Lib.contains; rw [Lib.index_one])
     cases hc1 : Lib.contains t.text.data.toList [32]
     case true =>
      have F':=hid (show d7 t d=false by rw [F.out,← SC.out,hc1]; simp)
      go_wp2_with (first | (go_at_call 62; refine (Tryz.strings_Contains_one t.text 32 _).mono ?_; rintro e w' ⟨rfl,rfl⟩; rw [C1.out,hc1]))
      go_ret
      exact p8 F' HBr
     case false =>
      have C2:=hid (show Lib.contains (⟨#[32,111,114,32,97,110,100,32,60,32,60,61,32,61,32,43,32,45,32,42,32,47,32]⟩ : ByteArray).data.toList ((⟨#[32]⟩ : ByteArray) ++ t.text ++ ⟨#[32]⟩).data.toList=Lib.contains (gP D9) (32 :: (t.text.data.toList ++ [32])) by
       rw [show ((⟨#[32]⟩ : ByteArray) ++ t.text ++ ⟨#[32]⟩).data.toList=32 :: (t.text.data.toList ++ [32]) by simp]; rfl)
      cases hc2 : Lib.contains (gP D9) (32 :: (t.text.data.toList ++ [32]))
      case false =>
       have F':=hid (show d7 t d=false by rw [F.out,← SC.out,hc2]; simp)
       go_wp2_with fail
       refine Calls.mono (Tryz.strings_Contains_one t.text 32 _) ?_
       rintro e w' ⟨rfl,rfl⟩
       rw [C1.out,hc1]
       go_wp2_with fail
       refine Calls.mono (Tryz.strings_Contains _ _ m _ (by decide) hm) ?_
       rintro e w' ⟨rfl,rfl⟩
       rw [C2.out,hc2]
       go_wp2_with fail
       go_ret
       exact p8 F' HBr
      case true =>
       have hsg : dE t.text.data.toList=true:=by rw [← SC.out,hc1,hc2,← Lib.toList_data,hq2]; rfl
       by_cases hl : t.kids.length=2
       ·have F':=hid (show d7 t d=true by rw [F.out,hsg,hl]; rfl)
        have e3 : ((t.kids.length : Int) == 2)=true:=by rw [beq_iff_eq]; omega
        obtain ⟨p0,p1,rfl⟩:=a6Q (show fx.length=2 by omega)
        have g0:=HCell.out 0 (by simp)
        have g1:=HCell.out 1 (by simp)
        have hl0:=hid hl
        obtain ⟨k0,k1,hks⟩:=a6Q hl
        have G:=hid (a6S HK hks)
        have T:=HTN.out
        rw [hks] at T
        simp only [List.map_cons,List.map_nil,List.cons.injEq,and_true] at T
        have HTT:=hid T
        have I0:=hid (fF (j:=0) HAre (by simp) rfl g0)
        have I1:=hid (fF (j:=1) HAre (by simp) rfl g1)
        have hi1 : (0 : Int)<t.kids.length:=by omega
        have hi2 : (1 : Int)<t.kids.length:=by omega
        have mixed : Tryz.prog.follows .mixedOrders=true:=by kernel_rfl
        have HSG:=hid hsg
        clear hl hks T hsg
        go_wp2_with fail
        refine Calls.mono (Tryz.strings_Contains_one t.text 32 _) ?_
        rintro e w' ⟨rfl,rfl⟩
        rw [C1.out,hc1]
        go_wp2_with fail
        refine Calls.mono (Tryz.strings_Contains _ _ m _ (by decide) hm) ?_
        rintro e w' ⟨rfl,rfl⟩
        rw [C2.out,hc2]
        go_wp2_with fail
        go_region
        go_wp2_with fail
        go_ret
        exact uR F' ⟨HBr.out.os,HBr.out.tape,HBr.out.output,HBr.out.size,HBr.out.block⟩ (Nat.le_trans hts (by decide)) (a1T I0) (bU HTT.out.1).1 (bU HTT.out.1).2 (a1T I1) (bU HTT.out.2).1 (bU HTT.out.2).2 G K
       ·have F':=hid (show d7 t d=false by rw [F.out,decide_eq_false hl]; simp)
        have e3 : ((t.kids.length : Int) == 2)=false:=by rw [beq_eq_false_iff_ne]; omega
        clear hl hsg
        go_wp2_with fail
        refine Calls.mono (Tryz.strings_Contains_one t.text 32 _) ?_
        rintro e w' ⟨rfl,rfl⟩
        rw [C1.out,hc1]
        go_wp2_with fail
        refine Calls.mono (Tryz.strings_Contains _ _ m _ (by decide) hm) ?_
        rintro e w' ⟨rfl,rfl⟩
        rw [C2.out,hc2]
        go_wp2_with fail
        go_ret
        exact p8 F' HBr
   ·have c0:=HBx.out.c0
    have F':=hid (show d7 t d=false by
     rw [R4.out]
     unfold iX
     rw [if_neg hk.1,if_neg hk.2.1,if_neg hk.2.2.1,if_neg hk.2.2.2.1,if_neg hk.2.2.2.2])
    obtain ⟨q1,q2,q3,q4,q5⟩:=hk
    have q1' : (t.kind == 11)=false:=beq_eq_false_iff_ne.2 q1
    have q2' : (t.kind == 15)=false:=beq_eq_false_iff_ne.2 q2
    have q3' : (t.kind == 14)=false:=beq_eq_false_iff_ne.2 q3
    have q4' : (t.kind == 12)=false:=beq_eq_false_iff_ne.2 q4
    have q5' : (t.kind == 13)=false:=beq_eq_false_iff_ne.2 q5
    clear q1 q2 q3 q4 q5
    go_wp2_with fail
    go_ret
    exact p8 F' HBr
theorem zH (t : Nd) (a : Option Addr) (cap n₀ : Nat) (d : Int) (w : World) (hh : t.hold n₀ w a cap) (hs : r8 t) (hn : n₀≤w.heap.size) (he : Env w) (ht : Tab w) (h0 : 0≤d) (h1 : d≤1000) :
 Calls Tryz.prog 43 #[.agg #[.int .i64 t.kind,.string t.text,.int .i64 t.n,.slice a t.kids.length cap,.int .i64 t.place],.int .i64 d] w (mT t d w) :=
 a3p _ t (Nat.lt_succ_self _) a cap n₀ d w hh hs hn he ht h0 h1
end
section
open Lib (hid)
open Go.RowKit Go.Shelf
def a7j (t : Nd) (w : World) (e : Ending) (w' : World) : Prop :=
 Below w.heap.size w w'∧((U5 t=true∧∃ (f : Fm) (x : Value),e=.returned (.iface f.ty x)∧f.is (w.heap.size ≤ ·) w' x∧f.text=e7 t∧f.wrap=I9 t.kind)∨(U5 t=false∧e=.returned .nilIface))
theorem tI (t : Nd) (a : Option Addr) (cap n₀ : Nat) (w : World) (hh : t.hold n₀ w a cap) (hs : r8 t) (hn : n₀≤w.heap.size) (he : Env w) (ht : Tab w) :
 Calls Tryz.prog 20 #[.agg #[.int .i64 t.kind,.string t.text,.int .i64 t.n,.slice a t.kids.length cap,.int .i64 t.place]] w (a7j t w):=by
 have HH:=hid hh
 have HS:=hid hs
 have HE:=hid he
 have HT:=hid ht
 have R:=hid (show U5 t=(s8 t && d7 t 1) from rfl)
 clear hh hs he ht
 have HB:=hid (c6 w (.cells #[.int .i64 t.kind,.string t.text,.int .i64 t.n,.slice a t.kids.length cap,.int .i64 t.place] 24))
 have B0:=hid (Boxed.make w t a cap)
 go_enter Tryz.func20,Tryz.ntmps20
 go_wp2_with fail
 generalize hW : w.alloc (.cells #[.int .i64 t.kind,.string t.text,.int .i64 t.n,.slice a t.kids.length cap,.int .i64 t.place] 24)=W1 at HB B0 ⊢
 clear hW
 refine Calls.mono (eA t a cap n₀ W1 (HH.out.below (HB.out.mono hn)) (Nat.le_trans hn HB.out.size)) ?_
 rintro e w2 ⟨rfl,hb⟩
 have HC:=hid (HB.out.trans (hb.mono HB.out.size))
 have B1:=hid (B0.out.below hb)
 clear hb HB B0
 have c0:=B1.out.c0
 have c1:=B1.out.c1
 have c2:=B1.out.c2
 have c3:=B1.out.c3
 have c4:=B1.out.c4
 cases hq : s8 t
 ·have F:=hid (show U5 t=false by rw [R.out,hq]; rfl)
  go_wp2_with fail
  go_ret
  exact ⟨HC,.inr ⟨F,rfl⟩⟩
 ·have F:=hid (show U5 t=d7 t 1 by rw [R.out,hq]; rfl)
  go_wp2_with fail
  refine Calls.mono (zH t a cap n₀ 1 w2 (HH.out.below (HC.out.mono hn)) HS (Nat.le_trans hn HC.out.size) (HE.out.below HC) (HT.out.below HC) (by decide) (by decide)) ?_
  rintro e w3 ⟨hb,⟨hr,f,x,rfl,hf,hft,hfw⟩ | ⟨hr,rfl⟩⟩
  ·have HD:=hid (HC.out.trans (hb.mono HC.out.size))
   have HF:=hid (show U5 t=true∧f.is (w.heap.size ≤ ·) w3 x∧f.text=e7 t∧f.wrap=I9 t.kind from ⟨by rw [F.out,hr],Fm.is.kept (fun _ _ _ h h' => ⟨Nat.le_trans HC.out.size h,h'⟩) f hf,hft,hfw⟩)
   clear hb hr hf hft hfw
   go_wp2_with fail
   go_ret
   exact ⟨HD,.inl ⟨HF.out.1,f,x,rfl,HF.out.2⟩⟩
  ·have HD:=hid (HC.out.trans (hb.mono HC.out.size))
   have F':=hid (show U5 t=false by rw [F.out,hr])
   clear hb hr
   go_wp2_with fail
   go_ret
   exact ⟨HD,.inr ⟨F',rfl⟩⟩
theorem qR (t : Nd) (a : Option Addr) (cap n₀ : Nat) (w : World) (hh : t.hold n₀ w a cap) (hs : r8 t) (hn : n₀≤w.heap.size) (he : Env w) (ht : Tab w) :
 Calls Tryz.prog 17 #[.agg #[.int .i64 t.kind,.string t.text,.int .i64 t.n,.slice a t.kids.length cap,.int .i64 t.place]] w fun e w' => e=.returned (.bool (U5 t))∧Below w.heap.size w w':=by
 have HB:=hid (c6 w (.cells #[.int .i64 t.kind,.string t.text,.int .i64 t.n,.slice a t.kids.length cap,.int .i64 t.place] 24))
 have C:=hid (tI t a cap n₀ _ (hh.below (HB.out.mono hn)) hs (Nat.le_trans hn HB.out.size) (he.below HB) (ht.below HB))
 clear hh hs he ht
 go_enter Tryz.func17,Tryz.ntmps17
 go_wp2_with fail
 refine Calls.mono C.out ?_
 rintro e w3 ⟨hb,⟨hr,f,x,rfl,-⟩ | ⟨hr,rfl⟩⟩
 all_goals
  have HD:=hid (HB.out.trans (hb.mono HB.out.size))
  have HR:=hid hr
  clear hb hr
  go_wp2_with fail
  go_ret
  exact ⟨j9 HR.out.symm,HD⟩
def wV (t : Nd) : List UInt8:=if U5 t=true then e7 t else []
def xD (t : Nd) : Int:=if U5 t=true then 0 else 90
theorem a1W (w : World) : Bld w.heap.size w.heap.size [] (w.alloc (.cells #[.pointer none,.slice none 0 0] 41)) :=
 Or.inl ⟨Nat.le_refl _,.slice none 0 0,cY w _,World.ownsRowF_of (World.ownsRow_nil _ _ _ 1),by simp [Value.ownBlock]⟩
theorem rA {s s' : ByteArray} {a b : Int} (h : s=s') (h' : a=b) : Ending.returned (.tuple #[.string s,.int .i64 a])=.returned (.tuple #[.string s',.int .i64 b]):=by rw [h,h']
theorem a26 (t : Nd) (a : Option Addr) (cap n₀ : Nat) (w : World) (hh : t.hold n₀ w a cap) (hs : r8 t) (hn : n₀≤w.heap.size) (he : Env w) (ht : Tab w) :
 Calls Tryz.prog 8 #[.agg #[.int .i64 t.kind,.string t.text,.int .i64 t.n,.slice a t.kids.length cap,.int .i64 t.place]] w fun e w' => e=.returned (.tuple #[.string ⟨(wV t).toArray⟩,.int .i64 (xD t)])∧Below w.heap.size w w':=by
 have HB:=hid (c6 w (.cells #[.int .i64 t.kind,.string t.text,.int .i64 t.n,.slice a t.kids.length cap,.int .i64 t.place] 24))
 have C:=hid (tI t a cap n₀ _ (hh.below (HB.out.mono hn)) hs (Nat.le_trans hn HB.out.size) (he.below HB) (ht.below HB))
 clear hh hs he ht
 go_enter Tryz.func8,Tryz.ntmps8
 go_wp2_with fail
 refine Calls.mono C.out ?_
 rintro e w3 ⟨hb,⟨hr,f,x,rfl,hf,hft,-⟩ | ⟨hr,rfl⟩⟩
 ·have HD:=hid (HB.out.trans (hb.mono HB.out.size))
  have HR:=hid hr
  have hlen : ([] : List UInt8).length + f.text.length≤1099511627776:=by
   have:=hr
   unfold U5 at this
   rw [Bool.and_eq_true] at this
   have:=jM this.1 this.2
   rw [hft]
   show 0 + _≤_
   omega
  have HFT:=hid hft
  have A0:=hid (Aft.start (a1W w3))
  have HF:=hid (show f.is (· ≠ w3.heap.size) (w3.alloc (.cells #[.pointer none,.slice none 0 0] 41)) x from
   Fm.is.kept (fun g _ _ _ h' => ⟨by have:=aF h'; show g≠_; omega,(Lib.alloc_old w3 _ g (aF h')).trans h'⟩) f hf)
  have HB3:=hid (c6 w3 (.cells #[.pointer none,.slice none 0 0] 41))
  clear hb hr hf hft
  have M:=mt f x
  have eg:=en f
  go_wp2_with fail
  generalize hW : w3.alloc (.cells #[.pointer none,.slice none 0 0] 41)=W4 at A0 HF HB3 ⊢
  clear hW
  refine Calls.mono (uS f x w3.heap.size w3.heap.size [] W4 HF A0.out.bld hlen HB3.out.size) ?_
  rintro e w5 ⟨rfl,ha⟩
  have A1:=hid ha
  clear ha
  go_wp2_with fail
  refine Calls.mono (gR w3.heap.size w3.heap.size _ w5 A1.out.bld (A1.out.size HB3.out.size)) ?_
  rintro e w6 ⟨rfl,-,hb6,-⟩
  have HE6:=hid (HD.out.trans ((HB3.out.trans (A1.out.below.trans hb6)).mono HD.out.size))
  clear hb6
  go_wp2_with fail
  go_ret2
  exact ⟨rA (by unfold wV; rw [if_pos HR.out,← HFT.out]) (by unfold xD; rw [if_pos HR.out]),HE6⟩
 ·have HD:=hid (HB.out.trans (hb.mono HB.out.size))
  have HR:=hid hr
  clear hb hr
  go_wp2_with fail
  go_ret2
  exact ⟨rA (by unfold wV; rw [if_neg (by rw [HR.out]; decide)]) (by unfold xD; rw [if_neg (by rw [HR.out]; decide)]),HD⟩
end
end Go.Proofs.YtibiccacafjjfaaGreatDoor
