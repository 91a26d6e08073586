/-
  Laws that the proof rests on.
-/
import Derived.Test.YtibiccacafjjfaaGreatDoorB03
import Derived.Test.YtibiccacafjjfaaGreatDoorB06
import Derived.Test.YtibiccacafjjfaaGreatDoorB01
namespace Go.Proofs.YtibiccacafjjfaaGreatDoor
set_option maxRecDepth 100000
set_option maxHeartbeats 16000000
section
open Lib (hid)
open Go.RowKit
theorem vD (ks : List Nd) (k : Nat) (h : k<ks.length) : i8 (ks.drop k)=max (c8 ks[k]) (i8 (ks.drop (k + 1))):=by
 rw [List.drop_eq_getElem_cons h,i8]
theorem zA (ks : List Nd) (k : Nat) (h : ¬ k<ks.length) : i8 (ks.drop k)=0:=by
 rw [List.drop_eq_nil_of_le (by omega),i8]
theorem yP (N : Nat) : ∀ (t : Nd),SizeOf.sizeOf t<N→∀ (a : Option Addr) (cap n₀ : Nat) (w : World),t.hold n₀ w a cap→n₀≤w.heap.size→c8 t≤1000 →
 Calls Tryz.prog 130 #[.agg #[.int .i64 t.kind,.string t.text,.int .i64 t.n,.slice a t.kids.length cap,.int .i64 t.place]] w fun e w' => e=.returned (.int .i64 (c8 t))∧Below w.heap.size w w':=by
 induction N with
 | zero => intro t ht; omega
 | succ N ih =>
 intro t ht
 cases t with
 | mk kind s n ks p =>
 intro a cap n₀ w hh hn h0
 show Calls Tryz.prog 130 #[.agg #[.int .i64 kind,.string s,.int .i64 n,.slice a ks.length cap,.int .i64 p]] w _
 have hkl : ks.length≤cap∧cap≤maxLen:=⟨hh.2.2.2.2.1,hh.2.2.2.2.2.1⟩
 have hm:=hkl
 unfold maxLen at hm
 have HH:=hid hh
 have IH:=hid ih
 have HT:=hid ht
 clear hh ih ht
 have E:=hid (show c8 (.mk kind s n ks p)=i8 ks + 1 by rw [c8])
 have h9 : i8 ks≤999:=by rw [E.out] at h0; omega
 clear h0
 go_enter Tryz.func130,Tryz.ntmps130
 go_wp2
 obtain ⟨W1,hW1⟩ : ∃ W1,W1=w.alloc (.cells #[.int .i64 kind,.string s,.int .i64 n,.slice a ks.length cap,.int .i64 p] 24):=⟨_,rfl⟩
 have HB:=hid (show Below w.heap.size w W1 from hW1 ▸ c6 _ _)
 have hsz : W1.heap.size=w.heap.size + 1:=by rw [hW1]; simp
 have D3:=hid (show W1.cell? ⟨w.heap.size,3,none⟩=some (.slice a ks.length cap) from hW1 ▸ (a7f w _ _ _ _ _).2.2.2.1)
 rw [← hW1]
 clear hW1
 go_loopw [3,4] (fun x i wr => ∃ (k y : Nat),k≤ks.length∧i=.int .i64 k∧x=.int .i64 y∧y≤999∧Hid (max y (i8 (ks.drop k))=i8 ks)∧Hid (Below W1.heap.size W1 wr)) (fun _ i _ => (ks.length - (intOf i).toNat))
 case atStart => exact ⟨0,0,Nat.zero_le _,rfl,rfl,by omega,by show _=_; rw [Nat.zero_max]; rfl,Below.refl _ _⟩
 case round =>
  obtain ⟨k,y,hk,rfl,rfl,hy0,HI,HBr⟩:=hrel
  have d3:=(HBr.out.cell (p:=⟨w.heap.size,3,none⟩) (by show w.heap.size<W1.heap.size; omega)).trans D3
  have HW:=hid (HB.out.trans (HBr.out.mono HB.out.size))
  by_cases hlt : k<ks.length
  ·obtain ⟨b,off,a',cap',A⟩:=(HH.out.below (HW.out.mono hn)).kid k hlt
   obtain ⟨rfl,hb,c0,c1,c2,c3,c4,hk1⟩:=A
   have HK:=hid hk1
   clear hk1
   have S:=hid (vD ks k hlt)
   have hd : c8 ks[k]≤999:=by
    have:=HI.out
    rw [S.out] at this
    omega
   go_wp2_with (go_at_call 130; refine (IH.out _ (dQ hlt HT) a' cap' n₀ _ HK (Nat.le_trans hn HW.out.size) (by omega)).mono ?_; rintro e w' ⟨rfl,hb⟩)
   go_roundw
   case rel => exact ⟨k + 1,max y (c8 ks[k]),by omega,by go_num,by go_num,by omega,by show _=_; rw [← HI.out,S.out,Nat.max_assoc],HBr.out.trans (hb.mono HBr.out.size)⟩
   case measure => simp [intOf]; omega
  ·have S:=hid (zA ks k hlt)
   go_wp2
   go_ret
   exact ⟨nC (by rw [E.out,← HI.out,S.out]; omega),HW⟩
theorem a0p (t : Nd) (a : Option Addr) (cap n₀ : Nat) (w : World) (hh : t.hold n₀ w a cap) (hn : n₀≤w.heap.size) (hd : c8 t≤1000) :
 Calls Tryz.prog 130 #[.agg #[.int .i64 t.kind,.string t.text,.int .i64 t.n,.slice a t.kids.length cap,.int .i64 t.place]] w fun e w' => e=.returned (.int .i64 (c8 t))∧Below w.heap.size w w' :=
 yP _ t (Nat.lt_succ_self _) a cap n₀ w hh hn hd
end
section
variable {nest : Nat} {l x : List Tk} {u : Nd}
theorem m8.climb1 (h : m8 (.chain 1) (nest + 1) l x u) (h3 : isT tIf l=false) (hx : gH x) (hn : nest + 1≤300) : m8 .expr nest l x u:=(m8.chain (lv:=0) h (hx.any (p7 0))).expr h3 hn
theorem m8.climbN (h : m8 .not (nest + 1) l x u) (h3 : isT tIf l=false) (hx : gH x) (hn : nest + 1≤300) : m8 .expr nest l x u:=(m8.chain (lv:=1) h (hx.any (p7 1))).climb1 h3 hx hn
theorem m8.climb2 (h : m8 (.chain 2) (nest + 1) l x u) (h2 : isT fW l=false) (h3 : isT tIf l=false) (hx : gH x) (hn : nest + 1≤300) : m8 .expr nest l x u:=(h.not h2 (hx.any (by decide))).climbN h3 hx hn
theorem m8.climb3 (h : m8 (.chain 3) (nest + 1) l x u) (h2 : isT fW l=false) (h3 : isT tIf l=false) (hx : gH x) (hn : nest + 1≤300) : m8 .expr nest l x u:=(m8.chain (lv:=2) h (hx.any (p7 2))).climb2 h2 h3 hx hn
theorem m8.climbU (h : m8 .unary (nest + 1) l x u) (h2 : isT fW l=false) (h3 : isT tIf l=false) (hx : gH x) (hn : nest + 1≤300) : m8 .expr nest l x u:=(m8.chain (lv:=3) h (hx.any (p7 3))).climb3 h2 h3 hx hn
end
theorem a7v {s : List UInt8} {T l x : List Tk} (h : Sp (a2U s :: T) l x) : (∀ v,isT v l=(s == v))∧Sp T (b9 l) x∧(hd l).text=s:=by
 unfold a2U at h
 split at h
 ·exact ⟨h.word,h.wordStep,h.head.2.1⟩
 ·exact ⟨h.sign,h.signStep,h.head.2.1⟩
theorem dR {lv n : Nat} {l y x : List Tk} {k w u : Nd} {s : List UInt8} (hk : m8 (I6 lv) n l y k) (hy : U6 (s9 lv) y=true) (hs : (hd y).text=s) (hw : m8 (I6 lv) n (b9 y) x w) (hx : U6 (s9 lv) x=false)
 (hu : u.kind=13∧u.text.data.toList=s∧u.n=0∧u.kids=[k,w]) (hd : c8 u≤100) : m8 (.chain lv) n l x u:=by
 obtain ⟨tk,rk,sk⟩:=hk
 obtain ⟨tw,rw',sw⟩:=hw
 have hsm : o0 false (mkN 13 (Proofs.YtibiccacafjjfaaGreatDoor.hd y).text 0 [tk,tw] (Proofs.YtibiccacafjjfaaGreatDoor.hd y).pos)=o0 false u:=I4 hu.1 (hu.2.1.trans hs.symm) hu.2.2.1 (by rw [hu.2.2.2,List.map_cons,List.map_cons,sk,sw]; rfl)
 refine ⟨_,?_,hsm⟩
 rw [t7]
 show (rd (I6 lv) n l).then _=_
 rw [rk,r5,t7]
 show (if _ then _ else _)=_
 rw [if_pos hy,rw',r5,cN (by have:=aS hsm; omega),r5,t7]
 show (if _ then _ else _)=_
 rw [hx,if_neg (by decide)]
theorem lR {n : Nat} {l y x : List Tk} {k w u : Nd} {s : List UInt8} (hl : isT fW l=false) (hk : m8 (.chain 2) n l y k) (hy : U6 kD y=true) (hs : (hd y).text=s) (hw : m8 (.chain 2) n (b9 y) x w)
 (hu : u.kind=13∧u.text.data.toList=s∧u.n=0∧u.kids=[k,w]) (hd : c8 u≤100) : m8 .not n l x u:=by
 obtain ⟨tk,rk,sk⟩:=hk
 obtain ⟨tw,rw',sw⟩:=hw
 have hsm : o0 false (mkN 13 (Proofs.YtibiccacafjjfaaGreatDoor.hd y).text 0 [tk,tw] (Proofs.YtibiccacafjjfaaGreatDoor.hd y).pos)=o0 false u:=I4 hu.1 (hu.2.1.trans hs.symm) hu.2.2.1 (by rw [hu.2.2.2,List.map_cons,List.map_cons,sk,sw]; rfl)
 refine ⟨_,?_,hsm⟩
 rw [t7]
 show (if _ then _ else _)=_
 rw [hl,if_neg (by decide),rk,r5,if_pos hy,rw',r5,cN (by have:=aS hsm; omega)]
theorem pN {s : List UInt8} (h : dE s=true) : s=[111,114]∨s=[97,110,100]∨s=[60]∨s=[60,61]∨s=[61]∨s=[43]∨s=[45]∨s=[42]∨s=[47]:=by
 have:=List.contains_iff_mem.1 h
 simpa [D9] using this
theorem a1b (N : Nat) : ∀ (u : Nd) (d : Int),SizeOf.sizeOf u<N→d7 u d=true→1≤d→RE u∧RA u:=by
 induction N with
 | zero => intro u d h; omega
 | succ N ih =>
 intro u d hsz h hd0
 have hkk : ∀ k∈u.kids,SizeOf.sizeOf k<N:=fun k hk => yF hsz hk
 have hdep:=eN u d h
 have hkr : ∀ k∈u.kids,d7 k (d + 1)=true:=by
  have h4:=(F5 h).2.2.2
  intro k hk
  obtain ⟨i,hi,rfl⟩:=List.getElem_of_mem hk
  rcases hc : d7 u.kids[i] (d + 1) with _ | _
  ·rw [gM hi hc] at h4; cases h4
  ·rfl
 have ihk : ∀ k∈u.kids,RE k∧RA k:=fun k hk => ih k (d + 1) (hkk k hk) (hkr k hk) (by omega)
 have hA : RA u:=a0a h hd0 fun k hk => (ihk k hk).1
 refine ⟨?_,hA⟩
 intro nest l x hl hx hn
 have hxo:=hx o6 (by decide)
 have hdk:=pM u
 by_cases hw : I9 u.kind=true
 case neg =>
  have hp : Sp (cW u.kind (n9 u)) l x:=by unfold cW; rw [if_neg hw]; exact hl
  obtain ⟨h1,h2,h3⟩:=fI h hp
  exact (hA hw (nest + 1) l x hl hxo (by omega)).climb h1 h2 h3 hx (by omega)
 have hk3 : u.kind=12∨u.kind=13∨u.kind=14:=by
  unfold I9 at hw
  simpa [or_assoc] using hw
 rcases hk3 with e | e | e
 ·obtain ⟨s,k,p,rfl,hs,hrk⟩:=tX h e
  have hke:=ihk k (List.mem_cons_self ..)
  have d1:=L3 [k] k (List.mem_cons_self ..)
  replace hdk : c8 (.mk 12 s 0 [k] p)=i8 [k] + 1:=hdk
  have hl' : Sp ((if s.data.toList=[45] then tS cI else tW fW) :: cW k.kind (n9 k)) l x:=by
   rw [n9,dV] at hl; exact hl
  rcases hs with hs | hs
  ·rw [if_pos hs] at hl'
   have hp:=hl'.signStep
   obtain ⟨h1,h2,h3⟩:=fI hrk hp
   obtain ⟨t,rt,st⟩:=(fO hke.1 hke.2 (nest:=nest + 1 + 1) hp hxo (by omega)).unary h1
   have hsm : o0 false (mkN 12 (hd l).text 0 [t] (hd l).pos)=o0 false (.mk 12 s 0 [k] p):=I4 rfl (by rw [hl'.head.2.1]; exact hs) rfl (by rw [List.map_cons,st]; rfl)
   have hR : m8 .unary (nest + 1) l x (.mk 12 s 0 [k] p):=by
    refine ⟨_,?_,hsm⟩
    rw [t7]
    show (if _ then _ else _)=_
    rw [if_pos (by rw [hl'.sign]; decide),nT (by omega),rt,r5]
    exact cN (by have:=aS hsm; omega)
   exact hR.climbU (by rw [hl'.sign]; decide) (by rw [hl'.sign]; decide) hx (by omega)
  ·rw [if_neg (by rw [hs]; decide)] at hl'
   have hp:=hl'.wordStep
   obtain ⟨h1,h2,h3⟩:=fI hrk hp
   obtain ⟨t,rt,st⟩:=m8.not (m8.chain (lv:=2) (m8.chain (lv:=3) ((fO hke.1 hke.2 (nest:=nest + 1 + 1) hp hxo (by omega)).unary h1) (hx.any (p7 3))) (hx.any (p7 2))) h2 (hx.any (by decide))
   have hsm : o0 false (mkN 12 (hd l).text 0 [t] (hd l).pos)=o0 false (.mk 12 s 0 [k] p):=I4 rfl (by rw [hl'.head.2.1]; exact hs) rfl (by rw [List.map_cons,st]; rfl)
   have hR : m8 .not (nest + 1) l x (.mk 12 s 0 [k] p):=by
    refine ⟨_,?_,hsm⟩
    rw [t7]
    show (if _ then _ else _)=_
    rw [if_pos (by rw [hl'.word]; decide),nT (by omega),rt,r5]
    exact cN (by have:=aS hsm; omega)
   exact hR.climbN (by rw [hl'.word]; decide) hx (by omega)
 ·obtain ⟨s,k,w,p,rfl,hs,hrk,hrw⟩:=sN h e
  have hke:=ihk k (by simp [Nd.kids])
  have hwe:=ihk w (by simp [Nd.kids])
  have d1:=L3 [k,w] k (by simp)
  have d2:=L3 [k,w] w (by simp)
  replace hdk : c8 (.mk 13 s 0 [k,w] p)=i8 [k,w] + 1:=hdk
  have hl' : Sp (cW k.kind (n9 k) ++ a2U s.data.toList :: cW w.kind (n9 w)) l x:=by
   rw [n9,dV] at hl; exact hl
  obtain ⟨y,g1,g2⟩:=hl'.app
  obtain ⟨hy,g3,hyt⟩:=a7v g2
  obtain ⟨h1,h2,h3⟩:=fI hrk g1
  obtain ⟨i1,i2,i3⟩:=fI hrw g3
  have hyo : isT o6 y=false:=by
   rw [hy,beq_eq_false_iff_ne]
   rintro e
   rw [e] at hs; exact absurd hs (by decide)
  have ra:=(fO hke.1 hke.2 (nest:=nest + 1) g1 hyo (by omega)).unary h1
  have rb:=(fO hwe.1 hwe.2 (nest:=nest + 1) g3 hxo (by omega)).unary i1
  have hu : (Nd.mk 13 s 0 [k,w] p).kind=13∧(Nd.mk 13 s 0 [k,w] p).text.data.toList=s.data.toList∧(Nd.mk 13 s 0 [k,w] p).n=0∧(Nd.mk 13 s 0 [k,w] p).kids=[k,w]:=⟨rfl,rfl,rfl,rfl⟩
  have hd100 : c8 (.mk 13 s 0 [k,w] p)≤100:=by omega
  have an : ∀ {ws : List (List UInt8)},(ws.any fun v => s.data.toList == v)=true→U6 ws y=true:=fun {ws} h => by
   unfold U6
   rw [show (fun w => isT w y)=fun v => s.data.toList == v from funext hy]
   exact h
  have no : ∀ {ws : List (List UInt8)},(ws.any fun v => s.data.toList == v)=false→U6 ws y=false:=fun {ws} h => by
   unfold U6
   rw [show (fun w => isT w y)=fun v => s.data.toList == v from funext hy]
   exact h
  have a3 : U6 (s9 3) y=false→m8 (.chain 3) (nest + 1) l y k:=fun g => m8.chain (lv:=3) ra g
  have a2 : U6 (s9 3) y=false→U6 (s9 2) y=false→m8 (.chain 2) (nest + 1) l y k:=fun g g' => m8.chain (lv:=2) (a3 g) g'
  have b3:=m8.chain (lv:=3) rb (hx.any (p7 3))
  have b2:=m8.chain (lv:=2) b3 (hx.any (p7 2))
  have bN:=b2.not i2 (hx.any (by decide))
  have b1:=m8.chain (lv:=1) bN (hx.any (p7 1))
  rcases pN hs with e | e | e | e | e | e | e | e | e
  ·have aN:=(a2 (no (by rw [e]; decide)) (no (by rw [e]; decide))).not h2 (no (by rw [e]; decide))
   have a1:=m8.chain (lv:=1) aN (no (by rw [e]; decide))
   exact (dR (lv:=0) a1 (an (by rw [e]; decide)) hyt b1 (hx.any (p7 0)) hu hd100).expr h3 (by omega)
  ·have aN:=(a2 (no (by rw [e]; decide)) (no (by rw [e]; decide))).not h2 (no (by rw [e]; decide))
   exact (dR (lv:=1) aN (an (by rw [e]; decide)) hyt bN (hx.any (p7 1)) hu hd100).climb1 h3 hx (by omega)
  ·exact (lR h2 (a2 (no (by rw [e]; decide)) (no (by rw [e]; decide))) (an (by rw [e]; decide)) hyt b2 hu hd100).climbN h3 hx (by omega)
  ·exact (lR h2 (a2 (no (by rw [e]; decide)) (no (by rw [e]; decide))) (an (by rw [e]; decide)) hyt b2 hu hd100).climbN h3 hx (by omega)
  ·exact (lR h2 (a2 (no (by rw [e]; decide)) (no (by rw [e]; decide))) (an (by rw [e]; decide)) hyt b2 hu hd100).climbN h3 hx (by omega)
  ·exact (dR (lv:=2) (a3 (no (by rw [e]; decide))) (an (by rw [e]; decide)) hyt b3 (hx.any (p7 2)) hu hd100).climb2 h2 h3 hx (by omega)
  ·exact (dR (lv:=2) (a3 (no (by rw [e]; decide))) (an (by rw [e]; decide)) hyt b3 (hx.any (p7 2)) hu hd100).climb2 h2 h3 hx (by omega)
  ·exact (dR (lv:=3) ra (an (by rw [e]; decide)) hyt rb (hx.any (p7 3)) hu hd100).climb3 h2 h3 hx (by omega)
  ·exact (dR (lv:=3) ra (an (by rw [e]; decide)) hyt rb (hx.any (p7 3)) hu hd100).climb3 h2 h3 hx (by omega)
 ·obtain ⟨s,k,v,w,p,rfl,hs,hrk,hrv,hrw⟩:=xC h e
  have hke:=ihk k (by simp [Nd.kids])
  have hve:=ihk v (by simp [Nd.kids])
  have hwe:=ihk w (by simp [Nd.kids])
  have d1:=L3 [k,v,w] k (by simp)
  have d2:=L3 [k,v,w] v (by simp)
  have d3:=L3 [k,v,w] w (by simp)
  replace hdk : c8 (.mk 14 s 0 [k,v,w] p)=i8 [k,v,w] + 1:=hdk
  have hl' : Sp (tW tIf :: (n9 k ++ tW fJ :: (n9 v ++ tW eJ :: n9 w))) l x:=by
   rw [n9,dV] at hl; exact hl
  obtain ⟨y,g1,g2⟩:=hl'.wordStep.app
  obtain ⟨z,g3,g4⟩:=g2.wordStep.app
  obtain ⟨ta,ra,sa⟩:=hke.1 (nest + 1) _ _ g1 (oW (by decide) g2) (by omega)
  obtain ⟨tb,rb,sb⟩:=hve.1 (nest + 1) _ _ g3 (oW (by decide) g4) (by omega)
  obtain ⟨tc,rc,sc⟩:=hwe.1 (nest + 1) _ _ g4.wordStep hx (by omega)
  have hsm : o0 false (mkN 14 [] 0 [ta,tb,tc] (hd l).pos)=o0 false (.mk 14 s 0 [k,v,w] p):=I4 rfl hs rfl (by rw [List.map_cons,List.map_cons,List.map_cons,sa,sb,sc]; rfl)
  refine ⟨_,?_,hsm⟩
  rw [t7]
  show U0 nest l _=_
  rw [nT (by omega),if_pos (by rw [hl'.word]; decide),ra,r5,iR g2,rb,r5,iR g4,rc,r5]
  exact cN (by have:=aS hsm; omega)
theorem a0Y {u : Nd} (h : d7 u 1=true) {l x : List Tk} (hl : Sp (n9 u) l x) (hx : gH x) : m8 .expr 0 l x u :=
 (a1b _ u 1 (Nat.lt_succ_self _) h (by decide)).1 0 l x hl hx (by have:=eN u 1 h; omega)
def brk (r : List UInt8) : Prop:=∀ c l,r=c :: l→iZ c=false
theorem o2 {c : UInt8} (h : iZ c=false) (r : List UInt8) : brk (c :: r):=fun _ _ e => (List.cons.inj e).1 ▸ h
def Sc (bs : List UInt8) (T : List Tk) (rest : List UInt8) : Prop:=∀ (pos : Int) (k : Nat) (l : List Tk),s6 (bs ++ rest) pos k 0=.ok l→∃ ts l',l=ts ++ l'∧ts.map (a7i false)=T∧∃ pos' k',s6 rest pos' k' 0=.ok l'
theorem Sc.nil (r : List UInt8) : Sc [] [] r:=fun pos k l h => ⟨[],l,rfl,rfl,pos,k,h⟩
theorem Sc.app {a b r : List UInt8} {T U : List Tk} (h : Sc a T (b ++ r)) (h' : Sc b U r) : Sc (a ++ b) (T ++ U) r:=by
 intro pos k l hl
 rw [List.append_assoc] at hl
 obtain ⟨ts,l',rfl,e,p,k',h2⟩:=h pos k l hl
 obtain ⟨us,l'',rfl,e',p',k'',h3⟩:=h' p k' l' h2
 exact ⟨ts ++ us,l'',by rw [List.append_assoc],by rw [List.map_append,e,e'],p',k'',h3⟩
theorem Sc.cons {c : UInt8} {b r : List UInt8} {T U : List Tk} (h : Sc [c] T (b ++ r)) (h' : Sc b U r) : Sc (c :: b) (T ++ U) r:=Sc.app (a:=[c]) h h'
theorem Sc.blank {c : UInt8} (h : c.toNat≤32) (r : List UInt8) : Sc [c] [] r:=fun pos k l hl => ⟨[],l,rfl,rfl,pos + 1,k,by rw [← gB h]; exact hl⟩
theorem Sc.skip {c : UInt8} {b r : List UInt8} {T : List Tk} (hc : c.toNat≤32) (h : Sc b T r) : Sc (c :: b) T r:=Sc.cons (T:=[]) (Sc.blank hc _) h
theorem Sc.tok {c : UInt8} {r rest : List UInt8} {T : Tk} (hc : ¬ c.toNat≤32) (hc' : c≠35) (ht : ∀ pos t n,aY c (r ++ rest) pos=.ok (t,n)→a7i false t=T∧n=r.length + 1) : Sc (c :: r) [T] rest:=by
 intro pos k l hl
 rw [List.cons_append] at hl
 cases hx : aY c (r ++ rest) pos with
 | error e => rw [kF hc hc' hx] at hl; cases hl
 | ok p =>
   obtain ⟨t,n⟩:=p
   obtain ⟨e1,rfl⟩:=ht pos t n hx
   by_cases hk : k=8192
   ·rw [iE hc hc' hx hk] at hl; cases hl
   ·rw [kP hc hc' hx hk] at hl
    have e : (c :: (r ++ rest)).drop (r.length + 1)=rest:=by simp
    rw [e] at hl
    cases hs : s6 rest (pos + ((r.length + 1 : Nat) : Int)) (k + 1) 0 with
    | error e => rw [hs] at hl; cases hl
    | ok l' =>
      rw [hs] at hl
      have : l=[t] ++ l':=(Except.ok.inj hl).symm
      subst this
      exact ⟨[t],l',rfl,by rw [List.map_singleton,e1],_,_,hs⟩
theorem a4F : ∀ c∈bO,(smC c=false∧dgC c=false)∧(c≠34∧grC c=false)∧¬ c.toNat≤32∧c≠35∧bO.contains c=true:=by decide
theorem L6 {c : UInt8} (hc : c∈bO) {rest : List UInt8} (h : c=60→rest.headD 0≠61) : Sc [c] [tS [c]] rest:=by
 obtain ⟨⟨h1,h2⟩,⟨h3,h4⟩,h5,h6,h7⟩:=a4F c hc
 refine Sc.tok h5 h6 fun pos t n ht => ?_
 rw [List.nil_append] at ht
 unfold aY kZ at ht
 rw [if_neg (by rw [h1]; decide),if_neg (by rw [h2]; decide),if_neg h3,if_neg (by rw [h4]; decide),if_neg (fun e => h e.1 e.2),if_pos h7] at ht
 cases ht
 exact ⟨rfl,rfl⟩
theorem a3U (rest : List UInt8) : Sc [60,61] [tS [60,61]] rest:=by
 refine Sc.tok (by decide) (by decide) fun pos t n ht => ?_
 unfold aY kZ at ht
 rw [if_neg (by decide),if_neg (by decide),if_neg (by decide),if_neg (by decide),if_pos ⟨rfl,rfl⟩] at ht
 cases ht
 exact ⟨rfl,rfl⟩
theorem fM {l : List UInt8} (h : r9 l=true) : ∃ c r,l=c :: r∧smC c=true∧r.all inC=true∧l.length≤24:=by
 have hn:=h
 rw [← eZ] at hn
 unfold dW at hn
 simp only [Bool.and_eq_true,decide_eq_true_eq] at hn
 cases l with
 | nil => exact absurd hn.1.1 (by decide)
 | cons c r =>
   have hs : (if smC c=true then 1 + (r.takeWhile inC).length else 0)=r.length + 1:=hn.2
   by_cases hc : smC c=true
   ·rw [if_pos hc] at hs
    exact ⟨c,r,rfl,hc,(eW inC r).1 (by omega),hn.1.2⟩
   ·rw [if_neg hc] at hs; omega
theorem fC (c : UInt8) (h : iZ c=false) : inC c=false∧c≠46∧dgC c=false∧grC c=false:=by
 have:=bQ (p:=fun c => iZ c || (!inC c && (c != 46) && !dgC c && !grC c)) (by decide +kernel) c
 rw [h] at this
 simpa [and_assoc] using this
theorem X7 {p : UInt8→Bool} {a r : List UInt8} (ha : a.all p=true) (hr : ∀ c l,r=c :: l→p c=false) : (a ++ r).takeWhile p=a:=by
 induction a with
 | nil =>
   cases r with
   | nil => rfl
   | cons c l => rw [List.nil_append,List.takeWhile_cons,if_neg (by rw [hr c l rfl]; decide)]
 | cons c a ih =>
   rw [List.all_cons,Bool.and_eq_true] at ha
   rw [List.cons_append,List.takeWhile_cons,if_pos ha.1,ih ha.2]
theorem pG {s r : List UInt8} (h : r9 s=true) (hr : ∀ c l,r=c :: l→inC c=false) : m6 (s ++ r)=s.length:=by
 obtain ⟨c,t,rfl,hc,ht,-⟩:=fM h
 show (if smC c then 1 + ((t ++ r).takeWhile inC).length else 0)=t.length + 1
 rw [if_pos hc,X7 ht hr,Nat.add_comm]
theorem a4G {r : List UInt8} (h : brk r) : ∀ c l,r=c :: l→inC c=false:=fun c l e => (fC c (h c l e)).1
theorem wB {r : List UInt8} (h : brk r) : r.headD 0≠46:=by
 cases r with
 | nil => decide
 | cons c l => exact (fC c (h c l rfl)).2.1
theorem cX {a r : List UInt8} : (a ++ r).drop a.length=r:=List.drop_left
theorem gF (c : UInt8) (h : smC c=true) : ¬ c.toNat≤32∧c≠35:=by
 have:=bQ (p:=fun c => !smC c || (!decide (c.toNat≤32) && (c != 35))) (by decide +kernel) c
 rw [h] at this
 simpa using this
theorem vE {s rest : List UInt8} (h : r9 s=true) (hr : brk rest) : Sc s [⟨if F7 s=true then 2 else 1,s,0,0⟩] rest:=by
 have hsp:=pG h (a4G hr)
 have h46:=wB hr
 obtain ⟨c,t,rfl,hc,ht,hl⟩:=fM h
 refine Sc.tok (gF c hc).1 (gF c hc).2 fun pos u n hu => ?_
 unfold aY at hu
 rw [if_pos hc] at hu
 unfold bB at hu
 rw [← List.cons_append,hsp] at hu
 simp only [cX,List.take_left'] at hu
 rw [if_neg h46,if_neg (by omega)] at hu
 cases hu
 exact ⟨rfl,rfl⟩
theorem cM {s rest : List UInt8} (h : r9 s=true) (hw : F7 s=true) (hr : brk rest) : Sc s [tW s] rest:=by
 have:=vE h hr
 rw [if_pos hw] at this
 exact this
theorem jX {s : List UInt8} (h : o7 s=true) : ¬ F7 s=true:=by
 unfold o7 at h
 rw [Bool.and_eq_true] at h
 simpa using h.2
theorem a1s {s rest : List UInt8} (h : gT s=true) (hr : brk rest) : Sc s [dY s] rest:=by
 unfold dY
 unfold gT at h
 rw [Bool.and_eq_true] at h
 cases hc : (Lib.cut s [46]).2.2 with
 | false =>
   have h1:=h.1
   rw [a0Q hc] at h1
   have:=vE (iK h1) hr
   rw [if_neg (jX h1)] at this
   rw [if_neg (by decide)]
   exact this
 | true =>
   rw [hc] at h
   have h2 : o7 (Lib.cut s [46]).2.1=true:=by simpa using h.2
   have h1:=h.1
   have e:=a1I hc
   rw [if_pos rfl]
   generalize (Lib.cut s [46]).1=x at *
   generalize (Lib.cut s [46]).2.1=y at *
   subst e
   have s1:=pG (iK h1) (r:=46 :: (y ++ rest)) (fun c l e => by rw [← (List.cons.inj e).1]; rfl)
   have s2:=pG (iK h2) (a4G hr)
   have n1:=jX h1
   have n2:=jX h2
   obtain ⟨c,t,rfl,hc',ht,hl⟩:=fM (iK h1)
   refine Sc.tok (r:=t ++ 46 :: y) (gF c hc').1 (gF c hc').2 fun pos u n hu => ?_
   unfold aY at hu
   rw [if_pos hc'] at hu
   unfold bB at hu
   rw [show c :: (t ++ 46 :: y ++ rest)=(c :: t) ++ 46 :: (y ++ rest) by simp,s1] at hu
   have hdd : ((c :: t) ++ 46 :: (y ++ rest)).drop ((c :: t).length + 1)=y ++ rest:=by rw [← List.drop_drop,cX]; rfl
   simp only [hdd,cX,List.take_left' rfl] at hu
   rw [if_pos (show (46 :: (y ++ rest)).headD 0=(46 : UInt8) from rfl),s2] at hu
   simp only [List.take_left' rfl] at hu
   split at hu
   ·cases hu
   ·cases hu
    refine ⟨rfl,?_⟩
    simp only [List.length_append,List.length_cons]
    omega
theorem a2y (c : UInt8) (h : U7 c=true) : kY c=true:=by
 have:=bQ (p:=fun c => !U7 c || kY c) (by decide +kernel) c
 rw [h] at this
 simpa using this
theorem a4s {s : List UInt8} (h : r9 s=true) (rest : List UInt8) : Sc (34 :: (s ++ [34])) [⟨7,s,0,0⟩] rest:=by
 refine Sc.tok (by decide) (by decide) fun pos t n ht => ?_
 have hq : ((s ++ [34]) ++ rest).takeWhile kY=s:=by
  rw [List.append_assoc]
  exact X7 (List.all_eq_true.2 fun c hc => a2y c (jP h c hc)) (fun c l e => by rw [← (List.cons.inj e).1]; rfl)
 unfold aY at ht
 rw [if_neg (by decide),if_neg (by decide),if_pos rfl] at ht
 unfold aA at ht
 have hr : dC ((s ++ [34]) ++ rest)=s.length:=by unfold dC; rw [hq]
 rw [hr,List.append_assoc] at ht
 simp only [cX,List.take_left' rfl] at ht
 rw [if_neg (fun hh => hh rfl),if_pos h] at ht
 cases ht
 exact ⟨rfl,by simp⟩
theorem a3G (c : UInt8) : eP c=grC c:=wG c
theorem a1j (c : UInt8) (h : eP c=true) : ¬ c.toNat≤32∧c≠35∧smC c=false∧dgC c=false∧c≠34∧grC c=true:=by
 have:=bQ (p:=fun c => !eP c || (!decide (c.toNat≤32) && (c != 35) && !smC c && !dgC c && (c != 34) && grC c)) (by decide +kernel) c
 rw [h] at this
 simpa [and_assoc] using this
theorem a6V {s rest : List UInt8} (h : fV s=true) (hr : brk rest) : Sc s [⟨4,s,0,0⟩] rest:=by
 unfold fV at h
 simp only [Bool.and_eq_true,decide_eq_true_eq] at h
 obtain ⟨h3,hg⟩:=h
 cases s with
 | nil => exact absurd h3 (by decide)
 | cons c s =>
   have hc:=a1j c (List.all_eq_true.1 hg c (List.mem_cons_self ..))
   have hgr : (c :: s).all grC=true:=by rw [show grC=eP from funext fun c => (a3G c).symm]; exact hg
   have hq : ((c :: s) ++ rest).takeWhile grC=c :: s:=X7 hgr (fun c l e => (fC c (hr c l e)).2.2.2)
   refine Sc.tok hc.1 hc.2.1 fun pos t n ht => ?_
   unfold aY at ht
   rw [if_neg (by rw [hc.2.2.1]; decide),if_neg (by rw [hc.2.2.2.1]; decide),if_neg hc.2.2.2.2.1,if_pos hc.2.2.2.2.2] at ht
   unfold a3s vL at ht
   rw [← List.cons_append,hq,if_pos h3] at ht
   cases ht
   refine ⟨?_,by rw [← h3]; rfl⟩
   show (⟨4,((c :: s) ++ rest).take 3,0,0⟩ : Tk)=_
   rw [← h3,List.take_left' rfl]
theorem a4j : ∀ (l : List UInt8) (a : Int),l.all dgC=true→l.foldl (fun n c => 10 * n + ((c.toNat : Int) - 48)) a=a * 10 ^ l.length + vR l
 | [],a,_ => by simp [vR]
 | c :: l,a,h => by
   rw [List.all_cons,Bool.and_eq_true] at h
   rw [List.foldl_cons,a4j l _ h.2,vR,List.length_cons,Int.pow_succ]
   have:=fA h.1
   have e1 : (((c.toNat - 48) * 10 ^ l.length + vR l : Nat) : Int)=((c.toNat : Int) - 48) * 10 ^ l.length + vR l:=by
    rw [Int.natCast_add,Int.natCast_mul,Int.natCast_pow,Int.natCast_sub (by omega)]; rfl
   rw [e1,Int.add_mul,Int.mul_comm 10 a,Int.mul_assoc,Int.mul_comm 10,Int.add_assoc]
theorem zY : ∀ (a b : List UInt8),vR (a ++ b)=vR a * 10 ^ b.length + vR b
 | [],b => by simp [vR]
 | c :: a,b => by
   rw [List.cons_append,vR,zY a b,vR,List.length_append,Nat.pow_add,Nat.add_mul,Nat.mul_assoc,Nat.add_assoc]
theorem a6w {k : Nat} (hk : k<10 ^ 20) : vR (fQ k)=k:=by
 unfold fQ
 rw [a4B 20 _ _ (by omega)]
 show k / 10 * 10 ^ 1 + ((dig k).toNat - 48) * 10 ^ 0 + 0=k
 rw [nY]
 omega
theorem a4k : ∀ (k n : Nat),vR (Y9 k n [])=n % 10 ^ k
 | 0,n => by rw [Y9,vR]; simp [Nat.mod_one]
 | k + 1,n => by
   rw [Y9,gS k _ [dig n],zY,a4k k]
   show n / 10 % 10 ^ k * 10 ^ 1 + ((dig n).toNat - 48) * 10 ^ 0 + 0=_
   rw [nY,show (10 : Nat) ^ (k + 1)=10 * 10 ^ k by rw [Nat.pow_succ,Nat.mul_comm],Nat.mod_mul]
   omega
theorem a13 {v : Int} {n : Nat} (hn : n<10 ^ 20) (h : V8 (O7 n)=some v) : v=n:=by
 have e : O7 n=fQ (n / 1000000) ++ gZ n:=rfl
 have hw : (O7 n).takeWhile dgC=fQ (n / 1000000):=by
  rw [e]
  exact X7 (List.all_eq_true.2 (nQ _)) (qS n)
 unfold V8 at h
 rw [hw] at h
 have hdr : (O7 n).drop (fQ (n / 1000000)).length=gZ n:=by rw [e,cX]
 simp only [hdr] at h
 split at h
 ·have h:=Option.some.inj h
  rw [← h]
  obtain ⟨k,hk⟩:=tH (Y9 6 n [])
  have hlen:=congrArg List.length hk
  rw [cQ,List.length_append,List.length_replicate] at hlen
  have ht : (gZ n).tail=bW (Y9 6 n []):=by
   unfold gZ
   split
   ·rename_i c; rw [c]; rfl
   ·rfl
  rw [ht,show 6 - (bW (Y9 6 n [])).length=k by have : ([] : List UInt8).length=0:=rfl; omega,List.append_assoc,← hk]
  unfold Cal.val
  rw [a4j _ _ (List.all_eq_true.2 fun c hc => by
   rcases List.mem_append.1 hc with hc | hc
   ·exact nQ _ c hc
   ·exact nW 6 _ c hc),zY,a6w (by omega),a4k,cQ]
  show (0 : Int) * _ + ((n / 1000000 * 1000000 + n % 1000000 : Nat) : Int)=n
  omega
 ·cases h
theorem a4t {a r : List UInt8} (h : a≠[]) : (a ++ r).headD 0=a.headD 0:=by
 cases a with
 | nil => exact absurd rfl h
 | cons c a => rfl
theorem a3r (n : Nat) {rest : List UInt8} (hr : brk rest) : cT (O7 n ++ rest)=(O7 n).length:=by
 have e : O7 n=fQ (n / 1000000) ++ gZ n:=rfl
 have hd : ∀ r,(∀ c l,r=c :: l→dgC c=false)→Y3 (fQ (n / 1000000) ++ r)=(fQ (n / 1000000)).length:=fun r h => by
  unfold Y3
  rw [X7 (List.all_eq_true.2 (nQ _)) h]
 have hs : ∀ c l,gZ n ++ rest=c :: l→dgC c=false:=fun c l h => by
  cases ht : gZ n with
  | nil => rw [ht] at h; exact (fC c (hr c l h)).2.2.1
  | cons a b =>
    rw [ht] at h
    rw [← (List.cons.inj h).1]
    exact qS n a b ht
 unfold cT
 rw [e,List.append_assoc,hd _ hs,cX]
 cases ht : gZ n with
 | nil =>
   rw [List.nil_append,if_neg (fun h => wB hr h.1),List.append_nil]
 | cons a b =>
   have hab : a=46∧b=bW (Y9 6 n [])∧b≠[]:=by
    unfold gZ at ht
    split at ht
    ·cases ht
    ·rename_i hne
     obtain ⟨rfl,rfl⟩:=List.cons.inj ht
     exact ⟨rfl,rfl,hne⟩
   obtain ⟨rfl,hb,hne⟩:=hab
   have hbd : b.all dgC=true:=List.all_eq_true.2 fun c hc => nW 6 n c (sR _ c (hb ▸ hc))
   have hdd : (fQ (n / 1000000) ++ (46 :: b ++ rest)).drop ((fQ (n / 1000000)).length + 1)=b ++ rest:=by
    rw [← List.drop_drop,cX]; rfl
   have hbh : dgC ((b ++ rest).headD 0)=true:=by
    rw [a4t hne]
    cases b with
    | nil => exact absurd rfl hne
    | cons c b => exact List.all_eq_true.1 hbd c (List.mem_cons_self ..)
   rw [hdd,if_pos ⟨rfl,hbh⟩]
   unfold Y3
   rw [X7 hbd (fun c l e => (fC c (hr c l e)).2.2.1),List.length_append,List.length_cons]
   omega
theorem a5N {n : Nat} {rest : List UInt8} (h : (45 : UInt8) ∉ O7 n) (hr : brk rest) : p6 (O7 n ++ rest)=false:=by
 rw [Bool.eq_false_iff]
 intro hd
 unfold p6 at hd
 simp only [Bool.and_eq_true,decide_eq_true_eq] at hd
 obtain ⟨h10,hf,-⟩:=hd
 have hl : ((O7 n ++ rest).take 10).length=10:=by rw [List.length_take]; omega
 have at' : ∀ j (hj : j<10),Cal.fits j ((O7 n ++ rest)[j]'(by omega))=true:=fun j hj => by
  have:=hf j (by omega)
  rw [List.getElem_take] at this
  exact this
 rcases Nat.lt_or_ge 4 (O7 n).length with g | g
 ·have h4:=at' 4 (by omega)
  rw [Cal.fits_dash (.inl rfl),decide_eq_true_eq] at h4
  rw [List.getElem_append_left g] at h4
  have : (O7 n)[4]=45:=UInt8.toNat_inj.1 (Int.ofNat.inj h4)
  exact h (this ▸ List.getElem_mem g)
 ·have hm:=at' (O7 n).length (by omega)
  rw [List.getElem_append_right (Nat.le_refl _)] at hm
  simp only [Nat.sub_self] at hm
  cases hrest : rest with
  | nil => rw [hrest,List.append_nil] at h10; omega
  | cons c l =>
    have hw:=hr c l hrest
    subst hrest
    replace hm : Cal.fits (O7 n).length c=true:=hm
    rcases Nat.lt_or_ge (O7 n).length 4 with g' | g'
    ·rw [Cal.fits_dig (by omega) (by omega)] at hm
     have:=vH c (qW c hm)
     rw [hw] at this; cases this
    ·rw [Cal.fits_dash (.inl (by omega)),decide_eq_true_eq] at hm
     have : c=45:=UInt8.toNat_inj.1 (Int.ofNat.inj hm)
     subst this
     cases hw
theorem iJ (c : UInt8) (h : dgC c=true) : ¬ c.toNat≤32∧c≠35∧smC c=false:=by
 have:=bQ (p:=fun c => !dgC c || (!decide (c.toNat≤32) && (c != 35) && !smC c)) (by decide +kernel) c
 rw [h] at this
 simpa [and_assoc] using this
theorem a7a {n : Int} {rest : List UInt8} (h : 0≤n) (h' : n≤1000000000000000) (hr : brk rest) : Sc (aH n) [⟨6,[],n,0⟩] rest:=by
 obtain ⟨hd,hne,hw,h45⟩:=a2W h h'
 rw [tP h h'] at hd hne hw h45 ⊢
 have hR:=a3r n.natAbs hr
 have hD:=a5N h45 hr
 have hv:=a13 (n:=n.natAbs) (v:=(V8 (O7 n.natAbs)).getD 0) (by omega)
 generalize O7 n.natAbs=s at *
 cases s with
 | nil => exact absurd rfl hne
 | cons c s =>
   replace hd : dgC c=true:=hd
   refine Sc.tok (iJ c hd).1 (iJ c hd).2.1 fun pos t k ht => ?_
   unfold aY at ht
   rw [if_neg (by rw [(iJ c hd).2.2]; decide),if_pos hd] at ht
   unfold aX at ht
   rw [← List.cons_append,hD,if_neg (by decide),hR,List.take_left' rfl] at ht
   have hp : ∀ v,gL (c :: s)=some v→v=n:=fun v hv' => by
    rw [jY (show (c :: s).headD 0≠45 from a7p hd)] at hv'
    cases hu : V8 (c :: s) with
    | none => rw [hu] at hv'; cases hv'
    | some u =>
      rw [hu] at hv' hv
      have hun:=hv rfl
      replace hun : u=(n.natAbs : Int):=hun
      replace hv' : (if 1000000000000000<u then none else some u)=some v:=hv'
      by_cases hu' : 1000000000000000<u
      ·rw [if_pos hu'] at hv'; cases hv'
      ·rw [if_neg hu'] at hv'
       have:=Option.some.inj hv'
       omega
   cases hn : gL (c :: s) with
   | none => rw [hn] at ht; cases ht
   | some v =>
     rw [hn] at ht
     have:=hp v hn
     subst this
     replace ht : (if U8 ((List.drop (c :: s).length ((c :: s) ++ rest)).headD 0)=true then Except.ok (⟨6,[],v,pos⟩,(c :: s).length) else .error 72 : Except Int (Tk × Nat))=Except.ok (t,k):=ht
     split at ht
     ·cases ht
      exact ⟨rfl,rfl⟩
     ·cases ht
theorem a6a {n : Int} {rest : List UInt8} (h : 0≤n) (h' : n≤73048) (hr : brk rest) : Sc (cV n) [⟨5,[],n,0⟩] rest:=by
 obtain ⟨hd,hne,hw,-⟩:=a3j h h'
 obtain ⟨y,m,d,ho,hnum,et⟩:=pH h h'
 have hlen : (cV n).length=10:=by rw [et]; exact Cal.text_len y m d
 have hf : ∀ j (hj : j<(cV n).length),Cal.fits j (cV n)[j]=true:=by rw [et]; exact Cal.text_form ho
 have hvals:=Cal.text_vals ho
 rw [← et] at hvals
 generalize cV n=s at *
 have hD : p6 (s ++ rest)=true:=by
  unfold p6
  rw [show (s ++ rest).take 10=s by rw [← hlen,List.take_left' rfl],show (s ++ rest).drop 10=rest by rw [← hlen,cX]]
  rw [decide_eq_true (show 10≤(s ++ rest).length by rw [List.length_append]; omega),decide_eq_true hf]
  have : dgC (rest.headD 0)=false:=by
   cases rest with
   | nil => rfl
   | cons c l => exact (fC c (hr c l rfl)).2.2.1
  rw [this]; rfl
 have hP : rS s=some n:=by
  unfold rS
  rw [hvals.1,hvals.2.1,hvals.2.2,if_pos ⟨hlen,hf,ho⟩,hnum]
 cases s with
 | nil => exact absurd rfl hne
 | cons c s =>
   replace hd : dgC c=true:=hd
   refine Sc.tok (iJ c hd).1 (iJ c hd).2.1 fun pos t k ht => ?_
   unfold aY at ht
   rw [if_neg (by rw [(iJ c hd).2.2]; decide),if_pos hd] at ht
   unfold aX at ht
   rw [← List.cons_append,hD,if_pos rfl,show ((c :: s) ++ rest).take 10=c :: s by rw [← hlen,List.take_left' rfl],hP] at ht
   replace ht : (if U8 ((List.drop 10 ((c :: s) ++ rest)).headD 0)=true then Except.ok (⟨5,[],n,pos⟩,10) else .error 72 : Except Int (Tk × Nat))=Except.ok (t,k):=ht
   split at ht
   ·cases ht
    exact ⟨rfl,hlen.symm⟩
   ·cases ht
def FS (u : Nd) : Prop:=∀ rest,brk rest→Sc (e7 u) (n9 u) rest
theorem FS.part {u : Nd} (h : FS u) {rest : List UInt8} (hr : brk rest) : Sc (Y2 u.kind (e7 u)) (cW u.kind (n9 u)) rest:=by
 unfold Y2 cW
 split
 ·show Sc (40 :: (e7 u ++ [41])) ([tS o6] ++ (n9 u ++ [tS m5])) rest
  exact Sc.cons (L6 (by decide) (fun e => by cases e)) (Sc.app (h _ (o2 rfl _)) (L6 (by decide) (fun e => by cases e)))
 ·exact h rest hr
theorem rF : ∀ (ks : List Nd) (rest : List UInt8),(∀ k∈ks,FS k)→Sc (Y4 (ks.map e7) ++ [41]) (bA (ks.map n9) ++ [tS m5]) rest
 | [],rest,_ => L6 (by decide) (fun e => by cases e)
 | k :: ks,rest,h => by
   show Sc (44 :: (32 :: (e7 k ++ Y4 (ks.map e7))) ++ [41]) (([tS l0] ++ (n9 k ++ bA (ks.map n9))) ++ [tS m5]) rest
   have hk:=h k (List.mem_cons_self ..)
   have hc:=rF ks rest fun k hk => h k (List.mem_cons_of_mem _ hk)
   rw [List.append_assoc,List.append_assoc,show 44 :: (32 :: (e7 k ++ Y4 (ks.map e7))) ++ [41]=44 :: (32 :: (e7 k ++ (Y4 (ks.map e7) ++ [41]))) by simp]
   refine Sc.cons (L6 (by decide) (fun e => by cases e)) (Sc.skip (by decide) (Sc.app (hk _ ?_) hc))
   cases ks with
   | nil => exact o2 rfl _
   | cons k ks => exact o2 (c:=44) rfl _
theorem uH {ks : List Nd} (hne : ks≠[]) (rest : List UInt8) (h : ∀ k∈ks,FS k) : Sc (bF (ks.map e7)) (pU (ks.map n9)) rest:=by
 cases ks with
 | nil => exact absurd rfl hne
 | cons k ks =>
   have hc:=rF ks rest fun k hk => h k (List.mem_cons_of_mem _ hk)
   show Sc ([40] ++ e7 k ++ Y4 (ks.map e7) ++ [41]) ([tS o6] ++ (n9 k ++ (bA (ks.map n9) ++ [tS m5]))) rest
   rw [List.append_assoc,List.append_assoc]
   refine Sc.app (L6 (by decide) (fun e => by cases e)) (Sc.app (h k (List.mem_cons_self ..) _ ?_) hc)
   cases ks with
   | nil => exact o2 rfl _
   | cons k ks => exact o2 (c:=44) rfl _
theorem qZ {s w : List UInt8} (hn : r9 s=true) (hw : F7 w=true) (hw' : r9 w=true) {bs rest : List UInt8} {T : List Tk} (h : Sc bs T rest) : Sc (w ++ (32 :: 34 :: (s ++ [34]) ++ bs)) (tW w :: ⟨7,s,0,0⟩ :: T) rest:=by
 show Sc (w ++ (32 :: (34 :: (s ++ [34])) ++ bs)) ([tW w] ++ ([⟨7,s,0,0⟩] ++ T)) rest
 exact Sc.app (cM hw' hw (o2 rfl _)) (Sc.skip (by decide) (Sc.app (a4s hn _) h))
theorem a5C {s : List UInt8} (h : dE s=true) {c : UInt8} (hc : c.toNat≤32) (rest : List UInt8) : Sc s [a2U s] (c :: rest):=by
 have hb : iZ c=false:=by
  have:=bQ (p:=fun c => !decide (c.toNat≤32) || !iZ c) (by decide +kernel) c
  rw [decide_eq_true hc] at this
  simpa using this
 have h61 : ∀ d : UInt8,d=60→(c :: rest).headD 0≠61:=fun d _ e => by
  replace e : c=61:=e
  subst e
  exact absurd hc (by decide)
 rcases pN h with rfl | rfl | rfl | rfl | rfl | rfl | rfl | rfl | rfl
 ·exact cM (by decide) (by decide) (o2 hb _)
 ·exact cM (by decide) (by decide) (o2 hb _)
 ·exact L6 (by decide) (h61 _)
 ·exact a3U _
 ·exact L6 (by decide) (h61 _)
 ·exact L6 (by decide) (h61 _)
 ·exact L6 (by decide) (h61 _)
 ·exact L6 (by decide) (h61 _)
 ·exact L6 (by decide) (h61 _)
theorem a04 (N : Nat) : ∀ (u : Nd) (d : Int),SizeOf.sizeOf u<N→d7 u d=true→FS u:=by
 induction N with
 | zero => intro u d h; omega
 | succ N ih =>
 intro u d hu h rest hr
 have hkids : ∀ k∈u.kids,FS k:=fun k hk => by
  have hp:=(F5 h).2.2.2
  rw [eQ] at hp
  exact ih k (d + 1) (yF hu hk) (List.all_eq_true.1 hp k hk)
 obtain ⟨hk,ht,hn,-⟩:=F5 h
 have hkk:=sI hk
 have ef:=vI u
 have et:=vB u
 rcases (show u.kind=5∨u.kind=6∨u.kind=7∨u.kind=8∨u.kind=9∨u.kind=10∨u.kind=11∨u.kind=12∨u.kind=13∨u.kind=14∨u.kind=15 by omega) with e | e | e | e | e | e | e | e | e | e | e
 ·rw [e] at ef et hn
  replace ef : e7 u=aH u.n:=ef
  replace et : n9 u=[⟨6,[],u.n,0⟩]:=et
  have hb : 0≤u.n∧u.n≤1000000000000000:=by unfold bD at hn; simpa using hn
  rw [ef,et]
  exact a7a hb.1 hb.2 hr
 ·rw [e] at ef et hn
  replace ef : e7 u=cV u.n:=ef
  replace et : n9 u=[⟨5,[],u.n,0⟩]:=et
  have hb : 0≤u.n∧u.n≤73048:=by unfold bD at hn; simpa using hn
  rw [ef,et]
  exact a6a hb.1 hb.2 hr
 ·rw [fZ h (by omega)] at ef et
  rw [e] at ef et ht
  replace ef : e7 u=u.text.data.toList:=ef
  replace et : n9 u=[⟨4,u.text.data.toList,0,0⟩]:=et
  rw [ef,et]
  exact a6V ht hr
 ·rw [e] at ef et
  replace ef : e7 u=if u.n=1 then bJ else U4:=ef
  replace et : n9 u=[tW (if u.n=1 then bJ else U4)]:=et
  rw [ef,et]
  split
  ·exact cM (by decide) (by decide) hr
  ·exact cM (by decide) (by decide) hr
 ·rw [e] at ef et ht
  replace ef : e7 u=[102,101,101,100,32,34] ++ u.text.data.toList ++ [34]:=ef
  replace et : n9 u=[tW bX,⟨7,u.text.data.toList,0,0⟩]:=et
  rw [ef,et]
  have:=qZ (s:=u.text.data.toList) (w:=bX) ht (by decide) (by decide) (Sc.nil rest)
  rw [List.append_nil] at this
  exact this
 ·rw [fZ h (by omega)] at ef et
  rw [e] at ef et ht
  replace ef : e7 u=u.text.data.toList:=ef
  replace et : n9 u=[dY u.text.data.toList]:=et
  rw [ef,et]
  exact a1s ht hr
 ·have hp:=qO h (.inl e)
  rw [e] at ef et ht
  replace ef : e7 u=u.text.data.toList ++ bF ((r4 u.kids).map (·.2)):=ef
  replace et : n9 u=[dY u.text.data.toList] ++ pU ((fX u.kids).map (·.2)):=et
  rw [ef,et,rB,fT]
  refine Sc.app (a1s ht ?_) (uH hp rest hkids)
  obtain ⟨x,hx⟩:=a3x (u.kids.map e7)
  rw [hx]
  exact o2 rfl _
 ·obtain ⟨s,k,p,rfl,hs,hrk⟩:=tX h e
  have hK:=hkids k (by simp [Nd.kids])
  rw [wR,et]
  show Sc _ ((if s.data.toList=[45] then tS cI else tW fW) :: cW k.kind (n9 k)) rest
  have hP:=hK.part hr
  rcases hs with hs | hs
  ·rw [hs,if_pos rfl,if_pos rfl]
   exact Sc.app (T:=[tS cI]) (L6 (by decide) (fun e => by cases e)) hP
  ·rw [hs,if_neg (by decide),if_neg (by decide)]
   exact Sc.app (a:=fW) (T:=[tW fW]) (cM (by decide) (by decide) (o2 rfl _)) (Sc.skip (by decide) hP)
 ·obtain ⟨s,k,v,p,rfl,hs,hrk,hrv⟩:=sN h e
  have hK:=(hkids k (by simp [Nd.kids])).part (rest:=32 :: (s.data.toList ++ 32 :: Y2 v.kind (e7 v)) ++ rest) (o2 rfl _)
  have hV:=(hkids v (by simp [Nd.kids])).part hr
  rw [yQ,et]
  show Sc _ (cW k.kind (n9 k) ++ ([a2U s.data.toList] ++ cW v.kind (n9 v))) rest
  exact Sc.app hK (Sc.skip (by decide) (Sc.app (a5C hs (by decide) _) (Sc.skip (by decide) hV)))
 ·obtain ⟨s,a,b,c,p,rfl,hs,-⟩:=xC h e
  have hA:=hkids a (by simp [Nd.kids])
  have hB:=hkids b (by simp [Nd.kids])
  have hC:=hkids c (by simp [Nd.kids])
  rw [a1U,et]
  show Sc (tIf ++ 32 :: (e7 a ++ 32 :: (fJ ++ 32 :: (e7 b ++ 32 :: (eJ ++ 32 :: e7 c))))) ([tW tIf] ++ (n9 a ++ ([tW fJ] ++ (n9 b ++ ([tW eJ] ++ n9 c))))) rest
  exact Sc.app (cM (by decide) (by decide) (o2 rfl _)) (Sc.skip (by decide) (Sc.app (hA _ (o2 rfl _)) (Sc.skip (by decide) (Sc.app (cM (by decide) (by decide) (o2 rfl _)) (Sc.skip (by decide)
   (Sc.app (hB _ (o2 rfl _)) (Sc.skip (by decide) (Sc.app (cM (by decide) (by decide) (o2 rfl _)) (Sc.skip (by decide) (hC _ hr))))))))))
 ·have hp:=qO h (.inr e)
  rw [e] at ef et ht
  replace ef : e7 u=[112,105,99,107,32,34] ++ u.text.data.toList ++ [34] ++ bF ((r4 u.kids).map (·.2)):=ef
  replace et : n9 u=tW bY :: ⟨7,u.text.data.toList,0,0⟩ :: pU ((fX u.kids).map (·.2)):=et
  rw [ef,et,rB,fT]
  have:=qZ (s:=u.text.data.toList) (w:=bY) ht (by decide) (by decide) (uH hp rest hkids)
  simpa [bY] using this
theorem a3t {u : Nd} {d : Int} (h : d7 u d=true) : FS u:=a04 _ u d (Nat.lt_succ_self _) h
end Go.Proofs.YtibiccacafjjfaaGreatDoor
