/-
  Laws that the proof rests on.
-/
import Derived.Test.YteefedkmgnepmaaGreatDoorE34
import Derived.Test.YteefedkmgnepmaaGreatDoorE18
import Derived.Test.YteefedkmgnepmaaGreatDoorE30
import Derived.Test.YteefedkmgnepmaaGreatDoorE23
import Derived.Test.YteefedkmgnepmaaGreatDoorE29
namespace Go.Proofs.YteefedkmgnepmaaGreatDoor
set_option maxRecDepth 100000
set_option maxHeartbeats 16000000
section
open Go.RowKit
theorem sF (f : Int→List UInt8) : ∀ (ts : List Int) (i : Nat),i≠0→aL f i ts=J5 (ts.map f)
 | [],i,_ => rfl
 | t :: ts,i,h => by
   rw [aL,List.map_cons,J5,sF f ts (i + 1) (by omega)]
   unfold eL
   rw [if_neg h]
theorem a6a (d : Sch) : d.name ++ aL H8 0 d.params ++ (if d.params=[] then [] else [41])=iE d:=by
 unfold iE
 cases hp : d.params with
 | nil => simp [aL]
 | cons t ts =>
   rw [if_neg (by simp),if_neg (by simp),aL,sF H8 ts 1 (by decide),List.map_cons,U4]
   unfold eL
   rw [if_pos rfl]
   simp only [List.append_assoc]
abbrev ndA (t : Nd) (a : Option Addr) (cap : Nat) : Array Value:=#[.int .i64 t.kind,.string t.text,.int .i64 t.n,.slice a t.kids.length cap,.int .i64 t.place]
structure UseR (Wr : World) (mb : Nat) (t u : Nd) (ua : Option Addr) (uc : Nat) (L : List Ent) (n : Nat) (g b9 : Nat) (wx : World) : Prop where
 bl : Below mb Wr wx
 row : wx.ownsRow Wr.heap.size 24 5 (.slice (some ⟨g,0,none⟩) (n + 1) (n + 1)) (n + 1) (J6 L ++ ndC (mkN 3 bZz 0 [u] 0,some ⟨b9,0,none⟩,1))
 use : wx.heap[b9]?=some (.cells (ndA u ua uc) 24 (0,0))
 le : Wr.heap.size≤b9
 box : wx.heap[mb]?=some (.cells #[.int .i64 t.kind,.string t.text,.int .i64 t.n,.slice (some ⟨g,0,none⟩) (n + 1) (n + 1),.int .i64 t.place] 24 (0,0))
theorem UseR.make {Wr wq : World} {mb : Nat} {t u : Nd} {a ua : Option Addr} {cap uc : Nat} {L : List Ent} {n g b9 : Nat} (hb : Below Wr.heap.size Wr wq) (hM : c9 mb t a cap Wr) (own : wq.ownsRow Wr.heap.size 24 5 (.slice (some ⟨g,0,none⟩) (n + 1) (n + 1)) (n + 1) (J6 L ++ ndC (mkN 3 bZz 0 [u] 0,some ⟨b9,0,none⟩,1))) (hu : wq.heap[b9]?=some (.cells (ndA u ua uc) 24 (0,0))) (hle : Wr.heap.size≤b9) :
 UseR Wr mb t u ua uc L n g b9 (wq.setCell ⟨mb,3,none⟩ (.slice (some ⟨g,0,none⟩) (n + 1) (n + 1))):=by
 have hm:=hM.lt
 have hg:=(own.lt g rfl).1
 refine ⟨(hb.mono (Nat.le_of_lt hm)).setCell (p:=⟨mb,3,none⟩) (Nat.le_refl _) _,nV own (Below.heap_setCell _ _ _ _ (show g≠mb by omega)),(Below.heap_setCell _ _ _ _ (show b9≠mb by omega)).trans hu,hle,?_⟩
 exact l6 ((hb.block mb hm).trans hM) 3 _
theorem UseR.tree {Wr wx : World} {mb n₀ : Nat} {t u : Nd} {a ua : Option Addr} {cap uc : Nat} {L : List Ent} {n g b9 : Nat} (h : UseR Wr mb t u ua uc L n g b9 wx) (hmb : mb<Wr.heap.size) (ht : t.hold n₀ Wr a cap) (hn : n₀≤mb) (hL1 : L.map (·.1)=t.kids) (hL2 : ∀ e∈L,e.1.lies (· < n₀) Wr e.2.1 e.2.2) (hln : L.length=n) (hu : u.lies (· < mb) Wr ua uc) (hcap : n + 1≤maxLen) :
 (fS t u).hold wx.heap.size wx (some ⟨g,0,none⟩) (n + 1):=by
 have hg:=(h.row.lt g rfl).2
 have h9 : b9<wx.heap.size:=(Array.getElem?_eq_some_iff.1 h.use).1
 have hsz:=h.bl.size
 have hlow : ∀ b,b<mb→b<wx.heap.size∧∀ o,wx.cell? ⟨b,o,none⟩=Wr.cell? ⟨b,o,none⟩:=fun b hb => ⟨by omega,fun o => h.bl.cell (p:=⟨b,o,none⟩) hb⟩
 obtain ⟨w0,w1,w2,w3,-,-⟩:=ht.bounds
 have hu2 : u.lies (· < wx.heap.size) wx ua uc:=Nd.lies.kept hlow u hu
 have husb:=h.use
 have hzz : (mkN 3 bZz 0 [u] 0).lies (· < wx.heap.size) wx (some ⟨b9,0,none⟩) 1:=by
  refine Nd.lies.mk' (by decide) (by decide) (by decide) (by decide) (Nat.le_refl 1) (by unfold maxLen; omega) (Nd.lie.of _ 0 fun j hj => ?_)
  obtain rfl : j=0:=by simpa using hj
  refine ⟨b9,0,ua,uc,rfl,h9,?_,?_,?_,?_,?_,hu2⟩ <;> simp [World.cell?,husb]
 have hrow:=h.row
 rw [← jZ] at hrow
 have hlen : (L ++ [(mkN 3 bZz 0 [u] 0,some (⟨b9,0,none⟩ : Addr),1)]).length=n + 1:=by rw [List.length_append,hln]; rfl
 rw [← hlen] at hrow
 have hl:=nJ (av:=(· < wx.heap.size)) hrow hg fun e he => by
  rcases List.mem_append.1 he with he | he
  ·exact Nd.lies.kept (fun b (hb : b<n₀) => hlow b (by omega)) _ (hL2 e he)
  ·obtain rfl:=List.mem_singleton.1 he
   exact hzz
 rw [List.map_append,hL1] at hl
 unfold fS
 refine Nd.lies.hold _ (Nd.lies.mk' w0 w1 w2 w3 ?_ hcap hl)
 have:=congrArg List.length hL1
 rw [List.length_map] at this
 show (t.kids ++ [mkN 3 bZz 0 [u] 0]).length≤n + 1
 rw [List.length_append]
 show _ + 1≤_
 omega
theorem a2P (l r : List Nd) (h : r6 l) (h' : r6 r) : r6 (l ++ r):=by
 induction l with
 | nil => exact h'
 | cons a l ih =>
   rw [r6] at h
   rw [List.cons_append,r6]
   exact ⟨h.1,ih h.2⟩
theorem a1k {t u : Nd} (h : n5 t) (hu : n5 u) : n5 (fS t u):=by
 cases t with
 | mk kind s n ks p =>
   rw [n5] at h
   show n5 (.mk kind s n (ks ++ [mkN 3 bZz 0 [u] 0]) p)
   rw [n5]
   refine ⟨h.1,a2P ks _ h.2 ?_⟩
   rw [r6,r6]
   refine ⟨?_,trivial⟩
   unfold mkN
   rw [n5,r6,r6]
   exact ⟨by decide,hu,trivial⟩
theorem a3G {d : Sch} (h : O8 d=true) : n5 (nC d):=by
 unfold O8 at h
 simp only [Bool.and_eq_true] at h
 have h1:=s5 h.1.1.1
 have leaf : ∀ (k n : Int) (s : List UInt8),s.length≤24→n5 (mkN k s n [] 0):=fun k n s hs => by
  unfold mkN
  rw [n5,r6]
  exact ⟨by simp [ByteArray.size]; omega,trivial⟩
 unfold nC
 split
 ·exact leaf _ _ _ (by omega)
 ·unfold mkN
  rw [n5]
  refine ⟨by simp [ByteArray.size]; omega,?_⟩
  have : ∀ l : List Int,r6 (l.map eS):=fun l => by
   induction l with
   | nil => trivial
   | cons t l ih =>
     rw [List.map_cons,r6]
     refine ⟨?_,ih⟩
     rcases dB t with ⟨-,e,-⟩ | ⟨-,e,-⟩ | ⟨-,e,-⟩ | ⟨-,e,-⟩ | ⟨-,e,-⟩ | ⟨-,e,-⟩ <;> rw [e] <;> exact leaf _ _ _ (by decide)
  exact this _
end
section
open Lib (hid)
open Go.RowKit
theorem bE {W : World} {b : Nat} {T : TypeId} {v0 v1 v2 v3 v4 : Value} (h : W.heap[b]?=some (.cells #[v0,v1,v2,v3,v4] T (0,0))) : ∀ j x,[v0,v1,v2,v3,v4][j]?=some x→W.cell? ((⟨b,0,none⟩ : Addr).add j)=some x:=by
 intro j x hx
 rw [Go.WideShapes.add_plain,Nat.zero_add,World.cell?]
 simp only [h]
 match j,hx with
 | 0,h => exact h
 | 1,h => exact h
 | 2,h => exact h
 | 3,h => exact h
 | 4,h => exact h
theorem a3M (t : Int) (h : 0≤t) (w : World) : Calls Tryz.prog 6 #[.int .i64 t] w fun e w' => e=.returned (.string (bsA (H8 t)))∧Below w.heap.size w w':=by
 obtain ⟨n,rfl⟩ : ∃ n : Nat,t=n:=⟨t.toNat,by omega⟩
 exact a2q n w
theorem a1f (t : Nd) (a : Option Addr) (cap n₀ : Nat) (which : Int) (w : World) (hh : t.hold n₀ w a cap) (hs : n5 t) (hnil : a=none→cap=0) (hn : n₀≤w.heap.size) (he : Env w) (hta : Tab w) (hti : eH w) :
 Calls Tryz.prog 3 #[.agg #[.int .i64 t.kind,.string t.text,.int .i64 t.n,.slice a t.kids.length cap,.int .i64 t.place],.int .i64 which] w fun e w' => e=.returned (.bool true)∧Below w.heap.size w w':=by
 obtain ⟨W1,hW1⟩ : ∃ W,W=w.alloc (.cells #[.int .i64 t.kind,.string t.text,.int .i64 t.n,.slice a t.kids.length cap,.int .i64 t.place] 24):=⟨_,rfl⟩
 have B1:=hid (show Below w.heap.size w W1 from hW1 ▸ a7 _ _)
 have N1:=hid (show c9 w.heap.size t a cap W1 from hW1 ▸ c9.make w t a cap)
 have HX:=hid (show ∀ cur,Below w.heap.size w cur→t.hold n₀ cur a cap∧n₀≤cur.heap.size∧Env cur∧Tab cur∧eH cur from fun cur hb => ⟨hh.below (hb.mono hn),Nat.le_trans hn hb.size,he.below hb,hta.below hb,hti.below hb⟩)
 have HS0:=hid hs
 have HN0:=hid hn
 have HB0:=hid hh.bounds
 have HNIL0:=hid hnil
 have C1:=hid (a0P W1 (HX.out _ B1).2.2.1 (HX.out _ B1).2.2.2.1 (HX.out _ B1).2.2.2.2)
 clear hh hs hn he hta hti hnil
 go_enter Tryz.func3,Tryz.ntmps3
 go_upto_region 1 with fail
 rw [← hW1]
 clear hW1
 go_wp2_with fail
 (with_reducible refine Calls.mono C1.out ?_)
 rintro e w2 ⟨rfl,hb⟩
 have B2:=hid (show Below w.heap.size w w2 from B1.out.trans (hb.mono B1.out.size))
 have N2:=hid (N1.out.below hb)
 clear hb C1 B1 N1
 have C2:=hid (iU [] none 0 t a cap n₀ w2 (HX.out _ B2).1 HS0 (HX.out _ B2).2.1 (HX.out _ B2).2.2.1 (HX.out _ B2).2.2.2.1 (HX.out _ B2).2.2.2.2 (fun j hj => absurd hj (Nat.not_lt_zero _)) ⟨Nat.le_refl _,Nat.zero_le _⟩ (fun s hs => (List.not_mem_nil hs).elim) (jG 0 _ (Nat.zero_le _)))
 rw [show ([] : List Sht).length=0 from rfl] at C2
 unfold rD at C2
 obtain ⟨⟨n0,n1,n2,n3,n4⟩,-⟩:=N2.out.cells
 have hlt : w.heap.size<w2.heap.size:=N2.out.lt
 cases hm : y4 t [] with
 | error q =>
   obtain ⟨k,p⟩:=q
   rw [hm] at C2
   have ek : (k != 0)=true:=bne_iff_ne.2 (a6y hm)
   clear hm
   go_wp2_with fail
   (with_reducible refine Calls.mono C2.out ?_)
   rintro e w3 ⟨hb,rfl⟩
   have B3:=hid (show Below w.heap.size w w3 from B2.out.trans (hb.mono B2.out.size))
   clear hb C2 B2 N2
   have B4:=hid (show Below w.heap.size w (w3.alloc (.cells #[.string ⟨#[]⟩,.slice none 0 0] 28)) from B3.out.trans ((a7 _ _).mono B3.out.size))
   clear n0 n1 n2 n3 n4 hlt
   go_wp2_with fail
   go_ret
   exact ⟨rfl,B4⟩
 | ok s =>
 rw [hm] at C2
 have HM:=hid (kR hm)
 have HA:=hid hm
 clear hm
 go_wp2_with fail
 (with_reducible refine Calls.mono C2.out ?_)
 rintro e w3 ⟨hb,da,dc,rfl,hS,h1,h2,h3⟩
 have B3:=hid (show Below w.heap.size w w3 from B2.out.trans (hb.mono B2.out.size))
 have N3:=hid (N2.out.below hb)
 have SD3:=hid (a1E hS)
 have HDC:=hid (show (s.defs.length≤dc∧dc≤maxLen)∧(da=none→dc=0) from ⟨⟨h1,h2⟩,h3⟩)
 have HDL:=hid (show s.defs.length=t.kids.length from HM.out.2.2.2.1)
 clear hb C2 B2 N2 hS h1 h2 h3
 obtain ⟨W4,hW4⟩ : ∃ W,W=w3.alloc (.cells #[.string (bsA s.name),.slice da s.defs.length dc] 28):=⟨_,rfl⟩
 have E4:=hid (show Below w3.heap.size w3 W4 from hW4 ▸ a7 _ _)
 have B4:=hid (B3.out.trans (E4.out.mono B3.out.size))
 have HSB:=hid (show W4.heap[w3.heap.size]?=some (.cells #[.string (bsA s.name),.slice da s.defs.length dc] 28 (0,0)) by rw [hW4]; exact bL _ _ rfl)
 have N4:=hid (N3.out.below E4)
 have SD4:=hid (jR SD3 E4)
 clear n0 n1 n2 n3 n4 hlt
 obtain ⟨⟨n0,n1,n2,n3,n4⟩,-⟩:=N4.out.cells
 have hlt : w.heap.size<W4.heap.size:=N4.out.lt
 have hsb:=HSB.out
 have s1 : W4.cell? ⟨w3.heap.size,1,none⟩=some (.slice da s.defs.length dc):=by simp [World.cell?,hsb]
 have hsl : w3.heap.size<W4.heap.size:=(Array.getElem?_eq_some_iff.1 hsb).1
 clear hsb
 go_upto_region 3 with fail
 rw [← hW4]
 clear hW4
 by_cases hmk : which<0∨(s.defs.length : Int)≤which∨200≤t.kids.length
 ·rcases Int.lt_or_le which 0 with h0 | h0
  ·have e1 : decide (which<0)=true:=decide_eq_true h0
   go_wp2_with fail
   go_ret
   exact ⟨rfl,B4⟩
  ·have e1 : decide (which<0)=false:=decide_eq_false (by omega)
   by_cases h9 : (s.defs.length : Int)≤which
   ·have e2 : decide ((s.defs.length : Int)≤which)=true:=decide_eq_true h9
    go_wp2_with fail
    go_ret
    exact ⟨rfl,B4⟩
   ·have e2 : decide ((s.defs.length : Int)≤which)=false:=decide_eq_false h9
    have e3 : decide (200≤(t.kids.length : Int))=true:=decide_eq_true (by omega)
    go_wp2_with fail
    go_ret
    exact ⟨rfl,B4⟩
 obtain ⟨k,rfl⟩ : ∃ k : Nat,which=k:=⟨which.toNat,by omega⟩
 have hk : k<s.defs.length:=by omega
 have hkl : t.kids.length<200:=by omega
 have e1 : decide ((k : Int)<0)=false:=decide_eq_false (by omega)
 have e2 : decide ((s.defs.length : Int)≤(k : Int))=false:=decide_eq_false (by omega)
 have e3 : decide (200≤(t.kids.length : Int))=false:=decide_eq_false (by omega)
 have e2n : decide (s.defs.length≤k)=false:=decide_eq_false (by omega)
 have e3n : decide (200≤t.kids.length)=false:=decide_eq_false (by omega)
 clear hmk
 obtain ⟨b,off,rfl,hav,hbl,pa,pc,d0,d1,d2,hI,hpl,hpm,-⟩:=SD4.out k hk
 have hdmem:=List.getElem_mem hk
 generalize s.defs[k]=d at d0 d1 d2 hI hpl hdmem
 have HD:=hid hdmem
 have HOK:=hid (show O8 d=true by
  have h:=HM.out.2.1
  unfold O0 at h
  simp only [Bool.and_eq_true,List.all_eq_true] at h
  exact h.2 d hdmem)
 have HI4:=hid hI
 have hdcm : dc≤9223372036854775807:=by have:=HDC.out.1.2; unfold maxLen at this; omega
 have hdcl:=HDC.out.1.1
 obtain ⟨W5,hW5⟩ : ∃ W,W=W4.alloc (.cells #[.string (bsA d.name),.slice pa d.params.length pc,.int .i64 d.result] 34):=⟨_,rfl⟩
 have E5:=hid (show Below W4.heap.size W4 W5 from hW5 ▸ a7 _ _)
 have D5:=hid (show ScBx W4.heap.size d pa pc W5 from hW5 ▸ ScBx.make _ _ _ _)
 clear hdmem hI
 go_upto_region 6 with fail
 rw [← hW5]
 clear hW5 d0 d1 d2 n0 n1 n2 n3 n4 s1 e1 e2 e3 e2n e3n hlt hsl
 generalize hdb : W4.heap.size=db at D5
 have HDB:=hid hdb
 clear hdb
 obtain ⟨k0,k1,k2⟩:=D5.out.cells
 have hk1:=D5.out.lt
 have HOKP:=hid (show d.name.length≤24∧d.params.length≤8∧(∀ x∈d.params,0≤x)∧0≤d.result from by
  have h:=HOK.out
  unfold O8 p9 at h
  simp only [Bool.and_eq_true,decide_eq_true_eq,List.all_eq_true] at h
  exact ⟨s5 h.1.1.1,h.1.2,fun x hx => (h.2 x hx).1,h.1.1.2.1⟩)
 have hpm9 : pc≤9223372036854775807:=by have:=hpm; unfold maxLen at this; omega
 have hsz : ∀ l : List UInt8,(bsA l).size=l.length:=fun l => by simp [bsA,ByteArray.size]
 go_wp2_with fail
 go_loopw [10,11] (fun o i wr => ∃ q : Nat,q≤d.params.length∧i=.int .i64 q∧o=.string (bsA (d.name ++ aL H8 0 (d.params.take q)))∧Hid (Below W5.heap.size W5 wr)) (fun _ i _ => d.params.length - (intOf i).toNat)
 case atStart => exact ⟨0,Nat.zero_le _,rfl,by rw [List.take_zero,aL,List.append_nil],Below.refl _ _⟩
 case round =>
  obtain ⟨q,hq,rfl,rfl,HWr⟩:=hrel
  clear k0 k1 k2 hk1
  obtain ⟨-,k1,k2⟩:=(D5.out.below HWr).cells
  have hk1:=(D5.out.below HWr).lt
  by_cases hlt : q<d.params.length
  ·obtain ⟨pb,po,rfl,hpav,pcell⟩:=HI4.out q hlt
   have hpb4 : pb<W4.heap.size:=by have:=hpav.2; have:=E4.out.size; omega
   have hbw : Below W4.heap.size W4 wr:=E5.out.trans (HWr.out.mono E5.out.size)
   have p0 : wr.cell? ⟨pb,po + q,none⟩=some (.int .i64 d.params[q]):=(hbw.cell (p:=⟨pb,po + q,none⟩) hpb4).trans pcell
   have hpb : pb<wr.heap.size:=Nat.lt_of_lt_of_le hpb4 hbw.size
   have HS:=hid (show ∀ cur,Below wr.heap.size wr cur→Below wr.heap.size wr cur∧cur.cell? ⟨db,1,none⟩=some (.slice (some ⟨pb,po,none⟩) d.params.length pc)∧cur.cell? ⟨pb,po + q,none⟩=some (.int .i64 d.params[q]) from fun cur hb => ⟨hb,(hb.cell (p:=⟨db,1,none⟩) hk1).trans k1,(hb.cell (p:=⟨pb,po + q,none⟩) hpb).trans p0⟩)
   have HST:=hid (a5u H8 d.params q hlt)
   have hwl:=jM d.params[q]
   have C:=hid (fun cur => a3M d.params[q] (HOKP.out.2.2.1 _ (List.getElem_mem hlt)) cur)
   have hol : d.name.length + (aL H8 0 (d.params.take q)).length≤1000:=by
    have h1:=vE H8 4 (d.params.take q) 0 fun t _ => jM t
    have h2 : (d.params.take q).length≤d.params.length:=List.length_take_le' q d.params
    have:=HOKP.out.1
    have:=HOKP.out.2.1
    omega
   have HOUT:=hid (show ∀ a b : ByteArray,a=bsA (d.name ++ aL H8 0 (d.params.take q))→b=bsA (H8 d.params[q])→(.string (a ++ bsA (eL q) ++ b) : Value)=.string (bsA (d.name ++ aL H8 0 (d.params.take (q + 1)))) from fun a b e1 e2 => by
    rw [HST.out,e1,e2,T1,T1]
    simp only [List.append_assoc])
   obtain ⟨j,hj⟩ : ∃ j,j=min q 1:=⟨_,rfl⟩
   have HMIN:=hid hj
   have hj2 : j<2:=by omega
   have hj3 : (j : Int)<2:=by omega
   clear hj
   have hsl : (eL q).length≤2:=by unfold eL; split <;> decide
   have s1 : (bsA (eL q)).size=(eL q).length:=hsz _
   have s3 : (bsA (H8 d.params[q])).size=(H8 d.params[q]).length:=hsz _
   have hc1 : ¬ 9223372036854775807<d.name.length + (aL H8 0 (d.params.take q)).length + (eL q).length:=by omega
   have hc2 : ¬ 9223372036854775807<d.name.length + (aL H8 0 (d.params.take q)).length + (eL q).length + (H8 d.params[q]).length:=by omega
   clear pcell hbw
   go_upto_region 10 with fail
   refine wp_region_held_drew (S:=fun cur => Below wr.heap.size wr cur∧cur.cell? ⟨db,1,none⟩=some (.slice (some ⟨pb,po,none⟩) d.params.length pc)∧cur.cell? ⟨pb,po + q,none⟩=some (.int .i64 d.params[q])) (by kernel_rfl) ?_ (fun hHeld => ?_)
   ·exact HS.out _ (Below.refl _ _).drew
   have HB:=hid (show Below wr.heap.size wr wr.drew from (Below.refl _ _).drew)
   refine a8 0 ?_; refine a8 2 ?_
   refine a8 (v:=.int .i64 (j : Nat)) 3 ?_ (hy:=Or.inl ⟨by rfl,by intro w _; have hjm:=HMIN.out; go_simp; omega⟩)
   refine a8 7 ?_; refine a8 8 ?_; refine a8 9 ?_; refine a8 10 ?_; refine a8 11 ?_
   refine wpAnyH_ready (rs:=[1,12]) (by kernel_rfl) (by simp) ?_
   refine AllReadyH.cons (j5 rfl) (fun K hK => ?_) (AllReadyH.cons (j5 rfl) (fun K hK => ?_) AllReadyH.nil)
   ·
    go_simp
    have BX:=hid (show (wr.alloc (.cells #[.string ⟨#[40]⟩,.string ⟨#[44,32]⟩] 9)).drew.cell? ⟨wr.heap.size,j,none⟩=some (.string (bsA (eL q))) from yI wr j HMIN)
    have HB2:=hid (show Below wr.heap.size wr (wr.alloc (.cells #[.string ⟨#[40]⟩,.string ⟨#[44,32]⟩] 9)).drew from ((Below.refl _ _).alloc (Nat.le_refl _) _).drew)
    have hbl : wr.heap.size<(wr.alloc (.cells #[.string ⟨#[40]⟩,.string ⟨#[44,32]⟩] 9)).drew.heap.size:=by show _<(wr.alloc _).heap.size; simp
    clear HB
    have HB:=HB2
    clear HB2
    refine hK.out _ _ (HS.out _ HB) (fun hHeld => ?_)
    clear hK K
    try simp only [Act.put,d8,m8,m9]
    generalize (wr.alloc (.cells #[.string ⟨#[40]⟩,.string ⟨#[44,32]⟩] 9)).drew=wn at BX HB hHeld hbl ⊢
    have hbx : wn.cell? ⟨wr.heap.size,j,none⟩=some (.string (bsA (eL q))):=BX.out
    refine a8 4 ?_
    refine wpAnyH_ready (rs:=[5,12]) (by kernel_rfl) (by simp) ?_
    refine AllReadyH.cons (j5 rfl) (fun K hK => ?_) (AllReadyH.cons (j5 rfl) (fun K hK => ?_) AllReadyH.nil)
    ·
     go_simp
     refine hK.out _ _ (HS.out _ HB) (fun hHeld => ?_)
     clear hK K
     try simp only [Act.put,d8,m8,m9]
     refine a8 6 ?_
     refine wpAnyH_ready (rs:=[12]) (by kernel_rfl) (by simp) ?_
     refine AllReadyH.cons (j5 rfl) (fun K hK => ?_) AllReadyH.nil
     go_simp
     (with_reducible refine Calls.mono (C.out _) ?_)
     rintro e wc ⟨rfl,hb⟩
     go_wp2_with fail
     have HB2:=hid (HB.out.trans (hb.mono HB.out.size))
     clear HB hb
     have HB:=HB2
     clear HB2
     refine hK.out _ _ (HS.out _ HB) (fun hHeld => ?_)
     clear hK K
     try simp only [Act.put,d8,m8,m9]
     refine a8 13 ?_; refine a8 14 ?_
     refine wpAnyH_done (by kernel_rfl) ?_ _
     go_wp2_with fail
     go_roundw
     case rel => exact ⟨q + 1,by omega,by go_num,HOUT.out _ _ rfl rfl,hid (HWr.out.trans (HB.out.mono HWr.out.size))⟩
     case measure => simp [intOf]; omega
    ·
     go_simp
     (with_reducible refine Calls.mono (C.out _) ?_)
     rintro e wc ⟨rfl,hb⟩
     go_wp2_with fail
     have HB2:=hid (HB.out.trans (hb.mono HB.out.size))
     replace hbx:=(hb.cell (p:=⟨wr.heap.size,j,none⟩) hbl).trans hbx
     replace hbl:=Nat.lt_of_lt_of_le hbl hb.size
     clear HB hb
     have HB:=HB2
     clear HB2
     refine hK.out _ _ (HS.out _ HB) (fun hHeld => ?_)
     clear hK K
     try simp only [Act.put,d8,m8,m9]
     refine wpAnyH_ready (rs:=[5]) (by kernel_rfl) (by simp) ?_
     refine AllReadyH.cons (j5 rfl) (fun K hK => ?_) AllReadyH.nil
     go_simp
     refine hK.out _ _ (HS.out _ HB) (fun hHeld => ?_)
     clear hK K
     try simp only [Act.put,d8,m8,m9]
     refine a8 6 ?_; refine a8 13 ?_; refine a8 14 ?_
     refine wpAnyH_done (by kernel_rfl) ?_ _
     go_wp2_with fail
     go_roundw
     case rel => exact ⟨q + 1,by omega,by go_num,HOUT.out _ _ rfl rfl,hid (HWr.out.trans (HB.out.mono HWr.out.size))⟩
     case measure => simp [intOf]; omega
   ·
    go_simp
    (with_reducible refine Calls.mono (C.out _) ?_)
    rintro e wc ⟨rfl,hb⟩
    go_wp2_with fail
    have HB2:=hid (HB.out.trans (hb.mono HB.out.size))
    clear HB hb
    have HB:=HB2
    clear HB2
    refine hK.out _ _ (HS.out _ HB) (fun hHeld => ?_)
    clear hK K
    try simp only [Act.put,d8,m8,m9]
    refine wpAnyH_ready (rs:=[1]) (by kernel_rfl) (by simp) ?_
    refine AllReadyH.cons (j5 rfl) (fun K hK => ?_) AllReadyH.nil
    go_simp
    have BX:=hid (show (wc.alloc (.cells #[.string ⟨#[40]⟩,.string ⟨#[44,32]⟩] 9)).cell? ⟨wc.heap.size,j,none⟩=some (.string (bsA (eL q))) from yI wc j HMIN)
    have HB2:=hid (show Below wr.heap.size wr (wc.alloc (.cells #[.string ⟨#[40]⟩,.string ⟨#[44,32]⟩] 9)) from HB.out.alloc HB.out.size _)
    have hbl : wc.heap.size<(wc.alloc (.cells #[.string ⟨#[40]⟩,.string ⟨#[44,32]⟩] 9)).heap.size:=by simp
    clear HB
    have HB:=HB2
    clear HB2
    refine hK.out _ _ (HS.out _ HB) (fun hHeld => ?_)
    clear hK K
    try simp only [Act.put,d8,m8,m9]
    generalize (wc.alloc (.cells #[.string ⟨#[40]⟩,.string ⟨#[44,32]⟩] 9))=wn at BX HB hHeld hbl ⊢
    have hbx : wn.cell? ⟨wc.heap.size,j,none⟩=some (.string (bsA (eL q))):=BX.out
    generalize wc.heap.size=bx0 at BX hbl hbx ⊢
    refine a8 4 ?_
    refine wpAnyH_ready (rs:=[5]) (by kernel_rfl) (by simp) ?_
    refine AllReadyH.cons (j5 rfl) (fun K hK => ?_) AllReadyH.nil
    go_simp
    refine hK.out _ _ (HS.out _ HB) (fun hHeld => ?_)
    clear hK K
    try simp only [Act.put,d8,m8,m9]
    refine a8 6 ?_; refine a8 13 ?_; refine a8 14 ?_
    refine wpAnyH_done (by kernel_rfl) ?_ _
    go_wp2_with fail
    go_roundw
    case rel => exact ⟨q + 1,by omega,by go_num,HOUT.out _ _ rfl rfl,hid (HWr.out.trans (HB.out.mono HWr.out.size))⟩
    case measure => simp [intOf]; omega
  ·obtain rfl : q=d.params.length:=by omega
   rw [List.take_length]
   have HT:=hid (a6a d)
   have hL:=vE H8 4 d.params 0 fun t _ => jM t
   have hc0 : ¬ 9223372036854775807<d.name.length + (aL H8 0 d.params).length + 1:=by
    have:=HOKP.out.1
    have:=HOKP.out.2.1
    omega
   clear hL
   go_upto_if 84 with fail
   go_cut [10] from 81 to 86 (fun s10 wx => s10=.string (bsA (iE d))∧Hid (Below wr.heap.size wr wx))
   case first =>
    by_cases hp : d.params=[]
    ·have h1 : ¬ 0<d.params.length:=by rw [hp]; decide
     have h0 : decide (0<(d.params.length : Int))=false:=decide_eq_false (by omega)
     have h0n : decide (0<d.params.length)=false:=decide_eq_false h1
     have HE:=hid (show bsA (d.name ++ aL H8 0 d.params)=bsA (iE d) by rw [← HT.out,if_pos hp,List.append_nil])
     clear hp
     go_wp2_with fail
     go_meet
     case rel => exact ⟨congrArg Value.string HE,Below.refl _ _⟩
    ·have h1 : 0<d.params.length:=List.length_pos_iff.2 hp
     have h0 : decide (0<(d.params.length : Int))=true:=decide_eq_true (by omega)
     have h0n : decide (0<d.params.length)=true:=decide_eq_true h1
     have HE:=hid (show bsA (d.name ++ aL H8 0 d.params) ++ ⟨#[41]⟩=bsA (iE d) by rw [← HT.out,if_neg hp,show (⟨#[41]⟩ : ByteArray)=bsA [41] from rfl,T1])
     clear hp
     go_wp2_with fail
     go_meet
     case rel => exact ⟨congrArg Value.string HE,Below.refl _ _⟩
   case rest =>
   obtain ⟨rfl,HBA⟩:=hcut
   have HB6:=hid (show Below W5.heap.size W5 wc from HWr.out.trans (HBA.out.mono HWr.out.size))
   have B6:=hid (B4.out.trans ((E5.out.trans (HB6.out.mono E5.out.size)).mono B4.out.size))
   clear HWr HBA HT hc0 k1 k2 hk1
   generalize wc=w6 at HB6 B6 ⊢
   clear wr
   obtain ⟨u,hu,hus⟩:=a2E HOK
   have HUS:=hid hus
   have C6:=hid (a0d (bsA (iE d)) w6 (by rw [hsz]; have:=a1q HOK.out; unfold maxLen; omega))
   rw [show (bsA (iE d)).data.toList=iE d from rfl,hu] at C6
   clear hu hus
   go_wp2_with fail
   (with_reducible refine Calls.mono C6.out ?_)
   rintro e w7 ⟨u',ua,uc,f,kk,rfl,hb,hux,rfl,rfl,hul,-⟩
   subst hux
   have E6:=hid (show Below W4.heap.size W4 w6 from E5.out.trans (HB6.out.mono E5.out.size))
   have E7:=hid (show Below W4.heap.size W4 w7 from E6.out.trans (hb.mono E6.out.size))
   have HUL:=hid hul
   have HW67:=hid (show Below w6.heap.size w6 w7 from hb)
   clear hb C6 hul
   unfold Nd.val
   obtain ⟨W8,hW8⟩ : ∃ W,W=w7.alloc (.cells #[.int .i64 u.kind,.string u.text,.int .i64 u.n,.slice ua u.kids.length uc,.int .i64 u.place] 24):=⟨_,rfl⟩
   have F8:=hid (show Below w7.heap.size w7 W8 from hW8 ▸ a7 _ _)
   have E8:=hid (E7.out.trans (F8.out.mono E7.out.size))
   have U8:=hid (show c9 w7.heap.size u ua uc W8 from hW8 ▸ c9.make w7 u ua uc)
   have hs4 : w3.heap.size<W4.heap.size:=(Array.getElem?_eq_some_iff.1 HSB).1
   have hsb:=(E8.out.block _ hs4).trans HSB
   have s0 : W8.cell? ⟨w3.heap.size,0,none⟩=some (.string (bsA s.name)):=by simp [World.cell?,hsb]
   have s1 : W8.cell? ⟨w3.heap.size,1,none⟩=some (.slice (some ⟨b,off,none⟩) s.defs.length dc):=by simp [World.cell?,hsb]
   have hsl : w3.heap.size<W8.heap.size:=(Array.getElem?_eq_some_iff.1 hsb).1
   have C8:=hid (show Calls Tryz.prog 8 #[.agg #[.string (bsA s.name),.slice (some ⟨b,off,none⟩) s.defs.length dc],.string ⟨#[122,122]⟩] W8 (fun e w' => (∃ i : Int,e=.returned (.tuple #[.int .i64 i,.bool (i8 s.defs bZz).isSome]))∧Below W8.heap.size W8 w') from a3h _ s _ dc bZz W8 (jR SD4 E8) HDC.out.1)
   clear hsb
   go_upto_region 14 with fail
   rw [← hW8]
   clear hW8
   go_wp2_with fail
   (with_reducible refine Calls.mono C8.out ?_)
   rintro e w9 ⟨⟨i9,rfl⟩,hb⟩
   have F9:=hid (show Below w7.heap.size w7 w9 from F8.out.trans (hb.mono F8.out.size))
   have E9:=hid (show Below W4.heap.size W4 w9 from E8.out.trans (hb.mono E8.out.size))
   have U9:=hid (U8.out.below hb)
   have N9:=hid (N4.out.below E9)
   have B9:=hid (B4.out.trans (E9.out.mono B4.out.size))
   clear hb C8 s0 s1 hsl U8
   cases hz : i8 s.defs bZz with
   | some z =>
     clear hz
     go_wp2_with fail
     go_ret
     exact ⟨rfl,B9⟩
   | none =>
   have HZ:=hid hz
   clear hz
   obtain ⟨Wr,hWr⟩ : ∃ W,W=w9.alloc (.cells #[.int .i64 t.kind,.string t.text,.int .i64 t.n,.slice a t.kids.length cap,.int .i64 t.place] 24):=⟨_,rfl⟩
   have FR:=hid (show Below w9.heap.size w9 Wr from hWr ▸ a7 _ _)
   have Er:=hid (E9.out.trans (FR.out.mono E9.out.size))
   have Br:=hid (B4.out.trans (Er.out.mono B4.out.size))
   have MB:=hid (show c9 w9.heap.size t a cap Wr from hWr ▸ c9.make w9 t a cap)
   have hmb : w9.heap.size<Wr.heap.size:=MB.out.lt
   obtain ⟨L,hL1,hL2,hL3⟩:=a4P (HX.out _ Br).1 t.kids.length
   rw [List.take_length] at hL1
   have HL1:=hid hL1
   have HL2:=hid hL2
   have HL3:=hid hL3
   have HLl:=hid (show L.length=t.kids.length by have:=congrArg List.length hL1; rw [List.length_map] at this; exact this)
   clear hL1 hL2 hL3
   have hkc:=HB0.out.2.2.2.2
   have hcm : cap≤9223372036854775807:=by have:=hkc.2; unfold maxLen at this; omega
   have HNIL:=hid (show a=none→t.kids.length=0∧cap=0 from fun e => ⟨by have:=HNIL0.out e; omega,HNIL0.out e⟩)
   have HC:=hid (show ∀ cur,Below Wr.heap.size Wr cur→∀ ad,a=some ad→∀ j x,(J6 L)[j]?=some x→cur.cell? (ad.add j)=some x from fun cur hb ad e j x hx => (hb.cell (p:=ad.add j) (Nat.lt_of_lt_of_le (HL3.out ad e j x hx).2 (HX.out _ Br).2.1)).trans (HL3.out ad e j x hx).1)
   have hn9 : w.heap.size<w9.heap.size:=N9.out.lt
   have hu9 : w7.heap.size<w9.heap.size:=U9.out.lt
   have HSm:=hid (show ∀ cur,Below w9.heap.size Wr cur→cur.cell? ⟨w.heap.size,3,none⟩=some (.slice a t.kids.length cap)∧cur.cell? ⟨w7.heap.size,0,none⟩=some (.int .i64 u.kind)∧cur.cell? ⟨w7.heap.size,1,none⟩=some (.string u.text)∧cur.cell? ⟨w7.heap.size,2,none⟩=some (.int .i64 u.n)∧cur.cell? ⟨w7.heap.size,3,none⟩=some (.slice ua u.kids.length uc)∧cur.cell? ⟨w7.heap.size,4,none⟩=some (.int .i64 u.place) from fun cur hb => by
    have hb2 : Below w9.heap.size w9 cur:=FR.out.trans hb
    exact ⟨(N9.out.below hb2).cells.1.2.2.2.1,(U9.out.below hb2).cells.1⟩)
   have HS:=hid (show ∀ cur,Below Wr.heap.size Wr cur→_ from fun cur hb => HSm.out cur (hb.mono (Nat.le_of_lt hmb)))
   have HS2:=hid (show ∀ cur,Below Wr.heap.size Wr cur→∀ v,_ from fun cur hb v => HSm.out (cur.setCell ⟨w9.heap.size,3,none⟩ v) ((hb.mono (Nat.le_of_lt hmb)).setCell (p:=⟨w9.heap.size,3,none⟩) (Nat.le_refl _) v))
   obtain ⟨i0,hi,hz0,hz1,hz2⟩:=info_parts (show (Tryz.prog.info? 24).map (fun i => (i.zero,i.size,i.bytes))=some (some (.agg #[.int .i64 0,.string ⟨#[]⟩,.int .i64 0,.slice none 0 0,.int .i64 0]),5,64) by kernel_rfl)
   have HI:=hid (show _∧_∧_∧_ from ⟨hi,hz0,hz1,hz2⟩)
   clear hi hz0 hz1 hz2
   obtain ⟨⟨n0,n1,n2,n3,n4⟩,-⟩:=N9.out.cells
   have hkc2:=hkc.2
   clear hkc
   go_upto_region 18 with fail
   rw [← hWr]
   clear hWr n0 n1 n2 n3 n4
   go_cut [] from 108 to 121 (fun wx => ∃ g b9,Hid (UseR Wr w9.heap.size t u ua uc L t.kids.length g b9 wx))
   case first =>
    refine wp_region_held_drew (S:=fun cur => cur.cell? ⟨w.heap.size,3,none⟩=some (.slice a t.kids.length cap)∧cur.cell? ⟨w7.heap.size,0,none⟩=some (.int .i64 u.kind)∧cur.cell? ⟨w7.heap.size,1,none⟩=some (.string u.text)∧cur.cell? ⟨w7.heap.size,2,none⟩=some (.int .i64 u.n)∧cur.cell? ⟨w7.heap.size,3,none⟩=some (.slice ua u.kids.length uc)∧cur.cell? ⟨w7.heap.size,4,none⟩=some (.int .i64 u.place)) (by kernel_rfl) ?_ (fun hHeld => ?_)
    ·exact HS.out _ (Below.refl _ _).drew
    have HB:=hid (show Below Wr.heap.size Wr Wr.drew from (Below.refl _ _).drew)
    refine a8 0 ?_; refine a8 1 ?_; refine a8 2 ?_
    refine a8 (v:=.int .i64 ((t.kids.length + 1 : Nat) : Int)) 3 ?_ (hy:=Or.inl ⟨by rfl,by intro w _; go_simp; (try exact IntWalk.i64_in _ (by omega))⟩)
    refine a8 5 ?_; refine a8 6 ?_; refine a8 8 ?_
    refine wpAnyH_ready (rs:=[4,9]) (by kernel_rfl) (by simp) ?_
    refine AllReadyH.cons (j5 rfl) (fun K hK => ?_) (AllReadyH.cons (j5 rfl) (fun K hK => ?_) AllReadyH.nil)
    ·
     rw [if_pos (by rfl)]
     refine gP _ _ _ _ rfl Wr.heap.size 24 i0 (.agg #[.int .i64 0,.string ⟨#[]⟩,.int .i64 0,.slice none 0 0,.int .i64 0]) 5 Tryz.underlying22 HI.out.1 HI.out.2.1 HI.out.2.2.1 .i64 .i64 _ (t.kids.length + 1) rfl rfl (by rfl) (by rw [HI.out.2.2.2]; omega) (by unfold maxLen; omega) HB.out.size ?_
     intro wa0 own grow
     have HB2:=hid (HB.out.grown grow HB.out.size (fun r e => by cases e))
     have OW:=hid own
     clear own grow
     clear HB
     have HB:=HB2
     clear HB2
     refine hK.out _ _ (HS.out _ HB) (fun hHeld => ?_)
     clear hK K
     try simp only [Act.put,d8,m8,m9]
     refine wpAnyH_ready (rs:=[7,9]) (by kernel_rfl) (by simp) ?_
     refine AllReadyH.cons (j5 rfl) (fun K hK => ?_) (AllReadyH.cons (j5 rfl) (fun K hK => ?_) AllReadyH.nil)
     ·
      rw [if_pos (by rfl)]
      refine j9 _ _ _ _ rfl Wr.heap.size 24 i0 5 Tryz.underlying22 HI.out.1 HI.out.2.2.1 _ 0 (t.kids.length + 1) [] rfl OW a t.kids.length cap (J6 L) rfl (by rw [eY,HLl.out]) (fun e => HNIL.out e) (HC.out _ HB) (eP L) (by omega) ?_
      intro wa1 own grow
      simp only [Nat.zero_add,List.nil_append] at own
      have HB2:=hid (HB.out.grown grow HB.out.size (fun r e => by cases e; exact (OW.out.lt _ rfl).1))
      replace OW:=hid own
      clear own grow
      clear HB
      have HB:=HB2
      clear HB2
      refine hK.out _ _ (HS.out _ HB) (fun hHeld => ?_)
      clear hK K
      try simp only [Act.put,d8,m8,m9,Nat.zero_add]
      refine wpAnyH_ready (rs:=[9]) (by kernel_rfl) (by simp) ?_
      refine AllReadyH.cons (j5 rfl) (fun K hK => ?_) AllReadyH.nil
      go_simp
      have HB2:=hid (show Below Wr.heap.size Wr (wa1.alloc (.cells #[.int .i64 u.kind,.string u.text,.int .i64 u.n,.slice ua u.kids.length uc,.int .i64 u.place] 24)) from HB.out.alloc HB.out.size _)
      have hlt9 : wa1.heap.size<(wa1.alloc (.cells #[.int .i64 u.kind,.string u.text,.int .i64 u.n,.slice ua u.kids.length uc,.int .i64 u.place] 24)).heap.size:=by simp
      have K9:=hid (show (wa1.alloc (.cells #[.int .i64 u.kind,.string u.text,.int .i64 u.n,.slice ua u.kids.length uc,.int .i64 u.place] 24)).heap[wa1.heap.size]?=some (.cells (ndA u ua uc) 24 (0,0)) from O7 _ _)
      have LE9:=hid (show Wr.heap.size≤wa1.heap.size from HB.out.size)
      have NE9:=hid (show wa1.heap.size≠Wr.heap.size from Nat.ne_of_gt (OW.out.lt _ rfl).2)
      replace OW:=hid (OW.out.alloc (.cells #[.int .i64 u.kind,.string u.text,.int .i64 u.n,.slice ua u.kids.length uc,.int .i64 u.place] 24))
      clear HB
      have HB:=HB2
      clear HB2
      refine hK.out _ _ (HS.out _ HB) (fun hHeld => ?_)
      clear hK K
      try simp only [Act.put,d8,m8,m9]
      generalize wa1.alloc (.cells #[.int .i64 u.kind,.string u.text,.int .i64 u.n,.slice ua u.kids.length uc,.int .i64 u.place] 24)=wa2 at HB hHeld hlt9 K9 OW ⊢
      refine a8 10 ?_
      refine wpAnyH_ready (rs:=[11]) (by kernel_rfl) (by simp) ?_
      refine AllReadyH.cons (j5 rfl) (fun K hK => ?_) AllReadyH.nil
      go_simp
      have HB2:=hid (show Below Wr.heap.size Wr (wa2.alloc (.cells #[.int .i64 3,.string ⟨#[122,122]⟩,.int .i64 0,.slice (some ⟨wa1.heap.size,0,none⟩) 1 1,.int .i64 0] 24)) from HB.out.alloc HB.out.size _)
      have hlt11 : wa2.heap.size<(wa2.alloc (.cells #[.int .i64 3,.string ⟨#[122,122]⟩,.int .i64 0,.slice (some ⟨wa1.heap.size,0,none⟩) 1 1,.int .i64 0] 24)).heap.size:=by simp
      have K11:=hid (show (wa2.alloc (.cells #[.int .i64 3,.string ⟨#[122,122]⟩,.int .i64 0,.slice (some ⟨wa1.heap.size,0,none⟩) 1 1,.int .i64 0] 24)).heap[wa2.heap.size]?=some (.cells #[.int .i64 3,.string ⟨#[122,122]⟩,.int .i64 0,.slice (some ⟨wa1.heap.size,0,none⟩) 1 1,.int .i64 0] 24 (0,0)) from O7 _ _)
      have LE11:=hid (show Wr.heap.size≤wa2.heap.size from HB.out.size)
      have hlt9b:=Nat.lt_trans hlt9 hlt11
      replace K9:=hid (cC (Array.getElem?_eq_some_iff.1 K9).1 K9 (o:=.cells #[.int .i64 3,.string ⟨#[122,122]⟩,.int .i64 0,.slice (some ⟨wa1.heap.size,0,none⟩) 1 1,.int .i64 0] 24))
      have NE11:=hid (show wa2.heap.size≠Wr.heap.size from Nat.ne_of_gt (OW.out.lt _ rfl).2)
      replace OW:=hid (OW.out.alloc (.cells #[.int .i64 3,.string ⟨#[122,122]⟩,.int .i64 0,.slice (some ⟨wa1.heap.size,0,none⟩) 1 1,.int .i64 0] 24))
      clear HB
      have HB:=HB2
      clear HB2
      refine hK.out _ _ (HS.out _ HB) (fun hHeld => ?_)
      clear hK K
      try simp only [Act.put,d8,m8,m9]
      generalize wa2.alloc (.cells #[.int .i64 3,.string ⟨#[122,122]⟩,.int .i64 0,.slice (some ⟨wa1.heap.size,0,none⟩) 1 1,.int .i64 0] 24)=wa3 at HB hHeld hlt11 K11 hlt9b K9 OW ⊢
      refine wpAnyH_ready (rs:=[12]) (by kernel_rfl) (by simp) ?_
      refine AllReadyH.cons (j5 rfl) (fun K hK => ?_) AllReadyH.nil
      rw [if_pos (by rfl)]
      have k11:=K11.out
      refine j9 _ _ _ _ rfl Wr.heap.size 24 i0 5 Tryz.underlying22 HI.out.1 HI.out.2.2.1 _ t.kids.length (t.kids.length + 1) (J6 L) rfl OW (some ⟨wa2.heap.size,0,none⟩) 1 1 (ndC (mkN 3 bZz 0 [u] 0,some ⟨wa1.heap.size,0,none⟩,1)) rfl rfl (fun h => by cases h) (fun ad e => by cases e; exact bE k11) (cA _) (Nat.le_refl _) ?_
      intro wa4 own grow
      clear k11
      have HB2:=hid (HB.out.grown grow HB.out.size (fun r e => by cases e; exact (OW.out.lt _ rfl).1))
      replace K9:=hid ((grow.block _ (Array.getElem?_eq_some_iff.1 K9).1 (fun e => NE9.out (Option.some.inj e))).trans K9)
      have UR:=hid (UseR.make HB2 MB own K9 LE9)
      clear own grow
      clear HB
      have HB:=HB2
      clear HB2
      refine hK.out _ _ (HS.out _ HB) (fun hHeld => ?_)
      clear hK K
      try simp only [Act.put,d8,m8,m9]
      refine a8 13 ?_
      refine wpAnyH_ready (rs:=[14]) (by kernel_rfl) (by simp) ?_
      refine AllReadyH.cons (j5 rfl) (fun K hK => ?_) AllReadyH.nil
      obtain ⟨-,-,-,fz3,-⟩:=(MB.out.below (HB.out.mono (Nat.le_refl _))).cells.2
      have cz3:=(MB.out.below HB).cells.1.2.2.2.1
      go_simp
      refine hK.out _ _ (HS2.out _ HB _) (fun hHeld => ?_)
      clear hK K fz3 cz3
      try simp only [Act.put,d8,m8,m9]
      refine wpAnyH_done (by kernel_rfl) ?_ _
      go_wp2_with fail
      go_meet
      case rel => exact ⟨_,_,UR⟩
     ·
      go_simp
      have HB2:=hid (show Below Wr.heap.size Wr (wa0.alloc (.cells #[.int .i64 u.kind,.string u.text,.int .i64 u.n,.slice ua u.kids.length uc,.int .i64 u.place] 24)) from HB.out.alloc HB.out.size _)
      have hlt9 : wa0.heap.size<(wa0.alloc (.cells #[.int .i64 u.kind,.string u.text,.int .i64 u.n,.slice ua u.kids.length uc,.int .i64 u.place] 24)).heap.size:=by simp
      have K9:=hid (show (wa0.alloc (.cells #[.int .i64 u.kind,.string u.text,.int .i64 u.n,.slice ua u.kids.length uc,.int .i64 u.place] 24)).heap[wa0.heap.size]?=some (.cells (ndA u ua uc) 24 (0,0)) from O7 _ _)
      have LE9:=hid (show Wr.heap.size≤wa0.heap.size from HB.out.size)
      have NE9:=hid (show wa0.heap.size≠Wr.heap.size from Nat.ne_of_gt (OW.out.lt _ rfl).2)
      replace OW:=hid (OW.out.alloc (.cells #[.int .i64 u.kind,.string u.text,.int .i64 u.n,.slice ua u.kids.length uc,.int .i64 u.place] 24))
      clear HB
      have HB:=HB2
      clear HB2
      refine hK.out _ _ (HS.out _ HB) (fun hHeld => ?_)
      clear hK K
      try simp only [Act.put,d8,m8,m9]
      generalize wa0.alloc (.cells #[.int .i64 u.kind,.string u.text,.int .i64 u.n,.slice ua u.kids.length uc,.int .i64 u.place] 24)=wa1 at HB hHeld hlt9 K9 OW ⊢
      refine a8 10 ?_
      refine wpAnyH_ready (rs:=[7,11]) (by kernel_rfl) (by simp) ?_
      refine AllReadyH.cons (j5 rfl) (fun K hK => ?_) (AllReadyH.cons (j5 rfl) (fun K hK => ?_) AllReadyH.nil)
      ·
       rw [if_pos (by rfl)]
       refine j9 _ _ _ _ rfl Wr.heap.size 24 i0 5 Tryz.underlying22 HI.out.1 HI.out.2.2.1 _ 0 (t.kids.length + 1) [] rfl OW a t.kids.length cap (J6 L) rfl (by rw [eY,HLl.out]) (fun e => HNIL.out e) (HC.out _ HB) (eP L) (by omega) ?_
       intro wa2 own grow
       simp only [Nat.zero_add,List.nil_append] at own
       have HB2:=hid (HB.out.grown grow HB.out.size (fun r e => by cases e; exact (OW.out.lt _ rfl).1))
       replace K9:=hid ((grow.block _ (Array.getElem?_eq_some_iff.1 K9).1 (fun e => NE9.out (Option.some.inj e))).trans K9)
       replace hlt9:=Nat.lt_of_lt_of_le hlt9 grow.size
       replace OW:=hid own
       clear own grow
       clear HB
       have HB:=HB2
       clear HB2
       refine hK.out _ _ (HS.out _ HB) (fun hHeld => ?_)
       clear hK K
       try simp only [Act.put,d8,m8,m9,Nat.zero_add]
       refine wpAnyH_ready (rs:=[11]) (by kernel_rfl) (by simp) ?_
       refine AllReadyH.cons (j5 rfl) (fun K hK => ?_) AllReadyH.nil
       go_simp
       have HB2:=hid (show Below Wr.heap.size Wr (wa2.alloc (.cells #[.int .i64 3,.string ⟨#[122,122]⟩,.int .i64 0,.slice (some ⟨wa0.heap.size,0,none⟩) 1 1,.int .i64 0] 24)) from HB.out.alloc HB.out.size _)
       have hlt11 : wa2.heap.size<(wa2.alloc (.cells #[.int .i64 3,.string ⟨#[122,122]⟩,.int .i64 0,.slice (some ⟨wa0.heap.size,0,none⟩) 1 1,.int .i64 0] 24)).heap.size:=by simp
       have K11:=hid (show (wa2.alloc (.cells #[.int .i64 3,.string ⟨#[122,122]⟩,.int .i64 0,.slice (some ⟨wa0.heap.size,0,none⟩) 1 1,.int .i64 0] 24)).heap[wa2.heap.size]?=some (.cells #[.int .i64 3,.string ⟨#[122,122]⟩,.int .i64 0,.slice (some ⟨wa0.heap.size,0,none⟩) 1 1,.int .i64 0] 24 (0,0)) from O7 _ _)
       have LE11:=hid (show Wr.heap.size≤wa2.heap.size from HB.out.size)
       have hlt9b:=Nat.lt_trans hlt9 hlt11
       replace K9:=hid (cC (Array.getElem?_eq_some_iff.1 K9).1 K9 (o:=.cells #[.int .i64 3,.string ⟨#[122,122]⟩,.int .i64 0,.slice (some ⟨wa0.heap.size,0,none⟩) 1 1,.int .i64 0] 24))
       have NE11:=hid (show wa2.heap.size≠Wr.heap.size from Nat.ne_of_gt (OW.out.lt _ rfl).2)
       replace OW:=hid (OW.out.alloc (.cells #[.int .i64 3,.string ⟨#[122,122]⟩,.int .i64 0,.slice (some ⟨wa0.heap.size,0,none⟩) 1 1,.int .i64 0] 24))
       clear HB
       have HB:=HB2
       clear HB2
       refine hK.out _ _ (HS.out _ HB) (fun hHeld => ?_)
       clear hK K
       try simp only [Act.put,d8,m8,m9]
       generalize wa2.alloc (.cells #[.int .i64 3,.string ⟨#[122,122]⟩,.int .i64 0,.slice (some ⟨wa0.heap.size,0,none⟩) 1 1,.int .i64 0] 24)=wa3 at HB hHeld hlt11 K11 hlt9b K9 OW ⊢
       refine wpAnyH_ready (rs:=[12]) (by kernel_rfl) (by simp) ?_
       refine AllReadyH.cons (j5 rfl) (fun K hK => ?_) AllReadyH.nil
       rw [if_pos (by rfl)]
       have k11:=K11.out
       refine j9 _ _ _ _ rfl Wr.heap.size 24 i0 5 Tryz.underlying22 HI.out.1 HI.out.2.2.1 _ t.kids.length (t.kids.length + 1) (J6 L) rfl OW (some ⟨wa2.heap.size,0,none⟩) 1 1 (ndC (mkN 3 bZz 0 [u] 0,some ⟨wa0.heap.size,0,none⟩,1)) rfl rfl (fun h => by cases h) (fun ad e => by cases e; exact bE k11) (cA _) (Nat.le_refl _) ?_
       intro wa4 own grow
       clear k11
       have HB2:=hid (HB.out.grown grow HB.out.size (fun r e => by cases e; exact (OW.out.lt _ rfl).1))
       replace K9:=hid ((grow.block _ (Array.getElem?_eq_some_iff.1 K9).1 (fun e => NE9.out (Option.some.inj e))).trans K9)
       have UR:=hid (UseR.make HB2 MB own K9 LE9)
       clear own grow
       clear HB
       have HB:=HB2
       clear HB2
       refine hK.out _ _ (HS.out _ HB) (fun hHeld => ?_)
       clear hK K
       try simp only [Act.put,d8,m8,m9]
       refine a8 13 ?_
       refine wpAnyH_ready (rs:=[14]) (by kernel_rfl) (by simp) ?_
       refine AllReadyH.cons (j5 rfl) (fun K hK => ?_) AllReadyH.nil
       obtain ⟨-,-,-,fz3,-⟩:=(MB.out.below (HB.out.mono (Nat.le_refl _))).cells.2
       have cz3:=(MB.out.below HB).cells.1.2.2.2.1
       go_simp
       refine hK.out _ _ (HS2.out _ HB _) (fun hHeld => ?_)
       clear hK K fz3 cz3
       try simp only [Act.put,d8,m8,m9]
       refine wpAnyH_done (by kernel_rfl) ?_ _
       go_wp2_with fail
       go_meet
       case rel => exact ⟨_,_,UR⟩
      ·
       go_simp
       have HB2:=hid (show Below Wr.heap.size Wr (wa1.alloc (.cells #[.int .i64 3,.string ⟨#[122,122]⟩,.int .i64 0,.slice (some ⟨wa0.heap.size,0,none⟩) 1 1,.int .i64 0] 24)) from HB.out.alloc HB.out.size _)
       have hlt11 : wa1.heap.size<(wa1.alloc (.cells #[.int .i64 3,.string ⟨#[122,122]⟩,.int .i64 0,.slice (some ⟨wa0.heap.size,0,none⟩) 1 1,.int .i64 0] 24)).heap.size:=by simp
       have K11:=hid (show (wa1.alloc (.cells #[.int .i64 3,.string ⟨#[122,122]⟩,.int .i64 0,.slice (some ⟨wa0.heap.size,0,none⟩) 1 1,.int .i64 0] 24)).heap[wa1.heap.size]?=some (.cells #[.int .i64 3,.string ⟨#[122,122]⟩,.int .i64 0,.slice (some ⟨wa0.heap.size,0,none⟩) 1 1,.int .i64 0] 24 (0,0)) from O7 _ _)
       have LE11:=hid (show Wr.heap.size≤wa1.heap.size from HB.out.size)
       have hlt9b:=Nat.lt_trans hlt9 hlt11
       replace K9:=hid (cC (Array.getElem?_eq_some_iff.1 K9).1 K9 (o:=.cells #[.int .i64 3,.string ⟨#[122,122]⟩,.int .i64 0,.slice (some ⟨wa0.heap.size,0,none⟩) 1 1,.int .i64 0] 24))
       have NE11:=hid (show wa1.heap.size≠Wr.heap.size from Nat.ne_of_gt (OW.out.lt _ rfl).2)
       replace OW:=hid (OW.out.alloc (.cells #[.int .i64 3,.string ⟨#[122,122]⟩,.int .i64 0,.slice (some ⟨wa0.heap.size,0,none⟩) 1 1,.int .i64 0] 24))
       clear HB
       have HB:=HB2
       clear HB2
       refine hK.out _ _ (HS.out _ HB) (fun hHeld => ?_)
       clear hK K
       try simp only [Act.put,d8,m8,m9]
       generalize wa1.alloc (.cells #[.int .i64 3,.string ⟨#[122,122]⟩,.int .i64 0,.slice (some ⟨wa0.heap.size,0,none⟩) 1 1,.int .i64 0] 24)=wa2 at HB hHeld hlt11 K11 hlt9b K9 OW ⊢
       refine wpAnyH_ready (rs:=[7]) (by kernel_rfl) (by simp) ?_
       refine AllReadyH.cons (j5 rfl) (fun K hK => ?_) AllReadyH.nil
       rw [if_pos (by rfl)]
       refine j9 _ _ _ _ rfl Wr.heap.size 24 i0 5 Tryz.underlying22 HI.out.1 HI.out.2.2.1 _ 0 (t.kids.length + 1) [] rfl OW a t.kids.length cap (J6 L) rfl (by rw [eY,HLl.out]) (fun e => HNIL.out e) (HC.out _ HB) (eP L) (by omega) ?_
       intro wa3 own grow
       simp only [Nat.zero_add,List.nil_append] at own
       have HB2:=hid (HB.out.grown grow HB.out.size (fun r e => by cases e; exact (OW.out.lt _ rfl).1))
       replace K9:=hid ((grow.block _ (Array.getElem?_eq_some_iff.1 K9).1 (fun e => NE9.out (Option.some.inj e))).trans K9)
       replace K11:=hid ((grow.block _ (Array.getElem?_eq_some_iff.1 K11).1 (fun e => NE11.out (Option.some.inj e))).trans K11)
       replace hlt9b:=Nat.lt_of_lt_of_le hlt9b grow.size
       replace hlt11:=Nat.lt_of_lt_of_le hlt11 grow.size
       replace OW:=hid own
       clear own grow
       clear HB
       have HB:=HB2
       clear HB2
       refine hK.out _ _ (HS.out _ HB) (fun hHeld => ?_)
       clear hK K
       try simp only [Act.put,d8,m8,m9,Nat.zero_add]
       refine wpAnyH_ready (rs:=[12]) (by kernel_rfl) (by simp) ?_
       refine AllReadyH.cons (j5 rfl) (fun K hK => ?_) AllReadyH.nil
       rw [if_pos (by rfl)]
       have k11:=K11.out
       refine j9 _ _ _ _ rfl Wr.heap.size 24 i0 5 Tryz.underlying22 HI.out.1 HI.out.2.2.1 _ t.kids.length (t.kids.length + 1) (J6 L) rfl OW (some ⟨wa1.heap.size,0,none⟩) 1 1 (ndC (mkN 3 bZz 0 [u] 0,some ⟨wa0.heap.size,0,none⟩,1)) rfl rfl (fun h => by cases h) (fun ad e => by cases e; exact bE k11) (cA _) (Nat.le_refl _) ?_
       intro wa4 own grow
       clear k11
       have HB2:=hid (HB.out.grown grow HB.out.size (fun r e => by cases e; exact (OW.out.lt _ rfl).1))
       replace K9:=hid ((grow.block _ (Array.getElem?_eq_some_iff.1 K9).1 (fun e => NE9.out (Option.some.inj e))).trans K9)
       have UR:=hid (UseR.make HB2 MB own K9 LE9)
       clear own grow
       clear HB
       have HB:=HB2
       clear HB2
       refine hK.out _ _ (HS.out _ HB) (fun hHeld => ?_)
       clear hK K
       try simp only [Act.put,d8,m8,m9]
       refine a8 13 ?_
       refine wpAnyH_ready (rs:=[14]) (by kernel_rfl) (by simp) ?_
       refine AllReadyH.cons (j5 rfl) (fun K hK => ?_) AllReadyH.nil
       obtain ⟨-,-,-,fz3,-⟩:=(MB.out.below (HB.out.mono (Nat.le_refl _))).cells.2
       have cz3:=(MB.out.below HB).cells.1.2.2.2.1
       go_simp
       refine hK.out _ _ (HS2.out _ HB _) (fun hHeld => ?_)
       clear hK K fz3 cz3
       try simp only [Act.put,d8,m8,m9]
       refine wpAnyH_done (by kernel_rfl) ?_ _
       go_wp2_with fail
       go_meet
       case rel => exact ⟨_,_,UR⟩
    ·
     go_simp
     have HB2:=hid (show Below Wr.heap.size Wr ((Wr.alloc (.cells #[.int .i64 u.kind,.string u.text,.int .i64 u.n,.slice ua u.kids.length uc,.int .i64 u.place] 24)).drew) from ((Below.refl _ _).alloc (Nat.le_refl _) _).drew)
     have hlt9 : Wr.heap.size<((Wr.alloc (.cells #[.int .i64 u.kind,.string u.text,.int .i64 u.n,.slice ua u.kids.length uc,.int .i64 u.place] 24)).drew).heap.size:=by show _<(Wr.alloc _).heap.size; simp
     have K9:=hid (show ((Wr.alloc (.cells #[.int .i64 u.kind,.string u.text,.int .i64 u.n,.slice ua u.kids.length uc,.int .i64 u.place] 24)).drew).heap[Wr.heap.size]?=some (.cells (ndA u ua uc) 24 (0,0)) from O7 _ _)
     have LE9:=hid (show Wr.heap.size≤Wr.heap.size from HB.out.size)
     clear HB
     have HB:=HB2
     clear HB2
     refine hK.out _ _ (HS.out _ HB) (fun hHeld => ?_)
     clear hK K
     try simp only [Act.put,d8,m8,m9]
     generalize (Wr.alloc (.cells #[.int .i64 u.kind,.string u.text,.int .i64 u.n,.slice ua u.kids.length uc,.int .i64 u.place] 24)).drew=wa0 at HB hHeld hlt9 K9 ⊢
     refine a8 10 ?_
     refine wpAnyH_ready (rs:=[4,11]) (by kernel_rfl) (by simp) ?_
     refine AllReadyH.cons (j5 rfl) (fun K hK => ?_) (AllReadyH.cons (j5 rfl) (fun K hK => ?_) AllReadyH.nil)
     ·
      rw [if_pos (by rfl)]
      refine gP _ _ _ _ rfl Wr.heap.size 24 i0 (.agg #[.int .i64 0,.string ⟨#[]⟩,.int .i64 0,.slice none 0 0,.int .i64 0]) 5 Tryz.underlying22 HI.out.1 HI.out.2.1 HI.out.2.2.1 .i64 .i64 _ (t.kids.length + 1) rfl rfl (by rfl) (by rw [HI.out.2.2.2]; omega) (by unfold maxLen; omega) HB.out.size ?_
      intro wa1 own grow
      have HB2:=hid (HB.out.grown grow HB.out.size (fun r e => by cases e))
      replace K9:=hid ((grow.block _ (Array.getElem?_eq_some_iff.1 K9).1 (fun e => by cases e)).trans K9)
      have OW:=hid own
      have NE9:=hid (show Wr.heap.size≠wa0.heap.size from Nat.ne_of_lt hlt9)
      replace hlt9:=Nat.lt_of_lt_of_le hlt9 grow.size
      clear own grow
      clear HB
      have HB:=HB2
      clear HB2
      refine hK.out _ _ (HS.out _ HB) (fun hHeld => ?_)
      clear hK K
      try simp only [Act.put,d8,m8,m9]
      refine wpAnyH_ready (rs:=[7,11]) (by kernel_rfl) (by simp) ?_
      refine AllReadyH.cons (j5 rfl) (fun K hK => ?_) (AllReadyH.cons (j5 rfl) (fun K hK => ?_) AllReadyH.nil)
      ·
       rw [if_pos (by rfl)]
       refine j9 _ _ _ _ rfl Wr.heap.size 24 i0 5 Tryz.underlying22 HI.out.1 HI.out.2.2.1 _ 0 (t.kids.length + 1) [] rfl OW a t.kids.length cap (J6 L) rfl (by rw [eY,HLl.out]) (fun e => HNIL.out e) (HC.out _ HB) (eP L) (by omega) ?_
       intro wa2 own grow
       simp only [Nat.zero_add,List.nil_append] at own
       have HB2:=hid (HB.out.grown grow HB.out.size (fun r e => by cases e; exact (OW.out.lt _ rfl).1))
       replace K9:=hid ((grow.block _ (Array.getElem?_eq_some_iff.1 K9).1 (fun e => NE9.out (Option.some.inj e))).trans K9)
       replace hlt9:=Nat.lt_of_lt_of_le hlt9 grow.size
       replace OW:=hid own
       clear own grow
       clear HB
       have HB:=HB2
       clear HB2
       refine hK.out _ _ (HS.out _ HB) (fun hHeld => ?_)
       clear hK K
       try simp only [Act.put,d8,m8,m9,Nat.zero_add]
       refine wpAnyH_ready (rs:=[11]) (by kernel_rfl) (by simp) ?_
       refine AllReadyH.cons (j5 rfl) (fun K hK => ?_) AllReadyH.nil
       go_simp
       have HB2:=hid (show Below Wr.heap.size Wr (wa2.alloc (.cells #[.int .i64 3,.string ⟨#[122,122]⟩,.int .i64 0,.slice (some ⟨Wr.heap.size,0,none⟩) 1 1,.int .i64 0] 24)) from HB.out.alloc HB.out.size _)
       have hlt11 : wa2.heap.size<(wa2.alloc (.cells #[.int .i64 3,.string ⟨#[122,122]⟩,.int .i64 0,.slice (some ⟨Wr.heap.size,0,none⟩) 1 1,.int .i64 0] 24)).heap.size:=by simp
       have K11:=hid (show (wa2.alloc (.cells #[.int .i64 3,.string ⟨#[122,122]⟩,.int .i64 0,.slice (some ⟨Wr.heap.size,0,none⟩) 1 1,.int .i64 0] 24)).heap[wa2.heap.size]?=some (.cells #[.int .i64 3,.string ⟨#[122,122]⟩,.int .i64 0,.slice (some ⟨Wr.heap.size,0,none⟩) 1 1,.int .i64 0] 24 (0,0)) from O7 _ _)
       have LE11:=hid (show Wr.heap.size≤wa2.heap.size from HB.out.size)
       have hlt9b:=Nat.lt_trans hlt9 hlt11
       replace K9:=hid (cC (Array.getElem?_eq_some_iff.1 K9).1 K9 (o:=.cells #[.int .i64 3,.string ⟨#[122,122]⟩,.int .i64 0,.slice (some ⟨Wr.heap.size,0,none⟩) 1 1,.int .i64 0] 24))
       have NE11:=hid (show wa2.heap.size≠wa0.heap.size from Nat.ne_of_gt (OW.out.lt _ rfl).2)
       replace OW:=hid (OW.out.alloc (.cells #[.int .i64 3,.string ⟨#[122,122]⟩,.int .i64 0,.slice (some ⟨Wr.heap.size,0,none⟩) 1 1,.int .i64 0] 24))
       clear HB
       have HB:=HB2
       clear HB2
       refine hK.out _ _ (HS.out _ HB) (fun hHeld => ?_)
       clear hK K
       try simp only [Act.put,d8,m8,m9]
       generalize wa2.alloc (.cells #[.int .i64 3,.string ⟨#[122,122]⟩,.int .i64 0,.slice (some ⟨Wr.heap.size,0,none⟩) 1 1,.int .i64 0] 24)=wa3 at HB hHeld hlt11 K11 hlt9b K9 OW ⊢
       refine wpAnyH_ready (rs:=[12]) (by kernel_rfl) (by simp) ?_
       refine AllReadyH.cons (j5 rfl) (fun K hK => ?_) AllReadyH.nil
       rw [if_pos (by rfl)]
       have k11:=K11.out
       refine j9 _ _ _ _ rfl Wr.heap.size 24 i0 5 Tryz.underlying22 HI.out.1 HI.out.2.2.1 _ t.kids.length (t.kids.length + 1) (J6 L) rfl OW (some ⟨wa2.heap.size,0,none⟩) 1 1 (ndC (mkN 3 bZz 0 [u] 0,some ⟨Wr.heap.size,0,none⟩,1)) rfl rfl (fun h => by cases h) (fun ad e => by cases e; exact bE k11) (cA _) (Nat.le_refl _) ?_
       intro wa4 own grow
       clear k11
       have HB2:=hid (HB.out.grown grow HB.out.size (fun r e => by cases e; exact (OW.out.lt _ rfl).1))
       replace K9:=hid ((grow.block _ (Array.getElem?_eq_some_iff.1 K9).1 (fun e => NE9.out (Option.some.inj e))).trans K9)
       have UR:=hid (UseR.make HB2 MB own K9 LE9)
       clear own grow
       clear HB
       have HB:=HB2
       clear HB2
       refine hK.out _ _ (HS.out _ HB) (fun hHeld => ?_)
       clear hK K
       try simp only [Act.put,d8,m8,m9]
       refine a8 13 ?_
       refine wpAnyH_ready (rs:=[14]) (by kernel_rfl) (by simp) ?_
       refine AllReadyH.cons (j5 rfl) (fun K hK => ?_) AllReadyH.nil
       obtain ⟨-,-,-,fz3,-⟩:=(MB.out.below (HB.out.mono (Nat.le_refl _))).cells.2
       have cz3:=(MB.out.below HB).cells.1.2.2.2.1
       go_simp
       refine hK.out _ _ (HS2.out _ HB _) (fun hHeld => ?_)
       clear hK K fz3 cz3
       try simp only [Act.put,d8,m8,m9]
       refine wpAnyH_done (by kernel_rfl) ?_ _
       go_wp2_with fail
       go_meet
       case rel => exact ⟨_,_,UR⟩
      ·
       go_simp
       have HB2:=hid (show Below Wr.heap.size Wr (wa1.alloc (.cells #[.int .i64 3,.string ⟨#[122,122]⟩,.int .i64 0,.slice (some ⟨Wr.heap.size,0,none⟩) 1 1,.int .i64 0] 24)) from HB.out.alloc HB.out.size _)
       have hlt11 : wa1.heap.size<(wa1.alloc (.cells #[.int .i64 3,.string ⟨#[122,122]⟩,.int .i64 0,.slice (some ⟨Wr.heap.size,0,none⟩) 1 1,.int .i64 0] 24)).heap.size:=by simp
       have K11:=hid (show (wa1.alloc (.cells #[.int .i64 3,.string ⟨#[122,122]⟩,.int .i64 0,.slice (some ⟨Wr.heap.size,0,none⟩) 1 1,.int .i64 0] 24)).heap[wa1.heap.size]?=some (.cells #[.int .i64 3,.string ⟨#[122,122]⟩,.int .i64 0,.slice (some ⟨Wr.heap.size,0,none⟩) 1 1,.int .i64 0] 24 (0,0)) from O7 _ _)
       have LE11:=hid (show Wr.heap.size≤wa1.heap.size from HB.out.size)
       have hlt9b:=Nat.lt_trans hlt9 hlt11
       replace K9:=hid (cC (Array.getElem?_eq_some_iff.1 K9).1 K9 (o:=.cells #[.int .i64 3,.string ⟨#[122,122]⟩,.int .i64 0,.slice (some ⟨Wr.heap.size,0,none⟩) 1 1,.int .i64 0] 24))
       have NE11:=hid (show wa1.heap.size≠wa0.heap.size from Nat.ne_of_gt (OW.out.lt _ rfl).2)
       replace OW:=hid (OW.out.alloc (.cells #[.int .i64 3,.string ⟨#[122,122]⟩,.int .i64 0,.slice (some ⟨Wr.heap.size,0,none⟩) 1 1,.int .i64 0] 24))
       clear HB
       have HB:=HB2
       clear HB2
       refine hK.out _ _ (HS.out _ HB) (fun hHeld => ?_)
       clear hK K
       try simp only [Act.put,d8,m8,m9]
       generalize wa1.alloc (.cells #[.int .i64 3,.string ⟨#[122,122]⟩,.int .i64 0,.slice (some ⟨Wr.heap.size,0,none⟩) 1 1,.int .i64 0] 24)=wa2 at HB hHeld hlt11 K11 hlt9b K9 OW ⊢
       refine wpAnyH_ready (rs:=[7]) (by kernel_rfl) (by simp) ?_
       refine AllReadyH.cons (j5 rfl) (fun K hK => ?_) AllReadyH.nil
       rw [if_pos (by rfl)]
       refine j9 _ _ _ _ rfl Wr.heap.size 24 i0 5 Tryz.underlying22 HI.out.1 HI.out.2.2.1 _ 0 (t.kids.length + 1) [] rfl OW a t.kids.length cap (J6 L) rfl (by rw [eY,HLl.out]) (fun e => HNIL.out e) (HC.out _ HB) (eP L) (by omega) ?_
       intro wa3 own grow
       simp only [Nat.zero_add,List.nil_append] at own
       have HB2:=hid (HB.out.grown grow HB.out.size (fun r e => by cases e; exact (OW.out.lt _ rfl).1))
       replace K9:=hid ((grow.block _ (Array.getElem?_eq_some_iff.1 K9).1 (fun e => NE9.out (Option.some.inj e))).trans K9)
       replace K11:=hid ((grow.block _ (Array.getElem?_eq_some_iff.1 K11).1 (fun e => NE11.out (Option.some.inj e))).trans K11)
       replace hlt9b:=Nat.lt_of_lt_of_le hlt9b grow.size
       replace hlt11:=Nat.lt_of_lt_of_le hlt11 grow.size
       replace OW:=hid own
       clear own grow
       clear HB
       have HB:=HB2
       clear HB2
       refine hK.out _ _ (HS.out _ HB) (fun hHeld => ?_)
       clear hK K
       try simp only [Act.put,d8,m8,m9,Nat.zero_add]
       refine wpAnyH_ready (rs:=[12]) (by kernel_rfl) (by simp) ?_
       refine AllReadyH.cons (j5 rfl) (fun K hK => ?_) AllReadyH.nil
       rw [if_pos (by rfl)]
       have k11:=K11.out
       refine j9 _ _ _ _ rfl Wr.heap.size 24 i0 5 Tryz.underlying22 HI.out.1 HI.out.2.2.1 _ t.kids.length (t.kids.length + 1) (J6 L) rfl OW (some ⟨wa1.heap.size,0,none⟩) 1 1 (ndC (mkN 3 bZz 0 [u] 0,some ⟨Wr.heap.size,0,none⟩,1)) rfl rfl (fun h => by cases h) (fun ad e => by cases e; exact bE k11) (cA _) (Nat.le_refl _) ?_
       intro wa4 own grow
       clear k11
       have HB2:=hid (HB.out.grown grow HB.out.size (fun r e => by cases e; exact (OW.out.lt _ rfl).1))
       replace K9:=hid ((grow.block _ (Array.getElem?_eq_some_iff.1 K9).1 (fun e => NE9.out (Option.some.inj e))).trans K9)
       have UR:=hid (UseR.make HB2 MB own K9 LE9)
       clear own grow
       clear HB
       have HB:=HB2
       clear HB2
       refine hK.out _ _ (HS.out _ HB) (fun hHeld => ?_)
       clear hK K
       try simp only [Act.put,d8,m8,m9]
       refine a8 13 ?_
       refine wpAnyH_ready (rs:=[14]) (by kernel_rfl) (by simp) ?_
       refine AllReadyH.cons (j5 rfl) (fun K hK => ?_) AllReadyH.nil
       obtain ⟨-,-,-,fz3,-⟩:=(MB.out.below (HB.out.mono (Nat.le_refl _))).cells.2
       have cz3:=(MB.out.below HB).cells.1.2.2.2.1
       go_simp
       refine hK.out _ _ (HS2.out _ HB _) (fun hHeld => ?_)
       clear hK K fz3 cz3
       try simp only [Act.put,d8,m8,m9]
       refine wpAnyH_done (by kernel_rfl) ?_ _
       go_wp2_with fail
       go_meet
       case rel => exact ⟨_,_,UR⟩
     ·
      go_simp
      have HB2:=hid (show Below Wr.heap.size Wr (wa0.alloc (.cells #[.int .i64 3,.string ⟨#[122,122]⟩,.int .i64 0,.slice (some ⟨Wr.heap.size,0,none⟩) 1 1,.int .i64 0] 24)) from HB.out.alloc HB.out.size _)
      have hlt11 : wa0.heap.size<(wa0.alloc (.cells #[.int .i64 3,.string ⟨#[122,122]⟩,.int .i64 0,.slice (some ⟨Wr.heap.size,0,none⟩) 1 1,.int .i64 0] 24)).heap.size:=by simp
      have K11:=hid (show (wa0.alloc (.cells #[.int .i64 3,.string ⟨#[122,122]⟩,.int .i64 0,.slice (some ⟨Wr.heap.size,0,none⟩) 1 1,.int .i64 0] 24)).heap[wa0.heap.size]?=some (.cells #[.int .i64 3,.string ⟨#[122,122]⟩,.int .i64 0,.slice (some ⟨Wr.heap.size,0,none⟩) 1 1,.int .i64 0] 24 (0,0)) from O7 _ _)
      have LE11:=hid (show Wr.heap.size≤wa0.heap.size from HB.out.size)
      have hlt9b:=Nat.lt_trans hlt9 hlt11
      replace K9:=hid (cC (Array.getElem?_eq_some_iff.1 K9).1 K9 (o:=.cells #[.int .i64 3,.string ⟨#[122,122]⟩,.int .i64 0,.slice (some ⟨Wr.heap.size,0,none⟩) 1 1,.int .i64 0] 24))
      clear HB
      have HB:=HB2
      clear HB2
      refine hK.out _ _ (HS.out _ HB) (fun hHeld => ?_)
      clear hK K
      try simp only [Act.put,d8,m8,m9]
      generalize wa0.alloc (.cells #[.int .i64 3,.string ⟨#[122,122]⟩,.int .i64 0,.slice (some ⟨Wr.heap.size,0,none⟩) 1 1,.int .i64 0] 24)=wa1 at HB hHeld hlt11 K11 hlt9b K9 ⊢
      refine wpAnyH_ready (rs:=[4]) (by kernel_rfl) (by simp) ?_
      refine AllReadyH.cons (j5 rfl) (fun K hK => ?_) AllReadyH.nil
      rw [if_pos (by rfl)]
      refine gP _ _ _ _ rfl Wr.heap.size 24 i0 (.agg #[.int .i64 0,.string ⟨#[]⟩,.int .i64 0,.slice none 0 0,.int .i64 0]) 5 Tryz.underlying22 HI.out.1 HI.out.2.1 HI.out.2.2.1 .i64 .i64 _ (t.kids.length + 1) rfl rfl (by rfl) (by rw [HI.out.2.2.2]; omega) (by unfold maxLen; omega) HB.out.size ?_
      intro wa2 own grow
      have HB2:=hid (HB.out.grown grow HB.out.size (fun r e => by cases e))
      replace K9:=hid ((grow.block _ (Array.getElem?_eq_some_iff.1 K9).1 (fun e => by cases e)).trans K9)
      replace K11:=hid ((grow.block _ (Array.getElem?_eq_some_iff.1 K11).1 (fun e => by cases e)).trans K11)
      have OW:=hid own
      have NE9:=hid (show Wr.heap.size≠wa1.heap.size from Nat.ne_of_lt hlt9b)
      have NE11:=hid (show wa0.heap.size≠wa1.heap.size from Nat.ne_of_lt hlt11)
      replace hlt9b:=Nat.lt_of_lt_of_le hlt9b grow.size
      replace hlt11:=Nat.lt_of_lt_of_le hlt11 grow.size
      clear own grow
      clear HB
      have HB:=HB2
      clear HB2
      refine hK.out _ _ (HS.out _ HB) (fun hHeld => ?_)
      clear hK K
      try simp only [Act.put,d8,m8,m9]
      refine wpAnyH_ready (rs:=[7]) (by kernel_rfl) (by simp) ?_
      refine AllReadyH.cons (j5 rfl) (fun K hK => ?_) AllReadyH.nil
      rw [if_pos (by rfl)]
      refine j9 _ _ _ _ rfl Wr.heap.size 24 i0 5 Tryz.underlying22 HI.out.1 HI.out.2.2.1 _ 0 (t.kids.length + 1) [] rfl OW a t.kids.length cap (J6 L) rfl (by rw [eY,HLl.out]) (fun e => HNIL.out e) (HC.out _ HB) (eP L) (by omega) ?_
      intro wa3 own grow
      simp only [Nat.zero_add,List.nil_append] at own
      have HB2:=hid (HB.out.grown grow HB.out.size (fun r e => by cases e; exact (OW.out.lt _ rfl).1))
      replace K9:=hid ((grow.block _ (Array.getElem?_eq_some_iff.1 K9).1 (fun e => NE9.out (Option.some.inj e))).trans K9)
      replace K11:=hid ((grow.block _ (Array.getElem?_eq_some_iff.1 K11).1 (fun e => NE11.out (Option.some.inj e))).trans K11)
      replace hlt9b:=Nat.lt_of_lt_of_le hlt9b grow.size
      replace hlt11:=Nat.lt_of_lt_of_le hlt11 grow.size
      replace OW:=hid own
      clear own grow
      clear HB
      have HB:=HB2
      clear HB2
      refine hK.out _ _ (HS.out _ HB) (fun hHeld => ?_)
      clear hK K
      try simp only [Act.put,d8,m8,m9,Nat.zero_add]
      refine wpAnyH_ready (rs:=[12]) (by kernel_rfl) (by simp) ?_
      refine AllReadyH.cons (j5 rfl) (fun K hK => ?_) AllReadyH.nil
      rw [if_pos (by rfl)]
      have k11:=K11.out
      refine j9 _ _ _ _ rfl Wr.heap.size 24 i0 5 Tryz.underlying22 HI.out.1 HI.out.2.2.1 _ t.kids.length (t.kids.length + 1) (J6 L) rfl OW (some ⟨wa0.heap.size,0,none⟩) 1 1 (ndC (mkN 3 bZz 0 [u] 0,some ⟨Wr.heap.size,0,none⟩,1)) rfl rfl (fun h => by cases h) (fun ad e => by cases e; exact bE k11) (cA _) (Nat.le_refl _) ?_
      intro wa4 own grow
      clear k11
      have HB2:=hid (HB.out.grown grow HB.out.size (fun r e => by cases e; exact (OW.out.lt _ rfl).1))
      replace K9:=hid ((grow.block _ (Array.getElem?_eq_some_iff.1 K9).1 (fun e => NE9.out (Option.some.inj e))).trans K9)
      have UR:=hid (UseR.make HB2 MB own K9 LE9)
      clear own grow
      clear HB
      have HB:=HB2
      clear HB2
      refine hK.out _ _ (HS.out _ HB) (fun hHeld => ?_)
      clear hK K
      try simp only [Act.put,d8,m8,m9]
      refine a8 13 ?_
      refine wpAnyH_ready (rs:=[14]) (by kernel_rfl) (by simp) ?_
      refine AllReadyH.cons (j5 rfl) (fun K hK => ?_) AllReadyH.nil
      obtain ⟨-,-,-,fz3,-⟩:=(MB.out.below (HB.out.mono (Nat.le_refl _))).cells.2
      have cz3:=(MB.out.below HB).cells.1.2.2.2.1
      go_simp
      refine hK.out _ _ (HS2.out _ HB _) (fun hHeld => ?_)
      clear hK K fz3 cz3
      try simp only [Act.put,d8,m8,m9]
      refine wpAnyH_done (by kernel_rfl) ?_ _
      go_wp2_with fail
      go_meet
      case rel => exact ⟨_,_,UR⟩
   case rest =>
   obtain ⟨g,b9,UR⟩:=hcut
   have TR:=hid (UR.out.tree hmb (HX.out _ Br).1 (by have:=HN0.out; omega) HL1 HL2 HLl (Nd.lies.kept (fun b (hb : Fr w6.heap.size w7.heap.size b) => ⟨by have:=hb.2; show b<_; omega,fun o => (F9.out.trans (FR.out.mono F9.out.size)).cell (p:=⟨b,o,none⟩) hb.2⟩) u HUL) (by unfold maxLen; omega))
   have SHT:=hid (a1k HS0 (u:=u) (by rw [a0K HUS.out]; exact a3G HOK))
   have Ex:=hid (show Below w9.heap.size Wr wc from UR.out.bl)
   have G9:=hid (show Below w9.heap.size w9 wc from FR.out.trans Ex)
   have Bx:=hid (B9.out.trans (G9.out.mono B9.out.size))
   have MBx:=hid UR.out.box
   clear UR HC HI HL1 HL2 HL3 HLl HNIL HS HS2 HSm Er Br FR Ex MB hmb hkc2 hcm
   generalize wc=Wx at TR G9 Bx MBx ⊢
   clear Wr
   have HT':=hid (show ∀ t',t'=fS t u→t'.kind=t.kind∧t'.text=t.text∧t'.n=t.n∧t'.kids.length=t.kids.length + 1∧t'.place=t.place from fun t' e => by
    subst e
    exact ⟨rfl,rfl,rfl,by show (t.kids ++ [mkN 3 bZz 0 [u] 0]).length=_; rw [List.length_append]; rfl,rfl⟩)
   have CS:=hid (show Calls Tryz.prog 9 #[.agg #[.int .i64 t.kind,.string t.text,.int .i64 t.n,.slice (some ⟨g,0,none⟩) (t.kids.length + 1) (t.kids.length + 1),.int .i64 t.place]] Wx (fun e w' => e=.returned (.bool (O4 (fS t u)))∧Below Wx.heap.size Wx w') by
    have hho:=TR.out
    obtain ⟨t',ht'⟩ : ∃ t',t'=fS t u:=⟨_,rfl⟩
    obtain ⟨k0,k1,k2,k3,k4⟩:=HT'.out t' ht'
    rw [← ht'] at hho ⊢
    clear ht'
    have h:=a0k t' (some ⟨g,0,none⟩) (t.kids.length + 1) Wx.heap.size Wx hho (Nat.le_refl _)
    rw [k0,k1,k2,k3,k4] at h
    exact h)
   have hbm:=MBx.out
   have m0 : Wx.cell? ⟨w9.heap.size,0,none⟩=some (.int .i64 t.kind):=by simp [World.cell?,hbm]
   have m1 : Wx.cell? ⟨w9.heap.size,1,none⟩=some (.string t.text):=by simp [World.cell?,hbm]
   have m2 : Wx.cell? ⟨w9.heap.size,2,none⟩=some (.int .i64 t.n):=by simp [World.cell?,hbm]
   have m3 : Wx.cell? ⟨w9.heap.size,3,none⟩=some (.slice (some ⟨g,0,none⟩) (t.kids.length + 1) (t.kids.length + 1)):=by simp [World.cell?,hbm]
   have m4 : Wx.cell? ⟨w9.heap.size,4,none⟩=some (.int .i64 t.place):=by simp [World.cell?,hbm]
   have hml : w9.heap.size<Wx.heap.size:=(Array.getElem?_eq_some_iff.1 hbm).1
   clear hbm
   go_wp2_with fail
   (with_reducible refine Calls.mono CS.out ?_)
   rintro e w12 ⟨rfl,hb⟩
   have G12:=hid (show Below w9.heap.size w9 w12 from G9.out.trans (hb.mono G9.out.size))
   have B12:=hid (B9.out.trans (G12.out.mono B9.out.size))
   have MB12:=hid ((hb.block _ hml).trans MBx)
   have T12:=hid ((TR.out.below hb).mono hb.size)
   clear CS hb TR MBx m0 m1 m2 m3 m4 hml G9 Bx
   cases hsm : O4 (fS t u) with
   | false =>
     clear hsm
     go_wp2_with fail
     go_ret
     exact ⟨rfl,B12⟩
   | true =>
   have HMU:=hid (a4b HA hkl HD HZ HUS hsm)
   clear hsm
   have hlen : (s.defs ++ [(⟨bZz,[],gH d⟩ : Sch)]).length=s.defs.length + 1:=by rw [List.length_append]; rfl
   have HLEN:=hid hlen
   clear hlen
   have CM:=hid (show Calls Tryz.prog 5 #[.agg #[.int .i64 t.kind,.string t.text,.int .i64 t.n,.slice (some ⟨g,0,none⟩) (t.kids.length + 1) (t.kids.length + 1),.int .i64 t.place],.slice none 0 0] w12 (fun e w' => Below w12.heap.size w12 w'∧∃ ta tc,e=.returned (.tuple #[.agg #[.string (bsA s.name),.slice ta (s.defs.length + 1) tc],.int .i64 0,.int .i64 0])∧dK (fun b => w12.heap.size≤b) w' ta (s.defs ++ [(⟨bZz,[],gH d⟩ : Sch)])∧s.defs.length + 1≤tc∧tc≤maxLen∧(ta=none→tc=0)) by
    have hsh:=SHT.out
    have hmt:=HMU.out
    have hho:=T12.out
    obtain ⟨t',ht'⟩ : ∃ t',t'=fS t u:=⟨_,rfl⟩
    obtain ⟨k0,k1,k2,k3,k4⟩:=HT'.out t' ht'
    rw [← ht'] at hsh hmt hho
    clear ht'
    have h:=iU [] none 0 t' (some ⟨g,0,none⟩) (t.kids.length + 1) w12.heap.size w12 hho hsh (Nat.le_refl _) (HX.out _ B12).2.2.1 (HX.out _ B12).2.2.2.1 (HX.out _ B12).2.2.2.2 (fun j hj => absurd hj (Nat.not_lt_zero _)) ⟨Nat.le_refl _,Nat.zero_le _⟩ (fun s hs => (List.not_mem_nil hs).elim) (jG 0 _ (Nat.zero_le _))
    unfold rD at h
    rw [hmt,k0,k1,k2,k3,k4] at h
    simp only [HLEN.out,List.length_nil] at h
    exact h)
   have hbm:=MB12.out
   have m0 : w12.cell? ⟨w9.heap.size,0,none⟩=some (.int .i64 t.kind):=by simp [World.cell?,hbm]
   have m1 : w12.cell? ⟨w9.heap.size,1,none⟩=some (.string t.text):=by simp [World.cell?,hbm]
   have m2 : w12.cell? ⟨w9.heap.size,2,none⟩=some (.int .i64 t.n):=by simp [World.cell?,hbm]
   have m3 : w12.cell? ⟨w9.heap.size,3,none⟩=some (.slice (some ⟨g,0,none⟩) (t.kids.length + 1) (t.kids.length + 1)):=by simp [World.cell?,hbm]
   have m4 : w12.cell? ⟨w9.heap.size,4,none⟩=some (.int .i64 t.place):=by simp [World.cell?,hbm]
   have hml : w9.heap.size<w12.heap.size:=(Array.getElem?_eq_some_iff.1 hbm).1
   clear hbm
   go_wp2_with fail
   (with_reducible refine Calls.mono CM.out ?_)
   rintro e w13 ⟨hb,ta,tc,rfl,hS,h1,h2,-⟩
   have G13:=hid (show Below w9.heap.size w9 w13 from G12.out.trans (hb.mono G12.out.size))
   have ST13:=hid (a1E hS)
   have HTC:=hid (show s.defs.length + 1≤tc∧tc≤maxLen from ⟨h1,h2⟩)
   clear hb CM hS h1 h2 m0 m1 m2 m3 m4 hml
   obtain ⟨W14,hW14⟩ : ∃ W,W=w13.alloc (.cells #[.string (bsA s.name),.slice ta (s.defs.length + 1) tc] 28):=⟨_,rfl⟩
   have F14:=hid (show Below w13.heap.size w13 W14 from hW14 ▸ a7 _ _)
   have G14:=hid (G13.out.trans (F14.out.mono G13.out.size))
   have TB14:=hid (show W14.heap[w13.heap.size]?=some (.cells #[.string (bsA s.name),.slice ta (s.defs.length + 1) tc] 28 (0,0)) by rw [hW14]; exact bL _ _ rfl)
   go_upto_region 23 with fail
   rw [← hW14]
   clear hW14
   have hbm:=TB14.out
   have t1 : W14.cell? ⟨w13.heap.size,1,none⟩=some (.slice ta (s.defs.length + 1) tc):=by simp [World.cell?,hbm]
   have htl : w13.heap.size<W14.heap.size:=(Array.getElem?_eq_some_iff.1 hbm).1
   have hs4 : w3.heap.size<W4.heap.size:=(Array.getElem?_eq_some_iff.1 HSB).1
   have E14:=hid (show Below W4.heap.size W4 W14 from E9.out.trans (G14.out.mono E9.out.size))
   have hsb:=(E14.out.block _ hs4).trans HSB
   have s1 : W14.cell? ⟨w3.heap.size,1,none⟩=some (.slice (some ⟨b,off,none⟩) s.defs.length dc):=by simp [World.cell?,hsb]
   have hsl : w3.heap.size<W14.heap.size:=(Array.getElem?_eq_some_iff.1 hsb).1
   obtain ⟨tb,tf,rfl,htv,-,qa,qc,-,-,r2,-⟩:=ST13.out s.defs.length (by rw [HLEN.out]; omega)
   have r2 : W14.cell? ⟨tb,tf + s.defs.length * 3 + 2,none⟩=some (.int .i64 (gH d)):=by
    have h:=(F14.out.cell (p:=⟨tb,tf + s.defs.length * 3 + 2,none⟩) htv.2).trans r2
    rw [h]
    have hz' : ∀ (h : s.defs.length<(s.defs ++ [(⟨bZz,[],gH d⟩ : Sch)]).length),(s.defs ++ [(⟨bZz,[],gH d⟩ : Sch)])[s.defs.length]'h=⟨bZz,[],gH d⟩:=fun h => by simp
    rw [hz']
   have htbl : tb<W14.heap.size:=by have:=htv.2; have:=F14.out.size; omega
   have htc:=HTC.out.1
   have htcm : tc≤9223372036854775807:=by have:=HTC.out.2; unfold maxLen at this; omega
   have hdl200 : s.defs.length<200:=by have:=HDL.out; omega
   have D14:=hid (D5.out.below (show Below W5.heap.size W5 W14 from HB6.out.trans ((show Below w6.heap.size w6 W14 from by
    have h7 : Below w6.heap.size w6 w7:=HW67.out
    exact h7.trans ((F9.out.trans (G14.out.mono F9.out.size)).mono h7.size)).mono HB6.out.size)))
   obtain ⟨-,k1,k2⟩:=D14.out.cells
   have hk1:=D14.out.lt
   have ewr : IntKind.i64.wrap ((s.defs.length : Int) + 1)=(s.defs.length : Int) + 1:=IntWalk.i64_in _ (by omega)
   clear hbm hsb
   obtain ⟨ge,hge⟩ : ∃ x,decide (5≤d.result)=x:=⟨_,rfl⟩
   have HGE:=hid hge
   go_upto_if 156 with fail
   clear hge
   go_cut [23,24,25] from 155 to 176 (fun s23 _ _ wx => s23=.int .i64 (gH d)∧Hid (Below W14.heap.size W14 wx))
   case first =>
    cases ge with
    | false =>
      have HG:=hid (show d.result=gH d from (if_pos (by have:=of_decide_eq_false HGE.out; omega)).symm)
      go_wp2_with fail
      go_meet
      case rel => exact ⟨congrArg (Value.int .i64) HG,Below.refl _ _⟩
    | true =>
      have HG:=hid (show gH d=if d.result∈d.params then 0 else 5 from if_neg (by have:=of_decide_eq_true HGE.out; omega))
      go_wp2_with fail
      go_loopw [24,25] (fun am i wr => ∃ q : Nat,q≤d.params.length∧i=.int .i64 q∧am=.bool (decide (d.result∈d.params.take q))∧Hid (Below W14.heap.size W14 wr)) (fun _ i _ => d.params.length - (intOf i).toNat)
      case atStart => exact ⟨0,Nat.zero_le _,rfl,by rw [List.take_zero]; rfl,Below.refl _ _⟩
      case round =>
       obtain ⟨q,hq,rfl,rfl,HWq⟩:=hrel
       clear k1 k2 hk1 t1 htl s1 hsl r2 htbl
       have Dq:=hid (D14.out.below HWq)
       obtain ⟨-,k1,k2⟩:=Dq.out.cells
       have hk1:=Dq.out.lt
       obtain ⟨am,ham⟩ : ∃ x,x=decide (d.result∈d.params.take q):=⟨_,rfl⟩
       have HAM:=hid ham
       rw [← ham]
       clear ham
       by_cases hlt : q<d.params.length
       ·obtain ⟨pb,po,rfl,hpav,pcell⟩:=HI4.out q hlt
        have hpb4 : pb<W4.heap.size:=by have:=hpav.2; have:=E4.out.size; omega
        have hbw : Below W4.heap.size W4 wr:=E14.out.trans (HWq.out.mono E14.out.size)
        have p0 : wr.cell? ⟨pb,po + q,none⟩=some (.int .i64 d.params[q]):=(hbw.cell (p:=⟨pb,po + q,none⟩) hpb4).trans pcell
        have hpb : pb<wr.heap.size:=Nat.lt_of_lt_of_le hpb4 hbw.size
        have HST:=hid (show decide (d.result∈d.params.take (q + 1))=(am || decide (d.params[q]=d.result)) by
         have e : d.result∈d.params.take q ++ [d.params[q]]↔d.result∈d.params.take q∨d.params[q]=d.result:=by rw [List.mem_append,List.mem_singleton]; exact or_congr Iff.rfl eq_comm
         rw [HAM.out,← List.take_append_getElem hlt,decide_eq_decide.2 e,Bool.decide_or])
        have BN:=hid (show Below W14.heap.size W14 wr.drew from A8 HWq)
        clear pcell hbw
        generalize d.params[q]=px at p0 HST
        go_upto_region 33 with fail
        refine wp_region_held_drew (S:=fun cur => cur.cell? ⟨db,1,none⟩=some (.slice (some ⟨pb,po,none⟩) d.params.length pc)∧cur.cell? ⟨db,2,none⟩=some (.int .i64 d.result)∧cur.cell? ⟨pb,po + q,none⟩=some (.int .i64 px)) (by kernel_rfl) ?_ (fun hHeld => ?_)
        ·exact ⟨k1,k2,p0⟩
        clear k1 k2 p0
        cases am with
        | true =>
          refine a8 0 ?_; refine a8 1 ?_
          refine s8 2 ?_; refine s8 3 ?_; refine s8 4 ?_; refine s8 5 ?_; refine s8 6 ?_; refine s8 7 ?_; refine s8 8 ?_; refine s8 9 ?_
          refine a8 (v:=.bool true) 10 ?_; refine a8 11 ?_
          refine wpAnyH_done (by kernel_rfl) ?_ _
          go_wp2_with fail
          go_roundw
          case rel => exact ⟨q + 1,by omega,by go_num,by rw [HST.out]; rfl,BN⟩
          case measure => simp [intOf]; omega
        | false =>
          by_cases hpx : px=d.result
          ·have HE:=hid (show decide (d.result∈d.params.take (q + 1))=true by rw [HST.out,decide_eq_true hpx]; rfl)
           have e1 : (px == d.result)=true:=beq_iff_eq.2 hpx
           clear hpx
           refine a8 0 ?_; refine a8 1 ?_; refine a8 2 ?_; refine a8 3 ?_; refine a8 4 ?_; refine a8 5 ?_; refine a8 6 ?_; refine a8 7 ?_; refine a8 8 ?_; refine a8 (v:=.bool true) 9 ?_
           refine a8 (v:=.bool true) 10 ?_; refine a8 11 ?_
           refine wpAnyH_done (by kernel_rfl) ?_ _
           go_wp2_with fail
           go_roundw
           case rel => exact ⟨q + 1,by omega,by go_num,by rw [HE.out],BN⟩
           case measure => simp [intOf]; omega
          ·have HE:=hid (show decide (d.result∈d.params.take (q + 1))=false by rw [HST.out,decide_eq_false hpx]; rfl)
           have e1 : (px == d.result)=false:=beq_eq_false_iff_ne.2 hpx
           clear hpx
           refine a8 0 ?_; refine a8 1 ?_; refine a8 2 ?_; refine a8 3 ?_; refine a8 4 ?_; refine a8 5 ?_; refine a8 6 ?_; refine a8 7 ?_; refine a8 8 ?_; refine a8 (v:=.bool false) 9 ?_
           refine a8 (v:=.bool false) 10 ?_; refine a8 11 ?_
           refine wpAnyH_done (by kernel_rfl) ?_ _
           go_wp2_with fail
           go_roundw
           case rel => exact ⟨q + 1,by omega,by go_num,by rw [HE.out],BN⟩
           case measure => simp [intOf]; omega
       ·obtain rfl : q=d.params.length:=by omega
        rw [List.take_length] at HAM
        cases am with
        | true =>
          have HE:=hid (show (0 : Int)=gH d by rw [HG.out,if_pos (of_decide_eq_true HAM.out.symm)])
          go_wp2_with fail
          go_meet
          case rel => exact ⟨congrArg (Value.int .i64) HE,HWq⟩
        | false =>
          have HE:=hid (show (5 : Int)=gH d by rw [HG.out,if_neg (of_decide_eq_false HAM.out.symm)])
          go_wp2_with fail
          go_meet
          case rel => exact ⟨congrArg (Value.int .i64) HE,HWq⟩
   case rest =>
   obtain ⟨rfl,HBZ⟩:=hcut
   have BF:=hid (B4.out.trans ((E14.out.trans (HBZ.out.mono E14.out.size)).mono B4.out.size))
   have e9 : (gH d == gH d)=true:=beq_self_eq_true _
   go_wp2_with fail
   go_ret
   exact ⟨rfl,BF⟩
end
end Go.Proofs.YteefedkmgnepmaaGreatDoor
