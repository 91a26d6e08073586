/-
  Laws that the proof rests on.
-/
import Derived.Test.YtppcfebnaieciaaGreatDoorE32
import Derived.Test.YtppcfebnaieciaaGreatDoorE31
import Derived.Test.YtppcfebnaieciaaGreatDoorE15
import Derived.Test.YtppcfebnaieciaaGreatDoorE17
import Derived.ChangeSlices
namespace Go.Proofs.YtppcfebnaieciaaGreatDoor
set_option maxRecDepth 100000
set_option maxHeartbeats 16000000
section
open Lib (hid)
open Go.RowKit
theorem sS (av : Nat→Prop) (d : Sch) (pa : Option Addr) (pc : Nat) (w : World) (hI : v6 av w pa d.params) (hc : d.params.length≤pc∧pc≤maxLen) (hr : ∀ t∈d.params ++ [d.result],lU t) (hn : d.params.length≤2000000) (hs : d.name.length≤1000000000000) (ha : ∀ b,av b→b<w.heap.size) (he : Env w) (hta : Tab w) (hti : bB w) :
 Calls Tryz.prog 5 #[.agg #[.string (bsA d.name),.slice pa d.params.length pc,.int .i64 d.result]] w fun e w' => e=.returned (.bool true)∧Below w.heap.size w w':=by
 obtain ⟨W1,hW1⟩ : ∃ W,W=w.alloc (.cells #[.string (bsA d.name),.slice pa d.params.length pc,.int .i64 d.result] 36):=⟨_,rfl⟩
 have B1:=hid (show Below w.heap.size w W1 from hW1 ▸ a7 _ _)
 have K1:=hid (show ScBx w.heap.size d pa pc W1 from hW1 ▸ ScBx.make _ _ _ _)
 have HX:=hid (show ∀ cur,Below w.heap.size w cur→Env cur∧Tab cur∧bB cur∧v6 av cur pa d.params∧∀ b,av b→b<cur.heap.size from fun cur hb => ⟨he.below hb,hta.below hb,hti.below hb,hI.move (fun b h => hb.block b (ha b h)) (fun _ h => h),fun b h => Nat.lt_of_lt_of_le (ha b h) hb.size⟩)
 have C1:=hid (fZ W1 (HX.out _ B1).1 (HX.out _ B1).2.1 (HX.out _ B1).2.2.1)
 have HH:=hid (show _∧_∧_∧_ from ⟨hc,hr,hn,hs⟩)
 clear he hta hti hI ha hc hr hn hs
 go_enter Tryz.func5,Tryz.ntmps5
 go_upto_region 1 with fail
 rw [← hW1]
 clear hW1
 go_wp2_with fail
 (with_reducible refine Calls.mono C1.out ?_)
 rintro e w2 ⟨rfl,hb⟩
 have B2:=hid (show Below w.heap.size w w2 from B1.out.trans (hb.mono B1.out.size))
 have K2:=hid (K1.out.below hb)
 clear hb C1 B1 K1
 have HS:=hid (show ∀ cur,Below w2.heap.size w2 cur→Below w2.heap.size w2 cur∧cur.cell? ⟨w.heap.size,0,none⟩=some (.string (bsA d.name))∧cur.cell? ⟨w.heap.size,1,none⟩=some (.slice pa d.params.length pc)∧cur.cell? ⟨w.heap.size,2,none⟩=some (.int .i64 d.result) from fun cur hb => ⟨hb,(K2.out.below hb).cells⟩)
 have hk:=K2.out.lt
 have e1 : ((bsA (dU d)).toList == (bsA (dU d)).toList)=true:=beq_self_eq_true _
 go_upto_region 2 with fail
 refine wp_region_held_drew (S:=fun cur => Below w2.heap.size w2 cur∧cur.cell? ⟨w.heap.size,0,none⟩=some (.string (bsA d.name))∧cur.cell? ⟨w.heap.size,1,none⟩=some (.slice pa d.params.length pc)∧cur.cell? ⟨w.heap.size,2,none⟩=some (.int .i64 d.result)) (by kernel_rfl) ?_ (fun hHeld => ?_)
 ·exact HS.out _ (Below.refl _ _).drew
 have HB:=hid (show Below w2.heap.size w2 w2.drew from (Below.refl _ _).drew)
 refine a8 0 ?_; refine a8 1 ?_; refine a8 2 ?_; refine a8 4 ?_
 refine wpAnyH_ready (rs:=[3]) (by kernel_rfl) (by simp) ?_
 refine AllReadyH.cons (n7 rfl) (fun K hK => ?_) AllReadyH.nil
 go_simp
 have C2:=hid (show ∀ cur,Below w2.heap.size w2 cur→_ from fun cur hb => nT av d pa pc cur (HX.out _ (B2.out.trans (hb.mono B2.out.size))).2.2.2.1 HH.out.1 HH.out.2.1 HH.out.2.2.1 HH.out.2.2.2 (HX.out _ (B2.out.trans (hb.mono B2.out.size))).2.2.1 (HX.out _ (B2.out.trans (hb.mono B2.out.size))).2.1)
 (with_reducible refine Calls.mono (C2.out _ HB.out) ?_)
 rintro e w3 ⟨rfl,hb⟩
 have HB3:=hid (HB.out.trans (hb.mono HB.out.size))
 clear hb C2
 go_wp2_with fail
 refine hK.out _ _ (HS.out _ HB3) (fun hHeld => ?_)
 clear hK K
 try simp only [Act.put,i6,p8,p7]
 refine wpAnyH_ready (rs:=[5]) (by kernel_rfl) (by simp) ?_
 refine AllReadyH.cons (n7 rfl) (fun K hK => ?_) AllReadyH.nil
 go_simp
 have C3:=hid (xA av d pa pc w3 (HX.out _ (B2.out.trans (HB3.out.mono B2.out.size))).2.2.2.1 HH.out.1 HH.out.2.1 HH.out.2.2.1 HH.out.2.2.2 (HX.out _ (B2.out.trans (HB3.out.mono B2.out.size))).2.2.2.2)
 (with_reducible refine Calls.mono C3.out ?_)
 rintro e w4 ⟨rfl,hb⟩
 have HB4:=hid (HB3.out.trans (hb.mono HB3.out.size))
 clear hb C3
 go_wp2_with fail
 refine hK.out _ _ (HS.out _ HB4) (fun hHeld => ?_)
 clear hK K
 try simp only [Act.put,i6,p8,p7]
 refine a8 (v:=.bool true) 6 ?_; refine a8 (v:=.bool true) 7 ?_; refine a8 8 ?_
 refine wpAnyH_done (by kernel_rfl) ?_ _
 go_wp2_with fail
 go_ret
 exact ⟨rfl,B2.out.trans (HB4.out.mono B2.out.size)⟩
end
section
open Go.ChangeShapes Go.WideShapes Go.ChangeAt Go.RowKit
theorem a2j {H : Type} (d : DataW H) : 1≤Rows.uptoBulk d:=by
 cases d with
 | lit l => cases l <;> simp [Rows.uptoBulk]
 | nil => simp [Rows.uptoBulk]
 | ptr d => simp [Rows.uptoBulk]
 | slice elems spare => simp [Rows.uptoBulk]
 | agg parts => simp [Rows.uptoBulk]
 | iface t d => simp [Rows.uptoBulk]
 | map entries => simp [Rows.uptoBulk]
 | held h => simp [Rows.uptoBulk]
theorem a3X {H : Type} (l : List (DataW H)) : l.length≤Rows.uptoBulkAll l:=by
 induction l with
 | nil => simp [Rows.uptoBulkAll]
 | cons x r ih => have:=a2j x; simp only [Rows.uptoBulkAll,List.length_cons]; omega
theorem sG {n : Int} (h : (Lit.int .i64 n).wf=true) : lU n:=by
 unfold Lit.wf at h
 simp at h
 exact ⟨h.1,h.2⟩
theorem a0D {H : Type} {enc : TypeId × Value→H} {W : World} {sp : Nat→Bool} {held : Bool} (fuel : Nat) (l : List Value) (x : DataW H × List MemPlace)
 (h : DataW.trod enc Tryz.prog W 0 sp held fuel 36 l=some x) (hk : Rows.uptoBulk x.1≤1048576) :
 ∃ (x : Sch) (pa : Option Addr) (pc : Nat),l=[.string (bsA x.name),.slice pa x.params.length pc,.int .i64 x.result]∧v6 (· < W.heap.size) W pa x.params∧(x.params.length≤pc∧pc≤maxLen)∧(∀ t∈x.params ++ [x.result],lU t)∧x.params.length≤2000000∧x.name.length≤1000000000000:=by
 obtain ⟨xs,m,rfl,ex,hlen,hxs,hf⟩:=DataW.trod_struct Tryz.underlying36 h
 rw [show Tryz.prog.cellsOf 36=3 by kernel_rfl] at hlen
 obtain ⟨d,pl⟩:=x
 replace hk : Rows.uptoBulk d≤1048576:=hk
 match l,hlen with
 | [v0,v1,v2],_ =>
 match xs,(show xs.length=3 from hxs) with
 | [x0,x1,x2],_ =>
 have f0:=hf 0 ⟨"Name",9,0,false,"","",0⟩ rfl
 have f1:=hf 1 ⟨"Params",34,1,false,"","",16⟩ rfl
 have f2:=hf 2 ⟨"Result",3,2,false,"","",40⟩ rfl
 simp only [a5f,uL,show Tryz.prog.cellsOf 34=1 by kernel_rfl,List.drop_zero,List.drop_succ_cons,List.take_succ_cons,List.take_zero,List.getElem?_cons_zero,List.getElem?_cons_succ] at f0 f1 f2
 obtain ⟨s,e0,y0,-⟩:=DataW.trod_string Tryz.underlying9 f0
 obtain ⟨n,e2,-,w2⟩:=DataW.trod_int Tryz.underlying3 f2
 obtain rfl : v0=.string s:=by simpa using e0
 obtain rfl : v2=.int .i64 n:=by simpa using e2
 have ed : d=.agg [x0.1,x1.1,x2.1]:=by have:=congrArg Prod.fst ex; exact this
 have hb0 : s.size + 1≤1048576:=by
  rw [ed,y0] at hk
  simp only [Rows.uptoBulk,Rows.uptoBulkAll] at hk
  have : s.data.toList.length=s.size:=Array.length_toList
  omega
 have hname : (bsA s.data.toList)=s:=rfl
 rcases open_ints Tryz.underlying34 Tryz.underlying3 (by kernel_rfl) f1 with ⟨hc1,-⟩ | ⟨a',len',cap',zs,hc1,-,hl,hm,hz,hx,hcell,hwf⟩
 ·obtain rfl : v1=.slice none 0 0:=by simpa using hc1
  refine ⟨⟨s.data.toList,[],n⟩,none,0,rfl,fun j hj => absurd hj (Nat.not_lt_zero _),⟨Nat.le_refl _,Nat.zero_le _⟩,fun t ht => ?_,Nat.zero_le _,?_⟩
  ·obtain rfl : t=n:=by simpa using ht
   exact sG w2
  ·show s.data.toList.length≤_
   have : s.data.toList.length=s.size:=Array.length_toList
   omega
 ·obtain rfl : v1=.slice (some a') len' cap':=by simpa using hc1
  have hle : len'≤zs.length:=by rw [hz]; split <;> omega
  have htl : (zs.take len').length=len':=by rw [List.length_take,Nat.min_eq_left hle]
  have hbl : len'≤1048576:=by
   rw [ed,hx] at hk
   simp only [Rows.uptoBulk,Rows.uptoBulkAll] at hk
   have:=a3X (H:=H) (lits .i64 (zs.take len'))
   have e : (lits (H:=H) .i64 (zs.take len')).length=len':=by unfold lits; rw [List.length_map,htl]
   omega
  refine ⟨⟨s.data.toList,zs.take len',n⟩,some a',cap',by rw [htl]; rfl,fun j hj => ?_,⟨by rw [htl]; exact hl,hm⟩,fun t ht => ?_,by show (zs.take len').length≤_; omega,?_⟩
  ·replace hj : j<(zs.take len').length:=hj
   have hc:=hcell j (by omega)
   obtain ⟨ab,ao,spot⟩:=a'
   have hspot : spot=none:=by simpa [Addr.add] using World.cell?_spot (hcell 0 (by omega))
   subst hspot
   rw [Addr.add_lit] at hc
   refine ⟨ab,ao,rfl,World.block_lt_of_cell? W ⟨ab,ao + j,none⟩ hc,?_⟩
   rw [hc]
   show some (Value.int .i64 (zs.getD j 0))=some (.int .i64 (zs.take len')[j])
   rw [List.getElem_take]
   simp [List.getD,List.getElem?_eq_getElem (show j<zs.length by omega)]
  ·rcases List.mem_append.1 ht with ht | ht
   ·exact sG (hwf _ (List.mem_of_mem_take ht))
   ·obtain rfl : t=n:=by simpa using ht
    exact sG w2
  ·show s.data.toList.length≤_
   have : s.data.toList.length=s.size:=Array.length_toList
   omega
theorem vN {H : Type} {enc : TypeId × Value→H} {W : World} {sp : Nat→Bool} {held : Bool} {r : Reach} {b : Nat} {v : Value} {d : DataW H} {p : List MemPlace}
 (hv : Value.okWide Tryz.prog W r b 36 v) (h : DataW.Trod enc Tryz.prog W 0 sp held 36 v d p) (hk : Rows.uptoBulk d≤1048576) :
 ∃ (x : Sch) (pa : Option Addr) (pc : Nat),v=.agg #[.string (bsA x.name),.slice pa x.params.length pc,.int .i64 x.result]∧v6 (· < W.heap.size) W pa x.params∧(x.params.length≤pc∧pc≤maxLen)∧(∀ t∈x.params ++ [x.result],lU t)∧x.params.length≤2000000∧x.name.length≤1000000000000:=by
 obtain ⟨cs,rfl,-⟩:=okWide_struct Tryz.underlying36 hv
 obtain ⟨fuel,hf⟩:=h
 obtain ⟨x,pa,pc,e,hx⟩:=a0D fuel _ _ hf hk
 refine ⟨x,pa,pc,?_,hx⟩
 have : cs.toList=[.string (bsA x.name),.slice pa x.params.length pc,.int .i64 x.result]:=e
 rw [← this]
end
end Go.Proofs.YtppcfebnaieciaaGreatDoor
