/-
  Laws that the proof rests on.
-/
import Derived.Test.YtppcfebnaieciaaGreatDoorF09
import Derived.Test.YtppcfebnaieciaaGreatDoorF02
import Derived.Test.YtppcfebnaieciaaGreatDoorF04
import Derived.Test.YtppcfebnaieciaaGreatDoorF06
import Derived.Test.YtppcfebnaieciaaGreatDoorF07
import Derived.Deep.RegionHeld3
import Derived.Test.YtppcfebnaieciaaGreatDoorF03
import Derived.Test.YtppcfebnaieciaaGreatDoorF01
import Derived.BigQuiet
import Derived.Deep.AppendLies
import Derived.Laws.Cover3
namespace Go.Proofs.YtppcfebnaieciaaGreatDoor
set_option maxRecDepth 100000
set_option maxHeartbeats 16000000
section
open Go.RowKit
theorem oL (t : Nd) (d : Int) : d9 t d=(decide (d≤100) && y7 t.kind t.kids.length && G0 t.kind t.text.data.toList && dG t.kind t.n && o9 t.kids (d + 1)):=by cases t; rw [d9]; rfl
end
section
open Lib (hid)
open Go.RowKit Go.Shelf
def jK (l : List UInt8) : Value:=.iface 150 (.string ⟨l.toArray⟩)
def o3 (t : Nd) : Value:=if s4 t=true then jK (i6 t) else .nilIface
theorem wL (t : Nd) : t.kids.isEmpty=decide ((t.kids.length : Int)≤0):=by
 cases t.kids with
 | nil => rfl
 | cons a l => simp
theorem a2k (x : Value) (w : World) : (Instr.makeInterface 150 x).run Tryz.prog w=.ok (.iface 150 x) w:=run_makeInterface w 150 x (by kernel_rfl)
theorem V8 {a b : Value} (h : a=b) : Ending.returned a=.returned b:=by rw [h]
theorem a0h (t : Nd) (a : Option Addr) (cap : Nat) (w : World) (hs : t.text.size≤140737488355328) (hk : t.kids.length≤cap∧cap≤maxLen) (he : Env w) (ht : Tab w) :
 Calls Tryz.prog 150 #[.agg #[.int .i64 t.kind,.string t.text,.int .i64 t.n,.slice a t.kids.length cap,.int .i64 t.place]] w fun e w' => e=.returned (o3 t)∧Below w.heap.size w w':=by
 have mk:=a2k
 have mixed : Tryz.prog.follows .mixedOrders=true:=by kernel_rfl
 have hm : t.kids.length≤9223372036854775807:=Nat.le_trans hk.1 hk.2
 have HB:=hid (a7 w (.cells #[.int .i64 t.kind,.string t.text,.int .i64 t.n,.slice a t.kids.length cap,.int .i64 t.place] 24))
 have B0:=hid (Boxed.make w t a cap)
 have HE:=hid (he.below HB)
 have HT:=hid (ht.below HB)
 clear he ht
 go_enter Tryz.func150,Tryz.ntmps150
 go_wp2_with fail
 generalize (w.alloc (.cells #[.int .i64 t.kind,.string t.text,.int .i64 t.n,.slice a t.kids.length cap,.int .i64 t.place] 24))=W1 at HB B0 HE HT ⊢
 have c1:=B0.out.c1
 go_region
 have HE1 : Hid (Env W1.drew):=HE.out
 have HT1 : Hid (Tab W1.drew):=HT.out
 have B1 : Hid (Boxed w.heap.size t a cap W1.drew):=⟨B0.out.lt,B0.out.c0,B0.out.c1,B0.out.c2,B0.out.c3,B0.out.c4⟩
 have HB1 : Hid (Below w.heap.size w W1.drew):=⟨HB.out.os,HB.out.tape,HB.out.output,HB.out.size,HB.out.block⟩
 clear c1 HE HT B0 HB
 generalize W1.drew=W2 at HE1 HT1 B1 HB1 ⊢
 have P:=hid (show o3 t=if s4 t=true then jK (i6 t) else .nilIface from rfl)
 have PB:=hid (show s4 t=(decide (5≤t.kind∧t.kind≤10) && (G0 t.kind t.text.data.toList && dG t.kind t.n) && t.kids.isEmpty) from rfl)
 have KE:=hid (wL t)
 have FE:=hid (yS t)
 have hk7 : t.kind=5∨t.kind=6∨t.kind=8∨t.kind=7∨t.kind=10∨t.kind=9∨¬ (5≤t.kind∧t.kind≤10):=by omega
 rcases hk7 with hk | hk | hk | hk | hk | hk | hk
 ·have c0:=B1.out.kind hk
  have F:=hid (show i6 t=bP t.n by rw [FE.out,hk]; rfl)
  have G:=hid (show s4 t=(t.text.toList.isEmpty && (decide (0≤t.n) && decide (t.n≤1000000000000000)) && decide ((t.kids.length : Int)≤0)) by rw [PB.out,KE.out,hk,Lib.toList_data]; rfl)
  clear hk
  have HS:=hid (show ∀ cur,Below W2.heap.size W2 cur→Below W2.heap.size W2 cur∧cur.cell? ⟨w.heap.size,1,none⟩=some (.string t.text)∧cur.cell? ⟨w.heap.size,2,none⟩=some (.int .i64 t.n)∧cur.cell? ⟨w.heap.size,3,none⟩=some (.slice a t.kids.length cap) from fun cur hc =>
   ⟨hc,(hc.cell (p:=⟨w.heap.size,1,none⟩) B1.out.lt).trans B1.out.c1,(hc.cell (p:=⟨w.heap.size,2,none⟩) B1.out.lt).trans B1.out.c2,(hc.cell (p:=⟨w.heap.size,3,none⟩) B1.out.lt).trans B1.out.c3⟩)
  have C1:=hid (show ∀ cur,Below W2.heap.size W2 cur→Calls Tryz.prog 171 #[.int .i64 t.n] cur fun e W' => e=.returned (.string ⟨(bP t.n).toArray⟩)∧Below W2.heap.size W2 W' from fun cur hc =>
   (zK t.n cur).mono (by rintro e W' ⟨rfl,hb⟩; exact ⟨rfl,hc.trans (hb.mono hc.size)⟩))
  have hb : Below W2.heap.size W2 W2:=Below.refl _ _
  generalize t.n=n at HS C1 F G ⊢
  generalize t.text=s at HS G ⊢
  have c1:=(HS.out _ hb).2.1
  by_cases g1 : 0≤n
  case' pos => by_cases g2 : n≤1000000000000000
  case' pos => by_cases g3 : s.toList=[]
  case pos =>
   have g4 : s.toList.isEmpty=true:=by rw [g3]; rfl
   have R : Hid (s4 t=decide ((t.kids.length : Int)≤0)):=by
    show _=_
    rw [G.out,g4,decide_eq_true g1,decide_eq_true g2]; rfl
   go_wp2_with fail
   clear c0 c1
   first | (go_region_held3 (fun cur => Below W2.heap.size W2 cur∧cur.cell? ⟨w.heap.size,1,none⟩=some (.string s)∧cur.cell? ⟨w.heap.size,2,none⟩=some (.int .i64 n)∧cur.cell? ⟨w.heap.size,3,none⟩=some (.slice a t.kids.length cap))
    (first | exact HS.out _ hb | exact HS.out _ hb.drew)
    (first | (go_at_call 171; refine (C1.out _ ?_).mono ?_; (go_split_ands; assumption); rintro e w' ⟨rfl,hb⟩))) | fail
   all_goals
    have c3:=(HS.out _ hb).2.2.2
    by_cases gk : (0 : Int)<t.kids.length
    ·have V:=hid (show o3 t=.nilIface by rw [P.out,if_neg (by rw [R.out,decide_eq_false (by omega)]; decide)])
     go_wp2_with fail
     go_ret
     exact ⟨V8 V.out.symm,HB1.out.trans (hb.mono HB1.out.size)⟩
    ·have V:=hid (show o3 t=jK (bP n) by rw [P.out,if_pos (by rw [R.out,decide_eq_true (by omega)]),F.out])
     go_wp2_with fail
     go_ret
     exact ⟨V8 V.out.symm,HB1.out.trans (hb.mono HB1.out.size)⟩
  all_goals
   (try (have g4 : s.toList.isEmpty=false:=by simpa using g3))
   (try (have g5 : n<0:=by omega))
   have R : Hid (s4 t=false):=by
    show _=_
    rw [G.out,Bool.eq_false_iff]
    intro hh
    simp only [Bool.and_eq_true,decide_eq_true_eq] at hh
    first | omega | (rw [g4] at hh; exact absurd hh.1.1 (by decide))
   have V:=hid (show o3 t=.nilIface by rw [P.out,if_neg (by rw [R.out]; decide)])
   clear R
   go_wp2_with fail
   clear c0 c1
   (try (have g7 : decide (0≤n)=false:=decide_eq_false (by omega)))
   (try (have g8 : decide (0≤n)=true:=decide_eq_true (by omega)))
   (try (have g6 : decide (n≤1000000000000000)=false:=decide_eq_false (by omega)))
   first
    | (refine wp_region_held_drew (S:=(fun cur => Below W2.heap.size W2 cur∧cur.cell? ⟨w.heap.size,1,none⟩=some (.string s)∧cur.cell? ⟨w.heap.size,2,none⟩=some (.int .i64 n)∧cur.cell? ⟨w.heap.size,3,none⟩=some (.slice a t.kids.length cap))) (by kernel_rfl) ?_ (fun hHeld => ?_)
       ·(first | exact HS.out _ hb | exact HS.out _ hb.drew)
       refine a8 0 ?_; refine a8 1 ?_; refine a8 2 ?_; refine a8 3 ?_; refine D9 4 ?_; refine D9 5 ?_; refine D9 6 ?_; refine a8 7 ?_; refine a8 8 ?_; refine D9 9 ?_; refine D9 10 ?_; refine D9 11 ?_; refine a8 12 ?_; refine a8 13 ?_; refine a8 14 ?_
       refine wpAnyH_ready (rs:=[15]) (by kernel_rfl) (by simp) ?_
       refine AllReadyH.cons (r6 rfl) (fun K hK => ?_) AllReadyH.nil
       go_simp
       (go_at_call 171; refine (C1.out _ ?_).mono ?_; (go_split_ands; assumption); rintro e w' ⟨rfl,hb⟩)
       go_wp2_with fail
       refine hK.out _ _ ?_ (fun hHeld => ?_)
       ·(first | exact HS.out _ hb | exact HS.out _ hb.drew)
       clear hK K
       try simp only [Act.put,List.setIfInBounds_toArray,List.set_cons_zero,List.set_cons_succ]
       refine a8 16 ?_; refine a8 17 ?_
       refine wpAnyH_done (by kernel_rfl) ?_ _)
    | (refine wp_region_held_drew (S:=(fun cur => Below W2.heap.size W2 cur∧cur.cell? ⟨w.heap.size,1,none⟩=some (.string s)∧cur.cell? ⟨w.heap.size,2,none⟩=some (.int .i64 n)∧cur.cell? ⟨w.heap.size,3,none⟩=some (.slice a t.kids.length cap))) (by kernel_rfl) ?_ (fun hHeld => ?_)
       ·(first | exact HS.out _ hb | exact HS.out _ hb.drew)
       refine a8 0 ?_; refine a8 1 ?_; refine a8 2 ?_; refine a8 3 ?_; refine a8 4 ?_; refine a8 5 ?_; refine a8 6 ?_; refine a8 7 ?_; refine a8 8 ?_; refine D9 9 ?_; refine D9 10 ?_; refine D9 11 ?_; refine a8 12 ?_; refine a8 13 ?_; refine a8 14 ?_
       refine wpAnyH_ready (rs:=[15]) (by kernel_rfl) (by simp) ?_
       refine AllReadyH.cons (r6 rfl) (fun K hK => ?_) AllReadyH.nil
       go_simp
       (go_at_call 171; refine (C1.out _ ?_).mono ?_; (go_split_ands; assumption); rintro e w' ⟨rfl,hb⟩)
       go_wp2_with fail
       refine hK.out _ _ ?_ (fun hHeld => ?_)
       ·(first | exact HS.out _ hb | exact HS.out _ hb.drew)
       clear hK K
       try simp only [Act.put,List.setIfInBounds_toArray,List.set_cons_zero,List.set_cons_succ]
       refine a8 16 ?_; refine a8 17 ?_
       refine wpAnyH_done (by kernel_rfl) ?_ _)
    | (go_region_held3 (fun cur => Below W2.heap.size W2 cur∧cur.cell? ⟨w.heap.size,1,none⟩=some (.string s)∧cur.cell? ⟨w.heap.size,2,none⟩=some (.int .i64 n)∧cur.cell? ⟨w.heap.size,3,none⟩=some (.slice a t.kids.length cap))
        (first | exact HS.out _ hb | exact HS.out _ hb.drew)
        (first | (go_at_call 171; refine (C1.out _ ?_).mono ?_; (go_split_ands; assumption); rintro e w' ⟨rfl,hb⟩)))
   all_goals
    have c3:=(HS.out _ hb).2.2.2
    go_wp2_with fail
    go_ret
    exact ⟨V8 V.out.symm,HB1.out.trans (hb.mono HB1.out.size)⟩
 ·have c0:=B1.out.kind hk
  have F:=hid (show i6 t=kO t.n by rw [FE.out,hk]; rfl)
  have G:=hid (show s4 t=(t.text.toList.isEmpty && (decide (0≤t.n) && decide (t.n≤73048)) && decide ((t.kids.length : Int)≤0)) by rw [PB.out,KE.out,hk,Lib.toList_data]; rfl)
  clear hk
  have c1:=B1.out.c1
  have c2:=B1.out.c2
  have c3:=B1.out.c3
  by_cases g1 : 0≤t.n∧t.n≤73048
  ·obtain ⟨g1,g2⟩:=g1
   obtain ⟨y,m,d,ho,hnum,hte⟩:=a24 g1 g2
   have HO:=hid ho
   have HN:=hid hnum
   have HX:=hid hte
   clear ho hnum hte
   go_wp2_with fail
   refine Calls.mono (a3O y m d t.n _ HT1 HO HN) ?_
   rintro e w3 ⟨rfl,hb⟩
   have HC:=hid (HB1.out.trans (hb.mono HB1.out.size))
   have B3:=B1.out.below hb
   clear hb c0 c1 c2 c3
   have c1:=B3.c1
   have c3:=B3.c3
   clear B3
   by_cases g3 : t.text.toList=[]
   ·have g4 : t.text.toList.isEmpty=true:=by rw [g3]; rfl
    have R : Hid (s4 t=decide ((t.kids.length : Int)≤0)):=by
     show _=_
     rw [G.out,g4,decide_eq_true g1,decide_eq_true g2]; rfl
    by_cases gk : (0 : Int)<t.kids.length
    ·have V:=hid (show o3 t=.nilIface by rw [P.out,if_neg (by rw [R.out,decide_eq_false (by omega)]; decide)])
     go_wp2_with fail
     go_ret
     exact ⟨V8 V.out.symm,HC⟩
    ·have V:=hid (show o3 t=jK (Cal.text y m d) by rw [P.out,if_pos (by rw [R.out,decide_eq_true (by omega)]),F.out,HX.out])
     go_wp2_with fail
     go_ret
     exact ⟨V8 V.out.symm,HC⟩
   ·have g4 : t.text.toList.isEmpty=false:=by simpa using g3
    have V:=hid (show o3 t=.nilIface by rw [P.out,if_neg (by rw [G.out,g4]; simp)])
    go_wp2_with fail
    go_ret
    exact ⟨V8 V.out.symm,HC⟩
  ·have V:=hid (show o3 t=.nilIface by
    rw [P.out,if_neg]
    rw [G.out]
    simp only [Bool.and_eq_true,decide_eq_true_eq]
    exact fun h => g1 h.1.2)
   by_cases g2 : 0≤t.n
   ·have g3 : 73048<t.n:=by omega
    clear g1
    go_wp2_with fail
    go_ret
    exact ⟨V8 V.out.symm,HB1⟩
   ·have g3 : t.n<0:=by omega
    clear g1
    go_wp2_with fail
    go_ret
    exact ⟨V8 V.out.symm,HB1⟩
 ·have c0:=B1.out.kind hk
  have F:=hid (show i6 t=if t.n=1 then [116,114,117,101] else [102,97,108,115,101] by rw [FE.out,hk]; rfl)
  have G:=hid (show s4 t=(t.text.toList.isEmpty && (decide (t.n=0) || decide (t.n=1)) && decide ((t.kids.length : Int)≤0)) by rw [PB.out,KE.out,hk,Lib.toList_data]; rfl)
  clear hk
  have c1:=B1.out.c1
  have c3:=B1.out.c3
  have hn3 : t.n=0∨t.n=1∨(t.n≠0∧t.n≠1):=by omega
  rcases hn3 with hn | hn | hn
  ·have c2 : W2.cell? ⟨w.heap.size,2,none⟩=some (.int .i64 0):=hn ▸ B1.out.c2
   by_cases g3 : t.text.toList=[]
   ·have g4 : t.text.toList.isEmpty=true:=by rw [g3]; rfl
    have R : Hid (s4 t=decide ((t.kids.length : Int)≤0)):=by
     show _=_
     rw [G.out,g4,hn]; rfl
    by_cases gk : (0 : Int)<t.kids.length
    ·have V:=hid (show o3 t=.nilIface by rw [P.out,if_neg (by rw [R.out,decide_eq_false (by omega)]; decide)])
     clear hn
     go_wp2_with fail
     go_ret
     exact ⟨V8 V.out.symm,HB1⟩
    ·have V:=hid (show o3 t=jK [102,97,108,115,101] by rw [P.out,if_pos (by rw [R.out,decide_eq_true (by omega)]),F.out,hn]; rfl)
     clear hn
     go_wp2_with fail
     go_ret
     exact ⟨V8 V.out.symm,HB1⟩
   ·have g4 : t.text.toList.isEmpty=false:=by simpa using g3
    have V:=hid (show o3 t=.nilIface by rw [P.out,if_neg (by rw [G.out,g4]; simp)])
    clear hn
    go_wp2_with fail
    go_ret
    exact ⟨V8 V.out.symm,HB1⟩
  ·have c2 : W2.cell? ⟨w.heap.size,2,none⟩=some (.int .i64 1):=hn ▸ B1.out.c2
   by_cases g3 : t.text.toList=[]
   ·have g4 : t.text.toList.isEmpty=true:=by rw [g3]; rfl
    have R : Hid (s4 t=decide ((t.kids.length : Int)≤0)):=by
     show _=_
     rw [G.out,g4,hn]; rfl
    by_cases gk : (0 : Int)<t.kids.length
    ·have V:=hid (show o3 t=.nilIface by rw [P.out,if_neg (by rw [R.out,decide_eq_false (by omega)]; decide)])
     clear hn
     go_wp2_with fail
     go_ret
     exact ⟨V8 V.out.symm,HB1⟩
    ·have V:=hid (show o3 t=jK [116,114,117,101] by rw [P.out,if_pos (by rw [R.out,decide_eq_true (by omega)]),F.out,hn]; rfl)
     clear hn
     go_wp2_with fail
     go_ret
     exact ⟨V8 V.out.symm,HB1⟩
   ·have g4 : t.text.toList.isEmpty=false:=by simpa using g3
    have V:=hid (show o3 t=.nilIface by rw [P.out,if_neg (by rw [G.out,g4]; simp)])
    clear hn
    go_wp2_with fail
    go_ret
    exact ⟨V8 V.out.symm,HB1⟩
  ·have c2:=B1.out.c2
   have V:=hid (show o3 t=.nilIface by rw [P.out,if_neg (by rw [G.out,decide_eq_false hn.1,decide_eq_false hn.2]; simp)])
   obtain ⟨h0,h1⟩:=hn
   have e0 : (t.n == 0)=false:=by simpa using h0
   have e1 : (t.n == 1)=false:=by simpa using h1
   clear h0 h1
   go_wp2_with fail
   go_ret
   exact ⟨V8 V.out.symm,HB1⟩
 ·have c0:=B1.out.kind hk
  have F:=hid (show s4 t=true→i6 t=t.text.data.toList from fun h => by
   rw [FE.out,hk,List.isEmpty_iff.1 (show t.kids.isEmpty=true by rw [PB.out] at h; simp only [Bool.and_eq_true] at h; exact h.2),s5]; rfl)
  have G:=hid (show s4 t=(qP t.text.data.toList && decide (t.n=0) && decide ((t.kids.length : Int)≤0)) by rw [PB.out,KE.out,hk]; rfl)
  clear hk
  have c1:=B1.out.c1
  go_wp2_with fail
  refine Calls.mono (wD t.text _ (Nat.le_trans hs (by decide))) ?_
  rintro e w3 ⟨rfl,hb⟩
  have HC:=hid (HB1.out.trans (hb.mono HB1.out.size))
  have B3:=B1.out.below hb
  clear hb c0 c1
  have c2:=B3.c2
  have c3:=B3.c3
  clear B3
  cases hq : qP t.text.data.toList
  ·have V:=hid (show o3 t=.nilIface by rw [P.out,if_neg (by rw [G.out,hq]; simp)])
   go_wp2_with fail
   go_ret
   exact ⟨V8 V.out.symm,HC⟩
  ·by_cases h0 : t.n=0
   ·have c2' : w3.cell? ⟨w.heap.size,2,none⟩=some (.int .i64 0):=h0 ▸ c2
    have R : Hid (s4 t=decide ((t.kids.length : Int)≤0)):=by
     show _=_
     rw [G.out,hq,h0]; rfl
    clear c2
    by_cases gk : (0 : Int)<t.kids.length
    ·have V:=hid (show o3 t=.nilIface by rw [P.out,if_neg (by rw [R.out,decide_eq_false (by omega)]; decide)])
     clear h0
     go_wp2_with fail
     go_ret
     exact ⟨V8 V.out.symm,HC⟩
    ·have V:=hid (show o3 t=.iface 150 (.string t.text) by
      have hp : s4 t=true:=by rw [R.out,decide_eq_true (by omega)]
      rw [P.out,if_pos hp,F.out hp]
      exact congrArg (fun x => Value.iface 150 (.string x)) (fK rfl))
     clear h0
     go_wp2_with fail
     go_ret
     exact ⟨V8 V.out.symm,HC⟩
   ·have V:=hid (show o3 t=.nilIface by rw [P.out,if_neg (by rw [G.out,decide_eq_false h0]; simp)])
    have e0 : (t.n == 0)=false:=by simpa using h0
    clear h0
    go_wp2_with fail
    go_ret
    exact ⟨V8 V.out.symm,HC⟩
 ·have c0:=B1.out.kind hk
  have F:=hid (show s4 t=true→i6 t=t.text.data.toList from fun h => by
   rw [FE.out,hk,List.isEmpty_iff.1 (show t.kids.isEmpty=true by rw [PB.out] at h; simp only [Bool.and_eq_true] at h; exact h.2),s5]; rfl)
  have G:=hid (show s4 t=(eV t.text.data.toList && decide (t.n=0) && decide ((t.kids.length : Int)≤0)) by rw [PB.out,KE.out,hk]; rfl)
  clear hk
  have c1:=B1.out.c1
  go_wp2_with fail
  refine Calls.mono (mZ t.text _ (Nat.le_trans hs (by decide)) HE1) ?_
  rintro e w3 ⟨rfl,hb⟩
  have HC:=hid (HB1.out.trans (hb.mono HB1.out.size))
  have B3:=B1.out.below hb
  clear hb c0 c1
  have c2:=B3.c2
  have c3:=B3.c3
  clear B3
  cases hq : eV t.text.data.toList
  ·have V:=hid (show o3 t=.nilIface by rw [P.out,if_neg (by rw [G.out,hq]; simp)])
   go_wp2_with fail
   go_ret
   exact ⟨V8 V.out.symm,HC⟩
  ·by_cases h0 : t.n=0
   ·have c2' : w3.cell? ⟨w.heap.size,2,none⟩=some (.int .i64 0):=h0 ▸ c2
    have R : Hid (s4 t=decide ((t.kids.length : Int)≤0)):=by
     show _=_
     rw [G.out,hq,h0]; rfl
    clear c2
    by_cases gk : (0 : Int)<t.kids.length
    ·have V:=hid (show o3 t=.nilIface by rw [P.out,if_neg (by rw [R.out,decide_eq_false (by omega)]; decide)])
     clear h0
     go_wp2_with fail
     go_ret
     exact ⟨V8 V.out.symm,HC⟩
    ·have V:=hid (show o3 t=.iface 150 (.string t.text) by
      have hp : s4 t=true:=by rw [R.out,decide_eq_true (by omega)]
      rw [P.out,if_pos hp,F.out hp]
      exact congrArg (fun x => Value.iface 150 (.string x)) (fK rfl))
     clear h0
     go_wp2_with fail
     go_ret
     exact ⟨V8 V.out.symm,HC⟩
   ·have V:=hid (show o3 t=.nilIface by rw [P.out,if_neg (by rw [G.out,decide_eq_false h0]; simp)])
    have e0 : (t.n == 0)=false:=by simpa using h0
    clear h0
    go_wp2_with fail
    go_ret
    exact ⟨V8 V.out.symm,HC⟩
 ·have c0:=B1.out.kind hk
  have F:=hid (show i6 t=[102,101,101,100,32,34] ++ t.text.data.toList ++ [34] by rw [FE.out,hk]; rfl)
  have G:=hid (show s4 t=(x8 t.text.data.toList && decide (t.n=0) && decide ((t.kids.length : Int)≤0)) by rw [PB.out,KE.out,hk]; rfl)
  clear hk
  have c1:=B1.out.c1
  go_wp2_with fail
  refine Calls.mono (bL t.text _ (Nat.le_trans hs (by decide))) ?_
  rintro e w3 ⟨rfl,hb⟩
  have HC:=hid (HB1.out.trans (hb.mono HB1.out.size))
  have B3:=B1.out.below hb
  clear hb c0 c1
  have c2:=B3.c2
  have c3:=B3.c3
  clear B3
  cases hq : x8 t.text.data.toList
  ·have V:=hid (show o3 t=.nilIface by rw [P.out,if_neg (by rw [G.out,hq]; simp)])
   go_wp2_with fail
   go_ret
   exact ⟨V8 V.out.symm,HC⟩
  ·by_cases h0 : t.n=0
   ·have c2' : w3.cell? ⟨w.heap.size,2,none⟩=some (.int .i64 0):=h0 ▸ c2
    have R : Hid (s4 t=decide ((t.kids.length : Int)≤0)):=by
     show _=_
     rw [G.out,hq,h0]; rfl
    clear c2
    by_cases gk : (0 : Int)<t.kids.length
    ·have V:=hid (show o3 t=.nilIface by rw [P.out,if_neg (by rw [R.out,decide_eq_false (by omega)]; decide)])
     clear h0
     go_wp2_with fail
     go_ret
     exact ⟨V8 V.out.symm,HC⟩
    ·have V:=hid (show o3 t=.iface 150 (.string (⟨#[102,101,101,100,32,34]⟩ ++ t.text ++ ⟨#[34]⟩)) by
      have hp : s4 t=true:=by rw [R.out,decide_eq_true (by omega)]
      rw [P.out,if_pos hp,F.out]
      exact congrArg (fun x => Value.iface 150 (.string x)) (fK (by simp)))
     clear h0
     go_wp2_with fail
     go_ret
     exact ⟨V8 V.out.symm,HC⟩
   ·have V:=hid (show o3 t=.nilIface by rw [P.out,if_neg (by rw [G.out,decide_eq_false h0]; simp)])
    have e0 : (t.n == 0)=false:=by simpa using h0
    clear h0
    go_wp2_with fail
    go_ret
    exact ⟨V8 V.out.symm,HC⟩
 ·have c0:=B1.out.c0
  have V:=hid (show o3 t=.nilIface by rw [P.out,if_neg (by rw [PB.out,decide_eq_false hk]; simp)])
  have k5 : t.kind≠5:=by omega
  have k6 : t.kind≠6:=by omega
  have k7 : t.kind≠7:=by omega
  have k8 : t.kind≠8:=by omega
  have k9 : t.kind≠9:=by omega
  have k10 : t.kind≠10:=by omega
  clear hk
  go_wp2_with fail
  go_ret
  exact ⟨V8 V.out.symm,HB1⟩
end
section
open Go.RowKit Go.Shelf
structure KF (B : Nat) (fx : List (Fm × Value)) (v : Value) (W : World) : Prop where
 own : W.ownsRow B 145 1 v fx.length (fx.map fun p => Value.iface p.1.ty p.2)
 is : ∀ p∈fx,p.1.is (fun k => B≤k∧v.ownBlock≠some k) W p.2
theorem iY {w w' : World} (hb : Below w.heap.size w w') : w.grownBy w' none:=⟨hb.os,hb.tape,hb.output,hb.size,fun k hk _ => hb.block k hk⟩
theorem V1 {W : World} {k : Nat} {o : Obj} (h : W.heap[k]?=some o) : k<W.heap.size:=(Array.getElem?_eq_some_iff.1 h).1
theorem Fm.is.below {av av' : Nat→Prop} {W W' : World} (hav : ∀ k,av k→av' k) (hb : Below W.heap.size W W') {f : Fm} {x : Value} (h : f.is av W x) : f.is av' W' x :=
 Fm.is.kept (fun g _ _ hg hh => ⟨hav g hg,(hb.block g (V1 hh)).trans hh⟩) f h
theorem KF.nil (B : Nat) (W : World) : KF B [] (.slice none 0 0) W:=⟨World.ownsRow_nil W B _ 1,fun p h => by cases h⟩
theorem KF.below {B : Nat} {fx : List (Fm × Value)} {v : Value} {W W' : World} (h : KF B fx v W) (hb : Below W.heap.size W W') : KF B fx v W' :=
 ⟨h.own.kept (iY hb) (by cases v.ownBlock with | none => exact .inl rfl | some k => exact .inr (by simp)),fun p hp => Fm.is.below (fun _ h => h) hb (h.is p hp)⟩
theorem KF.snoc {B : Nat} {fx : List (Fm × Value)} {v v' : Value} {W w3 : World} {f : Fm} {x : Value} {g cap : Nat} (h : KF B fx v W) (hf : f.is (fun k => B≤k∧v.ownBlock≠some k) W x)
 (hv : v'=.slice (some ⟨g,0,none⟩) (fx.length + 1) cap) (hown : w3.ownsRow B 145 1 v' (fx.length + 1) (fx.map (fun p => Value.iface p.1.ty p.2) ++ [.iface f.ty x])) (hgrow : W.grownBy w3 v.ownBlock) (hat : v.ownBlock=some g∨g=W.heap.size) : KF B (fx ++ [(f,x)]) v' w3:=by
 refine ⟨by rw [List.length_append,List.map_append]; exact hown,fun p hp => ?_⟩
 have hp' : p.1.is (fun k => B≤k∧v.ownBlock≠some k) W p.2:=by
  rcases List.mem_append.1 hp with hp | hp
  ·exact h.is p hp
  ·rw [List.mem_singleton.1 hp]; exact hf
 refine Fm.is.kept (fun k cur fz hk hh => ⟨⟨hk.1,fun e => ?_⟩,(hgrow.block k (V1 hh) (fun e => hk.2 e.symm)).trans hh⟩) p.1 hp'
 rw [hv] at e
 have hgk : g=k:=by simpa [Value.ownBlock] using e
 rcases hat with hat | hat
 ·exact hk.2 (by rw [hat,hgk])
 ·have:=V1 hh; omega
theorem Fm.are.of {av : Nat→Prop} {W : World} {g : Nat} {cur : Array Value} {fz : Nat × Nat} (hg : av g) (hh : W.heap[g]?=some (.cells cur 145 fz)) : ∀ (fx : List (Fm × Value)) (i : Nat),(∀ j (hj : j<fx.length),cur[i + j]?=some (.iface fx[j].1.ty fx[j].2))→(∀ p∈fx,p.1.is av W p.2)→Fm.are av W (fx.map (·.1)) (some ⟨g,0,none⟩) i
 | [],_,_,_ => trivial
 | p :: r,i,hc,hi => by
   refine ⟨⟨g,p.2,cur,fz,rfl,hg,hh,hc 0 (by simp),hi p (List.mem_cons_self ..)⟩,Fm.are.of hg hh r (i + 1) (fun j hj => ?_) fun q hq => hi q (List.mem_cons_of_mem _ hq)⟩
   have:=hc (j + 1) (by simpa using hj)
   rw [show i + (j + 1)=i + 1 + j by omega] at this
   exact this
theorem KF.row {B : Nat} {fx : List (Fm × Value)} {v : Value} {W : World} (h : KF B fx v W) (h0 : 0<fx.length) : ∃ g cap,v=.slice (some ⟨g,0,none⟩) fx.length cap∧fx.length≤cap∧cap≤maxLen ∧
 Fm.are (B ≤ ·) W (fx.map (·.1)) (some ⟨g,0,none⟩) 0∧(∀ j (hj : j<fx.length),W.cell? ⟨g,j,none⟩=some (.iface fx[j].1.ty fx[j].2)):=by
 rcases h.own.2 with ⟨_,hz⟩ | ⟨g,cap,cur,hv,hBg,hg,hnc,hcm,hcs,htake⟩
 ·omega
 ·have hcur : ∀ j (hj : j<fx.length),cur[j]?=some (.iface fx[j].1.ty fx[j].2):=fun j hj => by
   have e : (cur.toList.take (fx.length * 1))[j]?=some (.iface fx[j].1.ty fx[j].2):=by
    rw [htake,List.getElem?_map,List.getElem?_eq_getElem hj]; rfl
   rw [List.getElem?_take,if_pos (by omega)] at e
   simpa using e
  refine ⟨g,cap,hv,hnc,hcm,Fm.are.of hBg hg fx 0 (fun j hj => by rw [Nat.zero_add]; exact hcur j hj) (fun p hp => ?_),fun j hj => ?_⟩
  ·exact Fm.is.kept (fun k cur fz hk hh => ⟨hk.1,hh⟩) p.1 (h.is p hp)
  ·rw [Lib.cell_of_heap hg]; exact hcur j hj
def pL (p : Fm × Value) : Bool × List UInt8:=(p.1.wrap,p.1.text)
def oU (k : Nd) : Bool × List UInt8:=(R9 k.kind,i6 k)
theorem rH {fx : List (Fm × Value)} {ks : List Nd} (h : fx.map pL=ks.map oU) : (fx.map (·.1)).map Fm.text=(s5 ks).map (·.2):=by
 have:=congrArg (List.map (·.2)) h
 rw [List.map_map,List.map_map] at this
 rw [kN,List.map_map,List.map_map]
 exact this
def jH (t : Nd) (d : Int) (w : World) (e : Ending) (w' : World) : Prop :=
 Below w.heap.size w w'∧((d9 t d=true∧∃ (f : Fm) (x : Value),e=.returned (.iface f.ty x)∧f.is (w.heap.size ≤ ·) w' x∧f.text=i6 t∧f.wrap=R9 t.kind)∨(d9 t d=false∧e=.returned .nilIface))
mutual
def o6 : Nd→Prop
 | .mk _ s _ ks _ => s.size≤140737488355328∧H8 ks
def H8 : List Nd→Prop
 | [] => True
 | k :: ks => o6 k∧H8 ks
end
theorem jN : ∀ (ks : List Nd),H8 ks→∀ j (hj : j<ks.length),o6 ks[j]
 | k :: ks,h,0,_ => by rw [H8] at h; exact h.1
 | k :: ks,h,j + 1,hj => by rw [H8] at h; exact jN ks h.2 j (by simpa using hj)
theorem o6.text {t : Nd} (h : o6 t) : t.text.size≤140737488355328:=by cases t; rw [o6] at h; exact h.1
theorem o6.kid {t : Nd} (h : o6 t) (j : Nat) (hj : j<t.kids.length) : o6 t.kids[j]:=by cases t; rw [o6] at h; exact jN _ h.2 j hj
end
section
open Lib (hid)
open Go.RowKit Go.Shelf
theorem a1A (x : Value) (w : World) : (Instr.makeInterface 149 x).run Tryz.prog w=.ok (.iface 149 x) w:=run_makeInterface w 149 x (by kernel_rfl)
theorem a3S (x : Value) (w : World) : (Instr.makeInterface 177 x).run Tryz.prog w=.ok (.iface 177 x) w:=run_makeInterface w 177 x (by kernel_rfl)
theorem a2S (x : Value) (w : World) : (Instr.makeInterface 179 x).run Tryz.prog w=.ok (.iface 179 x) w:=run_makeInterface w 179 x (by kernel_rfl)
theorem a10 (x : Value) (w : World) : (Instr.makeInterface 175 x).run Tryz.prog w=.ok (.iface 175 x) w:=run_makeInterface w 175 x (by kernel_rfl)
theorem n9 {t : Nd} {d : Int} {w w' : World} (h : d9 t d=false) (hb : Below w.heap.size w w') : jH t d w (.returned .nilIface) w':=⟨hb,.inr ⟨h,rfl⟩⟩
theorem wY {t : Nd} {d : Int} {w w' : World} (hd : d≤100) (hp : s4 t=true) (hb : Below w.heap.size w w') : jH t d w (.returned (jK (i6 t))) w':=by
 have hr : d9 t d=true:=by rw [tG,decide_eq_true hd,hp]; rfl
 have hk : 5≤t.kind∧t.kind≤10:=by
  unfold s4 at hp
  simp only [Bool.and_eq_true,decide_eq_true_eq] at hp
  exact hp.1.1
 refine ⟨hb,.inl ⟨hr,.leaf ⟨(i6 t).toArray⟩,.string ⟨(i6 t).toArray⟩,rfl,⟨rfl,?_⟩,by rw [Fm.text],?_⟩⟩
 ·have h1:=iH t d hr
  have h2:=t8 t
  rw [a42 hr hk,j7] at h2
  show (i6 t).toArray.size≤maxLen
  rw [List.size_toArray]
  unfold maxLen
  omega
 ·unfold R9
  rw [decide_eq_false (by omega),decide_eq_false (by omega),decide_eq_false (by omega)]; rfl
theorem Boxed.mono {b B : Nat} {t : Nd} {a : Option Addr} {cap : Nat} {w w' : World} (h : Boxed b t a cap w) (hb : Below B w w') (hB : b<B) : Boxed b t a cap w' :=
 ⟨Nat.lt_of_lt_of_le h.lt hb.size,(hb.cell (p:=⟨b,0,none⟩) hB).trans h.c0,(hb.cell (p:=⟨b,1,none⟩) hB).trans h.c1,(hb.cell (p:=⟨b,2,none⟩) hB).trans h.c2,(hb.cell (p:=⟨b,3,none⟩) hB).trans h.c3,(hb.cell (p:=⟨b,4,none⟩) hB).trans h.c4⟩
theorem gF {t : Nd} {d : Int} {w w' : World} {h : ByteArray} {fx : List (Fm × Value)} {g gc n : Nat} (hn : fx.length=n) (hr : d9 t d=true) (hb : Below w.heap.size w w') (hs : h.size≤maxLen) (hpos : 0<fx.length) (hgc : fx.length≤gc) (hgm : gc≤maxLen)
 (hare : Fm.are (w.heap.size ≤ ·) w' (fx.map (·.1)) (some ⟨g,0,none⟩) 0) (htx : (fx.map (·.1)).map Fm.text=(s5 t.kids).map (·.2)) (hf : i6 t=h.data.toList ++ cO ((s5 t.kids).map (·.2))) (hk : R9 t.kind=false) :
 jH t d w (.returned (.iface 149 (.agg #[.string h,.slice (some ⟨g,0,none⟩) n gc]))) w':=by
 subst hn
 refine ⟨hb,.inl ⟨hr,.called h (fx.map (·.1)),_,rfl,⟨some ⟨g,0,none⟩,gc,by rw [List.length_map],hs,by rw [List.length_map]; exact hgc,hgm,hare⟩,?_,by rw [hk]; rfl⟩⟩
 rw [Fm.text,List.append_assoc,lE _ (fun e => by rw [List.map_eq_nil_iff] at e; rw [e] at hpos; simp at hpos),htx,hf]
theorem cS {av : Nat→Prop} {w : World} {fs : List Fm} {a : Option Addr} {j : Nat} (h : Fm.are av w fs a 0) (hj : j<fs.length) {g : Nat} (ha : a=some ⟨g,0,none⟩) {x : Value} (hc : w.cell? ⟨g,j,none⟩=some (.iface fs[j].ty x)) : fs[j].is av w x:=by
 obtain ⟨g',y,cur,fz,e,-,hh,hcur,hy⟩:=Fm.are.get fs 0 h j hj
 rw [ha] at e
 obtain rfl : g=g':=by injection e with e; injection e
 rw [Lib.cell_of_heap hh] at hc
 rw [Nat.zero_add] at hcur
 rw [hcur] at hc
 injection hc with hc
 injection hc with _ hc
 rw [← hc]
 exact hy
theorem gY (f : Fm) (k : Nd) (h : f.wrap=R9 k.kind) (h' : f.text=i6 k) : T3 f.wrap f.text=T1 k.kind (i6 k):=by
 unfold T3 T1
 rw [h,h']
theorem jO {t k : Nd} {d : Int} {w w' : World} {s : ByteArray} {f : Fm} {y : Value} (hr : d9 t d=true) (hb : Below w.heap.size w w') (hs : s.size≤maxLen) (hf : f.is (w.heap.size ≤ ·) w' y) (hw : f.wrap=R9 k.kind) (ht : f.text=i6 k)
 (hform : i6 t=s.data.toList ++ T1 k.kind (i6 k)) (hk : R9 t.kind=true) : jH t d w (.returned (.iface 177 (.agg #[.iface 150 (.string s),.iface f.ty y]))) w':=by
 refine ⟨hb,.inl ⟨hr,.unary (.leaf s) f,_,rfl,⟨.string s,y,rfl,⟨rfl,hs⟩,hf⟩,?_,by rw [hk]; rfl⟩⟩
 rw [Fm.text,Fm.text,gY f k hw ht,hform]
theorem qO {t k u : Nd} {d : Int} {w w' : World} {s : ByteArray} {f g : Fm} {y z : Value} (hr : d9 t d=true) (hb : Below w.heap.size w w') (hs : s.size≤maxLen) (hf : f.is (w.heap.size ≤ ·) w' y) (hw : f.wrap=R9 k.kind) (ht : f.text=i6 k)
 (hg : g.is (w.heap.size ≤ ·) w' z) (hw' : g.wrap=R9 u.kind) (ht' : g.text=i6 u)
 (hform : i6 t=T1 k.kind (i6 k) ++ 32 :: (s.data.toList ++ 32 :: T1 u.kind (i6 u))) (hk : R9 t.kind=true) : jH t d w (.returned (.iface 179 (.agg #[.iface f.ty y,.iface 150 (.string s),.iface g.ty z]))) w':=by
 refine ⟨hb,.inl ⟨hr,.binary f (.leaf s) g,_,rfl,⟨y,.string s,z,rfl,hf,⟨rfl,hs⟩,hg⟩,?_,by rw [hk]; rfl⟩⟩
 rw [Fm.text,Fm.text,gY f k hw ht,gY g u hw' ht',hform]
 simp
theorem qB {t k u v : Nd} {d : Int} {w w' : World} {f g h : Fm} {y z x : Value} (hr : d9 t d=true) (hb : Below w.heap.size w w') (hf : f.is (w.heap.size ≤ ·) w' y) (ht : f.text=i6 k)
 (hg : g.is (w.heap.size ≤ ·) w' z) (ht' : g.text=i6 u) (hh : h.is (w.heap.size ≤ ·) w' x) (ht'' : h.text=i6 v)
 (hform : i6 t=105 :: 102 :: 32 :: (i6 k ++ 32 :: ([116,104,101,110] ++ 32 :: (i6 u ++ 32 :: ([101,108,115,101] ++ 32 :: i6 v))))) (hk : R9 t.kind=true) : jH t d w (.returned (.iface 175 (.agg #[.iface f.ty y,.iface g.ty z,.iface h.ty x]))) w':=by
 refine ⟨hb,.inl ⟨hr,.choice f g h,_,rfl,⟨y,z,x,rfl,hf,hg,hh⟩,?_,by rw [hk]; rfl⟩⟩
 rw [Fm.text,ht,ht',ht'',hform]
 simp
theorem yF {av : Nat→Prop} {w : World} {f : Fm} {x : Value} (h : f.is av w x) : f.is av w.drew x:=Fm.is.kept (W:=w) (W':=w.drew) (fun _ _ _ h h' => ⟨h,h'⟩) f h
theorem V5 {p : Fm × Value} {k : Nd} (h : pL p=oU k) : p.1.wrap=R9 k.kind∧p.1.text=i6 k:=⟨congrArg (·.1) h,congrArg (·.2) h⟩
theorem a47 {t k u v : Nd} (h : t.kind=14) (hk : t.kids=[k,u,v]) : i6 t=105 :: 102 :: 32 :: (i6 k ++ 32 :: ([116,104,101,110] ++ 32 :: (i6 u ++ 32 :: ([101,108,115,101] ++ 32 :: i6 v)))):=by
 cases t with
 | mk kind s n ks p =>
 obtain rfl : kind=14:=h
 obtain rfl : ks=[k,u,v]:=hk
 exact a4l s n p k u v
theorem a4W {t k u : Nd} (h : t.kind=13) (hk : t.kids=[k,u]) : i6 t=T1 k.kind (i6 k) ++ 32 :: (t.text.data.toList ++ 32 :: T1 u.kind (i6 u)):=by
 cases t with
 | mk kind s n ks p =>
 obtain rfl : kind=13:=h
 obtain rfl : ks=[k,u]:=hk
 exact a2J s n p k u
theorem a45 {t k : Nd} (h : t.kind=12) (hk : t.kids=[k]) : i6 t=(if t.text.data.toList=[45] then [45] else [110,111,116,32]) ++ T1 k.kind (i6 k):=by
 cases t with
 | mk kind s n ks p =>
 obtain rfl : kind=12:=h
 obtain rfl : ks=[k]:=hk
 exact a2m s n p k
theorem wP {fx : List (Fm × Value)} {ks : List Nd} {k : Nat} (hk : k<ks.length) (h : fx.map pL=(ks.take k).map oU) {f : Fm} {y : Value} (hft : f.text=i6 ks[k]) (hfw : f.wrap=R9 ks[k].kind) : (fx ++ [(f,y)]).map pL=(ks.take (k + 1)).map oU:=by
 rw [List.map_append,h,List.take_succ_eq_append_getElem hk,List.map_append]
 show _ ++ [(f.wrap,f.text)]=_ ++ [(R9 ks[k].kind,i6 ks[k])]
 rw [hft,hfw]
theorem a0N (N : Nat) : ∀ t : Nd,SizeOf.sizeOf t<N→∀ (a : Option Addr) (cap n₀ : Nat) (d : Int) (w : World),t.hold n₀ w a cap→o6 t→n₀≤w.heap.size→Env w→Tab w→0≤d→d≤1000 →
 Calls Tryz.prog 117 #[.agg #[.int .i64 t.kind,.string t.text,.int .i64 t.n,.slice a t.kids.length cap,.int .i64 t.place],.int .i64 d] w (jH t d w):=by
 induction N with
 | zero => intro t ht; omega
 | succ N ih =>
 intro t ht a cap n₀ d w hh hsh hn he hta hd0 hd1
 have hkc:=hh.bounds.2.2.2.2
 have hts:=hsh.text
 have hkd : ∀ (k : Nat) (hk : k<t.kids.length),SizeOf.sizeOf t.kids[k]<N:=by
  cases t with
  | mk kind s n ks p => exact fun k hk => eD hk ht
 have IH:=hid fun (k : Nat) (h : k<t.kids.length) => ih _ (hkd k h)
 have HH:=hid hh
 have HSH:=hid hsh
 have HE:=hid he
 have HTA:=hid hta
 have R:=hid (tG t d)
 have hkl : t.kids.length≤9223372036854775807:=Nat.le_trans hkc.1 hkc.2
 clear hh hsh he hta ih ht hkd
 have HB:=hid (a7 w (.cells #[.int .i64 t.kind,.string t.text,.int .i64 t.n,.slice a t.kids.length cap,.int .i64 t.place] 24))
 have B0:=hid (Boxed.make w t a cap)
 go_enter Tryz.func117,Tryz.ntmps117
 by_cases hd : 100<d
 ·have F:=hid (show d9 t d=false by rw [R.out,decide_eq_false (by omega)]; rfl)
  go_wp2_with fail
  go_ret
  exact n9 F HB
 have hd' : d≤100:=by omega
 go_wp2_with fail
 generalize hW : w.alloc (.cells #[.int .i64 t.kind,.string t.text,.int .i64 t.n,.slice a t.kids.length cap,.int .i64 t.place] 24)=W1 at HB B0 ⊢
 clear hW
 have hn1 : n₀≤W1.heap.size:=Nat.le_trans hn HB.out.size
 refine Calls.mono (a0h t a cap W1 hts hkc (HE.out.below HB) (HTA.out.below HB)) ?_
 rintro e w2 ⟨rfl,hb⟩
 have HC:=hid (HB.out.trans (hb.mono HB.out.size))
 have B1:=hid (B0.out.below hb)
 clear hb HB B0 hn1
 by_cases hp : s4 t=true
 ·have V:=hid (show o3 t=jK (i6 t) from if_pos hp)
  rw [show o3 t=.iface 150 (.string ⟨(i6 t).toArray⟩) from V.out]
  have HP:=hid hp
  clear hp
  go_wp2_with fail
  go_ret
  exact wY hd' HP HC
 have V:=hid (show o3 t=.nilIface from if_neg hp)
 rw [V.out]
 have R2:=hid (show d9 t d=(decide (t.n=0) && (decide (1≤t.kids.length) && decide (t.kids.length≤8)) && o9 t.kids (d + 1) && fD t) by
  rw [R.out,decide_eq_true hd',Bool.eq_false_iff.2 hp]; rfl)
 clear V hp R
 have c2:=B1.out.c2
 have c3:=B1.out.c3
 by_cases h0 : t.n=0
 case neg =>
  have F:=hid (show d9 t d=false by rw [R2.out,decide_eq_false h0]; rfl)
  have e0 : (t.n != 0)=true:=by simpa using h0
  clear h0
  go_wp2_with fail
  go_ret
  exact n9 F HC
 replace c2 : w2.cell? ⟨w.heap.size,2,none⟩=some (.int .i64 0):=h0 ▸ c2
 by_cases h1 : t.kids.length=0
 ·have F:=hid (show d9 t d=false by rw [R2.out,decide_eq_false (show ¬ 1≤t.kids.length by omega)]; simp)
  have e1 : ((t.kids.length : Int) == 0)=true:=by rw [beq_iff_eq]; omega
  clear h0 h1
  go_wp2_with fail
  go_ret
  exact n9 F HC
 have e1 : ((t.kids.length : Int) == 0)=false:=by rw [beq_eq_false_iff_ne]; omega
 by_cases h8 : 8<t.kids.length
 ·have F:=hid (show d9 t d=false by rw [R2.out,decide_eq_false (show ¬ t.kids.length≤8 by omega)]; simp)
  clear h0 h1
  go_wp2_with fail
  go_ret
  exact n9 F HC
 have R3:=hid (show d9 t d=(o9 t.kids (d + 1) && fD t) by
  rw [R2.out,decide_eq_true h0,decide_eq_true (show 1≤t.kids.length by omega),decide_eq_true (show t.kids.length≤8 by omega)]; rfl)
 have h9 : t.kids.length≤8:=by omega
 clear h0 h1 R2 h8
 go_wp2_with fail
 clear c2 c3
 obtain ⟨i0,hi,hz0,hz1,hz2⟩:=info_parts (show (Tryz.prog.info? 145).map (fun i => (i.zero,i.size,i.bytes))=some (some .nilIface,1,16) by kernel_rfl)
 have HI0:=hid (show _∧_∧_∧_ from ⟨hi,hz0,hz1,hz2⟩)
 clear hi hz0 hz1 hz2
 go_loopw [6,35] (fun v i wr => ∃ (k : Nat) (fx : List (Fm × Value)),k≤t.kids.length∧i=.int .i64 k∧fx.length=k∧Hid (fx.map pL=(t.kids.take k).map oU)∧Hid (KF (w.heap.size + 1) fx v wr)∧Hid (Below w.heap.size w wr)∧Hid (Boxed w.heap.size t a cap wr)∧Hid (∀ j (hj : j<t.kids.length),j<k→d9 t.kids[j] (d + 1)=true)) (fun _ i _ => t.kids.length - (intOf i).toNat)
 case atStart => exact ⟨0,[],Nat.zero_le _,rfl,rfl,rfl,KF.nil _ _,HC,B1,fun j hj h => by omega⟩
 case round =>
  obtain ⟨k,fx,hk,rfl,hfl,HTL,HKF,HBr,HBx,HAll⟩:=hrel
  clear B1 HC
  by_cases hlt : k<t.kids.length
  ·obtain ⟨b,off,x,cx,A⟩:=(HH.out.below (HBr.out.mono hn)).kid k hlt
   obtain ⟨rfl,hb0,c0,c1,c2,c3,c4,hk1⟩:=A
   have HK:=hid hk1
   clear hk1
   have hnr : n₀≤wr.heap.size:=Nat.le_trans hn HBr.out.size
   go_wp2_with fail
   have hb1:=a7 wr (.cells #[.int .i64 t.kids[k].kind,.string t.kids[k].text,.int .i64 t.kids[k].n,.slice x t.kids[k].kids.length cx,.int .i64 t.kids[k].place] 24)
   generalize hW3 : wr.alloc (.cells #[.int .i64 t.kids[k].kind,.string t.kids[k].text,.int .i64 t.kids[k].n,.slice x t.kids[k].kids.length cx,.int .i64 t.kids[k].place] 24)=W3 at hb1 ⊢
   clear hW3
   have HB3:=hid (HBr.out.trans (hb1.mono HBr.out.size))
   have hn3 : n₀≤W3.heap.size:=Nat.le_trans hnr hb1.size
   refine Calls.mono (IH.out k hlt x cx n₀ (d + 1) W3 (HK.out.below (hb1.mono hnr)) (HSH.out.kid k hlt) hn3 (HE.out.below HB3) (HTA.out.below HB3) (by omega) (by omega)) ?_
   rintro e w4 ⟨hb4,⟨hr,f,y,rfl,hf,hft,hfw⟩ | ⟨hr,rfl⟩⟩
   ·have HB4:=hid (HB3.out.trans (hb4.mono HB3.out.size))
    have hb14:=hb1.trans (hb4.mono hb1.size)
    have HKF4:=hid (HKF.out.below hb14)
    have HBx4:=hid (HBx.out.below hb14)
    have HF:=hid (show f.is (fun k => w.heap.size + 1≤k∧u6.ownBlock≠some k) w4 y from Fm.is.kept (fun g _ _ hg hh => ⟨⟨by have:=hb1.size; have:=HBx.out.lt; have : W3.heap.size≤g:=hg; omega,fun e => by have:=(HKF.out.own.lt g e).2; have:=hb1.size; have : W3.heap.size≤g:=hg; omega⟩,hh⟩) f hf)
    have HT4:=hid (wP hlt HTL hft hfw (y:=y))
    have HR4:=hid hr
    have hB4 : w.heap.size + 1≤w4.heap.size:=HBx4.out.lt
    clear hb14 hb4 hb1 hf hft hfw hr
    go_wp2_with (at_builtin; refine wpList_append_lies _ rfl _ _ 147 rfl (w.heap.size + 1) 145 i0 .nilIface 1 16 Tryz.underlying147 HI0.out.1 HI0.out.2.1 HI0.out.2.2.1 HI0.out.2.2.2 rfl (by decide) _ _ _ rfl (HKF4.out.own.alloc _) ⟨w4.heap.size,0,none⟩ 1 1 [.iface f.ty y] rfl rfl (cell_one_new _ _ _) (fun u hu => by simp at hu; subst hu; rfl) (by decide) (by unfold maxLen; omega) (by omega) (by simp; omega) _ rfl ?_; intro g cap' w5 hown' hgrow' hat hltg)
    have HKF5:=hid (KF.snoc (HKF4.out.below (a7 w4 _)) (Fm.is.below (fun _ h => h) (a7 w4 _) HF) rfl hown' hgrow' hat)
    have hbg : Below (w.heap.size + 1) w4 w5:=((a7 w4 (.cells #[.iface f.ty y] 145)).mono hB4).grown hgrow' (by simp; omega) (fun r e => (HKF4.out.own.lt r e).1)
    have HBx5:=hid (HBx4.out.mono hbg (by omega))
    have HB5:=hid (HB4.out.trans (hbg.mono (by omega)))
    clear hown' hgrow' hat hltg hbg
    go_roundw
    case rel =>
     refine ⟨k + 1,fx ++ [(f,y)],by omega,by go_num,by simp [hfl],HT4,(by have h5:=HKF5.out; rw [hfl] at h5; exact h5),HB5,HBx5,fun j hj h => ?_⟩
     by_cases ej : j=k
     ·subst ej; exact HR4
     ·exact HAll.out j hj (by omega)
    case measure => simp [intOf]; omega
   ·have F:=hid (show d9 t d=false by rw [R3.out,rF hlt hr]; rfl)
    have HB4:=hid (HB3.out.trans (hb4.mono HB3.out.size))
    clear hb4 hb1 hr
    go_wp2_with fail
    go_ret
    exact n9 F HB4
  ·obtain rfl : k=t.kids.length:=by omega
   have hall : o9 t.kids (d + 1)=true:=by
    have:=pT t.kids (d + 1) t.kids.length fun j hj _ => HAll.out j hj hj
    rwa [List.take_length] at this
   have R4:=hid (show d9 t d=fD t by rw [R3.out,hall]; rfl)
   have hpos : 0<fx.length:=by
    have : (t.kids.length : Int)≠0:=by simpa using e1
    omega
   obtain ⟨g,gc,rfl,hgc,hgm,hare,hcell⟩:=HKF.out.row hpos
   rw [hfl] at hgc
   have HTN:=hid (show fx.map pL=t.kids.map oU by have:=HTL.out; rwa [List.take_length] at this)
   have HAre:=hid (show Fm.are (w.heap.size ≤ ·) wr (fx.map (·.1)) (some ⟨g,0,none⟩) 0 from Fm.are.kept (fun _ _ _ h h' => ⟨by have h2 : w.heap.size + 1≤_:=h; show w.heap.size≤_; omega,h'⟩) _ hare)
   have HCell:=hid hcell
   have FE:=hid (yS t)
   have HTX:=hid (rH HTN)
   clear hall hare hcell HAll HTL HKF R3 hlt hk
   have c1:=HBx.out.c1
   have mkl:=a2k
   have mkc:=a1A
   have mku:=a3S
   have mkb:=a2S
   have mkh:=a10
   have hk5 : t.kind=11∨t.kind=15∨t.kind=14∨t.kind=12∨t.kind=13∨(t.kind≠11∧t.kind≠15∧t.kind≠14∧t.kind≠12∧t.kind≠13):=by omega
   rcases hk5 with hk | hk | hk | hk | hk | hk
   ·have c0:=HBx.out.kind hk
    have F:=hid (show d9 t d=eV t.text.data.toList by rw [R4.out]; unfold fD; rw [if_pos hk])
    have G:=hid (show i6 t=t.text.data.toList ++ cO ((s5 t.kids).map (·.2)) by rw [FE.out,hk]; rfl)
    have K:=hid (show R9 t.kind=false by rw [hk]; rfl)
    have HK:=hid hk
    clear hk
    go_wp2_with fail
    refine Calls.mono (mZ t.text _ (Nat.le_trans hts (by decide)) (HE.out.below HBr)) ?_
    rintro e w' ⟨rfl,hb⟩
    have HB2:=hid (HBr.out.trans (hb.mono HBr.out.size))
    have HAre2:=hid (show Fm.are (w.heap.size ≤ ·) w' (fx.map (·.1)) (some ⟨g,0,none⟩) 0 from Fm.are.kept (fun _ _ _ h h' => ⟨h,(hb.block _ (V1 h')).trans h'⟩) _ HAre)
    have HBx2:=hid (HBx.out.below hb)
    clear c0 c1 hb
    have c0:=HBx2.out.kind HK
    have c1:=HBx2.out.c1
    cases hq : eV t.text.data.toList
    ·have F':=hid (show d9 t d=false by rw [F.out,hq])
     go_wp2_with fail
     go_ret
     exact n9 F' HB2
    ·have F':=hid (show d9 t d=true by rw [F.out,hq])
     go_wp2_with fail
     go_ret
     exact gF hfl F' HB2 (Nat.le_trans hts (by decide)) hpos (by rw [hfl]; exact hgc) hgm HAre2 HTX G K
   ·have c0:=HBx.out.kind hk
    have F:=hid (show d9 t d=(x8 t.text.data.toList && decide (t.kids.length=3)) by rw [R4.out]; unfold fD; rw [hk]; rfl)
    have G:=hid (show i6 t=((⟨#[112,105,99,107,32,34]⟩ : ByteArray) ++ t.text ++ ⟨#[34]⟩).data.toList ++ cO ((s5 t.kids).map (·.2)) by
     rw [FE.out,hk]
     show [112,105,99,107,32,34] ++ t.text.data.toList ++ [34] ++ cO ((s5 t.kids).map (·.2))=_
     simp)
    have K:=hid (show R9 t.kind=false by rw [hk]; rfl)
    have HK:=hid hk
    clear hk
    go_wp2_with fail
    refine Calls.mono (bL t.text _ (Nat.le_trans hts (by decide))) ?_
    rintro e w' ⟨rfl,hb⟩
    have HB2:=hid (HBr.out.trans (hb.mono HBr.out.size))
    have HAre2:=hid (show Fm.are (w.heap.size ≤ ·) w' (fx.map (·.1)) (some ⟨g,0,none⟩) 0 from Fm.are.kept (fun _ _ _ h h' => ⟨h,(hb.block _ (V1 h')).trans h'⟩) _ HAre)
    have HBx2:=hid (HBx.out.below hb)
    clear c0 c1 hb
    have c0:=HBx2.out.kind HK
    have c1:=HBx2.out.c1
    cases hq : x8 t.text.data.toList
    ·have F':=hid (show d9 t d=false by rw [F.out,hq]; rfl)
     go_wp2_with fail
     go_ret
     exact n9 F' HB2
    ·by_cases hl : t.kids.length=3
     ·have F':=hid (show d9 t d=true by rw [F.out,hq,hl]; rfl)
      have e3 : ((t.kids.length : Int) == 3)=true:=by rw [beq_iff_eq]; omega
      have hl0:=hid hl
      clear hl
      go_wp2_with fail
      go_ret
      exact gF hfl F' HB2 (by rw [ByteArray.size_append,ByteArray.size_append]; show 6 + _ + 1≤maxLen; unfold maxLen; omega) hpos (by rw [hfl]; exact hgc) hgm HAre2 HTX G K
     ·have F':=hid (show d9 t d=false by rw [F.out,decide_eq_false hl]; simp)
      have e3 : ((t.kids.length : Int) == 3)=false:=by rw [beq_eq_false_iff_ne]; omega
      clear hl
      go_wp2_with fail
      go_ret
      exact n9 F' HB2
   ·have c0:=HBx.out.kind hk
    have F:=hid (show d9 t d=(t.text.toList.isEmpty && decide (t.kids.length=3)) by rw [R4.out,Lib.toList_data]; unfold fD; rw [hk]; rfl)
    have K:=hid (show R9 t.kind=true by rw [hk]; rfl)
    have HK:=hid hk
    clear hk
    by_cases hq : t.text.toList=[]
    ·have hq2 : t.text.toList.isEmpty=true:=by rw [hq]; rfl
     by_cases hl : t.kids.length=3
     ·have F':=hid (show d9 t d=true by rw [F.out,hq2,hl]; rfl)
      have e3 : ((t.kids.length : Int) == 3)=true:=by rw [beq_iff_eq]; omega
      obtain ⟨p0,p1,p2,rfl⟩:=a5i (show fx.length=3 by omega)
      have g0:=HCell.out 0 (by simp)
      have g1:=HCell.out 1 (by simp)
      have g2:=HCell.out 2 (by simp)
      have arr:=fun w => run_arrayAt (P:=Tryz.prog) (w:=w) 175 145 3 (some ⟨g,0,none⟩) t.kids.length gc Tryz.underlying175 (by omega)
      have hl0:=hid hl
      obtain ⟨k0,k1,k2,hks⟩:=a5i hl
      have G:=hid (a47 HK hks)
      have T:=HTN.out
      rw [hks] at T
      simp only [List.map_cons,List.map_nil,List.cons.injEq,and_true] at T
      have HTT:=hid T
      have I0:=hid (cS (j:=0) HAre (by simp) rfl g0)
      have I1:=hid (cS (j:=1) HAre (by simp) rfl g1)
      have I2:=hid (cS (j:=2) HAre (by simp) rfl g2)
      clear hl hks T
      go_wp2_with fail
      go_ret
      exact qB F' HBr I0 (V5 HTT.out.1).2 I1 (V5 HTT.out.2.1).2 I2 (V5 HTT.out.2.2).2 G K
     ·have F':=hid (show d9 t d=false by rw [F.out,decide_eq_false hl]; simp)
      have e3 : ((t.kids.length : Int) == 3)=false:=by rw [beq_eq_false_iff_ne]; omega
      clear hl
      go_wp2_with fail
      go_ret
      exact n9 F' HBr
    ·have hq2 : t.text.toList.isEmpty=false:=by simpa using hq
     have F':=hid (show d9 t d=false by rw [F.out,hq2]; rfl)
     go_wp2_with fail
     go_ret
     exact n9 F' HBr
   ·have c0:=HBx.out.kind hk
    have F:=hid (show d9 t d=((t.text.toList == [45] || t.text.toList == [110,111,116]) && decide (t.kids.length=1)) by rw [R4.out,Lib.toList_data]; unfold fD; rw [hk]; rfl)
    have K:=hid (show R9 t.kind=true by rw [hk]; rfl)
    have HK:=hid hk
    clear hk
    by_cases hl : t.kids.length=1
    ·have e3 : ((t.kids.length : Int) == 1)=true:=by rw [beq_iff_eq]; omega
     obtain ⟨p0,rfl⟩:=a5t (show fx.length=1 by omega)
     have g0:=HCell.out 0 (by simp)
     have hl0:=hid hl
     obtain ⟨k0,hks⟩:=a5t hl
     have G:=hid (a45 HK hks)
     have T:=HTN.out
     rw [hks] at T
     simp only [List.map_cons,List.map_nil,List.cons.injEq,and_true] at T
     have HTT:=hid T
     have I0:=hid (cS (j:=0) HAre (by simp) rfl g0)
     have hi1 : (0 : Int)<t.kids.length:=by omega
     clear hks T
     by_cases hq : t.text.toList=[45]
     ·have F':=hid (show d9 t d=true by rw [F.out,hq,hl]; rfl)
      have G2:=hid (show i6 t=(⟨#[45]⟩ : ByteArray).data.toList ++ T1 k0.kind (i6 k0) by rw [G.out,if_pos (by rw [← Lib.toList_data]; exact hq)])
      have q1 : (t.text.toList == [45])=true:=by rw [hq]; rfl
      clear hl
      go_wp2_with fail
      go_ret
      exact jO F' HBr (by decide) I0 (V5 HTT).1 (V5 HTT).2 G2 K
     ·have q1 : (t.text.toList == [45])=false:=beq_eq_false_iff_ne.2 hq
      by_cases hq' : t.text.toList=[110,111,116]
      ·have F':=hid (show d9 t d=true by rw [F.out,hq',hl]; rfl)
       have G2:=hid (show i6 t=(⟨#[110,111,116,32]⟩ : ByteArray).data.toList ++ T1 k0.kind (i6 k0) by rw [G.out,if_neg (by rw [← Lib.toList_data]; exact hq)])
       have q2 : (t.text.toList == [110,111,116])=true:=by rw [hq']; rfl
       clear hl
       go_wp2_with fail
       go_ret
       exact jO F' HBr (by decide) I0 (V5 HTT).1 (V5 HTT).2 G2 K
      ·have q2 : (t.text.toList == [110,111,116])=false:=beq_eq_false_iff_ne.2 hq'
       have F':=hid (show d9 t d=false by rw [F.out,q1,q2]; rfl)
       clear hl
       go_wp2_with fail
       go_ret
       exact n9 F' HBr
    ·have F':=hid (show d9 t d=false by rw [F.out,decide_eq_false hl]; simp)
     have e3 : ((t.kids.length : Int) == 1)=false:=by rw [beq_eq_false_iff_ne]; omega
     clear hl
     by_cases hq : t.text.toList=[45]
     ·have q1 : (t.text.toList == [45])=true:=by rw [hq]; rfl
      have q2 : (t.text.toList == [110,111,116])=false:=by rw [hq]; rfl
      have q2' : ¬ t.text.toList=[110,111,116]:=by rw [hq]; decide
      go_wp2_with fail
      go_ret
      exact n9 F' HBr
     ·have q1 : (t.text.toList == [45])=false:=beq_eq_false_iff_ne.2 hq
      by_cases hq' : t.text.toList=[110,111,116]
      ·have q2 : (t.text.toList == [110,111,116])=true:=by rw [hq']; rfl
       go_wp2_with fail
       go_ret
       exact n9 F' HBr
      ·have q2 : (t.text.toList == [110,111,116])=false:=beq_eq_false_iff_ne.2 hq'
       go_wp2_with fail
       go_ret
       exact n9 F' HBr
   ·have c0:=HBx.out.kind hk
    have SC:=hid (nE t.text.data.toList)
    have F:=hid (show d9 t d=(eX t.text.data.toList && decide (t.kids.length=2)) by rw [R4.out]; unfold fD; rw [hk]; rfl)
    have K:=hid (show R9 t.kind=true by rw [hk]; rfl)
    have HK:=hid hk
    clear hk
    obtain ⟨m,hm⟩:=HE.out.below HBr
    by_cases hq : t.text.toList=[]
    ·have hq2 : t.text.toList.isEmpty=true:=by rw [hq]; rfl
     have F':=hid (show d9 t d=false by rw [F.out,← SC.out,← Lib.toList_data,hq2]; rfl)
     go_wp2_with fail
     go_ret
     exact n9 F' HBr
    ·have hq2 : t.text.toList.isEmpty=false:=by simpa using hq
     have C1:=hid (show decide (0≤Lib.indexByte t.text.data.toList 32)=Lib.contains t.text.data.toList [32] by unfold Lib.contains; rw [Lib.index_one])
     cases hc1 : Lib.contains t.text.data.toList [32]
     case true =>
      have F':=hid (show d9 t d=false by rw [F.out,← SC.out,hc1]; simp)
      go_wp2_with (first | (go_at_call 113; refine (Tryz.strings_Contains_one t.text 32 _).mono ?_; rintro e w' ⟨rfl,rfl⟩; rw [C1.out,hc1]))
      go_ret
      exact n9 F' HBr
     case false =>
      have C2:=hid (show Lib.contains (⟨#[32,111,114,32,97,110,100,32,60,32,60,61,32,61,32,43,32,45,32,42,32,47,32]⟩ : ByteArray).data.toList ((⟨#[32]⟩ : ByteArray) ++ t.text ++ ⟨#[32]⟩).data.toList=Lib.contains (dN Y5) (32 :: (t.text.data.toList ++ [32])) by
       rw [show ((⟨#[32]⟩ : ByteArray) ++ t.text ++ ⟨#[32]⟩).data.toList=32 :: (t.text.data.toList ++ [32]) by simp]; rfl)
      cases hc2 : Lib.contains (dN Y5) (32 :: (t.text.data.toList ++ [32]))
      case false =>
       have F':=hid (show d9 t d=false by rw [F.out,← SC.out,hc2]; simp)
       go_wp2_with fail
       refine Calls.mono (Tryz.strings_Contains_one t.text 32 _) ?_
       rintro e w' ⟨rfl,rfl⟩
       rw [C1.out,hc1]
       go_wp2_with fail
       refine Calls.mono (Tryz.strings_Contains _ _ m _ (by decide) hm) ?_
       rintro e w' ⟨rfl,rfl⟩
       rw [C2.out,hc2]
       go_wp2_with fail
       go_ret
       exact n9 F' HBr
      case true =>
       have hsg : eX t.text.data.toList=true:=by rw [← SC.out,hc1,hc2,← Lib.toList_data,hq2]; rfl
       by_cases hl : t.kids.length=2
       ·have F':=hid (show d9 t d=true by rw [F.out,hsg,hl]; rfl)
        have e3 : ((t.kids.length : Int) == 2)=true:=by rw [beq_iff_eq]; omega
        obtain ⟨p0,p1,rfl⟩:=a5z (show fx.length=2 by omega)
        have g0:=HCell.out 0 (by simp)
        have g1:=HCell.out 1 (by simp)
        have hl0:=hid hl
        obtain ⟨k0,k1,hks⟩:=a5z hl
        have G:=hid (a4W HK hks)
        have T:=HTN.out
        rw [hks] at T
        simp only [List.map_cons,List.map_nil,List.cons.injEq,and_true] at T
        have HTT:=hid T
        have I0:=hid (cS (j:=0) HAre (by simp) rfl g0)
        have I1:=hid (cS (j:=1) HAre (by simp) rfl g1)
        have hi1 : (0 : Int)<t.kids.length:=by omega
        have hi2 : (1 : Int)<t.kids.length:=by omega
        have mixed : Tryz.prog.follows .mixedOrders=true:=by kernel_rfl
        have HSG:=hid hsg
        clear hl hks T hsg
        go_wp2_with fail
        refine Calls.mono (Tryz.strings_Contains_one t.text 32 _) ?_
        rintro e w' ⟨rfl,rfl⟩
        rw [C1.out,hc1]
        go_wp2_with fail
        refine Calls.mono (Tryz.strings_Contains _ _ m _ (by decide) hm) ?_
        rintro e w' ⟨rfl,rfl⟩
        rw [C2.out,hc2]
        go_wp2_with fail
        go_region
        go_wp2_with fail
        go_ret
        exact qO F' ⟨HBr.out.os,HBr.out.tape,HBr.out.output,HBr.out.size,HBr.out.block⟩ (Nat.le_trans hts (by decide)) (yF I0) (V5 HTT.out.1).1 (V5 HTT.out.1).2 (yF I1) (V5 HTT.out.2).1 (V5 HTT.out.2).2 G K
       ·have F':=hid (show d9 t d=false by rw [F.out,decide_eq_false hl]; simp)
        have e3 : ((t.kids.length : Int) == 2)=false:=by rw [beq_eq_false_iff_ne]; omega
        clear hl hsg
        go_wp2_with fail
        refine Calls.mono (Tryz.strings_Contains_one t.text 32 _) ?_
        rintro e w' ⟨rfl,rfl⟩
        rw [C1.out,hc1]
        go_wp2_with fail
        refine Calls.mono (Tryz.strings_Contains _ _ m _ (by decide) hm) ?_
        rintro e w' ⟨rfl,rfl⟩
        rw [C2.out,hc2]
        go_wp2_with fail
        go_ret
        exact n9 F' HBr
   ·have c0:=HBx.out.c0
    have F':=hid (show d9 t d=false by
     rw [R4.out]
     unfold fD
     rw [if_neg hk.1,if_neg hk.2.1,if_neg hk.2.2.1,if_neg hk.2.2.2.1,if_neg hk.2.2.2.2])
    obtain ⟨q1,q2,q3,q4,q5⟩:=hk
    have q1' : (t.kind == 11)=false:=beq_eq_false_iff_ne.2 q1
    have q2' : (t.kind == 15)=false:=beq_eq_false_iff_ne.2 q2
    have q3' : (t.kind == 14)=false:=beq_eq_false_iff_ne.2 q3
    have q4' : (t.kind == 12)=false:=beq_eq_false_iff_ne.2 q4
    have q5' : (t.kind == 13)=false:=beq_eq_false_iff_ne.2 q5
    clear q1 q2 q3 q4 q5
    go_wp2_with fail
    go_ret
    exact n9 F' HBr
theorem a2g (t : Nd) (a : Option Addr) (cap n₀ : Nat) (d : Int) (w : World) (hh : t.hold n₀ w a cap) (hs : o6 t) (hn : n₀≤w.heap.size) (he : Env w) (ht : Tab w) (h0 : 0≤d) (h1 : d≤1000) :
 Calls Tryz.prog 117 #[.agg #[.int .i64 t.kind,.string t.text,.int .i64 t.n,.slice a t.kids.length cap,.int .i64 t.place],.int .i64 d] w (jH t d w) :=
 a0N _ t (Nat.lt_succ_self _) a cap n₀ d w hh hs hn he ht h0 h1
end
end Go.Proofs.YtppcfebnaieciaaGreatDoor
