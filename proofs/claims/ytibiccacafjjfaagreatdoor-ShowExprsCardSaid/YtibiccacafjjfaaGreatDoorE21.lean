/-
  Laws that the proof rests on.
-/
import Derived.Test.YtibiccacafjjfaaGreatDoorE19
namespace Go.Proofs.YtibiccacafjjfaaGreatDoor
set_option maxRecDepth 100000
set_option maxHeartbeats 16000000
section
open Lib (hid)
open Go.RowKit
theorem a0v (P g cap : Nat) (ts : List Tk) (he : s7 ts) (l : List Tk) (hE : ∀ r,r.length<l.length→CE P g cap ts r) (nest : Nat) (w : World) (hn : nest≤300) (h : SP P g cap ts nest (.ok l) w) (ho : isT o3 l=true) :
 Calls Tryz.prog 199 #[.pointer (some ⟨P,0,none⟩),.int .i64 8] w (a5S P g cap ts nest (rd (.args []) nest (c6 l)) w):=by
 obtain ⟨i0,hi,hz0,hz1,hz2⟩:=info_parts (show (Tryz.prog.info? 24).map (fun i => (i.zero,i.size,i.bytes))=some (some (.agg #[.int .i64 0,.string ⟨#[]⟩,.int .i64 0,.slice none 0 0,.int .i64 0]),5,64) by kernel_rfl)
 have HI0:=hid (show _∧_∧_∧_ from ⟨hi,hz0,hz1,hz2⟩)
 clear hi hz0 hz1 hz2
 have hlen:=n7 ho
 have HEx:=hid hE
 have HE:=hid he
 have hb0:=hid h.blocks
 obtain ⟨X,hX⟩ : ∃ X,X=rd (.args []) nest (c6 l):=⟨_,rfl⟩
 rw [← hX]
 have HX:=hid hX
 have HWt:=hid (show aB o3 (.ok l)=.ok (c6 l) from if_pos ho)
 have C1:=hid (H7 P g cap ts nest (.ok l) ⟨#[40]⟩ w hn h he)
 have HLen:=hid hlen
 clear h hE he hX ho hlen
 go_enter Tryz.func199,Tryz.ntmps199
 go_wp2_with fail
 (with_reducible refine Calls.mono C1.out ?_)
 rintro e w1 ⟨rfl,hs,hg⟩
 have I1:=hid (show a5J P g cap ts nest l X w w1 none 0 [] (.ok (c6 l)) from ⟨Nat.zero_le _,World.ownsRow_nil _ _ _ _,by rw [← HWt.out]; exact hs,hg,HX,fun r hr => by
  cases hr; exact ⟨fun e he => (by cases he),(by have:=HLen.out; omega)⟩⟩)
 clear hs hg C1
 go_upto_region 3 with fail
 go_loopw [5,6] (fun v _ wr => ∃ (ao : Option Addr) (cp : Nat) (L : List Ent) (σ : Sx),v=.slice ao L.length cp∧Hid (a5J P g cap ts nest l X w wr ao cp L σ)) (fun _ _ wr => a0j P ts wr)
 case atStart => exact ⟨none,0,[],_,rfl,I1⟩
 case round =>
  obtain ⟨ao,cp,L,σ,rfl,HI⟩:=hrel
  clear I1 HWt HX HLen
  have hL8 : L.length≤8:=HI.out.1
  have hs:=HI.out.2.2.1
  have hpl:=hs.blocks.1
  have HFar:=hid (show a0j P ts wr=a5N σ from hs.far)
  cases σ with
  | error q =>
    obtain ⟨k,p⟩:=q
    obtain ⟨hk0,i,n,hp,-,-⟩:=hs.error
    obtain ⟨⟨p0,p1,p2,p3,p4⟩,-⟩:=hp.cells
    have ek : (k == 0)=false:=beq_eq_false_iff_ne.2 hk0
    have C2:=hid (H7 P g cap ts nest (.error (k,p)) ⟨#[41]⟩ wr hn hs HE)
    clear hs hk0 hp
    go_wp2_with fail
    (with_reducible refine Calls.mono C2.out ?_)
    rintro e w2 ⟨rfl,hs,hg⟩
    have HS:=hid hs
    have HG:=hid hg
    clear hs hg C2
    go_wp2_with fail
    go_ret
    have hX : X=.error (k,p):=HI.out.2.2.2.2.1
    rw [hX]
    exact ⟨L.map (·.1),ao,cp,by rw [List.length_map]; rfl,HS,b6 HI.out.2.2.2.1 HG,fun _ _ h => by cases h⟩
  | ok r =>
    obtain ⟨i,-,hp⟩:=hs.ok
    obtain ⟨⟨p0,p1,p2,p3,p4⟩,-⟩:=hp.cells
    have HS:=hid hs
    have HXr:=hid (show X=rd (.args (L.map (·.1))) nest r from HI.out.2.2.2.2.1)
    by_cases h8 : L.length=8
    ·have hl8 : ((L.length : Int) == 8)=true:=by rw [h8]; rfl
     have HX8:=hid (show X=.error (76,(hd r).pos) by rw [HXr.out,zT,if_pos (by rw [List.length_map]; exact h8)])
     have C2:=hid (zK P g cap ts nest (.ok r) wr hs)
     clear hs hp h8
     go_wp2_with fail
     (with_reducible refine Calls.mono C2.out ?_)
     rintro e w2 ⟨T,rfl,hb,hT⟩
     have HT:=hid (hT r rfl)
     have HS2:=hid (HS.out.below hb)
     have HG2:=hid (d9 HI.out.2.2.2.1 (hb.mono HI.out.2.2.2.1.size))
     obtain ⟨i2,-,hp2⟩:=HS2.out.ok
     have C3:=hid (aU P g cap ts i2 nest w2 76 T.pos hp2)
     clear hb hT hp2 p0 p1 p2 p3 p4 hpl
     unfold tkV
     have hfd:=iA T.kind T.n T.pos ⟨T.text.toArray⟩
     go_wp2_with fail
     (with_reducible refine Calls.mono C3.out ?_)
     rintro e w3 ⟨rfl,hp3,hg⟩
     have HS3:=hid (show SP P g cap ts nest (.error (76,T.pos)) w3 from SP.of_error hp3 (by decide) (Int.le_refl _) (by omega))
     have HG3:=hid (b6 HG2 hg)
     have C4:=hid (H7 P g cap ts nest (.error (76,T.pos)) ⟨#[41]⟩ w3 hn HS3 HE)
     clear hp3 hg hfd
     go_wp2_with fail
     (with_reducible refine Calls.mono C4.out ?_)
     rintro e w4 ⟨rfl,hs,hg⟩
     have HS4:=hid hs
     have HG4:=hid (b6 HG3 hg)
     clear hs hg
     go_wp2_with fail
     go_ret
     rw [HX8.out,← HT.out]
     exact ⟨L.map (·.1),ao,cp,by rw [List.length_map]; rfl,HS4,HG4,fun _ _ h => by cases h⟩
    ·have hl8 : ((L.length : Int) == 8)=false:=beq_eq_false_iff_ne.2 (by omega)
     have hL7 : L.length≤7:=by omega
     have HXn:=hid (show X=(rd .expr nest r).then fun t r => if isT i8 r=true then rd (.args (L.map (·.1) ++ [t])) nest (c6 r) else f7 m5 r fun r => .ok (mkN 0 [] 0 (L.map (·.1) ++ [t]) 0,r) by rw [HXr.out,zT,if_neg (by rw [List.length_map]; exact h8)])
     have C2:=hid (HEx.out r (HI.out.2.2.2.2.2 r rfl).2 nest wr hn hs)
     have HRL:=hid (fun t q (h : rd .expr nest r=.ok (t,q)) => V7 .expr nest r h)
     have HRl:=hid (HI.out.2.2.2.2.2 r rfl).2
     generalize rd .expr nest r=x at HXn C2 HRL
     clear hs hp h8 hL8
     go_wp2_with fail
     (with_reducible refine Calls.mono C2.out ?_)
     rintro e w4 ⟨t,a,c,rfl,hs,hg,hk⟩
     have HK:=hid hk
     have HS4:=hid hs
     have HG4:=hid (b6 HI.out.2.2.2.1 hg)
     have HGr:=hid hg
     have HO4:=hid (show w4.ownsRow w.heap.size 24 5 (.slice ao L.length cp) L.length (eU L) from HI.out.2.1.kept hg (by
      cases hv : (Value.slice ao L.length cp).ownBlock with
      | none => exact .inl rfl
      | some c => exact .inr (fun e => by have:=(HI.out.2.1.lt c hv).1; cases e; have:=hb0.out.1; omega)))
     have hwl:=hid (show w.heap.size≤w4.heap.size from HG4.out.size)
     have hbase : w.heap.size≤w4.heap.size:=hwl.out
     clear hs hg hk C2 p0 p1 p2 p3 p4 hpl
     unfold Nd.val
     go_wp2_with (at_builtin; refine wpList_append_lies _ rfl _ _ 22 rfl w.heap.size 24 i0 (.agg #[.int .i64 0,.string ⟨#[]⟩,.int .i64 0,.slice none 0 0,.int .i64 0]) 5 64 Tryz.underlying22 HI0.out.1 HI0.out.2.1 HI0.out.2.2.1 HI0.out.2.2.2 rfl (by decide) _ _ _ rfl (HO4.out.alloc _) ⟨w4.heap.size,0,none⟩ 1 1 (ndC (t,a,c)) rfl rfl (mX _ _ _ _ _ _ _) (wY _) (by decide) (by unfold maxLen; omega) (by omega) (by simp; omega) _ rfl ?_; intro gb cap' w5 hown' hgrow' hat hltg)
     have B4:=hid (b9 w4 (.cells #[.int .i64 t.kind,.string t.text,.int .i64 t.n,.slice a t.kids.length c,.int .i64 t.place] 24))
     have HOl:=hid (show ∀ d,(Value.slice ao L.length cp).ownBlock=some d→w.heap.size≤d∧d<wr.heap.size from fun d hd => HI.out.2.1.lt d hd)
     have HG5:=hid (a1v (b6 HG4 (b8 B4)) hgrow' (fun d hd => (HOl.out d hd).1))
     have HS5:=hid (SP.row (HS4.out.below B4) hgrow' (fun d hd => by have:=(HOl.out d hd).1; have:=hb0.out; omega))
     have HR5:=hid (show w5.ownsRow w.heap.size 24 5 (.slice (some ⟨gb,0,none⟩) (L ++ [(t,a,c)]).length cap') (L ++ [(t,a,c)]).length (eU (L ++ [(t,a,c)])) from by
      rw [uA,List.length_append]; exact hown')
     have HL5:=hid (show ∀ r',o0 x=.ok r'→(∀ e∈L ++ [(t,a,c)],e.1.lies (fun d => w.heap.size≤d∧d<w5.heap.size∧d≠gb) w5 e.2.1 e.2.2∧c8 e.1≤100)∧r'.length≤r.length from fun r' hr' => by
      obtain ⟨t2,ht2⟩:=y6 hr'
      obtain ⟨rfl,hl,hd⟩:=HK.out t2 r' ht2
      have hsz : wr.heap.size≤w4.heap.size:=HGr.out.size
      have hsz5 : w4.heap.size + 1≤w5.heap.size:=by have:=hgrow'.size; simpa using this
      have hal : (w4.alloc (.cells #[.int .i64 t2.kind,.string t2.text,.int .i64 t2.n,.slice a t2.kids.length c,.int .i64 t2.place] 24)).heap.size=w4.heap.size + 1:=by simp
      have hgb : (Value.slice ao L.length cp).ownBlock=some gb∨gb=w4.heap.size + 1:=hat.imp (fun h => h) (fun e => e.trans (by simp))
      have hP : P<wr.heap.size:=HS.out.blocks.1
      have hPw:=hb0.out.1
      refine ⟨fun e he => ?_,HRL.out t2 r' ht2⟩
      rcases List.mem_append.1 he with he | he
      ·obtain ⟨h1,h2⟩:=(HI.out.2.2.2.2.2 r rfl).1 e he
       refine ⟨d5 h1 (fun d hd => ?_) fun d hd => ⟨hd.1,by have:=hd.2.1; omega,fun e => ?_⟩,h2⟩
       ·have hd1:=hd.1
        have hd2:=hd.2.1
        refine (hgrow'.block d (by rw [hal]; omega) (fun e => hd.2.2 e.symm)).trans ((B4.out.block d (by omega)).trans (HGr.out.block d hd2 (fun e => by cases e; omega)))
       ·subst e
        rcases hgb with e | e
        ·exact hd.2.2 e
        ·have:=hd.2.1; omega
      ·obtain rfl:=List.mem_singleton.1 he
       refine ⟨d5 hl (fun d hd => ?_) fun d hd => ⟨Nat.le_trans HI.out.2.2.2.1.size hd.1,by have:=hd.2; omega,fun e => ?_⟩,hd⟩
       ·have hd1:=hd.1
        have hd2:=hd.2
        refine (hgrow'.block d (by rw [hal]; omega) (fun e => by have:=(HOl.out d e.symm).2; omega)).trans (B4.out.block d hd2)
       ·subst e
        rcases hgb with e | e
        ·have:=(HOl.out _ e).2; have:=hd.1; omega
        ·have:=hd.2; omega)
     have HIs:=hid (show Is x t from fun t' r h => (HK.out t' r h).1)
     have hgb5:=hid (show w.heap.size≤gb∧gb<w5.heap.size from HR5.out.lt gb rfl)
     have D1:=hid (iC P g cap ts nest (o0 x) ⟨#[44]⟩ w5 HS5)
     clear hown' hgrow' hat hltg hbase
     go_wp2_with fail
     (with_reducible refine Calls.mono D1.out ?_)
     rintro e w6 ⟨b1,rfl,hb,hb1⟩
     have HS6:=hid (HS5.out.below hb)
     have HB6:=hid hb
     have HT6:=hid hb1
     have HG6:=hid (d9 HG5 (hb.mono HG5.out.size))
     clear hb hb1 D1
     cases b1
     ·have C5:=hid (H7 P g cap ts nest (o0 x) ⟨#[41]⟩ w6 hn HS6 HE)
      go_wp2_with fail
      (with_reducible refine Calls.mono C5.out ?_)
      rintro e w7 ⟨rfl,hs,hg⟩
      have HS7:=hid (show SP P g cap ts nest (aB m5 (o0 x)) w7 from hs)
      have K57:=hid (show w5.grownBy w7 (some P) from b6 (b8 HB6) hg)
      have HG7:=hid (b6 HG6 hg)
      clear hs hg C5
      go_wp2_with fail
      go_ret
      have hX : X=goX (aB m5 (o0 x)) fun r => .ok (mkN 0 [] 0 (L.map (·.1) ++ [t]) 0,r):=by
       rw [HXn.out,a1Y HIs.out HT6.out]
      have hP5:=HS5.out.blocks.1
      have hPw:=hb0.out.1
      refine ⟨(L ++ [(t,a,c)]).map (·.1),some ⟨gb,0,none⟩,cap',by rw [List.length_map,List.length_append]; rfl,by rw [hX,oG]; exact HS7,HG7,fun t' r' hx => ?_⟩
      rw [hX] at hx
      obtain ⟨r1,e1,e2⟩:=fN hx
      cases e2
      obtain ⟨r2,e3,-,-⟩:=L5 e1
      obtain ⟨hal,-⟩:=HL5.out r2 e3
      have hrow : w7.ownsRow w.heap.size 24 5 (.slice (some ⟨gb,0,none⟩) (L ++ [(t,a,c)]).length cap') (L ++ [(t,a,c)]).length (eU (L ++ [(t,a,c)])) :=
       HR5.out.kept K57 (.inr (fun e => by have:=hgb5.out.1; have e' : gb=P:=Option.some.inj e; omega))
      have hcap:=hrow.2
      have hlen : (L ++ [(t,a,c)]).length=L.length + 1:=by rw [List.length_append]; rfl
      refine ⟨by rw [List.map_append]; rfl,⟨?_,?_,?_⟩,jE _ _ fun k hk => ?_,a0e hrow (show Fr w.heap.size w7.heap.size gb from ⟨hgb5.out.1,Nat.lt_of_lt_of_le hgb5.out.2 K57.out.size⟩) fun e he => d5 (hal e he).1 ((f9.refl _ _).grown K57 fun d hd => ⟨hd.2.1,fun e => by subst e; have:=hd.1; omega⟩) fun d hd => ⟨hd.1,Nat.lt_of_lt_of_le hd.2.1 K57.out.size⟩⟩
      ·rw [List.length_map,hlen]; omega
      ·rw [List.length_map]
       rcases hcap with ⟨h,-⟩ | ⟨g',cap2,cur,h,-,-,h1,-⟩
       ·cases h
       ·cases h; exact h1
      ·rcases hcap with ⟨h,-⟩ | ⟨g',cap2,cur,h,-,-,-,h1,-⟩
       ·cases h
       ·cases h; exact h1
      ·obtain ⟨e,he,rfl⟩:=List.mem_map.1 hk
       exact (hal e he).2
     ·have C5:=hid (bA P g cap ts nest (o0 x) w6 HS6 HE)
      go_wp2_with fail
      (with_reducible refine Calls.mono C5.out ?_)
      rintro e w7 ⟨T,rfl,hs,hg,-⟩
      have HS7:=hid hs
      have K57:=hid (show w5.grownBy w7 (some P) from b6 (b8 HB6) hg)
      have HG7:=hid (b6 HG6 hg)
      clear hs hg C5
      unfold tkV
      go_wp2_with fail
      go_roundw
      case rel =>
       have hlen : (L ++ [(t,a,c)]).length=L.length + 1:=by rw [List.length_append]; rfl
       have hPw:=hb0.out.1
       refine ⟨some ⟨gb,0,none⟩,cap',L ++ [(t,a,c)],a2N (o0 x),by rw [hlen],?_,HR5.out.kept K57 (.inr (fun e => by have:=hgb5.out.1; have e' : gb=P:=Option.some.inj e; omega)),HS7,HG7,?_,fun r' hr' => ?_⟩
       ·rw [hlen]; omega
       ·rw [HXn.out,a0Q HIs.out HT6.out,List.map_append]; rfl
       ·cases hx : o0 x with
        | error e => rw [hx] at hr'; cases hr'
        | ok r1 =>
          rw [hx] at hr'
          obtain ⟨hal,h1⟩:=HL5.out r1 hx
          replace hr' : Except.ok (c6 r1)=(.ok r' : Sx):=hr'
          cases hr'
          refine ⟨fun e he => ⟨d5 (hal e he).1 ((f9.refl _ _).grown K57 fun d hd => ⟨hd.2.1,fun e => by subst e; have:=hd.1; omega⟩) fun d hd => ⟨hd.1,Nat.lt_of_lt_of_le hd.2.1 K57.out.size,fun e => hd.2.2 (Option.some.inj e).symm⟩,(hal e he).2⟩,?_⟩
          have:=aC r1
          have:=HRl.out
          omega
      case measure =>
       rw [HFar.out]
       refine Nat.lt_of_le_of_lt (Nat.le_of_eq HS7.out.far) ?_
       cases hx : o0 x with
       | error e => exact Nat.succ_pos _
       | ok r1 =>
         obtain ⟨hal,h1⟩:=HL5.out r1 hx
         have:=n7 (HT6.out r1 hx).symm
         show (c6 r1).length + 1<r.length + 1
         omega
end
section
open Go.RowKit
structure TkZ (t : Tk) : Prop where
 zero : t.kind=4∨t.kind=2→t.n=0
 sign : t.kind=8→t.text≠Y2∧t.text≠J8∧t.text≠aI∧t.text≠aG
 word : t.kind=2→t.text≠o3
inductive AtomC (T : Tk) : Prop
 | num (h : T.kind=6)
 | day (h : T.kind=5)
 | cur (h : T.kind=4)
 | yes (h : T.kind=2) (h' : T.text=Y2)
 | no (h : T.kind=2) (h' : T.text=J8)
 | feed (h : T.kind=2) (h' : T.text=aI)
 | pick (h : T.kind=2) (h' : T.text=aG)
 | name (h : T.kind=1∨T.kind=3)
 | paren (h : T.kind=8) (h' : T.text=o3)
 | none (h1 : T.kind≠6∧T.kind≠5∧T.kind≠4∧T.kind≠1∧T.kind≠3) (h2 : T.kind=2→T.text≠Y2∧T.text≠J8∧T.text≠aI∧T.text≠aG) (h8 : T.kind=8→T.text≠o3)
theorem a1C (T : Tk) : AtomC T:=by
 by_cases h6 : T.kind=6
 ·exact .num h6
 by_cases h5 : T.kind=5
 ·exact .day h5
 by_cases h4 : T.kind=4
 ·exact .cur h4
 by_cases h1 : T.kind=1∨T.kind=3
 ·exact .name h1
 by_cases h2 : T.kind=2
 ·by_cases a : T.text=Y2
  ·exact .yes h2 a
  by_cases b : T.text=J8
  ·exact .no h2 b
  by_cases c : T.text=aI
  ·exact .feed h2 c
  by_cases d : T.text=aG
  ·exact .pick h2 d
  exact .none ⟨h6,h5,h4,fun e => h1 (.inl e),fun e => h1 (.inr e)⟩ (fun _ => ⟨a,b,c,d⟩) (fun e => by omega)
 by_cases h8 : T.kind=8∧T.text=o3
 ·exact .paren h8.1 h8.2
 exact .none ⟨h6,h5,h4,fun e => h1 (.inl e),fun e => h1 (.inr e)⟩ (fun e => absurd e h2) (fun e a => h8 ⟨e,a⟩)
theorem qJ {l : List Tk} {w : List UInt8} (h : (hd l).kind=2∨(hd l).kind=8) (ht : (hd l).text=w) : isT w l=true:=by
 unfold isT
 rw [ht]
 rcases h with h | h <;> rw [h] <;> simp
theorem gQ {l : List Tk} {w : List UInt8} (h2 : (hd l).kind=2→(hd l).text≠w) (h8 : (hd l).kind=8→(hd l).text≠w) : ¬ isT w l=true:=fun e => by
 obtain ⟨k,t⟩:=iV e
 rcases k with k | k
 ·exact h2 k t
 ·exact h8 k t
section
variable {nest : Nat} {l : List Tk}
theorem fR (nest : Nat) (l : List Tk) : rd .atom nest l=nR rd .atom nest l:=r5 .atom nest l
theorem a3l (h : (hd l).kind=6) : rd .atom nest l=.ok (mkN 5 [] (hd l).n [] (hd l).pos,c6 l):=(fR nest l).trans (if_pos h)
theorem a2K (h : (hd l).kind=5) : rd .atom nest l=.ok (mkN 6 [] (hd l).n [] (hd l).pos,c6 l):=(fR nest l).trans ((if_neg (by omega)).trans (if_pos h))
theorem a2T (h : (hd l).kind=4) : rd .atom nest l=.ok (mkN 7 (hd l).text 0 [] (hd l).pos,c6 l):=(fR nest l).trans ((if_neg (by omega)).trans ((if_neg (by omega)).trans (if_pos h)))
theorem a06 (h : (hd l).kind=1∨(hd l).kind=3) : rd .atom nest l=if isT o3 (c6 l)=true then (rd (.args []) nest (c6 (c6 l))).then fun a r => made (mkN 11 (hd l).text 0 a.kids (hd l).pos) r else .ok (mkN 10 (hd l).text 0 [] (hd l).pos,c6 l) :=
 (fR nest l).trans ((if_neg (by omega)).trans ((if_neg (by omega)).trans ((if_neg (by omega)).trans (if_pos h))))
theorem dN (h : (hd l).kind=2∨(hd l).kind=8) (x : Rd) (hx : (if isT Y2 l=true then .ok (mkN 8 [] 1 [] (hd l).pos,c6 l)
 else if isT J8 l=true then .ok (mkN 8 [] 0 [] (hd l).pos,c6 l)
 else if isT aI l=true then U4 7 (c6 l) fun s r => .ok (mkN 9 s.text 0 [] (hd l).pos,r)
 else if isT aG l=true then tR nest (c6 l) (hd l).pos
 else if isT o3 l=true then (rd .expr nest (c6 l)).then fun x r => f7 m5 r fun r => .ok (x,r)
 else .error (74,(hd l).pos))=x) : rd .atom nest l=x:=(fR nest l).trans ((if_neg (by omega)).trans ((if_neg (by omega)).trans ((if_neg (by omega)).trans ((if_neg (by omega)).trans hx))))
theorem a25 (h : (hd l).kind=2) (t : (hd l).text=Y2) : rd .atom nest l=.ok (mkN 8 [] 1 [] (hd l).pos,c6 l):=dN (.inl h) _ (if_pos (qJ (.inl h) t))
theorem pL (h : (hd l).kind=2) {w v : List UInt8} (t : (hd l).text=w) (hne : w≠v) : ¬ isT v l=true:=gQ (fun _ => t ▸ hne) (fun e => by omega)
theorem a35 (h : (hd l).kind=2) (t : (hd l).text=J8) : rd .atom nest l=.ok (mkN 8 [] 0 [] (hd l).pos,c6 l):=dN (.inl h) _ ((if_neg (pL h t (by decide))).trans (if_pos (qJ (.inl h) t)))
theorem a1n (h : (hd l).kind=2) (t : (hd l).text=aI) : rd .atom nest l=U4 7 (c6 l) fun s r => .ok (mkN 9 s.text 0 [] (hd l).pos,r) :=
 dN (.inl h) _ ((if_neg (pL h t (by decide))).trans ((if_neg (pL h t (by decide))).trans (if_pos (qJ (.inl h) t))))
theorem a1l (h : (hd l).kind=2) (t : (hd l).text=aG) : rd .atom nest l=tR nest (c6 l) (hd l).pos :=
 dN (.inl h) _ ((if_neg (pL h t (by decide))).trans ((if_neg (pL h t (by decide))).trans ((if_neg (pL h t (by decide))).trans (if_pos (qJ (.inl h) t)))))
theorem vX (_hz : TkZ (hd l)) (h : (hd l).kind=8) (t : (hd l).text=o3) : rd .atom nest l=(rd .expr nest (c6 l)).then fun x r => f7 m5 r fun r => .ok (x,r):=by
 have no : ∀ v,o3≠v→¬ isT v l=true:=fun v hv => gQ (fun e => by omega) (fun _ => t ▸ hv)
 exact dN (.inr h) _ ((if_neg (no _ (by decide))).trans ((if_neg (no _ (by decide))).trans ((if_neg (no _ (by decide))).trans ((if_neg (no _ (by decide))).trans (if_pos (qJ (.inr h) t))))))
theorem a1G (hz : TkZ (hd l)) (h1 : (hd l).kind≠6∧(hd l).kind≠5∧(hd l).kind≠4∧(hd l).kind≠1∧(hd l).kind≠3) (h2 : (hd l).kind=2→(hd l).text≠Y2∧(hd l).text≠J8∧(hd l).text≠aI∧(hd l).text≠aG) (h8 : (hd l).kind=8→(hd l).text≠o3) : rd .atom nest l=.error (74,(hd l).pos) :=
 (fR nest l).trans ((if_neg h1.1).trans ((if_neg h1.2.1).trans ((if_neg h1.2.2.1).trans ((if_neg (by omega)).trans ((if_neg (gQ (fun e => (h2 e).1) (fun e => (hz.sign e).1))).trans ((if_neg (gQ (fun e => (h2 e).2.1) (fun e => (hz.sign e).2.1))).trans
   ((if_neg (gQ (fun e => (h2 e).2.2.1) (fun e => (hz.sign e).2.2.1))).trans ((if_neg (gQ (fun e => (h2 e).2.2.2) (fun e => (hz.sign e).2.2.2))).trans (if_neg (gQ hz.word h8))))))))))
end
end
section
open Lib (hid)
open Go.RowKit
theorem aP {av : Nat→Prop} {W : World} {k n p : Int} {s : List UInt8} (hk : (Lit.int .i64 k).wf=true) (hs : s.length≤16384) (hn : (Lit.int .i64 n).wf=true) (hp : (Lit.int .i64 p).wf=true) : (mkN k s n [] p).lies av W none 0 :=
 Nd.lies.mk' hk (by show s.toArray.size≤maxLen; unfold maxLen; simp; omega) hn hp (Nat.le_refl _) (by unfold maxLen; decide) trivial
theorem X4 (k : Int) (s : List UInt8) (n p : Int) : c8 (mkN k s n [] p)=1:=by
 unfold mkN; rw [c8,f8]
theorem a3b (k : Int) (s : List UInt8) (n p : Int) (ks : List Nd) : c8 (mkN k s n ks p)=f8 ks + 1:=by
 unfold mkN; rw [c8]
theorem jJ {t : Nd} (h : c8 t≤100) (σ : Sx) : fL t σ=σ:=by
 cases σ with
 | error e => rfl
 | ok r => exact if_neg (by omega)
theorem a4B (P g cap : Nat) (ts : List Tk) (nest : Nat) (σ : Sx) (t : Nd) (w : World) (hn : nest≤300) (h : SP P g cap ts nest σ w) (_hk : t.kids.length=0) (hd : c8 t≤100) (hl : t.lies (fun _ => False) w none 0) :
 Calls Tryz.prog 107 #[.pointer (some ⟨P,0,none⟩),.agg #[.int .i64 t.kind,.string t.text,.int .i64 t.n,.slice none t.kids.length 0,.int .i64 t.place]] w (a2h P g cap ts nest σ t none 0 w) :=
 pE P g cap ts nest σ t none 0 w hn h fun _ _ => ⟨by omega,_,fun _ hb => hb.elim,hl⟩
theorem a02 (P g cap : Nat) (ts : List Tk) (he : s7 ts) (htk : ∀ t∈ts,z6 t) (htz : ∀ t∈ts,TkZ t) (l : List Tk) (hE : ∀ r,r.length<l.length→CE P g cap ts r) : CA P g cap ts l:=by
 intro nest w hn h
 have P0:=hid h
 have HP:=hid (show w.heap.size≠P∧w.heap.size≠g from ⟨Nat.ne_of_gt h.blocks.1,Nat.ne_of_gt h.blocks.2⟩)
 have HEx:=hid hE
 have HTK:=hid htk
 have HTZ:=hid htz
 obtain ⟨X,hX⟩ : ∃ X,X=rd .atom nest l:=⟨_,rfl⟩
 rw [← hX]
 have HX:=hid hX
 obtain ⟨W1,hW1⟩ : ∃ W,W=w.alloc (.cells #[.int .i64 0,.string ⟨#[]⟩,.int .i64 0,.slice none 0 0,.int .i64 0] 24):=⟨_,rfl⟩
 have B1:=hid (show e9 w.heap.size nd0 none 0 W1 from hW1 ▸ e9.make w nd0 none 0)
 have E1:=hid (show Below w.heap.size w W1 from hW1 ▸ b9 _ _)
 have S1:=hid (b8 (r:=some P) E1)
 have P1:=hid (P0.out.below E1)
 obtain ⟨i,-,hp⟩:=P1.out.ok
 obtain ⟨⟨p0,p1,p2,p3,p4⟩,-⟩:=hp.cells
 have hpl:=hp.plt
 have C2:=hid (zK P g cap ts nest (.ok l) W1 P1)
 clear h hE htk htz hX hp
 subst hW1
 go_enter Tryz.func184,Tryz.ntmps184
 go_wp2_with fail
 (with_reducible refine Calls.mono C2.out ?_)
 rintro e W2 ⟨T,rfl,hb,hT⟩
 obtain ⟨W1,hW1⟩ : ∃ W,W=w.alloc (.cells #[.int .i64 0,.string ⟨#[]⟩,.int .i64 0,.slice none 0 0,.int .i64 0] 24):=⟨_,rfl⟩
 rw [← hW1] at B1 E1 S1 P1 hb
 have HT:=hid (hT l rfl)
 have S2:=hid (b8 (r:=some P) hb)
 have P2:=hid (P1.out.below hb)
 have B2:=hid (B1.out.below hb)
 clear hb hT p0 p1 p2 p3 p4 hpl C2 hW1
 have HT0:=hid (show z6 T from HT.out ▸ HTK.out _ P1.out.mem)
 have HTz:=hid (show TkZ T from HT.out ▸ HTZ.out _ P1.out.mem)
 obtain ⟨W3,hW3⟩ : ∃ W,W=W2.alloc (.cells #[.int .i64 T.kind,.string ⟨T.text.toArray⟩,.int .i64 T.n,.int .i64 T.pos] 67):=⟨_,rfl⟩
 have B3:=hid (show O0 W2.heap.size T W3 from hW3 ▸ O0.make W2 T)
 have E3:=hid (show Below W2.heap.size W2 W3 from hW3 ▸ b9 _ _)
 have S3:=hid (b8 (r:=some P) E3)
 have P3:=hid (P2.out.below E3)
 unfold tkV
 go_upto_region 4 with fail
 rw [← hW3]
 clear hW3
 obtain ⟨⟨t0,t1,t2,t3⟩,-⟩:=B3.out.cells
 have hl3 : W2.heap.size<W3.heap.size:=B3.out.lt
 obtain ⟨W4,hW4⟩ : ∃ W,W=W3.alloc (.cells #[.int .i64 0,.string ⟨#[]⟩,.int .i64 T.n,.slice none 0 0,.int .i64 T.pos] 24):=⟨_,rfl⟩
 have B4:=hid (show e9 W3.heap.size (mkN 0 [] T.n [] T.pos) none 0 W4 from hW4 ▸ e9.make W3 (mkN 0 [] T.n [] T.pos) none 0)
 have E4:=hid (show Below W3.heap.size W3 W4 from hW4 ▸ b9 _ _)
 have S4:=hid (b8 (r:=some P) E4)
 have P4:=hid (P3.out.below E4)
 go_upto_region 7 with fail
 rw [← hW4]
 clear hW4 t0 t1 t2 t3 hl3
 have S13:=hid (show w.grownBy W3 (some P) from b6 (b6 S1 S2) S3)
 have T4:=hid (show O0 W2.heap.size T W4 from B3.out.below E4)
 have N4:=hid (show e9 w.heap.size nd0 none 0 W4 from (B2.out.below E3).below E4)
 have hP3:=hid (show P<W2.heap.size∧g<W2.heap.size∧P<W3.heap.size∧g<W3.heap.size by have h2:=P2.out.blocks; have h3:=P3.out.blocks; omega)
 have hLT:=hid (show w.heap.size<W2.heap.size∧W2.heap.size<W3.heap.size from ⟨B2.out.lt,B3.out.lt⟩)
 have hsz : w.heap.size<W2.heap.size∧W2.heap.size<W3.heap.size∧W3.heap.size<W4.heap.size:=⟨hLT.out.1,hLT.out.2,B4.out.lt⟩
 obtain ⟨⟨t0,t1,t2,t3⟩,-⟩:=T4.out.cells
 obtain ⟨⟨n0,n1,n2,n3,n4⟩,⟨e0,e1,e2,e3,e4⟩⟩:=B4.out.cells
 clear S1 S2 S3 S4 P1 P2 P3 B1 B2 B3 E1 E3 HTZ
 rcases a1C T with hk | hk | hk | ⟨hk,ht⟩ | ⟨hk,ht⟩ | ⟨hk,ht⟩ | ⟨hk,ht⟩ | hk | ⟨hk,ht⟩ | ⟨hk,h2,h8⟩
 case' num =>
  have k6 : (T.kind == 6)=true:=by rw [hk]; rfl
  have k5 : (T.kind == 5)=false:=by rw [hk]; rfl
  have k4 : (T.kind == 4)=false:=by rw [hk]; rfl
  have k2 : (T.kind == 2)=false:=by rw [hk]; rfl
  have k1 : (T.kind == 1)=false:=by rw [hk]; rfl
  have k3 : (T.kind == 3)=false:=by rw [hk]; rfl
  have k8 : (T.kind == 8)=false:=by rw [hk]; rfl
  have hz : T.n=T.n:=rfl
  obtain ⟨W5,hW5⟩ : ∃ W,W=(W4.setCell ⟨W3.heap.size,0,none⟩ (.int .i64 5)):=⟨_,rfl⟩
  have hN : e9 W3.heap.size (mkN 5 [] T.n [] T.pos) none 0 W5:=by rw [hW5]; exact (j9 B4 0 (.int .i64 5))
  have G5:=hid (show w.grownBy W5 (some P) from b6 S13 (by rw [hW5]; exact (s4 (b8 (r:=some P) E4) (Nat.le_refl _) 0 (.int .i64 5))))
  have P5:=hid (show SP P g cap ts nest (.ok l) W5 from P4.out.keeps (by rw [hW5]; exact (by have hav : ∀ b,b=P∨b=g→b≠W3.heap.size:=fun b hb e => by { subst e; have:=hP3.out; omega }; exact ((f9.refl _ W4).set hav 0 (.int .i64 5)))) (by rw [hW5]; simp [World.setCell]))
  have N5:=hid (show e9 w.heap.size nd0 none 0 W5 by rw [hW5]; exact (N4.out.set (by have:=hLT.out; omega) 0 (.int .i64 5)))
  have hl5 : W3.heap.size<W5.heap.size:=hN.lt
  have hX : X=.ok (mkN 5 [] T.n [] T.pos,c6 l):=by
   rw [HX.out,a3l (HT.out ▸ hk),← HT.out]
  have HTs:=hid (show (Lit.int .i64 (mkN 5 [] T.n [] T.pos).n).wf=true from HT0.out.1)
  have HND:=hid (show (mkN 5 [] T.n [] T.pos).kids.length=0∧c8 (mkN 5 [] T.n [] T.pos)≤100∧∀ w,(mkN 5 [] T.n [] T.pos).lies (fun _ => False) w none 0 from ⟨rfl,by rw [X4]; decide,fun w => aP rfl (by decide) HTs HT0.out.2.1⟩)
  clear hk hz HTs
  go_upto_region 37 with fail
  rw [← hW5]
  clear hW5
  obtain ⟨N,hNd⟩ : ∃ N,N=mkN 5 [] T.n [] T.pos:=⟨_,rfl⟩
  rw [← hNd] at hN hX HND
  clear hNd k6 k5 k4 k2 k1 k3 k8
 case' day =>
  have k6 : (T.kind == 6)=false:=by rw [hk]; rfl
  have k5 : (T.kind == 5)=true:=by rw [hk]; rfl
  have k4 : (T.kind == 4)=false:=by rw [hk]; rfl
  have k2 : (T.kind == 2)=false:=by rw [hk]; rfl
  have k1 : (T.kind == 1)=false:=by rw [hk]; rfl
  have k3 : (T.kind == 3)=false:=by rw [hk]; rfl
  have k8 : (T.kind == 8)=false:=by rw [hk]; rfl
  have hz : T.n=T.n:=rfl
  obtain ⟨W5,hW5⟩ : ∃ W,W=(W4.setCell ⟨W3.heap.size,0,none⟩ (.int .i64 6)):=⟨_,rfl⟩
  have hN : e9 W3.heap.size (mkN 6 [] T.n [] T.pos) none 0 W5:=by rw [hW5]; exact (j9 B4 0 (.int .i64 6))
  have G5:=hid (show w.grownBy W5 (some P) from b6 S13 (by rw [hW5]; exact (s4 (b8 (r:=some P) E4) (Nat.le_refl _) 0 (.int .i64 6))))
  have P5:=hid (show SP P g cap ts nest (.ok l) W5 from P4.out.keeps (by rw [hW5]; exact (by have hav : ∀ b,b=P∨b=g→b≠W3.heap.size:=fun b hb e => by { subst e; have:=hP3.out; omega }; exact ((f9.refl _ W4).set hav 0 (.int .i64 6)))) (by rw [hW5]; simp [World.setCell]))
  have N5:=hid (show e9 w.heap.size nd0 none 0 W5 by rw [hW5]; exact (N4.out.set (by have:=hLT.out; omega) 0 (.int .i64 6)))
  have hl5 : W3.heap.size<W5.heap.size:=hN.lt
  have hX : X=.ok (mkN 6 [] T.n [] T.pos,c6 l):=by
   rw [HX.out,a2K (HT.out ▸ hk),← HT.out]
  have HTs:=hid (show (Lit.int .i64 (mkN 6 [] T.n [] T.pos).n).wf=true from HT0.out.1)
  have HND:=hid (show (mkN 6 [] T.n [] T.pos).kids.length=0∧c8 (mkN 6 [] T.n [] T.pos)≤100∧∀ w,(mkN 6 [] T.n [] T.pos).lies (fun _ => False) w none 0 from ⟨rfl,by rw [X4]; decide,fun w => aP rfl (by decide) HTs HT0.out.2.1⟩)
  clear hk hz HTs
  go_upto_region 37 with fail
  rw [← hW5]
  clear hW5
  obtain ⟨N,hNd⟩ : ∃ N,N=mkN 6 [] T.n [] T.pos:=⟨_,rfl⟩
  rw [← hNd] at hN hX HND
  clear hNd k6 k5 k4 k2 k1 k3 k8
 case' cur =>
  have k6 : (T.kind == 6)=false:=by rw [hk]; rfl
  have k5 : (T.kind == 5)=false:=by rw [hk]; rfl
  have k4 : (T.kind == 4)=true:=by rw [hk]; rfl
  have k2 : (T.kind == 2)=false:=by rw [hk]; rfl
  have k1 : (T.kind == 1)=false:=by rw [hk]; rfl
  have k3 : (T.kind == 3)=false:=by rw [hk]; rfl
  have k8 : (T.kind == 8)=false:=by rw [hk]; rfl
  have hz : T.n=T.n:=rfl
  obtain ⟨W5,hW5⟩ : ∃ W,W=((W4.setCell ⟨W3.heap.size,0,none⟩ (.int .i64 7)).setCell ⟨W3.heap.size,1,none⟩ (.string ⟨T.text.toArray⟩)):=⟨_,rfl⟩
  have hN : e9 W3.heap.size (mkN 7 T.text T.n [] T.pos) none 0 W5:=by rw [hW5]; exact (j9 (j9 B4 0 (.int .i64 7)) 1 (.string ⟨T.text.toArray⟩))
  have G5:=hid (show w.grownBy W5 (some P) from b6 S13 (by rw [hW5]; exact (s4 (s4 (b8 (r:=some P) E4) (Nat.le_refl _) 0 (.int .i64 7)) (Nat.le_refl _) 1 (.string ⟨T.text.toArray⟩))))
  have P5:=hid (show SP P g cap ts nest (.ok l) W5 from P4.out.keeps (by rw [hW5]; exact (by have hav : ∀ b,b=P∨b=g→b≠W3.heap.size:=fun b hb e => by { subst e; have:=hP3.out; omega }; exact (((f9.refl _ W4).set hav 0 (.int .i64 7)).set hav 1 (.string ⟨T.text.toArray⟩)))) (by rw [hW5]; simp [World.setCell]))
  have N5:=hid (show e9 w.heap.size nd0 none 0 W5 by rw [hW5]; exact ((N4.out.set (by have:=hLT.out; omega) 0 (.int .i64 7)).set (by have:=hLT.out; omega) 1 (.string ⟨T.text.toArray⟩)))
  have hl5 : W3.heap.size<W5.heap.size:=hN.lt
  have hX : X=.ok (mkN 7 T.text T.n [] T.pos,c6 l):=by
   rw [HX.out,a2T (HT.out ▸ hk),← HT.out]; rw [(HTz.out.zero (.inl hk))]
  have HTs:=hid (show (Lit.int .i64 (mkN 7 T.text T.n [] T.pos).n).wf=true from HT0.out.1)
  have HND:=hid (show (mkN 7 T.text T.n [] T.pos).kids.length=0∧c8 (mkN 7 T.text T.n [] T.pos)≤100∧∀ w,(mkN 7 T.text T.n [] T.pos).lies (fun _ => False) w none 0 from ⟨rfl,by rw [X4]; decide,fun w => aP rfl HT0.out.2.2 HTs HT0.out.2.1⟩)
  clear hk hz HTs
  go_upto_region 37 with fail
  rw [← hW5]
  clear hW5
  obtain ⟨N,hNd⟩ : ∃ N,N=mkN 7 T.text T.n [] T.pos:=⟨_,rfl⟩
  rw [← hNd] at hN hX HND
  clear hNd k6 k5 k4 k2 k1 k3 k8
 case' yes =>
  have k6 : (T.kind == 6)=false:=by rw [hk]; rfl
  have k5 : (T.kind == 5)=false:=by rw [hk]; rfl
  have k4 : (T.kind == 4)=false:=by rw [hk]; rfl
  have k2 : (T.kind == 2)=true:=by rw [hk]; rfl
  have k1 : (T.kind == 1)=false:=by rw [hk]; rfl
  have k3 : (T.kind == 3)=false:=by rw [hk]; rfl
  have k8 : (T.kind == 8)=false:=by rw [hk]; rfl
  have x_yes : (T.text == [116,114,117,101])=true:=by rw [ht]; rfl
  have x_no : (T.text == [102,97,108,115,101])=false:=by rw [ht]; rfl
  have x_feed : (T.text == [102,101,101,100])=false:=by rw [ht]; rfl
  have x_pick : (T.text == [112,105,99,107])=false:=by rw [ht]; rfl
  have x_paren : (T.text == [40])=false:=by rw [ht]; rfl
  have hz : T.n=T.n:=rfl
  obtain ⟨W5,hW5⟩ : ∃ W,W=((W4.setCell ⟨W3.heap.size,0,none⟩ (.int .i64 8)).setCell ⟨W3.heap.size,2,none⟩ (.int .i64 1)):=⟨_,rfl⟩
  have hN : e9 W3.heap.size (mkN 8 [] 1 [] T.pos) none 0 W5:=by rw [hW5]; exact (j9 (j9 B4 0 (.int .i64 8)) 2 (.int .i64 1))
  have G5:=hid (show w.grownBy W5 (some P) from b6 S13 (by rw [hW5]; exact (s4 (s4 (b8 (r:=some P) E4) (Nat.le_refl _) 0 (.int .i64 8)) (Nat.le_refl _) 2 (.int .i64 1))))
  have P5:=hid (show SP P g cap ts nest (.ok l) W5 from P4.out.keeps (by rw [hW5]; exact (by have hav : ∀ b,b=P∨b=g→b≠W3.heap.size:=fun b hb e => by { subst e; have:=hP3.out; omega }; exact (((f9.refl _ W4).set hav 0 (.int .i64 8)).set hav 2 (.int .i64 1)))) (by rw [hW5]; simp [World.setCell]))
  have N5:=hid (show e9 w.heap.size nd0 none 0 W5 by rw [hW5]; exact ((N4.out.set (by have:=hLT.out; omega) 0 (.int .i64 8)).set (by have:=hLT.out; omega) 2 (.int .i64 1)))
  have hl5 : W3.heap.size<W5.heap.size:=hN.lt
  have hX : X=.ok (mkN 8 [] 1 [] T.pos,c6 l):=by
   rw [HX.out,a25 (HT.out ▸ hk) (HT.out ▸ ht),← HT.out]
  have HTs:=hid (show (Lit.int .i64 (mkN 8 [] 1 [] T.pos).n).wf=true from rfl)
  have HND:=hid (show (mkN 8 [] 1 [] T.pos).kids.length=0∧c8 (mkN 8 [] 1 [] T.pos)≤100∧∀ w,(mkN 8 [] 1 [] T.pos).lies (fun _ => False) w none 0 from ⟨rfl,by rw [X4]; decide,fun w => aP rfl (by decide) HTs HT0.out.2.1⟩)
  clear hk ht hz HTs
  go_upto_region 37 with fail
  rw [← hW5]
  clear hW5
  obtain ⟨N,hNd⟩ : ∃ N,N=mkN 8 [] 1 [] T.pos:=⟨_,rfl⟩
  rw [← hNd] at hN hX HND
  clear hNd k6 k5 k4 k2 k1 k3 k8 x_yes x_no x_feed x_pick x_paren
 case' no =>
  have k6 : (T.kind == 6)=false:=by rw [hk]; rfl
  have k5 : (T.kind == 5)=false:=by rw [hk]; rfl
  have k4 : (T.kind == 4)=false:=by rw [hk]; rfl
  have k2 : (T.kind == 2)=true:=by rw [hk]; rfl
  have k1 : (T.kind == 1)=false:=by rw [hk]; rfl
  have k3 : (T.kind == 3)=false:=by rw [hk]; rfl
  have k8 : (T.kind == 8)=false:=by rw [hk]; rfl
  have x_yes : (T.text == [116,114,117,101])=false:=by rw [ht]; rfl
  have x_no : (T.text == [102,97,108,115,101])=true:=by rw [ht]; rfl
  have x_feed : (T.text == [102,101,101,100])=false:=by rw [ht]; rfl
  have x_pick : (T.text == [112,105,99,107])=false:=by rw [ht]; rfl
  have x_paren : (T.text == [40])=false:=by rw [ht]; rfl
  have hz : T.n=T.n:=rfl
  obtain ⟨W5,hW5⟩ : ∃ W,W=(W4.setCell ⟨W3.heap.size,0,none⟩ (.int .i64 8)):=⟨_,rfl⟩
  have hN : e9 W3.heap.size (mkN 8 [] T.n [] T.pos) none 0 W5:=by rw [hW5]; exact (j9 B4 0 (.int .i64 8))
  have G5:=hid (show w.grownBy W5 (some P) from b6 S13 (by rw [hW5]; exact (s4 (b8 (r:=some P) E4) (Nat.le_refl _) 0 (.int .i64 8))))
  have P5:=hid (show SP P g cap ts nest (.ok l) W5 from P4.out.keeps (by rw [hW5]; exact (by have hav : ∀ b,b=P∨b=g→b≠W3.heap.size:=fun b hb e => by { subst e; have:=hP3.out; omega }; exact ((f9.refl _ W4).set hav 0 (.int .i64 8)))) (by rw [hW5]; simp [World.setCell]))
  have N5:=hid (show e9 w.heap.size nd0 none 0 W5 by rw [hW5]; exact (N4.out.set (by have:=hLT.out; omega) 0 (.int .i64 8)))
  have hl5 : W3.heap.size<W5.heap.size:=hN.lt
  have hX : X=.ok (mkN 8 [] T.n [] T.pos,c6 l):=by
   rw [HX.out,a35 (HT.out ▸ hk) (HT.out ▸ ht),← HT.out]; rw [(HTz.out.zero (.inr hk))]
  have HTs:=hid (show (Lit.int .i64 (mkN 8 [] T.n [] T.pos).n).wf=true from HT0.out.1)
  have HND:=hid (show (mkN 8 [] T.n [] T.pos).kids.length=0∧c8 (mkN 8 [] T.n [] T.pos)≤100∧∀ w,(mkN 8 [] T.n [] T.pos).lies (fun _ => False) w none 0 from ⟨rfl,by rw [X4]; decide,fun w => aP rfl (by decide) HTs HT0.out.2.1⟩)
  clear hk ht hz HTs
  go_upto_region 37 with fail
  rw [← hW5]
  clear hW5
  obtain ⟨N,hNd⟩ : ∃ N,N=mkN 8 [] T.n [] T.pos:=⟨_,rfl⟩
  rw [← hNd] at hN hX HND
  clear hNd k6 k5 k4 k2 k1 k3 k8 x_yes x_no x_feed x_pick x_paren
 case num | day | cur | yes | no =>
  have HX':=hid hX
  have HN:=hid hN
  clear hX hN t0 t1 t2 t3 n0 n1 n2 n3 n4 e0 e1 e2 e3 e4 hsz
  have C6:=hid (bA P g cap ts nest (.ok l) W5 P5 he)
  go_wp2_with fail
  (with_reducible refine Calls.mono C6.out ?_)
  rintro e W6 ⟨S,rfl,hs,hg,-⟩
  have P6:=hid (show SP P g cap ts nest (.ok (c6 l)) W6 from hs)
  have G6:=hid (b6 G5 hg)
  have N6:=hid (N5.out.grown hg HP.out.1)
  obtain ⟨⟨n0,n1,n2,n3,n4⟩,-⟩:=(HN.out.grown hg (Nat.ne_of_gt hP3.out.2.2.1)).cells
  have CM:=hid (a4B P g cap ts nest (.ok (c6 l)) N W6 hn P6 HND.out.1 HND.out.2.1 (HND.out.2.2 W6))
  clear hs hg C6
  unfold tkV
  go_wp2_with fail
  (with_reducible refine Calls.mono CM.out ?_)
  rintro e W7 ⟨rfl,hs,hg⟩
  rw [jJ HND.out.2.1] at hs
  have P7:=hid hs
  have G7:=hid (b6 G6 hg)
  have N7:=hid (N6.out.grown hg HP.out.1)
  obtain ⟨⟨z0,z1,z2,z3,z4⟩,⟨f0,f1,f2,f3,f4⟩⟩:=N7.out.cells
  have hsz : w.heap.size<W7.heap.size:=N7.out.lt
  clear hs hg CM n0 n1 n2 n3 n4
  unfold Nd.val
  go_wp2_with fail
  refine bodyPost_ret (v:=N.val none 0) (by simp [results,Tryz.results184,go_sem,Nd.val,z0,z1,z2,z3,z4]) rfl ?_
  rw [HX'.out]
  refine RdP.fin P7 G7 HP (Nat.le_refl _) fun t' r hx => ?_
  cases hx
  exact ⟨rfl,⟨_,fun c hc => hc.elim,HND.out.2.2 W7⟩,HND.out.2.1⟩
 case feed =>
  have k6 : (T.kind == 6)=false:=by rw [hk]; rfl
  have k5 : (T.kind == 5)=false:=by rw [hk]; rfl
  have k4 : (T.kind == 4)=false:=by rw [hk]; rfl
  have k2 : (T.kind == 2)=true:=by rw [hk]; rfl
  have k1 : (T.kind == 1)=false:=by rw [hk]; rfl
  have k3 : (T.kind == 3)=false:=by rw [hk]; rfl
  have k8 : (T.kind == 8)=false:=by rw [hk]; rfl
  have x_yes : (T.text == [116,114,117,101])=false:=by rw [ht]; rfl
  have x_no : (T.text == [102,97,108,115,101])=false:=by rw [ht]; rfl
  have x_feed : (T.text == [102,101,101,100])=true:=by rw [ht]; rfl
  have x_pick : (T.text == [112,105,99,107])=false:=by rw [ht]; rfl
  have x_paren : (T.text == [40])=false:=by rw [ht]; rfl
  have HR:=hid (show X=U4 7 (c6 l) fun s r => .ok (mkN 9 s.text 0 [] T.pos,r) by rw [HX.out,a1n (HT.out ▸ hk) (HT.out ▸ ht),HT.out])
  clear hk ht
  have C5:=hid (bA P g cap ts nest (.ok l) W4 P4 he)
  go_wp2_with fail
  (with_reducible refine Calls.mono C5.out ?_)
  rintro e W5 ⟨S,rfl,hs,hg,-⟩
  have P5:=hid (show SP P g cap ts nest (.ok (c6 l)) W5 from hs)
  have G5:=hid (b6 S13 (b6 (b8 E4) hg))
  have P5g:=hid hg
  have N5:=hid (N4.out.grown hg HP.out.1)
  have T5:=hid (T4.out.grown hg (Nat.ne_of_gt hP3.out.1))
  have hl5:=hid (show W2.heap.size<W5.heap.size from T5.out.lt)
  clear hs hg C5 t0 t1 t2 t3 n0 n1 n2 n3 n4 e0 e1 e2 e3 e4 hsz
  unfold tkV
  clear k6 k5 k4 k2 k1 k3 k8 x_yes x_no x_feed x_pick x_paren
  have C6:=hid (pV P g cap ts nest (.ok (c6 l)) 7 W5 hn P5 he)
  go_wp2_with fail
  (with_reducible refine Calls.mono C6.out ?_)
  rintro e W6 ⟨S,rfl,hs,hg,hS⟩
  have HS:=hid (show S=hd (c6 l) from hS _ rfl)
  have HS0:=hid (show z6 S from HS.out ▸ HTK.out _ P5.out.mem)
  obtain ⟨σ1,hσ1⟩ : ∃ σ,σ=bQ 7 (.ok (c6 l)):=⟨_,rfl⟩
  rw [← hσ1] at hs
  have Q1:=hid hσ1
  have P6:=hid hs
  have G6:=hid (b6 G5 hg)
  have N6:=hid (N5.out.grown hg HP.out.1)
  have T6:=hid (T5.out.grown hg (Nat.ne_of_gt hP3.out.1))
  clear hs hg hS hσ1 C6
  obtain ⟨W7,hW7⟩ : ∃ W,W=W6.alloc (.cells #[.int .i64 S.kind,.string ⟨S.text.toArray⟩,.int .i64 S.n,.int .i64 S.pos] 67):=⟨_,rfl⟩
  have B7:=hid (show O0 W6.heap.size S W7 from hW7 ▸ O0.make W6 S)
  have E7:=hid (show Below W6.heap.size W6 W7 from hW7 ▸ b9 _ _)
  have P7:=hid (P6.out.below E7)
  have N7:=hid (N6.out.below E7)
  have T7:=hid (T6.out.below E7)
  have G7:=hid (d9 G6 (E7.out.mono G6.out.size))
  have HD:=hid (show c8 (mkN 9 S.text 0 [] T.pos)≤100∧∀ w,(mkN 9 S.text 0 [] T.pos).lies (fun _ => False) w none 0 from ⟨by rw [X4]; decide,fun w => aP rfl HS0.out.2.2 rfl HT0.out.2.1⟩)
  have CM:=hid (cP P g cap ts nest σ1 9 S.text 0 [] T.pos none 0 0 rfl W7 hn P7 fun r hr => ⟨Nat.le_trans HD.out.1 (by decide),_,fun b hb => hb.elim,HD.out.2 W7⟩)
  obtain ⟨⟨t0,t1,t2,t3⟩,-⟩:=T7.out.cells
  have hl6 : W2.heap.size<W6.heap.size:=T6.out.lt
  unfold tkV
  subst hW7
  go_wp2_with fail
  (with_reducible refine Calls.mono CM.out ?_)
  rintro e W9 ⟨rfl,hs,hg⟩
  have P9:=hid hs
  have G9:=hid (b6 G7 hg)
  have N9:=hid (N7.out.grown hg HP.out.1)
  obtain ⟨⟨z0,z1,z2,z3,z4⟩,⟨f0,f1,f2,f3,f4⟩⟩:=N9.out.cells
  have hsz : w.heap.size<W9.heap.size:=N9.out.lt
  clear hs CM t0 t1 t2 t3
  rw [jJ HD.out.1] at P9; clear hg
  rw [show (mkN 9 S.text 0 [] T.pos).val none 0=.agg #[.int .i64 9,.string ⟨List.toArray S.text⟩,.int .i64 0,.slice none 0 0,.int .i64 T.pos] from rfl]
  go_wp2_with fail
  refine bodyPost_ret (v:=(mkN 9 S.text 0 [] T.pos).val none 0) (by simp [results,Tryz.results184,go_sem,Nd.val,mkN,Nd.kind,Nd.text,Nd.n,Nd.kids,Nd.place,z0,z1,z2,z3,z4]) rfl ?_
  have hX : X=goX σ1 (fun r => .ok (mkN 9 S.text 0 [] T.pos,r)):=by
   rw [HR.out]
   exact (lF (.ok (c6 l)) 7 (fun s r => (.ok (mkN 9 s.text 0 [] T.pos,r) : Rd)) S (fun r h => by cases h; exact HS)).trans (by rw [← Q1.out])
  refine RdP.fin (by rw [hX,oG]; exact P9) G9 HP (Nat.le_refl _) fun t' r' hx => ?_
  rw [hX] at hx
  obtain ⟨r0,-,e2⟩:=fN hx
  cases e2
  exact ⟨rfl,⟨_,fun c hc => hc.elim,HD.out.2 W9⟩,HD.out.1⟩
 case pick =>
  have k6 : (T.kind == 6)=false:=by rw [hk]; rfl
  have k5 : (T.kind == 5)=false:=by rw [hk]; rfl
  have k4 : (T.kind == 4)=false:=by rw [hk]; rfl
  have k2 : (T.kind == 2)=true:=by rw [hk]; rfl
  have k1 : (T.kind == 1)=false:=by rw [hk]; rfl
  have k3 : (T.kind == 3)=false:=by rw [hk]; rfl
  have k8 : (T.kind == 8)=false:=by rw [hk]; rfl
  have x_yes : (T.text == [116,114,117,101])=false:=by rw [ht]; rfl
  have x_no : (T.text == [102,97,108,115,101])=false:=by rw [ht]; rfl
  have x_feed : (T.text == [102,101,101,100])=false:=by rw [ht]; rfl
  have x_pick : (T.text == [112,105,99,107])=true:=by rw [ht]; rfl
  have x_paren : (T.text == [40])=false:=by rw [ht]; rfl
  have HR:=hid (show X=tR nest (c6 l) T.pos by rw [HX.out,a1l (HT.out ▸ hk) (HT.out ▸ ht),HT.out])
  clear hk ht
  have C5:=hid (bA P g cap ts nest (.ok l) W4 P4 he)
  go_wp2_with fail
  (with_reducible refine Calls.mono C5.out ?_)
  rintro e W5 ⟨S,rfl,hs,hg,-⟩
  have P5:=hid (show SP P g cap ts nest (.ok (c6 l)) W5 from hs)
  have G5:=hid (b6 S13 (b6 (b8 E4) hg))
  have P5g:=hid hg
  have N5:=hid (N4.out.grown hg HP.out.1)
  have T5:=hid (T4.out.grown hg (Nat.ne_of_gt hP3.out.1))
  have hl5:=hid (show W2.heap.size<W5.heap.size from T5.out.lt)
  clear hs hg C5 t0 t1 t2 t3 n0 n1 n2 n3 n4 e0 e1 e2 e3 e4 hsz
  unfold tkV
  clear k6 k5 k4 k2 k1 k3 k8 x_yes x_no x_feed x_pick x_paren
  have C6:=hid (sN P g cap ts he HTK (c6 l) T.pos HT0.out.2.1 (fun r hr => HEx.out r (Nat.lt_of_lt_of_le hr (aC l))) nest W5 hn P5)
  rw [← HR.out] at C6
  obtain ⟨⟨t0,t1,t2,t3⟩,-⟩:=T5.out.cells
  go_wp2_with fail
  (with_reducible refine Calls.mono C6.out ?_)
  rintro e W9 ⟨t,a,cp,rfl,hs,hg,hk⟩
  have P9:=hid hs
  have G9:=hid (b6 G5 hg)
  have N9:=hid (N5.out.grown hg HP.out.1)
  have HK:=hid hk
  obtain ⟨⟨z0,z1,z2,z3,z4⟩,⟨f0,f1,f2,f3,f4⟩⟩:=N9.out.cells
  have hsz : w.heap.size<W9.heap.size:=N9.out.lt
  have HL:=hid (show w.heap.size<W5.heap.size from N5.out.lt)
  clear hs hg hk C6 t0 t1 t2 t3
  unfold Nd.val
  go_wp2_with fail
  refine bodyPost_ret (v:=t.val a cp) (by simp [results,Tryz.results184,go_sem,Nd.val,Nd.kind,Nd.text,Nd.n,Nd.kids,Nd.place,z0,z1,z2,z3,z4]) rfl ?_
  refine RdP.fin P9 G9 HP (Nat.le_refl _) fun t' r' hx => ?_
  obtain ⟨e,hl,hd⟩:=HK.out t' r' hx
  exact ⟨e,⟨_,fun c hc => ⟨fun e => by subst e; have:=hc.1; have:=HL.out; omega,by have:=hc.1; have:=HL.out; omega,hc.2⟩,hl⟩,hd⟩
 case name =>
  have k6 : (T.kind == 6)=false:=beq_eq_false_iff_ne.2 (by omega)
  have k5 : (T.kind == 5)=false:=beq_eq_false_iff_ne.2 (by omega)
  have k4 : (T.kind == 4)=false:=beq_eq_false_iff_ne.2 (by omega)
  have k2 : (T.kind == 2)=false:=beq_eq_false_iff_ne.2 (by omega)
  have HR:=hid (show X=if isT o3 (c6 l)=true then (rd (.args []) nest (c6 (c6 l))).then fun a r => made (mkN 11 T.text 0 a.kids T.pos) r else .ok (mkN 10 T.text 0 [] T.pos,c6 l) by rw [HX.out,a06 (HT.out ▸ hk),HT.out])
  have hk' : (T.kind == 1)=true∨(T.kind == 1)=false∧(T.kind == 3)=true:=by
   rcases hk with hk | hk
   ·exact .inl (by rw [hk]; rfl)
   ·exact .inr ⟨by rw [hk]; rfl,by rw [hk]; rfl⟩
  clear hk
  rcases hk' with k1 | ⟨k1,k3⟩
  all_goals
   have C5:=hid (bA P g cap ts nest (.ok l) W4 P4 he)
   go_wp2_with fail
   (with_reducible refine Calls.mono C5.out ?_)
   rintro e W5 ⟨S,rfl,hs,hg,-⟩
   have P5:=hid (show SP P g cap ts nest (.ok (c6 l)) W5 from hs)
   have G5:=hid (b6 S13 (b6 (b8 E4) hg))
   have P5g:=hid hg
   have N5:=hid (N4.out.grown hg HP.out.1)
   have T5:=hid (T4.out.grown hg (Nat.ne_of_gt hP3.out.1))
   have hl5:=hid (show W2.heap.size<W5.heap.size from T5.out.lt)
   clear hs hg C5 t0 t1 t2 t3 n0 n1 n2 n3 n4 e0 e1 e2 e3 e4 hsz
   unfold tkV
   clear k6 k5 k4 k2 k1
   try clear k3
   have C6:=hid (iC P g cap ts nest (.ok (c6 l)) ⟨#[40]⟩ W5 P5)
   go_wp2_with fail
   (with_reducible refine Calls.mono C6.out ?_)
   rintro e W6 ⟨b,rfl,hb,hbt⟩
   have HB:=hid (show b=isT o3 (c6 l) from hbt _ rfl)
   have P6:=hid (P5.out.below hb)
   have N6:=hid (N5.out.below hb)
   have T6:=hid (T5.out.below hb)
   have G6:=hid (d9 G5 (hb.mono G5.out.size))
   clear hb hbt C6
   obtain ⟨⟨t0,t1,t2,t3⟩,-⟩:=T6.out.cells
   have hl6 : W2.heap.size<W6.heap.size:=T6.out.lt
   cases b
   case false =>
    have hX:=hid (show X=.ok (mkN 10 T.text 0 [] T.pos,c6 l) by rw [HR.out,if_neg (by rw [← HB.out]; decide)])
    have HD:=hid (show c8 (mkN 10 T.text 0 [] T.pos)≤100∧∀ w,(mkN 10 T.text 0 [] T.pos).lies (fun _ => False) w none 0 from ⟨by rw [X4]; decide,fun w => aP rfl HT0.out.2.2 rfl HT0.out.2.1⟩)
    have CM:=hid (cP P g cap ts nest (.ok (c6 l)) 10 T.text 0 [] T.pos none 0 0 rfl W6 hn P6 fun r hr => ⟨Nat.le_trans HD.out.1 (by decide),_,fun b hb => hb.elim,HD.out.2 W6⟩)
    go_wp2_with fail
    (with_reducible refine Calls.mono CM.out ?_)
    rintro e W9 ⟨rfl,hs,hg⟩
    have P9:=hid hs
    have G9:=hid (b6 G6 hg)
    have N9:=hid (N6.out.grown hg HP.out.1)
    obtain ⟨⟨z0,z1,z2,z3,z4⟩,⟨f0,f1,f2,f3,f4⟩⟩:=N9.out.cells
    have hsz : w.heap.size<W9.heap.size:=N9.out.lt
    clear hs CM t0 t1 t2 t3
    rw [jJ HD.out.1] at P9; clear hg
    rw [show (mkN 10 T.text 0 [] T.pos).val none 0=.agg #[.int .i64 10,.string ⟨List.toArray T.text⟩,.int .i64 0,.slice none 0 0,.int .i64 T.pos] from rfl]
    go_wp2_with fail
    refine bodyPost_ret (v:=(mkN 10 T.text 0 [] T.pos).val none 0) (by simp [results,Tryz.results184,go_sem,Nd.val,mkN,Nd.kind,Nd.text,Nd.n,Nd.kids,Nd.place,z0,z1,z2,z3,z4]) rfl ?_
    rw [hX.out]
    refine RdP.fin P9 G9 HP (Nat.le_refl _) fun t' r' hx => ?_
    cases hx
    exact ⟨rfl,⟨_,fun c hc => hc.elim,HD.out.2 W9⟩,HD.out.1⟩
   case true =>
    obtain ⟨y,hy⟩ : ∃ y,y=rd (.args []) nest (c6 (c6 l)):=⟨_,rfl⟩
    have hX:=hid (show X=y.then fun a r => made (mkN 11 T.text 0 a.kids T.pos) r by rw [HR.out,if_pos HB.out.symm,hy])
    have C7:=hid (a0v P g cap ts he (c6 l) (fun r hr => HEx.out r (Nat.lt_of_lt_of_le hr (aC l))) nest W6 hn P6 HB.out.symm)
    rw [← hy] at C7
    clear hy
    go_wp2_with fail
    (with_reducible refine Calls.mono C7.out ?_)
    rintro e W7 ⟨ks,v,cp,rfl,hs,hg,hk⟩
    have P7:=hid hs
    have G7:=hid (b6 G6 hg)
    have N7:=hid (N6.out.grown hg HP.out.1)
    have T7:=hid (T6.out.grown hg (Nat.ne_of_gt hP3.out.1))
    have HK:=hid hk
    have HL:=hid (show w.heap.size<W6.heap.size from N6.out.lt)
    clear hs hg hk C7 t0 t1 t2 t3
    have HD:=hid (show ∀ r,o0 y=.ok r→c8 (mkN 11 T.text 0 ks T.pos)≤101∧(mkN 11 T.text 0 ks T.pos).lies (Fr W6.heap.size W7.heap.size) W7 v cp from fun r hr => by
     obtain ⟨t',ht'⟩:=y6 hr
     obtain ⟨-,⟨h1,h2,h3⟩,h4,h5⟩:=HK.out t' r ht'
     exact ⟨by rw [a3b]; omega,Nd.lies.mk' rfl (by have:=HT0.out.2.2; show T.text.toArray.size≤maxLen; unfold maxLen; simp; omega) rfl HT0.out.2.1 h2 h3 h5⟩)
    have CM:=hid (cP P g cap ts nest (o0 y) 11 T.text 0 ks T.pos v ks.length cp rfl W7 hn P7 fun r hr => ⟨(HD.out r hr).1,_,fun b hb => hb.2,(HD.out r hr).2⟩)
    obtain ⟨⟨t0,t1,t2,t3⟩,-⟩:=T7.out.cells
    have hl7 : W2.heap.size<W7.heap.size:=T7.out.lt
    go_wp2_with fail
    (with_reducible refine Calls.mono CM.out ?_)
    rintro e W9 ⟨rfl,hs,hg⟩
    have P9:=hid hs
    have G9:=hid (b6 G7 hg)
    have N9:=hid (N7.out.grown hg HP.out.1)
    obtain ⟨⟨z0,z1,z2,z3,z4⟩,⟨f0,f1,f2,f3,f4⟩⟩:=N9.out.cells
    have hsz : w.heap.size<W9.heap.size:=N9.out.lt
    clear hs CM t0 t1 t2 t3
    have HG9:=hid hg; clear hg
    rw [show (mkN 11 T.text 0 ks T.pos).val v cp=.agg #[.int .i64 11,.string ⟨List.toArray T.text⟩,.int .i64 0,.slice v ks.length cp,.int .i64 T.pos] from rfl]
    go_wp2_with fail
    refine bodyPost_ret (v:=(mkN 11 T.text 0 ks T.pos).val v cp) (by simp [results,Tryz.results184,go_sem,Nd.val,mkN,Nd.kind,Nd.text,Nd.n,Nd.kids,Nd.place,z0,z1,z2,z3,z4]) rfl ?_
    have hX' : X=goX (o0 y) (made (mkN 11 T.text 0 ks T.pos)):=by
     rw [hX.out]
     cases hy : y with
     | error e => rfl
     | ok p =>
       obtain ⟨t',r⟩:=p
       show made (mkN 11 T.text 0 t'.kids T.pos) r=made (mkN 11 T.text 0 ks T.pos) r
       rw [(HK.out t' r hy).1]
    have hO : o0 X=fL (mkN 11 T.text 0 ks T.pos) (o0 y):=by rw [hX',dG]
    refine RdP.fin (by rw [hO]; exact P9) G9 HP (Nat.le_refl _) fun t' r' hx => ?_
    rw [hX'] at hx
    obtain ⟨e1,e2,e3⟩:=eN _ _ hx
    have hp6:=P6.out.blocks.1
    exact ⟨e1,⟨_,fun c hc => ⟨fun e => by subst e; have:=hc.1; have:=HL.out; omega,by have:=hc.1; have:=HL.out; omega,Nat.lt_of_lt_of_le hc.2 HG9.out.size⟩,d5 (HD.out r' e2).2 ((f9.refl _ _).grown HG9 fun b hb => ⟨hb.2,fun e => by subst e; have:=hb.1; omega⟩) fun b hb => hb⟩,e3⟩
 case paren =>
  have k6 : (T.kind == 6)=false:=by rw [hk]; rfl
  have k5 : (T.kind == 5)=false:=by rw [hk]; rfl
  have k4 : (T.kind == 4)=false:=by rw [hk]; rfl
  have k2 : (T.kind == 2)=false:=by rw [hk]; rfl
  have k1 : (T.kind == 1)=false:=by rw [hk]; rfl
  have k3 : (T.kind == 3)=false:=by rw [hk]; rfl
  have k8 : (T.kind == 8)=true:=by rw [hk]; rfl
  have x_yes : (T.text == [116,114,117,101])=false:=by rw [ht]; rfl
  have x_no : (T.text == [102,97,108,115,101])=false:=by rw [ht]; rfl
  have x_feed : (T.text == [102,101,101,100])=false:=by rw [ht]; rfl
  have x_pick : (T.text == [112,105,99,107])=false:=by rw [ht]; rfl
  have x_paren : (T.text == [40])=true:=by rw [ht]; rfl
  have HR:=hid (show X=(rd .expr nest (c6 l)).then fun x r => f7 m5 r fun r => .ok (x,r) by rw [HX.out,vX (HT.out ▸ HTz.out) (HT.out ▸ hk) (HT.out ▸ ht)])
  have HLn:=hid (show (c6 l).length<l.length from by have:=n7 (qJ (l:=l) (.inr (HT.out ▸ hk)) (HT.out ▸ ht)); omega)
  clear hk ht
  have C5:=hid (bA P g cap ts nest (.ok l) W4 P4 he)
  go_wp2_with fail
  (with_reducible refine Calls.mono C5.out ?_)
  rintro e W5 ⟨S,rfl,hs,hg,-⟩
  have P5:=hid (show SP P g cap ts nest (.ok (c6 l)) W5 from hs)
  have G5:=hid (b6 S13 (b6 (b8 E4) hg))
  have P5g:=hid hg
  have N5:=hid (N4.out.grown hg HP.out.1)
  have T5:=hid (T4.out.grown hg (Nat.ne_of_gt hP3.out.1))
  have hl5:=hid (show W2.heap.size<W5.heap.size from T5.out.lt)
  clear hs hg C5 t0 t1 t2 t3 n0 n1 n2 n3 n4 e0 e1 e2 e3 e4 hsz
  unfold tkV
  clear k6 k5 k4 k2 k1 k3 k8 x_yes x_no x_feed x_pick x_paren
  have B5:=hid (B4.out.grown P5g (Nat.ne_of_gt hP3.out.2.2.1))
  obtain ⟨x,hx⟩ : ∃ x,x=rd .expr nest (c6 l):=⟨_,rfl⟩
  have C6:=hid (HEx.out (c6 l) HLn nest W5 hn P5)
  rw [← hx] at HR C6
  clear hx
  go_wp2_with fail
  (with_reducible refine Calls.mono C6.out ?_)
  rintro e W6 ⟨t,a,cp,rfl,hs,hg,hk⟩
  have HK:=hid hk
  have G6:=hid (b6 G5 hg)
  have N6:=hid (N5.out.grown hg HP.out.1)
  have B6:=hid (B5.out.grown hg (Nat.ne_of_gt hP3.out.2.2.1))
  have P6:=hid hs
  obtain ⟨⟨n0,n1,n2,n3,n4⟩,⟨f0,f1,f2,f3,f4⟩⟩:=B6.out.cells
  have hl6 : W3.heap.size<W6.heap.size:=B6.out.lt
  have HL5:=hid (show W3.heap.size<W5.heap.size from B5.out.lt)
  clear hs hg hk C6
  obtain ⟨W7,hW7⟩ : ∃ W,W=L3 W6 W3.heap.size t a cp:=⟨_,rfl⟩
  have hne : w.heap.size≠W3.heap.size:=by have:=hLT.out; omega
  have N7:=hid (show e9 w.heap.size nd0 none 0 W7 from hW7 ▸ N6.out.oput hne t a cp)
  have B7:=hid (show e9 W3.heap.size t a cp W7 from hW7 ▸ B6.out.put t a cp)
  have P7:=hid (show SP P g cap ts nest (o0 x) W7 from hW7 ▸ P6.out.put (Nat.ne_of_gt hP3.out.2.2.1) (Nat.ne_of_gt hP3.out.2.2.2) t a cp)
  have G7:=hid (show w.grownBy W7 (some P) from hW7 ▸ o6 G6 (by have:=hLT.out; omega) t a cp)
  have C8:=hid (H7 P g cap ts nest (o0 x) ⟨#[41]⟩ W7 hn P7 he)
  have hW7':=hW7
  unfold L3 at hW7'
  unfold Nd.val
  go_wp2_with fail
  rw [← hW7']
  have HW7:=hid hW7
  clear hW7 hW7' n0 n1 n2 n3 n4 f0 f1 f2 f3 f4 hl6
  (with_reducible refine Calls.mono C8.out ?_)
  rintro e W9 ⟨rfl,hs,hg⟩
  have P9:=hid (show SP P g cap ts nest (aB m5 (o0 x)) W9 from hs)
  have G9:=hid (b6 G7 hg)
  have N9:=hid (N7.out.grown hg HP.out.1)
  have HG9:=hid hg
  obtain ⟨⟨n0,n1,n2,n3,n4⟩,-⟩:=(B7.out.grown hg (Nat.ne_of_gt hP3.out.2.2.1)).cells
  obtain ⟨⟨z0,z1,z2,z3,z4⟩,⟨f0,f1,f2,f3,f4⟩⟩:=N9.out.cells
  have hsz : w.heap.size<W9.heap.size:=N9.out.lt
  clear hs hg C8
  go_wp2_with fail
  refine bodyPost_ret (v:=t.val a cp) (by simp [results,Tryz.results184,go_sem,Nd.val,Nd.kind,Nd.text,Nd.n,Nd.kids,Nd.place,z0,z1,z2,z3,z4]) rfl ?_
  have hX : X=goX (aB m5 (o0 x)) (fun r => .ok (t,r)):=by
   rw [HR.out,V6 (t:=t) (fun t' r h => (HK.out t' r h).1),cT]
  refine RdP.fin (by rw [hX,oG]; exact P9) G9 HP (Nat.le_refl _) fun t' r' hx => ?_
  rw [hX] at hx
  obtain ⟨r0,e1,e2⟩:=fN hx
  cases e2
  obtain ⟨r1,e3,-,-⟩:=L5 e1
  obtain ⟨t2,e4⟩:=y6 e3
  obtain ⟨rfl,hl,hd⟩:=HK.out t2 r1 e4
  have hp5:=P5.out.blocks.1
  have hsz6 : W6.heap.size=W7.heap.size:=by rw [HW7.out,z8]
  have k1 : f9 (Fr W5.heap.size W6.heap.size) W6 W7:=by
   rw [HW7.out]
   exact (f9.refl _ W6).put (fun b hb e => by subst e; have:=hb.1; have:=HL5.out; omega) _ _ _
  have h9:=HG9.out.size
  have hlt:=hLT.out
  exact ⟨rfl,⟨_,fun c hc => ⟨fun e => by subst e; have:=hc.1; have:=HL5.out; omega,by have:=hc.1; have:=HL5.out; omega,by have:=hc.2; omega⟩,d5 hl (k1.grown HG9 fun b hb => ⟨by have:=hb.2; omega,fun e => by subst e; have:=hb.1; omega⟩) fun b hb => hb⟩,hd⟩
 case none =>
  have k6 : (T.kind == 6)=false:=beq_eq_false_iff_ne.2 hk.1
  have k5 : (T.kind == 5)=false:=beq_eq_false_iff_ne.2 hk.2.1
  have k4 : (T.kind == 4)=false:=beq_eq_false_iff_ne.2 hk.2.2.1
  have k1 : (T.kind == 1)=false:=beq_eq_false_iff_ne.2 hk.2.2.2.1
  have k3 : (T.kind == 3)=false:=beq_eq_false_iff_ne.2 hk.2.2.2.2
  have hX:=hid (show X=.error (74,T.pos) by rw [HX.out,a1G (HT.out ▸ HTz.out) (HT.out ▸ hk) (HT.out ▸ h2) (HT.out ▸ h8),HT.out])
  obtain ⟨i,-,hp⟩:=P4.out.ok
  have C5:=hid (aU P g cap ts i nest W4 74 T.pos hp)
  clear hp
  have q2 : ((T.kind == 2)=true∧(T.text == [116,114,117,101])=false∧(T.text == [102,97,108,115,101])=false∧(T.text == [102,101,101,100])=false∧(T.text == [112,105,99,107])=false)∨(T.kind == 2)=false:=by
   by_cases k : T.kind=2
   ·exact .inl ⟨by rw [k]; rfl,beq_eq_false_iff_ne.2 (h2 k).1,beq_eq_false_iff_ne.2 (h2 k).2.1,beq_eq_false_iff_ne.2 (h2 k).2.2.1,beq_eq_false_iff_ne.2 (h2 k).2.2.2⟩
   ·exact .inr (beq_eq_false_iff_ne.2 k)
  have q8 : ((T.kind == 8)=true∧(T.text == [40])=false)∨(T.kind == 8)=false:=by
   by_cases k : T.kind=8
   ·exact .inl ⟨by rw [k]; rfl,beq_eq_false_iff_ne.2 (h8 k)⟩
   ·exact .inr (beq_eq_false_iff_ne.2 k)
  clear hk h2 h8
  rcases q2 with ⟨k2,x_yes,x_no,x_feed,x_pick⟩ | k2 <;> rcases q8 with ⟨k8,x_paren⟩ | k8
  all_goals
   go_wp2_with fail
   (with_reducible refine Calls.mono C5.out ?_)
   rintro e W9 ⟨rfl,hp9,hg⟩
   have P9:=hid (show SP P g cap ts nest (.error (74,T.pos)) W9 from SP.of_error hp9 (by decide) (Int.le_refl _) (by omega))
   have G9:=hid (b6 S13 (b6 (b8 E4) hg))
   have N9:=hid (N4.out.grown hg HP.out.1)
   have B9:=hid (B4.out.grown hg (Nat.ne_of_gt hP3.out.2.2.1))
   clear hp9 hg C5 t0 t1 t2 t3 n0 n1 n2 n3 n4 e0 e1 e2 e3 e4 hsz
   obtain ⟨⟨n0,n1,n2,n3,n4⟩,-⟩:=B9.out.cells
   obtain ⟨⟨z0,z1,z2,z3,z4⟩,⟨f0,f1,f2,f3,f4⟩⟩:=N9.out.cells
   have hsz : w.heap.size<W9.heap.size∧W3.heap.size<W9.heap.size:=⟨N9.out.lt,B9.out.lt⟩
   go_wp2_with fail
   refine bodyPost_ret (v:=(mkN 0 [] T.n [] T.pos).val none 0) (by simp [results,Tryz.results184,go_sem,Nd.val,mkN,Nd.kind,Nd.text,Nd.n,Nd.kids,Nd.place,z0,z1,z2,z3,z4]) rfl ?_
   rw [hX.out]
   exact RdP.fin (x:=.error (74,T.pos)) P9 G9 HP (Nat.le_refl _) (fun _ _ h => by cases h)
end
end Go.Proofs.YtibiccacafjjfaaGreatDoor
