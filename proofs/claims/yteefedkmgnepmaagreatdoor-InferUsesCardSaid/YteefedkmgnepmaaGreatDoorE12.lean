/-
  Laws that the proof rests on.
-/
import Derived.Test.YteefedkmgnepmaaGreatDoorE11
namespace Go.Proofs.YteefedkmgnepmaaGreatDoor
set_option maxRecDepth 100000
set_option maxHeartbeats 16000000
section
open Lib (hid)
open Go.RowKit
def grI (n : Int) : Bool:=decide (65≤n) && decide (n≤90)
theorem j8 (n : Int) (w : World) : Calls Tryz.prog 97 #[.int .u8 n] w fun e w' => e=.returned (.bool (grI n))∧w=w':=by
 go_enter Tryz.func97,Tryz.ntmps97
 go_wp2
 all_goals go_ret
 all_goals exact ⟨dT (by unfold grI; rw [Bool.eq_iff_iff]; simp; omega),rfl⟩
theorem wG (c : UInt8) (n : Nat) (hn : n<256) : ((c.toNat : Int) == n)=(c == UInt8.ofNat n):=by
 rw [Bool.eq_iff_iff,beq_iff_eq,beq_iff_eq,uR hn]
theorem eJ (c : UInt8) : O6 c=!(smI c.toNat || grI c.toNat || (c.toNat : Int) == 95 || (c.toNat : Int) == 46):=by
 have h1:=wG c 95 (by decide)
 have h2:=wG c 46 (by decide)
 unfold O6
 rw [show ((c.toNat : Int) == 95)=(c == 95) from h1,show ((c.toNat : Int) == 46)=(c == 46) from h2]
 rfl
theorem bD (l : List UInt8) : (∃ v,jO l=some v∧rE l=v∧rG l=true)∨(jO l=none∧rE l=0∧rG l=false):=by
 unfold rE rG
 cases h : jO l with
 | none => exact .inr ⟨rfl,rfl,rfl⟩
 | some v => exact .inl ⟨v,rfl,rfl,rfl⟩
def tV (b : Nat) (k v p : Int) (w : World) : Prop:=w.heap[b]?=some (.cells #[.int .i64 k,.string ⟨#[]⟩,.int .i64 v,.int .i64 p] 93 (0,0))
theorem tV.below {b : Nat} {k v p : Int} {w w' : World} (h : tV b k v p w) (hb : Below w.heap.size w w') : tV b k v p w':=(hb.block b (Array.getElem?_eq_some_iff.1 h).1).trans h
theorem tV.cells {b : Nat} {k v p : Int} {w : World} (h : tV b k v p w) : w.cell? ⟨b,0,none⟩=some (.int .i64 k)∧w.cell? ⟨b,1,none⟩=some (.string ⟨#[]⟩)∧w.cell? ⟨b,2,none⟩=some (.int .i64 v)∧w.cell? ⟨b,3,none⟩=some (.int .i64 p) ∧
 w.frozen? ⟨b,0,none⟩=false∧w.frozen? ⟨b,1,none⟩=false∧w.frozen? ⟨b,2,none⟩=false∧w.frozen? ⟨b,3,none⟩=false:=by
 have h' : w.heap[b]?=some (.cells #[.int .i64 k,.string ⟨#[]⟩,.int .i64 v,.int .i64 p] 93 (0,0)):=h
 refine ⟨?_,?_,?_,?_,?_,?_,?_,?_⟩ <;> simp [World.cell?,World.frozen?,h']
theorem tV.make (w : World) (p : Int) : tV w.heap.size 0 0 p (w.alloc (.cells #[.int .i64 0,.string ⟨#[]⟩,.int .i64 0,.int .i64 p] 93)):=by
 show (w.heap.push _)[w.heap.size]?=_; simp
theorem zC {s : ByteArray} {a k : Nat} (HL : (s.data.toList.drop a).length=s.size - a) (h : ∀ j (hj : a + j<s.size),j<k→dgC s[a + j]=true) (hk : a + k≤s.size) (h' : ∀ (hk : a + k<s.size),dgC s[a + k]=false) : bY (s.data.toList.drop a)=k :=
 vB (by rw [HL]; omega) (fun j hj hjk => by rw [List.getElem_drop]; exact h j (by rw [HL] at hj; omega) hjk) (fun hj => by rw [List.getElem_drop]; exact h' (by rw [HL] at hj; omega))
theorem nE {d : List UInt8} {k : Nat} (h : bY d=k) : ((d.drop k).headD 0≠46∨¬ dgC ((d.drop (k + 1)).headD 0)=true)→dH d=k:=by
 intro g
 unfold dH
 rw [h,if_neg (fun e => g.elim (fun g => g e.1) (fun g => g e.2))]
theorem zA {s : ByteArray} {a k m : Nat} (HL : (s.data.toList.drop a).length=s.size - a) (h : bY (s.data.toList.drop a)=k) (h46 : ((s.data.toList.drop a).drop k).headD 0=46) (hkm : k + 1<m) (hd : ∀ j (hj : a + j<s.size),k + 1≤j→j<m→dgC s[a + j]=true) (hm : a + m≤s.size)
 (h' : ∀ (hk : a + m<s.size),dgC s[a + m]=false) : dH (s.data.toList.drop a)=m:=by
 have hl : ((s.data.toList.drop a).drop (k + 1)).length=s.size - a - (k + 1):=by rw [List.length_drop,HL]
 have e : bY ((s.data.toList.drop a).drop (k + 1))=m - (k + 1) :=
  vB (by rw [hl]; omega) (fun j hj hjk => by
   rw [List.getElem_drop,List.getElem_drop]
   exact hd (k + 1 + j) (by rw [hl] at hj; omega) (by omega) (by omega)) (fun hj => by
   rw [List.getElem_drop,List.getElem_drop]
   have:=h' (by rw [hl] at hj; omega)
   simp only [show k + 1 + (m - (k + 1))=m by omega]
   exact this)
 have e1 : dgC (((s.data.toList.drop a).drop (k + 1)).headD 0)=true:=by
  rw [List.drop_drop,r7 (show a + (k + 1)<s.size by omega)]
  exact hd (k + 1) (by omega) (Nat.le_refl _) hkm
 unfold dH
 rw [h,if_pos ⟨h46,e1⟩,e]
 omega
theorem zD (s : ByteArray) (a : Nat) (w : World) (hs : s.size≤16384) (ha : a<s.size) (hd : dgC s[a]=true) :
 Calls Tryz.prog 95 #[.string s,.int .i64 a] w (a26 (aA (s.data.toList.drop a) a) w):=by
 have HD:=hid hd
 have HL:=hid (f8 s)
 have HDL:=hid (show (s.data.toList.drop a).length=s.size - a by rw [List.length_drop,f8])
 clear hd
 obtain ⟨W,hW⟩ : ∃ W,W=(w.alloc (.cells #[.int .i64 0,.string ⟨#[]⟩,.int .i64 0,.int .i64 0] 93)).alloc (.cells #[.int .i64 0,.string ⟨#[]⟩,.int .i64 0,.int .i64 a] 93):=⟨_,rfl⟩
 have HB:=hid (show Below w.heap.size w W from hW ▸ (a7 _ _).trans ((a7 _ _).mono (by simp)))
 have Z0:=hid (show dJ w.heap.size W from hW ▸ (dJ.make w).below (a7 _ _))
 have T0:=hid (show tV (w.heap.size + 1) 0 0 a W from hW ▸ (World.size_alloc w _ ▸ tV.make (w.alloc (.cells #[.int .i64 0,.string ⟨#[]⟩,.int .i64 0,.int .i64 0] 93)) a))
 go_enter Tryz.func95,Tryz.ntmps95
 go_wp2_with fail
 rw [← hW]
 clear hW
 (with_reducible refine Calls.mono (wQ s a W hs (Nat.le_of_lt ha)) ?_)
 rintro e w1 ⟨rfl,rfl⟩
 cases hda : U3 (s.data.toList.drop a)
 ·have NN:=hid (show aA (s.data.toList.drop a) a=match jO ((s.data.toList.drop a).take (dH (s.data.toList.drop a))) with
   | none => .error 72
   | some v => if O6 (((s.data.toList.drop a).drop (dH (s.data.toList.drop a))).headD 0)=true then .ok (⟨6,[],v,a⟩,dH (s.data.toList.drop a)) else .error 72 by unfold aA; rw [if_neg (by rw [hda]; decide)]; rfl)
  have HZ0:=Z0
  have HT0:=T0
  have HC0:=HB
  clear hda Z0 T0 HB
  go_wp2_with fail
  go_loop [8] (fun n => ∃ k : Nat,1≤k∧a + k≤s.size∧n=.int .i64 k∧Hid (∀ j (hj : a + j<s.size),j<k→dgC s[a + j]=true)) (fun n => s.size - (intOf n).toNat)
  case atStart => exact ⟨1,by omega,by omega,rfl,fun j hj h => by obtain rfl : j=0:=(by omega); exact HD⟩
  case round =>
   obtain ⟨k,hk1,hk,rfl,HAll⟩:=hrel
   by_cases hlt : a + k<s.size
   case neg =>
    have HN:=hid (show dH (s.data.toList.drop a)=k by
     rw [nE (zC HDL HAll hk (fun h => absurd h hlt))]
     exact .inl (by rw [List.drop_drop,aG (by omega)]; decide))
    clear HAll
    have T:=hid (show (s.extract a (a + (k))).data.toList=(s.data.toList.drop a).take (k) by rw [Q4,Nat.add_sub_cancel_left])
    have hte:=aO s a (a + (k)) (by omega)
    have hx0 : 0<(s.extract a (a + (k))).size:=by omega
    have hxd : dgC (s.extract a (a + (k)))[0]=true:=by
     have q:=Y4 hx0
     rw [T.out,T3 ha,List.take_cons (by omega)] at q
     rw [← q]; exact HD
    have CP:=hid (Y5 (s.extract a (a + (k))) W (by unfold maxLen; omega) hx0 hxd)
    rw [T.out] at CP
    have NV:=hid (bD ((s.data.toList.drop a).take (k)))
    clear hte hx0 hxd
    go_wp2_with fail
    (with_reducible refine Calls.mono CP.out ?_)
    rintro e w3 ⟨rfl,rfl⟩
    (try clear e46)
    rcases NV.out with ⟨v,q1,q2,q3⟩ | ⟨q1,q2,q3⟩
    ·rw [q2,q3]
     have ROK:=hid (show aA (s.data.toList.drop a) a=if O6 ((s.data.toList.drop (a + (k))).headD 0)=true then .ok (⟨6,[],v,a⟩,k) else .error 72 by rw [NN.out,HN.out,q1]; simp only [List.drop_drop])
     clear q1 q2 q3
     obtain ⟨c0,c1,c2,c3,f0,f1,f2,f3⟩:=HZ0.out.cells
     obtain ⟨t0,t1,t2,t3,g0,g1,g2,g3⟩:=HT0.out.cells
     have HC:=hid ((HC0.out.setCell (p:=⟨w.heap.size + 1,0,none⟩) (Nat.le_succ _) (.int .i64 6)).setCell (p:=⟨w.heap.size + 1,2,none⟩) (Nat.le_succ _) (.int .i64 v))
     ·rw [aG (by omega)] at ROK
      have R:=hid (ROK.out.trans (if_pos (by decide)))
      go_wp2_with fail
      exact bodyPost_ret (v:=.tuple #[.agg #[.int .i64 6,.string ⟨#[]⟩,.int .i64 v,.int .i64 a],.int .i64 ((k : Nat) : Int),.int .i64 0]) (by simp [results,Tryz.results95,go_sem,c0,c1,c2,c3]) rfl (v7 R (f9 HC _ _ _ _) rfl rfl rfl rfl (by omega))
    ·rw [q2,q3]
     have R:=hid (show aA (s.data.toList.drop a) a=.error 72 by rw [NN.out,HN.out,q1])
     obtain ⟨c0,c1,c2,c3,f0,f1,f2,f3⟩:=HZ0.out.cells
     obtain ⟨t0,t1,t2,t3,g0,g1,g2,g3⟩:=HT0.out.cells
     clear q1 q2 q3
     go_wp2_with fail
     exact bodyPost_ret (v:=.tuple #[.agg #[.int .i64 0,.string ⟨#[]⟩,.int .i64 0,.int .i64 a],.int .i64 0,.int .i64 72]) (by simp [results,Tryz.results95,go_sem,c0,c1,c2,c3]) rfl (i6 R (by decide) (f9 HC0 _ _ _ _))
   cases hi0 : dgI s[a + k].toNat
   case true =>
    have HK:=hid (show dgC s[a + k]=true by rw [dQ]; exact hi0)
    go_wp2_with (first | (go_at_call 94; refine (o0 _ _).mono ?_; rintro e w' ⟨rfl,rfl⟩; (first | rw [hi0] | rw [hi1])))
    go_round
    case rel =>
     refine ⟨k + 1,by omega,by omega,by go_num,fun j hj h => ?_⟩
     by_cases e : j=k
     ·subst e; exact HK
     ·exact HAll.out j hj (by omega)
    case measure => simp [intOf]; omega
   have HR:=hid (zC HDL HAll hk (fun h => by rw [dQ]; exact hi0))
   have hcase : (a + k + 1<s.size∧(s[a + k].toNat : Int)=46)∨¬ a + k + 1<s.size∨¬ (s[a + k].toNat : Int)=46:=by omega
   rcases hcase with ⟨hl1,h46⟩ | hl1 | h46
   case inr.inl =>
    have HN:=hid (show dH (s.data.toList.drop a)=k by
     rw [nE HR.out]
     exact .inr (by rw [List.drop_drop,aG (by omega)]; decide))
    clear HAll
    have T:=hid (show (s.extract a (a + (k))).data.toList=(s.data.toList.drop a).take (k) by rw [Q4,Nat.add_sub_cancel_left])
    have hte:=aO s a (a + (k)) (by omega)
    have hx0 : 0<(s.extract a (a + (k))).size:=by omega
    have hxd : dgC (s.extract a (a + (k)))[0]=true:=by
     have q:=Y4 hx0
     rw [T.out,T3 ha,List.take_cons (by omega)] at q
     rw [← q]; exact HD
    have CP:=hid (Y5 (s.extract a (a + (k))) W (by unfold maxLen; omega) hx0 hxd)
    rw [T.out] at CP
    have NV:=hid (bD ((s.data.toList.drop a).take (k)))
    clear hte hx0 hxd
    go_wp2_with (first | (go_at_call 94; refine (o0 _ _).mono ?_; rintro e w' ⟨rfl,rfl⟩; (first | rw [hi0] | rw [hi1])))
    (with_reducible refine Calls.mono CP.out ?_)
    rintro e w3 ⟨rfl,rfl⟩
    (try clear e46)
    rcases NV.out with ⟨v,q1,q2,q3⟩ | ⟨q1,q2,q3⟩
    ·rw [q2,q3]
     have ROK:=hid (show aA (s.data.toList.drop a) a=if O6 ((s.data.toList.drop (a + (k))).headD 0)=true then .ok (⟨6,[],v,a⟩,k) else .error 72 by rw [NN.out,HN.out,q1]; simp only [List.drop_drop])
     clear q1 q2 q3
     obtain ⟨c0,c1,c2,c3,f0,f1,f2,f3⟩:=HZ0.out.cells
     obtain ⟨t0,t1,t2,t3,g0,g1,g2,g3⟩:=HT0.out.cells
     have HC:=hid ((HC0.out.setCell (p:=⟨w.heap.size + 1,0,none⟩) (Nat.le_succ _) (.int .i64 6)).setCell (p:=⟨w.heap.size + 1,2,none⟩) (Nat.le_succ _) (.int .i64 v))
     have hlt : a + (k)<s.size:=by omega
     ·rw [r7 hlt] at ROK
      have NE:=hid (eJ (s[a + (k)]'hlt))
      cases h1 : smI (s[a + (k)]'hlt).toNat
      case true =>
       have R:=hid (ROK.out.trans (if_neg (by rw [NE.out,h1]; simp)))
       go_wp2_with (first | (go_at_call 92; refine (e8 _ _).mono ?_; rintro e w' ⟨rfl,rfl⟩; rw [h1]))
       exact bodyPost_ret (v:=.tuple #[.agg #[.int .i64 6,.string ⟨#[]⟩,.int .i64 v,.int .i64 a],.int .i64 0,.int .i64 72]) (by simp [results,Tryz.results95,go_sem,c0,c1,c2,c3]) rfl (i6 R (by decide) (f9 HC _ _ _ _))
      cases h2 : grI (s[a + (k)]'hlt).toNat
      case true =>
       have R:=hid (ROK.out.trans (if_neg (by rw [NE.out,h1,h2]; simp)))
       go_wp2_with (first | (go_at_call 92; refine (e8 _ _).mono ?_; rintro e w' ⟨rfl,rfl⟩; rw [h1]) | (go_at_call 97; refine (j8 _ _).mono ?_; rintro e w' ⟨rfl,rfl⟩; rw [h2]))
       exact bodyPost_ret (v:=.tuple #[.agg #[.int .i64 6,.string ⟨#[]⟩,.int .i64 v,.int .i64 a],.int .i64 0,.int .i64 72]) (by simp [results,Tryz.results95,go_sem,c0,c1,c2,c3]) rfl (i6 R (by decide) (f9 HC _ _ _ _))
      cases h3 : ((s[a + (k)]'hlt).toNat : Int) == 95
      case true =>
       have R:=hid (ROK.out.trans (if_neg (by rw [NE.out,h1,h2,h3]; simp)))
       go_wp2_with (first | (go_at_call 92; refine (e8 _ _).mono ?_; rintro e w' ⟨rfl,rfl⟩; rw [h1]) | (go_at_call 97; refine (j8 _ _).mono ?_; rintro e w' ⟨rfl,rfl⟩; rw [h2]))
       exact bodyPost_ret (v:=.tuple #[.agg #[.int .i64 6,.string ⟨#[]⟩,.int .i64 v,.int .i64 a],.int .i64 0,.int .i64 72]) (by simp [results,Tryz.results95,go_sem,c0,c1,c2,c3]) rfl (i6 R (by decide) (f9 HC _ _ _ _))
      cases h4 : ((s[a + (k)]'hlt).toNat : Int) == 46
      case true =>
       have R:=hid (ROK.out.trans (if_neg (by rw [NE.out,h1,h2,h3,h4]; simp)))
       go_wp2_with (first | (go_at_call 92; refine (e8 _ _).mono ?_; rintro e w' ⟨rfl,rfl⟩; rw [h1]) | (go_at_call 97; refine (j8 _ _).mono ?_; rintro e w' ⟨rfl,rfl⟩; rw [h2]))
       exact bodyPost_ret (v:=.tuple #[.agg #[.int .i64 6,.string ⟨#[]⟩,.int .i64 v,.int .i64 a],.int .i64 0,.int .i64 72]) (by simp [results,Tryz.results95,go_sem,c0,c1,c2,c3]) rfl (i6 R (by decide) (f9 HC _ _ _ _))
      have R:=hid (ROK.out.trans (if_pos (by rw [NE.out,h1,h2,h3,h4]; rfl)))
      go_wp2_with (first | (go_at_call 92; refine (e8 _ _).mono ?_; rintro e w' ⟨rfl,rfl⟩; rw [h1]) | (go_at_call 97; refine (j8 _ _).mono ?_; rintro e w' ⟨rfl,rfl⟩; rw [h2]))
      exact bodyPost_ret (v:=.tuple #[.agg #[.int .i64 6,.string ⟨#[]⟩,.int .i64 v,.int .i64 a],.int .i64 ((k : Nat) : Int),.int .i64 0]) (by simp [results,Tryz.results95,go_sem,c0,c1,c2,c3]) rfl (v7 R (f9 HC _ _ _ _) rfl rfl rfl rfl (by omega))
    ·rw [q2,q3]
     have R:=hid (show aA (s.data.toList.drop a) a=.error 72 by rw [NN.out,HN.out,q1])
     obtain ⟨c0,c1,c2,c3,f0,f1,f2,f3⟩:=HZ0.out.cells
     obtain ⟨t0,t1,t2,t3,g0,g1,g2,g3⟩:=HT0.out.cells
     clear q1 q2 q3
     go_wp2_with fail
     exact bodyPost_ret (v:=.tuple #[.agg #[.int .i64 0,.string ⟨#[]⟩,.int .i64 0,.int .i64 a],.int .i64 0,.int .i64 72]) (by simp [results,Tryz.results95,go_sem,c0,c1,c2,c3]) rfl (i6 R (by decide) (f9 HC0 _ _ _ _))
   case inr.inr =>
    have e46 : ((s[a + k].toNat : Int) == 46)=false:=beq_eq_false_iff_ne.2 h46
    have HN:=hid (show dH (s.data.toList.drop a)=k by
     rw [nE HR.out]
     exact .inl (by rw [List.drop_drop,r7 hlt]; exact fun e => h46 (by rw [e]; rfl)))
    clear HAll h46
    by_cases hl1 : a + k + 1<s.size
    all_goals
     have T:=hid (show (s.extract a (a + (k))).data.toList=(s.data.toList.drop a).take (k) by rw [Q4,Nat.add_sub_cancel_left])
     have hte:=aO s a (a + (k)) (by omega)
     have hx0 : 0<(s.extract a (a + (k))).size:=by omega
     have hxd : dgC (s.extract a (a + (k)))[0]=true:=by
      have q:=Y4 hx0
      rw [T.out,T3 ha,List.take_cons (by omega)] at q
      rw [← q]; exact HD
     have CP:=hid (Y5 (s.extract a (a + (k))) W (by unfold maxLen; omega) hx0 hxd)
     rw [T.out] at CP
     have NV:=hid (bD ((s.data.toList.drop a).take (k)))
     clear hte hx0 hxd
     go_wp2_with (first | (go_at_call 94; refine (o0 _ _).mono ?_; rintro e w' ⟨rfl,rfl⟩; rw [hi0]))
     (with_reducible refine Calls.mono CP.out ?_)
     rintro e w3 ⟨rfl,rfl⟩
     (try clear e46)
     rcases NV.out with ⟨v,q1,q2,q3⟩ | ⟨q1,q2,q3⟩
     ·rw [q2,q3]
      have ROK:=hid (show aA (s.data.toList.drop a) a=if O6 ((s.data.toList.drop (a + (k))).headD 0)=true then .ok (⟨6,[],v,a⟩,k) else .error 72 by rw [NN.out,HN.out,q1]; simp only [List.drop_drop])
      clear q1 q2 q3
      obtain ⟨c0,c1,c2,c3,f0,f1,f2,f3⟩:=HZ0.out.cells
      obtain ⟨t0,t1,t2,t3,g0,g1,g2,g3⟩:=HT0.out.cells
      have HC:=hid ((HC0.out.setCell (p:=⟨w.heap.size + 1,0,none⟩) (Nat.le_succ _) (.int .i64 6)).setCell (p:=⟨w.heap.size + 1,2,none⟩) (Nat.le_succ _) (.int .i64 v))
      have hlt : a + (k)<s.size:=by omega
      ·rw [r7 hlt] at ROK
       have NE:=hid (eJ (s[a + (k)]'hlt))
       cases h1 : smI (s[a + (k)]'hlt).toNat
       case true =>
        have R:=hid (ROK.out.trans (if_neg (by rw [NE.out,h1]; simp)))
        go_wp2_with (first | (go_at_call 92; refine (e8 _ _).mono ?_; rintro e w' ⟨rfl,rfl⟩; rw [h1]))
        exact bodyPost_ret (v:=.tuple #[.agg #[.int .i64 6,.string ⟨#[]⟩,.int .i64 v,.int .i64 a],.int .i64 0,.int .i64 72]) (by simp [results,Tryz.results95,go_sem,c0,c1,c2,c3]) rfl (i6 R (by decide) (f9 HC _ _ _ _))
       cases h2 : grI (s[a + (k)]'hlt).toNat
       case true =>
        have R:=hid (ROK.out.trans (if_neg (by rw [NE.out,h1,h2]; simp)))
        go_wp2_with (first | (go_at_call 92; refine (e8 _ _).mono ?_; rintro e w' ⟨rfl,rfl⟩; rw [h1]) | (go_at_call 97; refine (j8 _ _).mono ?_; rintro e w' ⟨rfl,rfl⟩; rw [h2]))
        exact bodyPost_ret (v:=.tuple #[.agg #[.int .i64 6,.string ⟨#[]⟩,.int .i64 v,.int .i64 a],.int .i64 0,.int .i64 72]) (by simp [results,Tryz.results95,go_sem,c0,c1,c2,c3]) rfl (i6 R (by decide) (f9 HC _ _ _ _))
       cases h3 : ((s[a + (k)]'hlt).toNat : Int) == 95
       case true =>
        have R:=hid (ROK.out.trans (if_neg (by rw [NE.out,h1,h2,h3]; simp)))
        go_wp2_with (first | (go_at_call 92; refine (e8 _ _).mono ?_; rintro e w' ⟨rfl,rfl⟩; rw [h1]) | (go_at_call 97; refine (j8 _ _).mono ?_; rintro e w' ⟨rfl,rfl⟩; rw [h2]))
        exact bodyPost_ret (v:=.tuple #[.agg #[.int .i64 6,.string ⟨#[]⟩,.int .i64 v,.int .i64 a],.int .i64 0,.int .i64 72]) (by simp [results,Tryz.results95,go_sem,c0,c1,c2,c3]) rfl (i6 R (by decide) (f9 HC _ _ _ _))
       cases h4 : ((s[a + (k)]'hlt).toNat : Int) == 46
       case true =>
        have R:=hid (ROK.out.trans (if_neg (by rw [NE.out,h1,h2,h3,h4]; simp)))
        go_wp2_with (first | (go_at_call 92; refine (e8 _ _).mono ?_; rintro e w' ⟨rfl,rfl⟩; rw [h1]) | (go_at_call 97; refine (j8 _ _).mono ?_; rintro e w' ⟨rfl,rfl⟩; rw [h2]))
        exact bodyPost_ret (v:=.tuple #[.agg #[.int .i64 6,.string ⟨#[]⟩,.int .i64 v,.int .i64 a],.int .i64 0,.int .i64 72]) (by simp [results,Tryz.results95,go_sem,c0,c1,c2,c3]) rfl (i6 R (by decide) (f9 HC _ _ _ _))
       have R:=hid (ROK.out.trans (if_pos (by rw [NE.out,h1,h2,h3,h4]; rfl)))
       go_wp2_with (first | (go_at_call 92; refine (e8 _ _).mono ?_; rintro e w' ⟨rfl,rfl⟩; rw [h1]) | (go_at_call 97; refine (j8 _ _).mono ?_; rintro e w' ⟨rfl,rfl⟩; rw [h2]))
       exact bodyPost_ret (v:=.tuple #[.agg #[.int .i64 6,.string ⟨#[]⟩,.int .i64 v,.int .i64 a],.int .i64 ((k : Nat) : Int),.int .i64 0]) (by simp [results,Tryz.results95,go_sem,c0,c1,c2,c3]) rfl (v7 R (f9 HC _ _ _ _) rfl rfl rfl rfl (by omega))
     ·rw [q2,q3]
      have R:=hid (show aA (s.data.toList.drop a) a=.error 72 by rw [NN.out,HN.out,q1])
      obtain ⟨c0,c1,c2,c3,f0,f1,f2,f3⟩:=HZ0.out.cells
      obtain ⟨t0,t1,t2,t3,g0,g1,g2,g3⟩:=HT0.out.cells
      clear q1 q2 q3
      go_wp2_with fail
      exact bodyPost_ret (v:=.tuple #[.agg #[.int .i64 0,.string ⟨#[]⟩,.int .i64 0,.int .i64 a],.int .i64 0,.int .i64 72]) (by simp [results,Tryz.results95,go_sem,c0,c1,c2,c3]) rfl (i6 R (by decide) (f9 HC0 _ _ _ _))
   have e46 : ((s[a + k].toNat : Int) == 46)=true:=by rw [h46]; rfl
   have H46:=hid (show ((s.data.toList.drop a).drop k).headD 0=46 by rw [List.drop_drop,r7 hlt]; exact UInt8.toNat_inj.1 (Int.ofNat.inj h46))
   clear h46
   cases hi1 : dgI s[a + k + 1].toNat
   case false =>
    have HN:=hid (show dH (s.data.toList.drop a)=k by
     rw [nE HR.out]
     exact .inr (by rw [List.drop_drop,← Nat.add_assoc,r7 hl1,dQ,hi1]; decide))
    clear HAll
    have T:=hid (show (s.extract a (a + (k))).data.toList=(s.data.toList.drop a).take (k) by rw [Q4,Nat.add_sub_cancel_left])
    have hte:=aO s a (a + (k)) (by omega)
    have hx0 : 0<(s.extract a (a + (k))).size:=by omega
    have hxd : dgC (s.extract a (a + (k)))[0]=true:=by
     have q:=Y4 hx0
     rw [T.out,T3 ha,List.take_cons (by omega)] at q
     rw [← q]; exact HD
    have CP:=hid (Y5 (s.extract a (a + (k))) W (by unfold maxLen; omega) hx0 hxd)
    rw [T.out] at CP
    have NV:=hid (bD ((s.data.toList.drop a).take (k)))
    clear hte hx0 hxd
    go_wp2_with (first | (go_at_call 94; refine (o0 _ _).mono ?_; rintro e w' ⟨rfl,rfl⟩; (first | rw [hi0] | rw [hi1])))
    (with_reducible refine Calls.mono CP.out ?_)
    rintro e w3 ⟨rfl,rfl⟩
    (try clear e46)
    rcases NV.out with ⟨v,q1,q2,q3⟩ | ⟨q1,q2,q3⟩
    ·rw [q2,q3]
     have ROK:=hid (show aA (s.data.toList.drop a) a=if O6 ((s.data.toList.drop (a + (k))).headD 0)=true then .ok (⟨6,[],v,a⟩,k) else .error 72 by rw [NN.out,HN.out,q1]; simp only [List.drop_drop])
     clear q1 q2 q3
     obtain ⟨c0,c1,c2,c3,f0,f1,f2,f3⟩:=HZ0.out.cells
     obtain ⟨t0,t1,t2,t3,g0,g1,g2,g3⟩:=HT0.out.cells
     have HC:=hid ((HC0.out.setCell (p:=⟨w.heap.size + 1,0,none⟩) (Nat.le_succ _) (.int .i64 6)).setCell (p:=⟨w.heap.size + 1,2,none⟩) (Nat.le_succ _) (.int .i64 v))
     have hlt : a + (k)<s.size:=by omega
     ·rw [r7 hlt] at ROK
      have NE:=hid (eJ (s[a + (k)]'hlt))
      cases h1 : smI (s[a + (k)]'hlt).toNat
      case true =>
       have R:=hid (ROK.out.trans (if_neg (by rw [NE.out,h1]; simp)))
       go_wp2_with (first | (go_at_call 92; refine (e8 _ _).mono ?_; rintro e w' ⟨rfl,rfl⟩; rw [h1]))
       exact bodyPost_ret (v:=.tuple #[.agg #[.int .i64 6,.string ⟨#[]⟩,.int .i64 v,.int .i64 a],.int .i64 0,.int .i64 72]) (by simp [results,Tryz.results95,go_sem,c0,c1,c2,c3]) rfl (i6 R (by decide) (f9 HC _ _ _ _))
      cases h2 : grI (s[a + (k)]'hlt).toNat
      case true =>
       have R:=hid (ROK.out.trans (if_neg (by rw [NE.out,h1,h2]; simp)))
       go_wp2_with (first | (go_at_call 92; refine (e8 _ _).mono ?_; rintro e w' ⟨rfl,rfl⟩; rw [h1]) | (go_at_call 97; refine (j8 _ _).mono ?_; rintro e w' ⟨rfl,rfl⟩; rw [h2]))
       exact bodyPost_ret (v:=.tuple #[.agg #[.int .i64 6,.string ⟨#[]⟩,.int .i64 v,.int .i64 a],.int .i64 0,.int .i64 72]) (by simp [results,Tryz.results95,go_sem,c0,c1,c2,c3]) rfl (i6 R (by decide) (f9 HC _ _ _ _))
      cases h3 : ((s[a + (k)]'hlt).toNat : Int) == 95
      case true =>
       have R:=hid (ROK.out.trans (if_neg (by rw [NE.out,h1,h2,h3]; simp)))
       go_wp2_with (first | (go_at_call 92; refine (e8 _ _).mono ?_; rintro e w' ⟨rfl,rfl⟩; rw [h1]) | (go_at_call 97; refine (j8 _ _).mono ?_; rintro e w' ⟨rfl,rfl⟩; rw [h2]))
       exact bodyPost_ret (v:=.tuple #[.agg #[.int .i64 6,.string ⟨#[]⟩,.int .i64 v,.int .i64 a],.int .i64 0,.int .i64 72]) (by simp [results,Tryz.results95,go_sem,c0,c1,c2,c3]) rfl (i6 R (by decide) (f9 HC _ _ _ _))
      cases h4 : ((s[a + (k)]'hlt).toNat : Int) == 46
      case true =>
       have R:=hid (ROK.out.trans (if_neg (by rw [NE.out,h1,h2,h3,h4]; simp)))
       go_wp2_with (first | (go_at_call 92; refine (e8 _ _).mono ?_; rintro e w' ⟨rfl,rfl⟩; rw [h1]) | (go_at_call 97; refine (j8 _ _).mono ?_; rintro e w' ⟨rfl,rfl⟩; rw [h2]))
       exact bodyPost_ret (v:=.tuple #[.agg #[.int .i64 6,.string ⟨#[]⟩,.int .i64 v,.int .i64 a],.int .i64 0,.int .i64 72]) (by simp [results,Tryz.results95,go_sem,c0,c1,c2,c3]) rfl (i6 R (by decide) (f9 HC _ _ _ _))
      have R:=hid (ROK.out.trans (if_pos (by rw [NE.out,h1,h2,h3,h4]; rfl)))
      go_wp2_with (first | (go_at_call 92; refine (e8 _ _).mono ?_; rintro e w' ⟨rfl,rfl⟩; rw [h1]) | (go_at_call 97; refine (j8 _ _).mono ?_; rintro e w' ⟨rfl,rfl⟩; rw [h2]))
      exact bodyPost_ret (v:=.tuple #[.agg #[.int .i64 6,.string ⟨#[]⟩,.int .i64 v,.int .i64 a],.int .i64 ((k : Nat) : Int),.int .i64 0]) (by simp [results,Tryz.results95,go_sem,c0,c1,c2,c3]) rfl (v7 R (f9 HC _ _ _ _) rfl rfl rfl rfl (by omega))
    ·rw [q2,q3]
     have R:=hid (show aA (s.data.toList.drop a) a=.error 72 by rw [NN.out,HN.out,q1])
     obtain ⟨c0,c1,c2,c3,f0,f1,f2,f3⟩:=HZ0.out.cells
     obtain ⟨t0,t1,t2,t3,g0,g1,g2,g3⟩:=HT0.out.cells
     clear q1 q2 q3
     go_wp2_with fail
     exact bodyPost_ret (v:=.tuple #[.agg #[.int .i64 0,.string ⟨#[]⟩,.int .i64 0,.int .i64 a],.int .i64 0,.int .i64 72]) (by simp [results,Tryz.results95,go_sem,c0,c1,c2,c3]) rfl (i6 R (by decide) (f9 HC0 _ _ _ _))
   have HK1:=hid (show dgC s[a + k + 1]=true by rw [dQ]; exact hi1)
   go_wp2_with (first | (go_at_call 94; refine (o0 _ _).mono ?_; rintro e w' ⟨rfl,rfl⟩; (first | rw [hi0] | rw [hi1])))
   clear hi0 hi1 e46
   go_loop [8] (fun n => ∃ m : Nat,k + 2≤m∧a + m≤s.size∧n=.int .i64 m∧Hid (∀ j (hj : a + j<s.size),k + 1≤j→j<m→dgC s[a + j]=true)) (fun n => s.size - (intOf n).toNat)
   case atStart => exact ⟨k + 2,by omega,by omega,by go_num,fun j hj h h' => by obtain rfl : j=k + 1:=(by omega); exact HK1⟩
   case round =>
    obtain ⟨m,hm1,hm,rfl,HAm⟩:=hrel
    by_cases hlm : a + m<s.size
    case neg =>
     have HN:=hid (show dH (s.data.toList.drop a)=m from zA HDL HR H46 (by omega) HAm hm (fun h => absurd h hlm))
     clear HAll HAm
     have T:=hid (show (s.extract a (a + (m))).data.toList=(s.data.toList.drop a).take (m) by rw [Q4,Nat.add_sub_cancel_left])
     have hte:=aO s a (a + (m)) (by omega)
     have hx0 : 0<(s.extract a (a + (m))).size:=by omega
     have hxd : dgC (s.extract a (a + (m)))[0]=true:=by
      have q:=Y4 hx0
      rw [T.out,T3 ha,List.take_cons (by omega)] at q
      rw [← q]; exact HD
     have CP:=hid (Y5 (s.extract a (a + (m))) W (by unfold maxLen; omega) hx0 hxd)
     rw [T.out] at CP
     have NV:=hid (bD ((s.data.toList.drop a).take (m)))
     clear hte hx0 hxd
     go_wp2_with fail
     (with_reducible refine Calls.mono CP.out ?_)
     rintro e w3 ⟨rfl,rfl⟩
     (try clear e46)
     rcases NV.out with ⟨v,q1,q2,q3⟩ | ⟨q1,q2,q3⟩
     ·rw [q2,q3]
      have ROK:=hid (show aA (s.data.toList.drop a) a=if O6 ((s.data.toList.drop (a + (m))).headD 0)=true then .ok (⟨6,[],v,a⟩,m) else .error 72 by rw [NN.out,HN.out,q1]; simp only [List.drop_drop])
      clear q1 q2 q3
      obtain ⟨c0,c1,c2,c3,f0,f1,f2,f3⟩:=HZ0.out.cells
      obtain ⟨t0,t1,t2,t3,g0,g1,g2,g3⟩:=HT0.out.cells
      have HC:=hid ((HC0.out.setCell (p:=⟨w.heap.size + 1,0,none⟩) (Nat.le_succ _) (.int .i64 6)).setCell (p:=⟨w.heap.size + 1,2,none⟩) (Nat.le_succ _) (.int .i64 v))
      ·rw [aG (by omega)] at ROK
       have R:=hid (ROK.out.trans (if_pos (by decide)))
       go_wp2_with fail
       exact bodyPost_ret (v:=.tuple #[.agg #[.int .i64 6,.string ⟨#[]⟩,.int .i64 v,.int .i64 a],.int .i64 ((m : Nat) : Int),.int .i64 0]) (by simp [results,Tryz.results95,go_sem,c0,c1,c2,c3]) rfl (v7 R (f9 HC _ _ _ _) rfl rfl rfl rfl (by omega))
     ·rw [q2,q3]
      have R:=hid (show aA (s.data.toList.drop a) a=.error 72 by rw [NN.out,HN.out,q1])
      obtain ⟨c0,c1,c2,c3,f0,f1,f2,f3⟩:=HZ0.out.cells
      obtain ⟨t0,t1,t2,t3,g0,g1,g2,g3⟩:=HT0.out.cells
      clear q1 q2 q3
      go_wp2_with fail
      exact bodyPost_ret (v:=.tuple #[.agg #[.int .i64 0,.string ⟨#[]⟩,.int .i64 0,.int .i64 a],.int .i64 0,.int .i64 72]) (by simp [results,Tryz.results95,go_sem,c0,c1,c2,c3]) rfl (i6 R (by decide) (f9 HC0 _ _ _ _))
    cases hi0 : dgI s[a + m].toNat
    case true =>
     have HK:=hid (show dgC s[a + m]=true by rw [dQ]; exact hi0)
     go_wp2_with (first | (go_at_call 94; refine (o0 _ _).mono ?_; rintro e w' ⟨rfl,rfl⟩; rw [hi0]))
     go_round
     case rel =>
      refine ⟨m + 1,by omega,by omega,by go_num,fun j hj h h' => ?_⟩
      by_cases e : j=m
      ·subst e; exact HK
      ·exact HAm.out j hj h (by omega)
     case measure => simp [intOf]; omega
    have HN:=hid (show dH (s.data.toList.drop a)=m from zA HDL HR H46 (by omega) HAm hm (fun h => by rw [dQ]; exact hi0))
    clear HAll HAm
    have T:=hid (show (s.extract a (a + (m))).data.toList=(s.data.toList.drop a).take (m) by rw [Q4,Nat.add_sub_cancel_left])
    have hte:=aO s a (a + (m)) (by omega)
    have hx0 : 0<(s.extract a (a + (m))).size:=by omega
    have hxd : dgC (s.extract a (a + (m)))[0]=true:=by
     have q:=Y4 hx0
     rw [T.out,T3 ha,List.take_cons (by omega)] at q
     rw [← q]; exact HD
    have CP:=hid (Y5 (s.extract a (a + (m))) W (by unfold maxLen; omega) hx0 hxd)
    rw [T.out] at CP
    have NV:=hid (bD ((s.data.toList.drop a).take (m)))
    clear hte hx0 hxd
    go_wp2_with (first | (go_at_call 94; refine (o0 _ _).mono ?_; rintro e w' ⟨rfl,rfl⟩; rw [hi0]))
    (with_reducible refine Calls.mono CP.out ?_)
    rintro e w3 ⟨rfl,rfl⟩
    (try clear e46)
    rcases NV.out with ⟨v,q1,q2,q3⟩ | ⟨q1,q2,q3⟩
    ·rw [q2,q3]
     have ROK:=hid (show aA (s.data.toList.drop a) a=if O6 ((s.data.toList.drop (a + (m))).headD 0)=true then .ok (⟨6,[],v,a⟩,m) else .error 72 by rw [NN.out,HN.out,q1]; simp only [List.drop_drop])
     clear q1 q2 q3
     obtain ⟨c0,c1,c2,c3,f0,f1,f2,f3⟩:=HZ0.out.cells
     obtain ⟨t0,t1,t2,t3,g0,g1,g2,g3⟩:=HT0.out.cells
     have HC:=hid ((HC0.out.setCell (p:=⟨w.heap.size + 1,0,none⟩) (Nat.le_succ _) (.int .i64 6)).setCell (p:=⟨w.heap.size + 1,2,none⟩) (Nat.le_succ _) (.int .i64 v))
     have hlt : a + (m)<s.size:=by omega
     ·rw [r7 hlt] at ROK
      have NE:=hid (eJ (s[a + (m)]'hlt))
      cases h1 : smI (s[a + (m)]'hlt).toNat
      case true =>
       have R:=hid (ROK.out.trans (if_neg (by rw [NE.out,h1]; simp)))
       go_wp2_with (first | (go_at_call 92; refine (e8 _ _).mono ?_; rintro e w' ⟨rfl,rfl⟩; rw [h1]))
       exact bodyPost_ret (v:=.tuple #[.agg #[.int .i64 6,.string ⟨#[]⟩,.int .i64 v,.int .i64 a],.int .i64 0,.int .i64 72]) (by simp [results,Tryz.results95,go_sem,c0,c1,c2,c3]) rfl (i6 R (by decide) (f9 HC _ _ _ _))
      cases h2 : grI (s[a + (m)]'hlt).toNat
      case true =>
       have R:=hid (ROK.out.trans (if_neg (by rw [NE.out,h1,h2]; simp)))
       go_wp2_with (first | (go_at_call 92; refine (e8 _ _).mono ?_; rintro e w' ⟨rfl,rfl⟩; rw [h1]) | (go_at_call 97; refine (j8 _ _).mono ?_; rintro e w' ⟨rfl,rfl⟩; rw [h2]))
       exact bodyPost_ret (v:=.tuple #[.agg #[.int .i64 6,.string ⟨#[]⟩,.int .i64 v,.int .i64 a],.int .i64 0,.int .i64 72]) (by simp [results,Tryz.results95,go_sem,c0,c1,c2,c3]) rfl (i6 R (by decide) (f9 HC _ _ _ _))
      cases h3 : ((s[a + (m)]'hlt).toNat : Int) == 95
      case true =>
       have R:=hid (ROK.out.trans (if_neg (by rw [NE.out,h1,h2,h3]; simp)))
       go_wp2_with (first | (go_at_call 92; refine (e8 _ _).mono ?_; rintro e w' ⟨rfl,rfl⟩; rw [h1]) | (go_at_call 97; refine (j8 _ _).mono ?_; rintro e w' ⟨rfl,rfl⟩; rw [h2]))
       exact bodyPost_ret (v:=.tuple #[.agg #[.int .i64 6,.string ⟨#[]⟩,.int .i64 v,.int .i64 a],.int .i64 0,.int .i64 72]) (by simp [results,Tryz.results95,go_sem,c0,c1,c2,c3]) rfl (i6 R (by decide) (f9 HC _ _ _ _))
      cases h4 : ((s[a + (m)]'hlt).toNat : Int) == 46
      case true =>
       have R:=hid (ROK.out.trans (if_neg (by rw [NE.out,h1,h2,h3,h4]; simp)))
       go_wp2_with (first | (go_at_call 92; refine (e8 _ _).mono ?_; rintro e w' ⟨rfl,rfl⟩; rw [h1]) | (go_at_call 97; refine (j8 _ _).mono ?_; rintro e w' ⟨rfl,rfl⟩; rw [h2]))
       exact bodyPost_ret (v:=.tuple #[.agg #[.int .i64 6,.string ⟨#[]⟩,.int .i64 v,.int .i64 a],.int .i64 0,.int .i64 72]) (by simp [results,Tryz.results95,go_sem,c0,c1,c2,c3]) rfl (i6 R (by decide) (f9 HC _ _ _ _))
      have R:=hid (ROK.out.trans (if_pos (by rw [NE.out,h1,h2,h3,h4]; rfl)))
      go_wp2_with (first | (go_at_call 92; refine (e8 _ _).mono ?_; rintro e w' ⟨rfl,rfl⟩; rw [h1]) | (go_at_call 97; refine (j8 _ _).mono ?_; rintro e w' ⟨rfl,rfl⟩; rw [h2]))
      exact bodyPost_ret (v:=.tuple #[.agg #[.int .i64 6,.string ⟨#[]⟩,.int .i64 v,.int .i64 a],.int .i64 ((m : Nat) : Int),.int .i64 0]) (by simp [results,Tryz.results95,go_sem,c0,c1,c2,c3]) rfl (v7 R (f9 HC _ _ _ _) rfl rfl rfl rfl (by omega))
    ·rw [q2,q3]
     have R:=hid (show aA (s.data.toList.drop a) a=.error 72 by rw [NN.out,HN.out,q1])
     obtain ⟨c0,c1,c2,c3,f0,f1,f2,f3⟩:=HZ0.out.cells
     obtain ⟨t0,t1,t2,t3,g0,g1,g2,g3⟩:=HT0.out.cells
     clear q1 q2 q3
     go_wp2_with fail
     exact bodyPost_ret (v:=.tuple #[.agg #[.int .i64 0,.string ⟨#[]⟩,.int .i64 0,.int .i64 a],.int .i64 0,.int .i64 72]) (by simp [results,Tryz.results95,go_sem,c0,c1,c2,c3]) rfl (i6 R (by decide) (f9 HC0 _ _ _ _))
 ·have h10 : a + 10≤s.size:=by
   unfold U3 at hda
   rw [Bool.and_eq_true,decide_eq_true_eq,HDL.out] at hda
   omega
  have NN:=hid (show aA (s.data.toList.drop a) a=match uL ((s.data.toList.drop a).take 10) with
   | none => .error 72
   | some v => if O6 (((s.data.toList.drop a).drop 10).headD 0)=true then .ok (⟨5,[],v,a⟩,10) else .error 72 by unfold aA; rw [if_pos hda]; rfl)
  have T:=hid (show (s.extract a (a + 10)).data.toList=(s.data.toList.drop a).take 10 by rw [Q4,Nat.add_sub_cancel_left])
  have CP:=hid (a0U (s.extract a (a + 10)) W)
  have DR:=hid (a5v (s.extract a (a + 10)))
  rw [T.out] at DR
  clear hda
  go_wp2_with fail
  (with_reducible refine Calls.mono CP.out ?_)
  rintro e w3 ⟨rfl,hb⟩
  have HC0:=hid (HB.out.trans (hb.mono HB.out.size))
  have HZ0:=hid (Z0.out.below hb)
  have HT0:=hid (T0.out.below hb)
  clear hb CP
  rcases DR.out with ⟨v,q1,q2,q3⟩ | ⟨q1,q3⟩
  ·rw [q2,q3]
   have ROK:=hid (show aA (s.data.toList.drop a) a=if O6 ((s.data.toList.drop (a + 10)).headD 0)=true then .ok (⟨5,[],v,a⟩,10) else .error 72 by rw [NN.out,q1]; simp only [List.drop_drop])
   clear q1 q2 q3
   obtain ⟨c0,c1,c2,c3,f0,f1,f2,f3⟩:=HZ0.out.cells
   obtain ⟨t0,t1,t2,t3,g0,g1,g2,g3⟩:=HT0.out.cells
   have HC:=hid ((HC0.out.setCell (p:=⟨w.heap.size + 1,0,none⟩) (Nat.le_succ _) (.int .i64 5)).setCell (p:=⟨w.heap.size + 1,2,none⟩) (Nat.le_succ _) (.int .i64 v))
   by_cases hlt : a + 10<s.size
   ·rw [r7 hlt] at ROK
    have NE:=hid (eJ (s[a + 10]'hlt))
    cases h1 : smI (s[a + 10]'hlt).toNat
    case true =>
     have R:=hid (ROK.out.trans (if_neg (by rw [NE.out,h1]; simp)))
     go_wp2_with (first | (go_at_call 92; refine (e8 _ _).mono ?_; rintro e w' ⟨rfl,rfl⟩; rw [h1]))
     exact bodyPost_ret (v:=.tuple #[.agg #[.int .i64 5,.string ⟨#[]⟩,.int .i64 v,.int .i64 a],.int .i64 0,.int .i64 72]) (by simp [results,Tryz.results95,go_sem,c0,c1,c2,c3]) rfl (i6 R (by decide) (f9 HC _ _ _ _))
    cases h2 : grI (s[a + 10]'hlt).toNat
    case true =>
     have R:=hid (ROK.out.trans (if_neg (by rw [NE.out,h1,h2]; simp)))
     go_wp2_with (first | (go_at_call 92; refine (e8 _ _).mono ?_; rintro e w' ⟨rfl,rfl⟩; rw [h1]) | (go_at_call 97; refine (j8 _ _).mono ?_; rintro e w' ⟨rfl,rfl⟩; rw [h2]))
     exact bodyPost_ret (v:=.tuple #[.agg #[.int .i64 5,.string ⟨#[]⟩,.int .i64 v,.int .i64 a],.int .i64 0,.int .i64 72]) (by simp [results,Tryz.results95,go_sem,c0,c1,c2,c3]) rfl (i6 R (by decide) (f9 HC _ _ _ _))
    cases h3 : ((s[a + 10]'hlt).toNat : Int) == 95
    case true =>
     have R:=hid (ROK.out.trans (if_neg (by rw [NE.out,h1,h2,h3]; simp)))
     go_wp2_with (first | (go_at_call 92; refine (e8 _ _).mono ?_; rintro e w' ⟨rfl,rfl⟩; rw [h1]) | (go_at_call 97; refine (j8 _ _).mono ?_; rintro e w' ⟨rfl,rfl⟩; rw [h2]))
     exact bodyPost_ret (v:=.tuple #[.agg #[.int .i64 5,.string ⟨#[]⟩,.int .i64 v,.int .i64 a],.int .i64 0,.int .i64 72]) (by simp [results,Tryz.results95,go_sem,c0,c1,c2,c3]) rfl (i6 R (by decide) (f9 HC _ _ _ _))
    cases h4 : ((s[a + 10]'hlt).toNat : Int) == 46
    case true =>
     have R:=hid (ROK.out.trans (if_neg (by rw [NE.out,h1,h2,h3,h4]; simp)))
     go_wp2_with (first | (go_at_call 92; refine (e8 _ _).mono ?_; rintro e w' ⟨rfl,rfl⟩; rw [h1]) | (go_at_call 97; refine (j8 _ _).mono ?_; rintro e w' ⟨rfl,rfl⟩; rw [h2]))
     exact bodyPost_ret (v:=.tuple #[.agg #[.int .i64 5,.string ⟨#[]⟩,.int .i64 v,.int .i64 a],.int .i64 0,.int .i64 72]) (by simp [results,Tryz.results95,go_sem,c0,c1,c2,c3]) rfl (i6 R (by decide) (f9 HC _ _ _ _))
    have R:=hid (ROK.out.trans (if_pos (by rw [NE.out,h1,h2,h3,h4]; rfl)))
    go_wp2_with (first | (go_at_call 92; refine (e8 _ _).mono ?_; rintro e w' ⟨rfl,rfl⟩; rw [h1]) | (go_at_call 97; refine (j8 _ _).mono ?_; rintro e w' ⟨rfl,rfl⟩; rw [h2]))
    exact bodyPost_ret (v:=.tuple #[.agg #[.int .i64 5,.string ⟨#[]⟩,.int .i64 v,.int .i64 a],.int .i64 10,.int .i64 0]) (by simp [results,Tryz.results95,go_sem,c0,c1,c2,c3]) rfl (v7 R (f9 HC _ _ _ _) rfl rfl rfl rfl (by omega))
   ·rw [aG (by omega)] at ROK
    have R:=hid (ROK.out.trans (if_pos (by decide)))
    go_wp2_with fail
    exact bodyPost_ret (v:=.tuple #[.agg #[.int .i64 5,.string ⟨#[]⟩,.int .i64 v,.int .i64 a],.int .i64 10,.int .i64 0]) (by simp [results,Tryz.results95,go_sem,c0,c1,c2,c3]) rfl (v7 R (f9 HC _ _ _ _) rfl rfl rfl rfl (by omega))
  ·rw [q3]
   have R:=hid (show aA (s.data.toList.drop a) a=.error 72 by rw [NN.out,q1])
   obtain ⟨c0,c1,c2,c3,f0,f1,f2,f3⟩:=HZ0.out.cells
   obtain ⟨t0,t1,t2,t3,g0,g1,g2,g3⟩:=HT0.out.cells
   clear q1 q3
   go_wp2_with fail
   exact bodyPost_ret (v:=.tuple #[.agg #[.int .i64 0,.string ⟨#[]⟩,.int .i64 0,.int .i64 a],.int .i64 0,.int .i64 72]) (by simp [results,Tryz.results95,go_sem,c0,c1,c2,c3]) rfl (i6 R (by decide) (f9 HC0 _ _ _ _))
end
end Go.Proofs.YteefedkmgnepmaaGreatDoor
