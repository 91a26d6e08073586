/-
  Laws that the proof rests on.
-/
import Derived.Test.YtppcfebnaieciaaGreatDoorF03
import Derived.Test.YtppcfebnaieciaaGreatDoorF02
import Derived.Test.YtppcfebnaieciaaGreatDoorRows
import Derived.Maps.Own
import Derived.Maps.Views
import Derived.Test.YtppcfebnaieciaaGreatDoorF01
import Derived.WalkKit
import Derived.WalkSpells
import Derived.WalkLawsBesides
import Derived.IntWalk
import Derived.Lib.Hide
import Derived.Lib.Strings
import Derived.Deep.LoopGhost
import Derived.Shelf.Abstract
import Derived.Sort.Walk7a
namespace Go.Proofs.YtppcfebnaieciaaGreatDoor
set_option maxRecDepth 100000
set_option maxHeartbeats 16000000
section
open Go.Maps (Keyed has IsMap)
def a4e (v : Value) : Option (DataW Value × List MemPlace):=some (.held v,[])
def gE (D : DataW Value) (kl : Lit) : Option Value:=match D.atKey kl .nil with
 | .held v => some v
 | _ => none
theorem kT {D : DataW Value} (hD : IsMap D) {k : Lit} (hk : WideAt.IsKeyLit k) (v : Value) : gE (D.put k (.held v)) k=some v:=by
 unfold gE; rw [Go.Maps.atKey_put_same hD hk]
theorem jA {D : DataW Value} {k k' : Lit} (h : k'≠k) (v : Value) : gE (D.put k (.held v)) k'=gE D k':=by
 unfold gE; rw [Go.Maps.atKey_put_other h]
def q7 (k : TypeId) (b n : Nat) (f : Lit→Option Value) (w : World) : Prop:=∃ D : DataW Value,w.ownsMap Tryz.prog k a4e b n D∧IsMap D∧∀ kl,gE D kl=f kl
theorem q7.made (k : TypeId) (w : World) : q7 k w.heap.size 0 (fun _ => none) (w.alloc (.map #[] 0)):=⟨_,World.ownsMap_made w Tryz.prog k a4e,Go.Maps.isMap_empty,fun _ => rfl⟩
theorem q7.kept {k : TypeId} {b n : Nat} {f : Lit→Option Value} {w w' : World} (h : q7 k b n f w) (hb : w'.heap[b]?=w.heap[b]?) : q7 k b n f w':=by
 obtain ⟨D,⟨es,clock,h1,h2⟩,h3⟩:=h
 exact ⟨D,⟨es,clock,hb.trans h1,h2⟩,h3⟩
theorem q7.lt {k : TypeId} {b n : Nat} {f : Lit→Option Value} {w : World} (h : q7 k b n f w) : b<w.heap.size:=by
 obtain ⟨D,h1,-⟩:=h
 exact h1.lt
theorem q7.update {k t e : TypeId} {b n : Nat} {f : Lit→Option Value} {w : World} (h : q7 k b n f w) (K : Keyed Tryz.prog k) (ht : Tryz.prog.underlying t=some (.map k e)) (hn : n<maxLen) {key : Value} {kl : Lit} (hkey : keyOf Tryz.prog k key=some kl) (v : Value) :
 ∃ w',(Instr.mapUpdate t (.map (some b)) key v).run Tryz.prog w=.ok () w'∧(∀ f' : Lit→Option Value,f' kl=some v→(∀ x,x≠kl→f' x=f x)→q7 k b (n + 1) f' w')∧w.grownBy w' (some b):=by
 obtain ⟨D,h1,h2,h3⟩:=h
 obtain ⟨w',r1,r2,r3⟩:=h1.update K ht hn hkey (d:=.held v) (ps:=[]) (val:=v) rfl
 refine ⟨w',r1,fun f' e1 e2 => ⟨_,r2,h2.put _ _,fun x => ?_⟩,r3⟩
 by_cases e : x=kl
 ·subst e; rw [kT h2 (K.key hkey),e1]
 ·rw [jA e,h3,e2 x e]
theorem q7.look {k t e : TypeId} {b n : Nat} {f : Lit→Option Value} {w : World} (h : q7 k b n f w) (K : Keyed Tryz.prog k) (ht : Tryz.prog.underlying t=some (.map k e)) {z : Value} (hz : (zeroValue e).run Tryz.prog w=.ok z w) {key : Value} {kl : Lit} (hkey : keyOf Tryz.prog k key=some kl) :
 (Instr.lookup t (.map (some b)) key true).run Tryz.prog w=.ok (.tuple #[(f kl).getD z,.bool (f kl).isSome]) w∧(Instr.lookup t (.map (some b)) key false).run Tryz.prog w=.ok ((f kl).getD z) w:=by
 obtain ⟨D,⟨es,clock,hb,F,-,rfl⟩,h2,h3⟩:=h
 have hat : ∀ c : Bool,(Instr.lookup t (.map (some b)) key c).run Tryz.prog w=.ok (if c then .tuple #[(f kl).getD z,.bool (f kl).isSome] else (f kl).getD z) w:=fun c => by
  rcases Go.Maps.fit_look c K ht hz hb F hkey with ⟨hrun,_,hat⟩ | ⟨e0,y,_,_,hrun,hRv,hat,_⟩
  ·have : f kl=none:=by rw [← h3]; unfold gE; rw [hat]
   rw [hrun,this]; rfl
  ·have : f kl=some e0.val:=by
    rw [← h3]; unfold gE; rw [hat]
    cases hRv
    rfl
   rw [hrun,this]; rfl
 exact ⟨hat true,hat false⟩
end
section
open Go.RowKit
theorem a7 (w : World) (o : Obj) : Below w.heap.size w (w.alloc o):=(Below.refl _ _).alloc (Nat.le_refl _) _
theorem dH {k : IntKind} {a b : Int} (h : a=b) : Ending.returned (.int k a)=.returned (.int k b):=by rw [h]
theorem y9 {a b : Bool} (h : a=b) : Ending.returned (.bool a)=.returned (.bool b):=by rw [h]
theorem a5j (w : World) (x0 x1 x2 x3 x4 : Value) : (w.alloc (.cells #[x0,x1,x2,x3,x4] 24)).cell? ⟨w.heap.size,0,none⟩=some x0∧(w.alloc (.cells #[x0,x1,x2,x3,x4] 24)).cell? ⟨w.heap.size,1,none⟩=some x1 ∧
 (w.alloc (.cells #[x0,x1,x2,x3,x4] 24)).cell? ⟨w.heap.size,2,none⟩=some x2∧(w.alloc (.cells #[x0,x1,x2,x3,x4] 24)).cell? ⟨w.heap.size,3,none⟩=some x3∧(w.alloc (.cells #[x0,x1,x2,x3,x4] 24)).cell? ⟨w.heap.size,4,none⟩=some x4:=by
 refine ⟨?_,?_,?_,?_,?_⟩ <;> simp
end
section
open Go.RowKit
theorem uT (w : World) (o : Obj) : Below w.heap.size w (w.alloc o):=(Below.refl _ _).alloc (Nat.le_refl _) _
theorem a4F (w : World) (o o' : Obj) : Below w.heap.size w ((w.alloc o).alloc o'):=(uT w o).alloc (by simp) _
theorem qY {k : IntKind} {a b : Int} (h : a=b) : Ending.returned (.int k a)=.returned (.int k b):=by rw [h]
theorem yN {k : IntKind} {a b : Int} (h : a=b) : Value.int k a=Value.int k b:=by rw [h]
theorem sH (y : Int) (w : World) (h0 : 0≤y) (h1 : y≤100000) :
 Calls Tryz.prog 211 #[.int .i64 y] w fun e w' => e=.returned (.bool (Cal.lp y))∧w=w':=by
 go_enter Tryz.func211,Tryz.ntmps211
 go_wp2
 all_goals go_ret
 all_goals exact ⟨by simp [Cal.lp, *],rfl⟩
theorem iF (y : Int) (w : World) (h0 : 0≤y) (h1 : y≤100000) :
 Calls Tryz.prog 192 #[.int .i64 y] w fun e w' => e=.returned (.bool (Cal.lp y))∧w=w':=by
 go_enter Tryz.func192,Tryz.ntmps192
 go_wp2
 all_goals go_ret
 all_goals exact ⟨by simp [Cal.lp, *],rfl⟩
theorem sD (y : Int) (w : World) (h0 : 0≤y) (h1 : y≤100000) :
 Calls Tryz.prog 203 #[.int .i64 y] w fun e w' => e=.returned (.int .i64 (365 + Cal.lpI y))∧w=w':=by
 cases hl : Cal.lp y
 all_goals
  go_enter Tryz.func203,Tryz.ntmps203
  go_wp2_with (go_at_call 211; refine (sH _ _ (by omega) (by omega)).mono ?_; rintro e w' ⟨rfl,rfl⟩)
  go_ret
  exact ⟨by simp [Cal.lpI,hl],rfl⟩
theorem oB (y : Int) (w : World) (h0 : 1≤y) (h1 : y≤100000) :
 Calls Tryz.prog 202 #[.int .i64 y] w fun e w' => e=.returned (.int .i64 (Cal.ahead y))∧w=w':=by
 go_enter Tryz.func202,Tryz.ntmps202
 go_wp2
 go_ret
 exact ⟨rfl,rfl⟩
theorem uA (y : Int) (w : World) (h0 : 0≤y) (h1 : y≤100000) :
 Calls Tryz.prog 204 #[.int .i64 y] w fun e w' => e=.returned (.agg #[.int .i64 31,.int .i64 (28 + Cal.lpI y),.int .i64 31,.int .i64 30,.int .i64 31,.int .i64 30,.int .i64 31,.int .i64 31,.int .i64 30,.int .i64 31,.int .i64 30,.int .i64 31])∧Below w.heap.size w w':=by
 cases hl : Cal.lp y
 all_goals
  go_enter Tryz.func204,Tryz.ntmps204
  go_wp2_with (go_at_call 211; refine (sH _ _ (by omega) (by omega)).mono ?_; rintro e w' ⟨rfl,rfl⟩)
  refine bodyPost_ret (v:=.agg #[.int .i64 31,.int .i64 (28 + Cal.lpI y),.int .i64 31,.int .i64 30,.int .i64 31,.int .i64 30,.int .i64 31,.int .i64 31,.int .i64 30,.int .i64 31,.int .i64 30,.int .i64 31]) ?_ rfl ⟨rfl,a4F _ _ _⟩
  simp [results,Tryz.results204,go_sem,Cal.lpI,hl]
theorem a5s (y : Int) {m : Int} (h2 : 1≤m) (h3 : m≤12) (hm : ¬ m=2) : [Value.int IntKind.i64 31,Value.int IntKind.i64 28,Value.int IntKind.i64 31,Value.int IntKind.i64 30,Value.int IntKind.i64 31,Value.int IntKind.i64 30,Value.int IntKind.i64 31,Value.int IntKind.i64 31,Value.int IntKind.i64 30,Value.int IntKind.i64 31,Value.int IntKind.i64 30,Value.int IntKind.i64 31][m.toNat - 1]?=some (.int .i64 (Cal.mlen y m)):=by
 rcases Cal.months_cases h2 h3 with e | e | e | e | e | e | e | e | e | e | e | e <;> subst e <;> first | rfl | omega
theorem dT (y m : Int) (w : World) (h0 : 0≤y) (h1 : y≤100000) (h2 : 1≤m) (h3 : m≤12) :
 Calls Tryz.prog 191 #[.int .i64 y,.int .i64 m] w fun e w' => e=.returned (.int .i64 (Cal.mlen y m))∧Below w.heap.size w w':=by
 by_cases hm : m=2
 ·subst hm
  cases hl : Cal.lp y
  all_goals
   go_enter Tryz.func191,Tryz.ntmps191
   go_wp2_with (go_at_call 192; refine (iF _ _ (by omega) (by omega)).mono ?_; rintro e w' ⟨rfl,rfl⟩)
   go_ret
   exact ⟨by simp [Cal.mlen,Cal.lpI,hl],uT _ _⟩
 ·have hg:=a5s y h2 h3 hm
  go_enter Tryz.func191,Tryz.ntmps191
  go_wp2_with (go_at_call 192; refine (iF _ _ (by omega) (by omega)).mono ?_; rintro e w' ⟨rfl,rfl⟩)
  go_ret
  exact ⟨rfl,uT _ _⟩
end
section
open Lib (hid)
open Go.RowKit
theorem a4k (y m d : Int) (w : World) (h : ¬ Cal.ok y m d) :
 Calls Tryz.prog 175 #[.int .i64 y,.int .i64 m,.int .i64 d] w fun e w' => e=.returned (.tuple #[.int .i64 0,.int .i64 30])∧Below w.heap.size w w':=by
 by_cases h1 : y<1900
 ·clear h
  go_enter Tryz.func175,Tryz.ntmps175
  go_wp2
  go_ret2
  exact ⟨rfl,Below.refl _ _⟩
 by_cases h2 : 2099<y
 ·clear h
  go_enter Tryz.func175,Tryz.ntmps175
  go_wp2
  go_ret2
  exact ⟨rfl,Below.refl _ _⟩
 by_cases h3 : m<1
 ·clear h
  go_enter Tryz.func175,Tryz.ntmps175
  go_wp2
  go_ret2
  exact ⟨rfl,Below.refl _ _⟩
 by_cases h4 : 12<m
 ·clear h
  go_enter Tryz.func175,Tryz.ntmps175
  go_wp2
  go_ret2
  exact ⟨rfl,Below.refl _ _⟩
 by_cases h5 : d<1
 ·clear h
  go_enter Tryz.func175,Tryz.ntmps175
  go_wp2
  go_ret2
  exact ⟨rfl,Below.refl _ _⟩
 have h6 : Cal.mlen y m<d:=by unfold Cal.ok at h; omega
 clear h
 go_enter Tryz.func175,Tryz.ntmps175
 go_wp2_with (go_at_call 191; refine (dT _ _ _ (by omega) (by omega) (by omega) (by omega)).mono ?_; rintro e w' ⟨rfl,hb⟩)
 go_ret2
 exact ⟨rfl,hb⟩
theorem a4Y (y m d : Int) (w : World) (h : Cal.ok y m d) :
 Calls Tryz.prog 175 #[.int .i64 y,.int .i64 m,.int .i64 d] w fun e w' => e=.returned (.tuple #[.int .i64 (Cal.num y m d),.int .i64 0])∧Below w.heap.size w w':=by
 obtain ⟨h1,h2,h3,h4,h5,h6⟩:=h
 have ml:=Cal.mlen_bd y m
 go_enter Tryz.func175,Tryz.ntmps175
 go_wp2_with (go_at_call 191; refine (dT _ _ _ (by omega) (by omega) (by omega) (by omega)).mono ?_; rintro e w' ⟨rfl,hb⟩)
 go_loop [8,9] (fun n t => ∃ z : Int,1900≤z∧z≤y∧t=.int .i64 z∧n=.int .i64 (Cal.ahead z)) (fun _ t => (2100 - intOf t).toNat)
 case atStart => exact ⟨1900,by omega,h1,rfl,rfl⟩
 case round =>
  obtain ⟨z,hz1,hz2,rfl,rfl⟩:=hrel
  have hb1:=Cal.ahead_bd hz1 (by omega)
  have hs:=hid (Cal.ahead_succ z)
  by_cases hlt : z<y
  ·cases hl : Cal.lp z
   all_goals
    go_wp2_with (go_at_call 192; refine (iF _ _ (by omega) (by omega)).mono ?_; rintro e w' ⟨rfl,rfl⟩)
    go_round
    case rel => exact ⟨z + 1,by omega,by omega,by go_num,by rw [hs.out]; simp [Cal.lpI,hl]⟩
    case measure => simp [intOf]; omega
  ·obtain rfl : z=y:=by omega
   clear hs hlt
   have cb:=Cal.cum_bd z h3 (by omega)
   go_wp2
   go_loopw [8,11] (fun n k wr => ∃ j : Int,1≤j∧j≤m∧k=.int .i64 j∧n=.int .i64 (Cal.ahead z + Cal.cum z j)∧Below w.heap.size w wr) (fun _ k _ => (13 - intOf k).toNat)
   case atStart => exact ⟨1,by omega,h3,rfl,by rw [Cal.cum_1]; go_num,hb⟩
   case round =>
    obtain ⟨j,hj1,hj2,rfl,rfl,hb2⟩:=hrel
    clear hb
    have hB:=hid hb2
    clear hb2
    have cj:=Cal.cum_bd z hj1 (by omega)
    have mj:=Cal.mlen_bd z j
    have hs:=hid (Cal.cum_succ z hj1 (by omega))
    by_cases hlt : j<m
    ·go_wp2_with (go_at_call 191; refine (dT _ _ _ (by omega) (by omega) (by omega) (by omega)).mono ?_; rintro e w' ⟨rfl,hb⟩)
     go_roundw
     case rel => exact ⟨j + 1,by omega,by omega,by go_num,by rw [hs.out]; go_num,hB.out.trans (hb.mono hB.out.size)⟩
     case measure => simp [intOf]; omega
    ·obtain rfl : j=m:=by omega
     go_wp2
     go_ret2
     exact ⟨by simp [Cal.num],hB⟩
end
section
open Lib (hid)
open Go.RowKit
theorem a3V (y : Int) {k : Nat} (h3 : k<12) (w : World) : (Instr.index 239 (.agg #[.int .i64 31,.int .i64 (28 + Cal.lpI y),.int .i64 31,.int .i64 30,.int .i64 31,.int .i64 30,.int .i64 31,.int .i64 31,.int .i64 30,.int .i64 31,.int .i64 30,.int .i64 31]) (.int .i64 k)).run Tryz.prog w=.ok (.int .i64 (Cal.mlen y ((k : Int) + 1))) w:=by
 have c : k=0∨k=1∨k=2∨k=3∨k=4∨k=5∨k=6∨k=7∨k=8∨k=9∨k=10∨k=11:=by omega
 rcases c with e | e | e | e | e | e | e | e | e | e | e | e <;> subst e <;> (show _=_) <;> kernel_rfl
theorem a5g (k : Int) (w : World) (h : k<0∨73048<k) :
 Calls Tryz.prog 188 #[.int .i64 k] w fun e w' => e=.returned (.tuple #[.int .i64 0,.int .i64 0,.int .i64 0,.int .i64 30])∧Below w.heap.size w w':=by
 by_cases h1 : k<0
 all_goals
  go_enter Tryz.func188,Tryz.ntmps188
  go_wp2
  refine bodyPost_ret (v:=.tuple #[.int .i64 0,.int .i64 0,.int .i64 0,.int .i64 30]) (by simp [results,Tryz.results188,go_sem]) rfl ⟨rfl,Below.refl _ _⟩
theorem a1z (y m d k : Int) (w : World) (h : Cal.ok y m d) (hk : Cal.num y m d=k) :
 Calls Tryz.prog 188 #[.int .i64 k] w fun e w' => e=.returned (.tuple #[.int .i64 y,.int .i64 m,.int .i64 d,.int .i64 0])∧Below w.heap.size w w':=by
 have nb:=Cal.num_bd h
 have ny:=Cal.num_lt_year h
 have ml:=Cal.mlen_bd y m
 have H:=hid h
 obtain ⟨h1,h2,h3,h4,h5,h6⟩:=h
 subst hk
 have g1 : Cal.ahead (1900 + Cal.num y m d / 366)≤Cal.num y m d:=by unfold Cal.ahead; omega
 have g2:=Cal.year_le g1 ny.2
 go_enter Tryz.func188,Tryz.ntmps188
 go_wp2
 have G : Hid (Cal.ahead y≤Cal.num y m d∧Cal.num y m d<Cal.ahead (y + 1)):=ny
 clear ny g1
 go_loop [8] (fun t => ∃ z : Int,1900≤z∧z≤y∧t=.int .i64 z) (fun t => (2100 - intOf t).toNat)
 case atStart => exact ⟨_,by omega,g2,rfl⟩
 case round =>
  obtain ⟨z,hz1,hz2,rfl⟩:=hrel
  have ab:=Cal.ahead_bd hz1 (by omega)
  have lb:=Cal.lpI_b z
  have hs:=hid (Cal.ahead_succ z)
  clear g2
  by_cases e : z<y
  ·have hle : 365 + Cal.lpI z≤Cal.num y m d - Cal.ahead z:=by have:=Cal.ahead_mono (show z + 1≤y by omega); have:=hs.out; have:=G.out; omega
   go_wp2_with (first | (go_at_call 202; refine (oB _ _ (by omega) (by omega)).mono ?_; rintro e w' ⟨rfl,rfl⟩) | (go_at_call 203; refine (sD _ _ (by omega) (by omega)).mono ?_; rintro e w' ⟨rfl,rfl⟩))
   go_round
   case rel => exact ⟨z + 1,by omega,by omega,rfl⟩
   case measure => simp [intOf]; omega
  ·obtain rfl : z=y:=by omega
   have hlt : Cal.num z m d - Cal.ahead z<365 + Cal.lpI z:=by have:=hs.out; have:=G.out; omega
   have hn:=hid (show Cal.num z m d - Cal.ahead z=Cal.cum z m + d - 1 by unfold Cal.num; omega)
   clear hs e
   have cb:=Cal.cum_bd z h3 (by omega)
   go_wp2_with (first | (go_at_call 202; refine (oB _ _ (by omega) (by omega)).mono ?_; rintro e w' ⟨rfl,rfl⟩) | (go_at_call 203; refine (sD _ _ (by omega) (by omega)).mono ?_; rintro e w' ⟨rfl,rfl⟩) | (go_at_call 204; refine (uA _ _ (by omega) (by omega)).mono ?_; rintro e w' ⟨rfl,hb⟩))
   go_loop [0,38] (fun r i => ∃ k : Nat,(k : Int)≤m - 1∧i=.int .i64 k∧r=.int .i64 (Cal.cum z m + d - 1 - Cal.cum z (k + 1))) (fun _ i => (13 - intOf i).toNat)
   case atStart => exact ⟨0,by omega,rfl,yN (by rw [show ((0 : Nat) : Int) + 1=1 from rfl,Cal.cum_1,hn.out]; omega)⟩
   case round =>
    obtain ⟨k,hk,rfl,rfl⟩:=hrel
    have hs:=hid (Cal.cum_succ z (m:=(k : Int) + 1) (by omega) (by omega))
    have hc:=Cal.cum_bd z (m:=(k : Int) + 1) (by omega) (by omega)
    have hm:=Cal.mlen_bd z ((k : Int) + 1)
    have hg:=a3V z (k:=k) (by omega)
    by_cases hlt2 : (k : Int)<m - 1
    ·have hle : Cal.mlen z ((k : Int) + 1)≤Cal.cum z m + d - 1 - Cal.cum z (k + 1):=by
      have:=Cal.cum_mono z (show 1≤(k : Int) + 1 + 1 by omega) (show (k : Int) + 1 + 1≤m by omega) (by omega)
      have:=hs.out
      omega
     go_wp2
     go_round
     case rel => exact ⟨k + 1,by omega,by go_num,yN (by rw [show (((k + 1 : Nat) : Int) + 1)=(k : Int) + 1 + 1 by omega,hs.out]; omega)⟩
     case measure => simp [intOf]; omega
    ·obtain rfl : m=k + 1:=by omega
     go_wp2
     refine bodyPost_ret (v:=.tuple #[.int .i64 z,.int .i64 (k + 1),.int .i64 d,.int .i64 0]) ?_ rfl ⟨rfl,hb⟩
     simp [results,Tryz.results188,go_sem]
     omega
end
section
open Lib (hid)
open Go.RowKit Go.Shelf
theorem eQ {B : Nat} {A C : World} (h : Below B A C) (p : Addr) (v : Value) : Below B (A.setCell p v) (C.setCell p v) :=
 ⟨h.os,h.tape,h.output,by simpa [World.setCell] using h.size,fun k hk => by
  have e:=h.block k hk
  simp only [World.setCell,Array.getElem?_modify]
  rw [e]⟩
theorem xQ {B : Nat} {A C D : World} {L : Nat} {v v' : Value} (h : Below B (A.setCell ⟨L,0,none⟩ v) C) (h' : Below B (C.setCell ⟨L,0,none⟩ v') D) : Below B (A.setCell ⟨L,0,none⟩ v') D:=by
 have:=eQ h ⟨L,0,none⟩ v'
 rw [Go.Proofs.setCell_setCell] at this
 exact this.trans h'
theorem sA {n₀ L : Nat} {w : World} {t : Nd} {a : Option Addr} {cap : Nat} (h : t.hold n₀ w a cap) (hL : n₀≤L) (v : Value) : t.hold n₀ (w.setCell ⟨L,0,none⟩ v) a cap :=
 h.below ((Below.refl n₀ w).setCell (p:=⟨L,0,none⟩) hL v)
abbrev xT (L K : Nat) : Value:=.func (.func 114) #[] #[.pointer (some ⟨L,0,none⟩),.pointer (some ⟨K,0,none⟩)]
structure Cnt (L K : Nat) (m : Int) (w : World) : Prop where
 lt : L<w.heap.size
 lk : K<w.heap.size
 ne : L≠K
 cell : w.cell? ⟨L,0,none⟩=some (.int .i64 m)
 froz : w.frozen? ⟨L,0,none⟩=false
 own : w.cell? ⟨K,0,none⟩=some (xT L K)
theorem Cnt.set {L K : Nat} {m : Int} {w : World} (h : Cnt L K m w) (y : Int) : Cnt L K y (w.setCell ⟨L,0,none⟩ (.int .i64 y)) :=
 ⟨by simpa [World.setCell] using h.lt,by simpa [World.setCell] using h.lk,h.ne,World.cell?_setCell_same' _ _ _ (by rw [h.cell]; rfl),by rw [World.frozen?_setCell]; exact h.froz,by rw [World.cell?_setCell_other _ _ _ _ (by simp; exact fun e => h.ne e)]; exact h.own⟩
theorem Cnt.below {L K : Nat} {m : Int} {w w' : World} (h : Cnt L K m w) {B : Nat} (hb : Below B w w') (hL : L<B) (hK : K<B) : Cnt L K m w' :=
 ⟨Nat.lt_of_lt_of_le h.lt hb.size,Nat.lt_of_lt_of_le h.lk hb.size,h.ne,(hb.cell (p:=⟨L,0,none⟩) hL).trans h.cell,(hb.frozen (p:=⟨L,0,none⟩) hL).trans h.froz,(hb.cell (p:=⟨K,0,none⟩) hK).trans h.own⟩
def uF (t : Nd) (L K n₀ : Nat) : Prop:=∀ (a : Option Addr) (cap : Nat) (m : Int) (w : World),t.hold n₀ w a cap→n₀≤L→n₀≤K→Cnt L K m w→0≤m→m≤8192 →
 Calls Tryz.prog 114 #[.agg #[.int .i64 t.kind,.string t.text,.int .i64 t.n,.slice a t.kids.length cap,.int .i64 t.place],.pointer (some ⟨L,0,none⟩),.pointer (some ⟨K,0,none⟩)] w fun e w' => e=.returned (.bool (decide (0≤Q2 t m)))∧Below w.heap.size (w.setCell ⟨L,0,none⟩ (.int .i64 (Q2 t m))) w'
theorem a2H (t : Nd) (L K n₀ : Nat) (ih : uF t L K n₀) (a : Option Addr) (cap : Nat) (m : Int) (w : World) (hh : t.hold n₀ w a cap) (hL : n₀≤L) (hK : n₀≤K) (hc : Cnt L K m w) (h0 : 0≤m) (h1 : m≤8192) :
 Calls Tryz.prog 116 #[.agg #[.int .i64 t.kind,.string t.text,.int .i64 t.n,.slice a t.kids.length cap,.int .i64 t.place],.pointer (some ⟨K,0,none⟩)] w fun e w' => e=.returned (.bool (!decide (0≤Q2 t m)))∧Below w.heap.size (w.setCell ⟨L,0,none⟩ (.int .i64 (Q2 t m))) w':=by
 have eg:=enters_of Tryz.func114 (by kernel_rfl) rfl
 have HH:=hid hh
 have HC:=hid hc
 have IH:=hid ih
 have ow:=hc.own
 have lk:=hc.lk
 have hn : n₀≤w.heap.size:=Nat.le_trans hL (Nat.le_of_lt hc.lt)
 clear hh hc ih
 go_enter Tryz.func116,Tryz.ntmps116
 go_wp2_with fail
 have hb1:=a7 w (.cells #[.int .i64 t.kind,.string t.text,.int .i64 t.n,.slice a t.kids.length cap,.int .i64 t.place] 24)
 refine Calls.mono (IH.out a cap m _ (HH.out.below (hb1.mono hn)) hL hK (HC.out.below hb1 HC.out.lt HC.out.lk) h0 h1) ?_
 rintro e w' ⟨rfl,hb⟩
 have HB:=hid ((eQ hb1 ⟨L,0,none⟩ (.int .i64 (Q2 t m))).trans (hb.mono (by simp)))
 clear hb hb1
 go_wp2_with fail
 go_ret
 exact ⟨rfl,HB⟩
theorem vY (t : Nd) (L K n₀ : Nat) (ih : ∀ k (hk : k<t.kids.length),uF t.kids[k] L K n₀) (a : Option Addr) (cap : Nat) (m : Int) (w : World) (hh : t.hold n₀ w a cap) (hL : n₀≤L) (hK : n₀≤K) (hc : Cnt L K m w) (h0 : 0≤m) (h1 : m≤8192)
 (hw : w.setCell ⟨L,0,none⟩ (.int .i64 m)=w) :
 Calls Tryz.prog 77 #[.slice a t.kids.length cap,.func (.func 116) #[] #[.pointer (some ⟨K,0,none⟩)]] w fun e w' => ∃ r : Int,e=.returned (.int .i64 r)∧(0≤r↔y8 t.kids m<0)∧Below w.heap.size (w.setCell ⟨L,0,none⟩ (.int .i64 (y8 t.kids m))) w':=by
 have eg:=enters_of Tryz.func116 (by kernel_rfl) rfl
 have hkl:=hh.bounds.2.2.2.2
 have hm:=hkl
 unfold maxLen at hm
 have HH:=hid hh
 have HC:=hid hc
 have IH:=hid ih
 have HW:=hid hw
 have hn : n₀≤w.heap.size:=Nat.le_trans hL (Nat.le_of_lt hc.lt)
 clear hh hc ih hw
 go_enter Tryz.func77,Tryz.ntmps77
 go_wp2_with fail
 go_loopw [8] (fun i wr => ∃ (k : Nat) (z : Int),k≤t.kids.length∧i=.int .i64 k∧0≤z∧z≤8192∧Hid (y8 (t.kids.drop k) z=y8 t.kids m)∧Hid (Below w.heap.size (w.setCell ⟨L,0,none⟩ (.int .i64 z)) wr)) (fun i _ => (t.kids.length - (intOf i).toNat))
 case atStart => exact ⟨0,m,Nat.zero_le _,rfl,h0,h1,rfl,by show Below _ _ _; rw [HW.out]; exact Below.refl _ _⟩
 case round =>
  obtain ⟨k,z,hk,rfl,hz0,hz1,HI,HBr⟩:=hrel
  have hnr : w.heap.size≤wr.heap.size:=by have:=HBr.out.size; simpa [World.setCell] using this
  by_cases hlt : k<t.kids.length
  ·have CR:=hid ((HC.out.set z).below HBr HC.out.lt HC.out.lk)
   obtain ⟨b,off,x,cx,A⟩:=((sA HH hL (.int .i64 z)).below (HBr.out.mono hn)).kid k hlt
   obtain ⟨rfl,hb0,c0,c1,c2,c3,c4,hk1⟩:=A
   have HK:=hid hk1
   clear hk1
   have R:=tV t.kids[k] z hz0
   have S:=hid (tS t.kids k hlt z)
   by_cases hl : 0≤Q2 t.kids[k] z
   all_goals
    go_wp2_with fail
    refine Calls.mono (a2H t.kids[k] L K n₀ (IH.out k hlt) x cx z _ HK hL hK CR hz0 hz1) ?_
    rintro e w' ⟨rfl,hb⟩
    have HB:=hid (xQ HBr (hb.mono hnr))
    clear hb
   ·rw [decide_eq_true hl]
    go_wp2_with fail
    go_roundw
    case rel => exact ⟨k + 1,_,by omega,by go_num,hl,by omega,by show _=_; rw [← HI.out,S.out,if_pos hz0],HB⟩
    case measure => simp [intOf]; omega
   ·rw [decide_eq_false (show ¬ 0≤Q2 t.kids[k] z by omega)]
    have F:=hid (show y8 t.kids m=Q2 t.kids[k] z by rw [← HI.out,S.out,if_pos hz0,fJ _ (show ¬ 0≤Q2 t.kids[k] z by omega)])
    go_wp2_with fail
    go_ret
    exact ⟨k,rfl,by rw [F.out]; omega,by rw [F.out]; exact HB⟩
  ·have S:=hid (vM t.kids k hlt z)
   have F:=hid (show y8 t.kids m=z by rw [← HI.out,S.out])
   go_wp2_with fail
   go_ret
   exact ⟨-1,rfl,by rw [F.out]; omega,by rw [F.out]; exact HBr⟩
theorem nR (t : Nd) (L K n₀ : Nat) (ih : ∀ k (hk : k<t.kids.length),uF t.kids[k] L K n₀) (a : Option Addr) (cap : Nat) (m : Int) (w : World) (hh : t.hold n₀ w a cap) (hL : n₀≤L) (hK : n₀≤K) (hc : Cnt L K m w) (h0 : 0≤m) (h1 : m≤8192)
 (hw : w.setCell ⟨L,0,none⟩ (.int .i64 m)=w) :
 Calls Tryz.prog 115 #[.slice a t.kids.length cap,.func (.func 116) #[] #[.pointer (some ⟨K,0,none⟩)]] w fun e w' => e=.returned (.bool (decide (y8 t.kids m<0)))∧Below w.heap.size (w.setCell ⟨L,0,none⟩ (.int .i64 (y8 t.kids m))) w':=by
 have C:=hid (vY t L K n₀ ih a cap m w hh hL hK hc h0 h1 hw)
 clear ih hh hc hw
 go_enter Tryz.func115,Tryz.ntmps115
 go_wp2_with fail
 refine Calls.mono C.out ?_
 rintro e w' ⟨r,rfl,hr,hb⟩
 have HB:=hid hb
 have HR:=hid hr
 clear hb hr
 go_wp2_with fail
 go_ret
 exact ⟨y9 (by rw [Bool.eq_iff_iff]; simp only [decide_eq_true_eq]; exact HR),HB⟩
theorem a0Q (N : Nat) : ∀ (t : Nd),SizeOf.sizeOf t<N→∀ (L K n₀ : Nat),uF t L K n₀:=by
 induction N with
 | zero => intro t ht; omega
 | succ N ih =>
 intro t ht L K n₀ a cap m w hh hL hK hc h0 h1
 have hk : ∀ (k : Nat) (hk : k<t.kids.length),uF t.kids[k] L K n₀:=by
  cases t with
  | mk kind s n ks p => exact fun k hk => ih _ (eD hk ht) L K n₀
 have E:=hid (show Q2 t m=y8 t.kids (m - 1) by cases t; rw [Q2]; rfl)
 have IH:=hid hk
 have HH:=hid hh
 have HC:=hid hc
 have hn : n₀≤w.heap.size:=Nat.le_trans hL (Nat.le_of_lt hc.lt)
 clear hh hc hk ih ht
 have hb1:=a7 w (.cells #[.int .i64 t.kind,.string t.text,.int .i64 t.n,.slice a t.kids.length cap,.int .i64 t.place] 24)
 obtain ⟨c,z⟩ : _∧_:=⟨(HC.out.below hb1 HC.out.lt HC.out.lk).cell,(HC.out.below hb1 HC.out.lt HC.out.lk).froz⟩
 go_enter Tryz.func114,Tryz.ntmps114
 by_cases hm : 0≤m - 1
 ·go_wp2_with fail
  refine Calls.mono (nR t L K n₀ IH a cap (m - 1) _ (sA (HH.out.below (hb1.mono hn)) hL _) hL hK ((HC.out.below hb1 HC.out.lt HC.out.lk).set (m - 1)) hm (by omega) (Go.Proofs.setCell_setCell _ _ _ _ _)) ?_
  rintro e w' ⟨rfl,hb⟩
  rw [Go.Proofs.setCell_setCell] at hb
  have HB:=hid ((eQ hb1 ⟨L,0,none⟩ (.int .i64 (y8 t.kids (m - 1)))).trans (hb.mono (by simp [World.setCell])))
  clear hb hb1 c z
  go_wp2_with fail
  go_ret
  exact ⟨y9 (by rw [E.out,Bool.eq_iff_iff]; simp),by rw [E.out]; exact HB⟩
 ·have F:=hid (show Q2 t m=m - 1 by rw [E.out,fJ _ hm])
  have HB:=hid (eQ hb1 ⟨L,0,none⟩ (.int .i64 (m - 1)))
  go_wp2_with fail
  go_ret
  exact ⟨y9 (by rw [F.out,decide_eq_false (show ¬ 0≤m - 1 by omega)]),by rw [F.out]; exact HB⟩
end
section
open Lib (hid)
open Go.RowKit Go.Shelf
theorem mJ (P : Program) (w : World) (p : Addr) (f : Fn) (x y : Array Value) (v : Value) (m : Mode) (h : w.cell? p=some v) (hf : w.frozen? p=false) : (store p (.func f x y) m).run P w=.ok () (w.setCell p (.func f x y)):=by
 rw [run_store P w p _ m rfl,h]
 simp [hf]
def a0m (w : World) (K : Value) : World:=((w.alloc (.cells #[.int .i64 8192] 3)).alloc (.cells #[.nilFunc] 48)).setCell ⟨w.heap.size + 1,0,none⟩ K
theorem a4P (w : World) : Cnt w.heap.size (w.heap.size + 1) 8192 (a0m w (xT w.heap.size (w.heap.size + 1))):=by
 unfold a0m
 refine ⟨by simp [World.setCell]; omega,by simp [World.setCell],by omega,?_,?_,?_⟩
 ·rw [World.cell?_setCell_other _ _ _ _ (by simp)]; simp
 ·rw [World.frozen?_setCell]; simp
 ·exact World.cell?_setCell_same' _ _ _ (by simp)
theorem uS (w : World) (K : Value) : Below w.heap.size w (a0m w K) :=
 ((a7 w _).alloc (by simp) _).setCell (p:=⟨w.heap.size + 1,0,none⟩) (by show w.heap.size≤w.heap.size + 1; omega) _
theorem xI (t : Nd) (a : Option Addr) (cap n₀ : Nat) (w : World) (hh : t.hold n₀ w a cap) (hn : n₀≤w.heap.size) :
 Calls Tryz.prog 76 #[.agg #[.int .i64 t.kind,.string t.text,.int .i64 t.n,.slice a t.kids.length cap,.int .i64 t.place]] w fun e w' => e=.returned (.bool (O5 t))∧Below w.heap.size w w':=by
 have HH:=hid hh
 clear hh
 have E:=hid (show O5 t=decide (0≤Q2 t 8192) from rfl)
 go_enter Tryz.func76,Tryz.ntmps76
 go_wp2_with fail
 obtain ⟨W1,hW1⟩ : ∃ W1,W1=w.alloc (.cells #[.int .i64 t.kind,.string t.text,.int .i64 t.n,.slice a t.kids.length cap,.int .i64 t.place] 24):=⟨_,rfl⟩
 have HB:=hid (show Below w.heap.size w W1 from hW1 ▸ a7 _ _)
 have hsz : W1.heap.size=w.heap.size + 1:=by rw [hW1]; simp
 have hbx:=a5j w (.int .i64 t.kind) (.string t.text) (.int .i64 t.n) (.slice a t.kids.length cap) (.int .i64 t.place)
 rw [← hW1] at hbx ⊢
 clear hW1
 rw [mJ _ _ _ _ _ _ .nilFunc _ (by rw [← hsz]; simp) (by rw [← hsz]; simp)]
 have hc0:=a4P W1
 have hb0:=uS W1 (xT W1.heap.size (W1.heap.size + 1))
 have ew : ∀ v,((W1.alloc (.cells #[.int .i64 8192] 3)).alloc (.cells #[.nilFunc] 48)).setCell ⟨w.heap.size + 1 + 1,0,none⟩ v=a0m W1 v:=fun v => by unfold a0m; rw [hsz]
 rw [ew]
 clear ew
 rw [hsz] at hc0 hb0
 generalize a0m W1 (xT (w.heap.size + 1) (w.heap.size + 1 + 1))=W2 at hc0 hb0 ⊢
 have HC:=hid hc0
 have HB1:=hid (show Below W1.heap.size W1 W2 from hsz.symm ▸ hb0)
 clear hc0 hb0
 have ow:=HC.out.own
 obtain ⟨b0,b1,b2,b3,b4⟩:=hbx
 have lt : w.heap.size<W1.heap.size:=by omega
 have d0:=(HB1.out.cell (p:=⟨w.heap.size,0,none⟩) lt).trans b0
 have d1:=(HB1.out.cell (p:=⟨w.heap.size,1,none⟩) lt).trans b1
 have d2:=(HB1.out.cell (p:=⟨w.heap.size,2,none⟩) lt).trans b2
 have d3:=(HB1.out.cell (p:=⟨w.heap.size,3,none⟩) lt).trans b3
 have d4:=(HB1.out.cell (p:=⟨w.heap.size,4,none⟩) lt).trans b4
 clear b0 b1 b2 b3 b4
 go_wp2_with fail
 have hn1 : n₀≤W1.heap.size:=by omega
 have HT:=hid ((HH.out.below (HB.out.mono hn)).below (HB1.out.mono hn1))
 refine Calls.mono (a0Q _ t (Nat.lt_succ_self _) (w.heap.size + 1) (w.heap.size + 1 + 1) n₀ a cap 8192 W2 HT (by omega) (by omega) HC (by omega) (by omega)) ?_
 rintro e w' ⟨rfl,hb⟩
 have HW:=hid (HB.out.trans (((HB1.out.mono (Nat.le_of_lt lt)).setCell (p:=⟨w.heap.size + 1,0,none⟩) (by show w.heap.size≤w.heap.size + 1; omega) (.int .i64 (Q2 t 8192))).trans (hb.mono (Nat.le_trans (Nat.le_of_lt lt) HB1.out.size))))
 clear hb
 go_wp2_with fail
 go_ret
 exact ⟨y9 E.out.symm,HW⟩
structure Boxed (b : Nat) (t : Nd) (a : Option Addr) (cap : Nat) (w : World) : Prop where
 lt : b<w.heap.size
 c0 : w.cell? ⟨b,0,none⟩=some (.int .i64 t.kind)
 c1 : w.cell? ⟨b,1,none⟩=some (.string t.text)
 c2 : w.cell? ⟨b,2,none⟩=some (.int .i64 t.n)
 c3 : w.cell? ⟨b,3,none⟩=some (.slice a t.kids.length cap)
 c4 : w.cell? ⟨b,4,none⟩=some (.int .i64 t.place)
theorem Boxed.below {b : Nat} {t : Nd} {a : Option Addr} {cap : Nat} {w w' : World} (h : Boxed b t a cap w) (hb : Below w.heap.size w w') : Boxed b t a cap w' :=
 ⟨Nat.lt_of_lt_of_le h.lt hb.size,(hb.cell (p:=⟨b,0,none⟩) h.lt).trans h.c0,(hb.cell (p:=⟨b,1,none⟩) h.lt).trans h.c1,(hb.cell (p:=⟨b,2,none⟩) h.lt).trans h.c2,(hb.cell (p:=⟨b,3,none⟩) h.lt).trans h.c3,(hb.cell (p:=⟨b,4,none⟩) h.lt).trans h.c4⟩
theorem Boxed.make (w : World) (t : Nd) (a : Option Addr) (cap : Nat) : Boxed w.heap.size t a cap (w.alloc (.cells #[.int .i64 t.kind,.string t.text,.int .i64 t.n,.slice a t.kids.length cap,.int .i64 t.place] 24)):=by
 refine ⟨?_,?_,?_,?_,?_,?_⟩ <;> simp
end
end Go.Proofs.YtppcfebnaieciaaGreatDoor
