/-
  Laws that the proof rests on.
-/
import Derived.Test.YtibiccacafjjfaaGreatDoorB03
import Derived.Deep.LoopGhost
import Derived.Shelf.Abstract
import Derived.Sort.Walk7a
import Derived.Test.YtibiccacafjjfaaGreatDoorRows
import Derived.WalkKit
import Derived.ProofKit
import Derived.OpenShut
import Derived.Carry
import Derived.Deep.DeepHandedRow
import Derived.Lib.LaidTab
namespace Go.Proofs.YtibiccacafjjfaaGreatDoor
set_option maxRecDepth 100000
set_option maxHeartbeats 16000000
section
open Lib (hid)
open Go.RowKit
theorem a6T (y m d : Int) (w : World) (h : ¬ Cal.ok y m d) :
 Calls Tryz.prog 175 #[.int .i64 y,.int .i64 m,.int .i64 d] w fun e w' => e=.returned (.tuple #[.int .i64 0,.int .i64 30])∧Below w.heap.size w w':=by
 by_cases h1 : y<1900
 ·clear h
  go_enter Tryz.func175,Tryz.ntmps175
  go_wp2
  go_ret2
  exact ⟨rfl,Below.refl _ _⟩
 by_cases h2 : 2099<y
 ·clear h
  go_enter Tryz.func175,Tryz.ntmps175
  go_wp2
  go_ret2
  exact ⟨rfl,Below.refl _ _⟩
 by_cases h3 : m<1
 ·clear h
  go_enter Tryz.func175,Tryz.ntmps175
  go_wp2
  go_ret2
  exact ⟨rfl,Below.refl _ _⟩
 by_cases h4 : 12<m
 ·clear h
  go_enter Tryz.func175,Tryz.ntmps175
  go_wp2
  go_ret2
  exact ⟨rfl,Below.refl _ _⟩
 have hg:=a6U y (k:=(m - 1).toNat) (by omega)
 rw [show (((m - 1).toNat : Nat) : Int) + 1=m by omega,show (m - 1).toNat=m.toNat - 1 by omega] at hg
 by_cases h5 : d<1
 ·clear h
  go_enter Tryz.func175,Tryz.ntmps175
  go_wp2_with (go_at_call 166; refine (eF _ _ (by omega) (by omega)).mono ?_; rintro e w' ⟨rfl,hb⟩)
  go_ret2
  exact ⟨rfl,hb.trans ((iA _ _).mono hb.size)⟩
 have h6 : Cal.mlen y m<d:=by unfold Cal.ok at h; omega
 clear h
 go_enter Tryz.func175,Tryz.ntmps175
 go_wp2_with (go_at_call 166; refine (eF _ _ (by omega) (by omega)).mono ?_; rintro e w' ⟨rfl,hb⟩)
 go_ret2
 exact ⟨rfl,hb.trans ((iA _ _).mono hb.size)⟩
theorem a5M (y : Int) {k : Nat} (h3 : k<12) (w : World) : (Instr.index 169 (.agg #[.int .i64 31,.int .i64 (28 + Cal.lpI y),.int .i64 31,.int .i64 30,.int .i64 31,.int .i64 30,.int .i64 31,.int .i64 31,.int .i64 30,.int .i64 31,.int .i64 30,.int .i64 31]) (.int .i64 k)).run Tryz.prog w=.ok (.int .i64 (Cal.mlen y ((k : Int) + 1))) w:=by
 have c : k=0∨k=1∨k=2∨k=3∨k=4∨k=5∨k=6∨k=7∨k=8∨k=9∨k=10∨k=11:=by omega
 rcases c with e | e | e | e | e | e | e | e | e | e | e | e <;> subst e <;> (show _=_) <;> kernel_rfl
theorem a6u (h : Int) (h0 : 0≤h) (h1 : h≤12) (w : World) (a : Addr) : (Instr.sliceAt 169 (.pointer (some a)) none (some (.int .i64 h)) none).run Tryz.prog w=.ok (.slice (some a) h.toNat 12) w:=by
 rw [run_sliceAt_array_h w 169 a (by kernel_rfl) .i64 h h0 (by rw [show Tryz.prog.arrayLen 169=12 from by kernel_rfl]; omega)]
 rw [show Tryz.prog.arrayLen 169=12 from by kernel_rfl,show Tryz.prog.elem 169=3 from by kernel_rfl]
 rw [show (sizeOf 3).run Tryz.prog w=.ok 1 w from by kernel_rfl]
 simp [Result.andThen,slicedAt,Addr.add]
theorem a41 {a b c : Int} (h : a=b) : Ending.returned (.tuple #[.int .i64 a,.int .i64 c])=.returned (.tuple #[.int .i64 b,.int .i64 c]):=by rw [h]
theorem of_ok (y m d : Int) (w : World) (h : Cal.ok y m d) :
 Calls Tryz.prog 175 #[.int .i64 y,.int .i64 m,.int .i64 d] w fun e w' => e=.returned (.tuple #[.int .i64 (Cal.num y m d),.int .i64 0])∧Below w.heap.size w w':=by
 obtain ⟨h1,h2,h3,h4,h5,h6⟩:=h
 have ml:=Cal.mlen_bd y m
 have ab:=Cal.ahead_bd h1 (by omega)
 have hg:=a6U y (k:=(m - 1).toNat) (by omega)
 rw [show (((m - 1).toNat : Nat) : Int) + 1=m by omega,show (m - 1).toNat=m.toNat - 1 by omega] at hg
 have hsl:=a6u (m - 1) (by omega) (by omega)
 rw [show (m - 1).toNat=m.toNat - 1 by omega] at hsl
 go_enter Tryz.func175,Tryz.ntmps175
 go_wp2_with (first | (go_at_call 166; refine (eF _ _ (by omega) (by omega)).mono ?_; rintro e w' ⟨rfl,hb⟩) | (go_at_call 164; refine (lL _ _ (by omega) (by omega)).mono ?_; rintro e w' ⟨rfl,rfl⟩))
 clear hg
 go_loop [9,47] (fun n i => ∃ k : Nat,(k : Int)≤m - 1∧i=.int .i64 k∧n=.int .i64 (Cal.ahead y + d - 1 + Cal.cum y (k + 1))) (fun _ i => (13 - intOf i).toNat)
 case atStart => exact ⟨0,by omega,rfl,by rw [show ((0 : Nat) : Int) + 1=1 from rfl,Cal.cum_1]; go_num⟩
 case round =>
  obtain ⟨k,hk,rfl,rfl⟩:=hrel
  have hs:=hid (Cal.cum_succ y (m:=(k : Int) + 1) (by omega) (by omega))
  have hc:=Cal.cum_bd y (m:=(k : Int) + 1) (by omega) (by omega)
  have hm:=Cal.mlen_bd y ((k : Int) + 1)
  by_cases hlt : (k : Int)<m - 1
  ·have hg:=a6U y (k:=k) (by omega)
   go_wp2
   go_round
   case rel => exact ⟨k + 1,by omega,by go_num,uX (by rw [show (((k + 1 : Nat) : Int) + 1)=(k : Int) + 1 + 1 by omega,hs.out]; omega)⟩
   case measure => simp [intOf]; omega
  ·obtain rfl : m=k + 1:=by omega
   go_wp2
   go_ret2
   exact ⟨a41 (by unfold Cal.num; omega),hb.trans ((iA _ _).mono hb.size)⟩
theorem a3B (y m d k : Int) (w : World) (h : Cal.ok y m d) (hk : Cal.num y m d=k) :
 Calls Tryz.prog 134 #[.int .i64 k] w fun e w' => e=.returned (.tuple #[.int .i64 y,.int .i64 m,.int .i64 d,.int .i64 0])∧Below w.heap.size w w':=by
 have nb:=Cal.num_bd h
 have ny:=Cal.num_lt_year h
 have ml:=Cal.mlen_bd y m
 have H:=hid h
 obtain ⟨h1,h2,h3,h4,h5,h6⟩:=h
 subst hk
 have g1 : Cal.ahead (1900 + Cal.num y m d / 366)≤Cal.num y m d:=by unfold Cal.ahead; omega
 have g2:=Cal.year_le g1 ny.2
 go_enter Tryz.func134,Tryz.ntmps134
 go_wp2
 have G : Hid (Cal.ahead y≤Cal.num y m d∧Cal.num y m d<Cal.ahead (y + 1)):=ny
 clear ny g1
 go_loop [8] (fun t => ∃ z : Int,1900≤z∧z≤y∧t=.int .i64 z) (fun t => (2100 - intOf t).toNat)
 case atStart => exact ⟨_,by omega,g2,rfl⟩
 case round =>
  obtain ⟨z,hz1,hz2,rfl⟩:=hrel
  have ab:=Cal.ahead_bd hz1 (by omega)
  have lb:=Cal.lpI_b z
  have hs:=hid (Cal.ahead_succ z)
  clear g2
  by_cases e : z<y
  ·have hle : 365 + Cal.lpI z≤Cal.num y m d - Cal.ahead z:=by have:=Cal.ahead_mono (show z + 1≤y by omega); have:=hs.out; have:=G.out; omega
   go_wp2_with (first | (go_at_call 164; refine (lL _ _ (by omega) (by omega)).mono ?_; rintro e w' ⟨rfl,rfl⟩) | (go_at_call 165; refine (yO _ _ (by omega) (by omega)).mono ?_; rintro e w' ⟨rfl,rfl⟩))
   go_round
   case rel => exact ⟨z + 1,by omega,by omega,rfl⟩
   case measure => simp [intOf]; omega
  ·obtain rfl : z=y:=by omega
   have hlt : Cal.num z m d - Cal.ahead z<365 + Cal.lpI z:=by have:=hs.out; have:=G.out; omega
   have hn:=hid (show Cal.num z m d - Cal.ahead z=Cal.cum z m + d - 1 by unfold Cal.num; omega)
   clear hs e
   have cb:=Cal.cum_bd z h3 (by omega)
   go_wp2_with (first | (go_at_call 164; refine (lL _ _ (by omega) (by omega)).mono ?_; rintro e w' ⟨rfl,rfl⟩) | (go_at_call 165; refine (yO _ _ (by omega) (by omega)).mono ?_; rintro e w' ⟨rfl,rfl⟩) | (go_at_call 166; refine (eF _ _ (by omega) (by omega)).mono ?_; rintro e w' ⟨rfl,hb⟩))
   go_loop [0,38] (fun r i => ∃ k : Nat,(k : Int)≤m - 1∧i=.int .i64 k∧r=.int .i64 (Cal.cum z m + d - 1 - Cal.cum z (k + 1))) (fun _ i => (13 - intOf i).toNat)
   case atStart => exact ⟨0,by omega,rfl,uX (by rw [show ((0 : Nat) : Int) + 1=1 from rfl,Cal.cum_1,hn.out]; omega)⟩
   case round =>
    obtain ⟨k,hk,rfl,rfl⟩:=hrel
    have hs:=hid (Cal.cum_succ z (m:=(k : Int) + 1) (by omega) (by omega))
    have hc:=Cal.cum_bd z (m:=(k : Int) + 1) (by omega) (by omega)
    have hm:=Cal.mlen_bd z ((k : Int) + 1)
    have hg:=a5M z (k:=k) (by omega)
    by_cases hlt2 : (k : Int)<m - 1
    ·have hle : Cal.mlen z ((k : Int) + 1)≤Cal.cum z m + d - 1 - Cal.cum z (k + 1):=by
      have:=Cal.cum_mono z (show 1≤(k : Int) + 1 + 1 by omega) (show (k : Int) + 1 + 1≤m by omega) (by omega)
      have:=hs.out
      omega
     go_wp2
     go_round
     case rel => exact ⟨k + 1,by omega,by go_num,uX (by rw [show (((k + 1 : Nat) : Int) + 1)=(k : Int) + 1 + 1 by omega,hs.out]; omega)⟩
     case measure => simp [intOf]; omega
    ·obtain rfl : m=k + 1:=by omega
     go_wp2
     refine bodyPost_ret (v:=.tuple #[.int .i64 z,.int .i64 (k + 1),.int .i64 d,.int .i64 0]) ?_ rfl ⟨rfl,hb⟩
     simp [results,Tryz.results134,go_sem]
     omega
end
section
open Lib (hid)
open Go.RowKit Go.Shelf
theorem a0z (t u : Nd) (a : Option Addr) (cap : Nat) (a' : Option Addr) (cap' n₀ : Nat) (w : World) (hh : t.hold n₀ w a cap) (hu : u.hold n₀ w a' cap') (hn : n₀≤w.heap.size)
 (ih : ∀ (k : Nat) (hk : k<t.kids.length) (v : Nd) (x : Option Addr) (cx : Nat) (x' : Option Addr) (cx' : Nat) (cur : World),t.kids[k].hold n₀ cur x cx→v.hold n₀ cur x' cx'→n₀≤cur.heap.size →
   Calls Tryz.prog 27 #[.agg #[.int .i64 t.kids[k].kind,.string t.kids[k].text,.int .i64 t.kids[k].n,.slice x t.kids[k].kids.length cx,.int .i64 t.kids[k].place],.agg #[.int .i64 v.kind,.string v.text,.int .i64 v.n,.slice x' v.kids.length cx',.int .i64 v.place]] cur fun e w' => e=.returned (.bool (aM t.kids[k] v))∧Below cur.heap.size cur w') :
 Calls Tryz.prog 58 #[.slice a t.kids.length cap,.slice a' u.kids.length cap',.func (.func 27) #[] #[]] w fun e w' => e=.returned (.bool (D6 t.kids u.kids))∧Below w.heap.size w w':=by
 have eg:=enters_of Tryz.func27 (by kernel_rfl) rfl
 have hkl:=hh.bounds.2.2.2.2
 have hkl':=hu.bounds.2.2.2.2
 have hm:=hkl
 have hm':=hkl'
 unfold maxLen at hm hm'
 have HH:=hid hh
 have HU:=hid hu
 have IH:=hid ih
 clear hh hu ih
 obtain ⟨ks,hks⟩ : ∃ ks,t.kids=ks:=⟨_,rfl⟩
 obtain ⟨ks',hks'⟩ : ∃ ks',u.kids=ks':=⟨_,rfl⟩
 by_cases q4 : t.kids.length=u.kids.length
 case neg =>
  have e4 : ((t.kids.length : Int) != (u.kids.length : Int))=true:=by rw [bne_iff_ne]; omega
  have F:=hid (show D6 t.kids u.kids=false from Bool.eq_false_iff.2 fun e => q4 (iT _ _ e))
  clear q4 hks hks'
  go_enter Tryz.func58,Tryz.ntmps58
  go_wp2
  go_ret
  exact ⟨j9 F.out.symm,Below.refl _ _⟩
 have e4 : ((t.kids.length : Int) != (u.kids.length : Int))=false:=by rw [bne_eq_false_iff_eq,q4]
 have Q4:=hid q4
 clear q4 hks hks'
 go_enter Tryz.func58,Tryz.ntmps58
 go_wp2
 go_loopw [17] (fun i wr => ∃ (k : Nat),k≤t.kids.length∧i=.int .i64 k∧Hid (D6 (t.kids.drop k) (u.kids.drop k)=D6 t.kids u.kids)∧Hid (Below w.heap.size w wr)) (fun i _ => (t.kids.length - (intOf i).toNat))
 case atStart => exact ⟨0,Nat.zero_le _,rfl,rfl,Below.refl _ _⟩
 case round =>
  obtain ⟨k,hk,rfl,HI,HBr⟩:=hrel
  by_cases hlt : k<t.kids.length
  ·have hlt' : k<u.kids.length:=Q4.out ▸ hlt
   obtain ⟨b,off,x,cx,A⟩:=(HH.out.below (HBr.out.mono hn)).kid k hlt
   obtain ⟨b',off',x',cx',A'⟩:=(HU.out.below (HBr.out.mono hn)).kid k hlt'
   obtain ⟨rfl,hb0,c0,c1,c2,c3,c4,hk1⟩:=A
   obtain ⟨rfl,hb0',c0',c1',c2',c3',c4',hk1'⟩:=A'
   have HK:=hid hk1
   have HK':=hid hk1'
   clear hk1 hk1'
   have S:=hid (wT t.kids u.kids k hlt hlt')
   have hnr : n₀≤wr.heap.size:=Nat.le_trans hn HBr.out.size
   have hbw : b<wr.heap.size:=Nat.lt_of_lt_of_le hb0 hnr
   have hbw' : b'<wr.heap.size:=Nat.lt_of_lt_of_le hb0' hnr
   cases hsm : aM t.kids[k] u.kids[k]
   all_goals
    go_wp2_with fail
    refine Calls.mono (IH.out k hlt u.kids[k] x cx x' cx' _ (HK.out.below (((c6 wr _).alloc (by simp) _).mono hnr)) (HK'.out.below (((c6 wr _).alloc (by simp) _).mono hnr)) (Nat.le_trans hnr (by simp; omega))) ?_
    rintro e w' ⟨rfl,hb⟩
    have HR:=hid (HBr.out.trans ((((c6 wr _).alloc (by simp) _).trans (hb.mono (by simp; omega))).mono HBr.out.size))
    clear hb
    rw [hsm]
    go_wp2_with fail
   ·go_ret
    exact ⟨j9 (by rw [← HI.out,S.out,hsm]; rfl),HR⟩
   ·go_roundw
    case rel => exact ⟨k + 1,by omega,by go_num,by show _=_; rw [← HI.out,S.out,hsm]; rfl,HR⟩
    case measure => simp [intOf]; omega
  ·have S:=hid (a0t t.kids u.kids k hlt (by rw [← Q4.out]; exact hlt))
   go_wp2
   go_ret
   exact ⟨j9 (by rw [← HI.out,S.out]),HBr⟩
theorem a0b (N : Nat) : ∀ (t : Nd),SizeOf.sizeOf t<N→∀ (u : Nd) (a : Option Addr) (cap : Nat) (a' : Option Addr) (cap' n₀ : Nat) (w : World),t.hold n₀ w a cap→u.hold n₀ w a' cap'→n₀≤w.heap.size →
 Calls Tryz.prog 27 #[.agg #[.int .i64 t.kind,.string t.text,.int .i64 t.n,.slice a t.kids.length cap,.int .i64 t.place],.agg #[.int .i64 u.kind,.string u.text,.int .i64 u.n,.slice a' u.kids.length cap',.int .i64 u.place]] w fun e w' => e=.returned (.bool (aM t u))∧Below w.heap.size w w':=by
 induction N with
 | zero => intro t ht; omega
 | succ N ih =>
 intro t ht u a cap a' cap' n₀ w hh hu hn
 have hk : ∀ (k : Nat) (hk : k<t.kids.length),SizeOf.sizeOf t.kids[k]<N:=by
  cases t with
  | mk kind s n ks p => exact fun k hk => dQ hk ht
 have IH:=hid fun (k : Nat) (h : k<t.kids.length) => ih _ (hk k h)
 have HH:=hid hh
 have HU:=hid hu
 clear hh hu ih ht hk
 have E:=hid (kB t u)
 cases t with
 | mk kind s n ks p =>
 cases u with
 | mk kind' s' n' ks' p' =>
 show Calls Tryz.prog 27 #[.agg #[.int .i64 kind,.string s,.int .i64 n,.slice a ks.length cap,.int .i64 p],.agg #[.int .i64 kind',.string s',.int .i64 n',.slice a' ks'.length cap',.int .i64 p']] w _
 by_cases q1 : kind=kind'
 case neg =>
  have HB : Hid (Below w.heap.size w ((w.alloc (.cells #[.int .i64 kind,.string s,.int .i64 n,.slice a ks.length cap,.int .i64 p] 24)).alloc (.cells #[.int .i64 kind',.string s',.int .i64 n',.slice a' ks'.length cap',.int .i64 p'] 24))):=(c6 _ _).alloc (by simp) _
  have e1 : (kind == kind')=false:=by simpa using q1
  have F:=hid (show aM (.mk kind s n ks p) (.mk kind' s' n' ks' p')=false by rw [E.out,show ((Nd.mk kind s n ks p).kind == (Nd.mk kind' s' n' ks' p').kind)=false from e1]; rfl)
  clear q1
  go_enter Tryz.func27,Tryz.ntmps27
  go_wp2
  go_ret
  exact ⟨j9 F.out.symm,HB⟩
 subst q1
 by_cases q2 : s=s'
 case neg =>
  have HB : Hid (Below w.heap.size w ((w.alloc (.cells #[.int .i64 kind,.string s,.int .i64 n,.slice a ks.length cap,.int .i64 p] 24)).alloc (.cells #[.int .i64 kind,.string s',.int .i64 n',.slice a' ks'.length cap',.int .i64 p'] 24))):=(c6 _ _).alloc (by simp) _
  have e2 : (s.toList == s'.toList)=false:=beq_eq_false_iff_ne.2 fun e => q2 (a3X e)
  have F:=hid (show aM (.mk kind s n ks p) (.mk kind s' n' ks' p')=false by rw [E.out,show ((Nd.mk kind s n ks p).text.toList == (Nd.mk kind s' n' ks' p').text.toList)=false from e2]; simp)
  have e2' : ¬ s.toList=s'.toList:=fun e => q2 (a3X e)
  clear q2 e2
  go_enter Tryz.func27,Tryz.ntmps27
  go_wp2
  go_ret
  exact ⟨j9 F.out.symm,HB⟩
 subst q2
 by_cases q3 : n=n'
 case neg =>
  have HB : Hid (Below w.heap.size w ((w.alloc (.cells #[.int .i64 kind,.string s,.int .i64 n,.slice a ks.length cap,.int .i64 p] 24)).alloc (.cells #[.int .i64 kind,.string s,.int .i64 n',.slice a' ks'.length cap',.int .i64 p'] 24))):=(c6 _ _).alloc (by simp) _
  have e3 : (n == n')=false:=by simpa using q3
  have F:=hid (show aM (.mk kind s n ks p) (.mk kind s n' ks' p')=false by rw [E.out,show ((Nd.mk kind s n ks p).n == (Nd.mk kind s n' ks' p').n)=false from e3]; simp)
  clear q3
  go_enter Tryz.func27,Tryz.ntmps27
  go_wp2
  go_ret
  exact ⟨j9 F.out.symm,HB⟩
 subst q3
 have HB : Hid (Below w.heap.size w ((w.alloc (.cells #[.int .i64 kind,.string s,.int .i64 n,.slice a ks.length cap,.int .i64 p] 24)).alloc (.cells #[.int .i64 kind,.string s,.int .i64 n,.slice a' ks'.length cap',.int .i64 p'] 24))):=(c6 _ _).alloc (by simp) _
 have F:=hid (show aM (.mk kind s n ks p) (.mk kind s n ks' p')=D6 ks ks' by rw [E.out]; simp [Nd.kind,Nd.text,Nd.n,Nd.kids])
 go_enter Tryz.func27,Tryz.ntmps27
 go_wp2_with (first | (go_at_call 58; refine (a0z (.mk kind s n ks p) (.mk kind s n ks' p') a cap a' cap' n₀ _ (HH.out.below (HB.out.mono hn)) (HU.out.below (HB.out.mono hn)) (Nat.le_trans hn HB.out.size) (fun k hk v x cx x' cx' cur h h' hc => IH.out k hk v x cx x' cx' n₀ cur h h' hc)).mono ?_; rintro e w' ⟨rfl,hb⟩))
 go_ret
 exact ⟨j9 F.out.symm,HB.out.trans (hb.mono HB.out.size)⟩
theorem a2x (t u : Nd) (a : Option Addr) (cap : Nat) (a' : Option Addr) (cap' n₀ : Nat) (w : World) (h : t.hold n₀ w a cap) (h' : u.hold n₀ w a' cap') (hn : n₀≤w.heap.size) :
 Calls Tryz.prog 27 #[.agg #[.int .i64 t.kind,.string t.text,.int .i64 t.n,.slice a t.kids.length cap,.int .i64 t.place],.agg #[.int .i64 u.kind,.string u.text,.int .i64 u.n,.slice a' u.kids.length cap',.int .i64 u.place]] w fun e w' => e=.returned (.bool (aM t u))∧Below w.heap.size w w' :=
 a0b _ t (Nat.lt_succ_self _) u a cap a' cap' n₀ w h h' hn
end
section
open Lib (hid)
open Go.RowKit Go.Shelf
theorem iN {B : Nat} {A C : World} (h : Below B A C) (p : Addr) (v : Value) : Below B (A.setCell p v) (C.setCell p v) :=
 ⟨h.os,h.tape,h.output,by simpa [World.setCell] using h.size,fun k hk => by
  have e:=h.block k hk
  simp only [World.setCell,Array.getElem?_modify]
  rw [e]⟩
theorem a1d {B : Nat} {A C D : World} {L : Nat} {v v' : Value} (h : Below B (A.setCell ⟨L,0,none⟩ v) C) (h' : Below B (C.setCell ⟨L,0,none⟩ v') D) : Below B (A.setCell ⟨L,0,none⟩ v') D:=by
 have:=iN h ⟨L,0,none⟩ v'
 rw [Go.Proofs.setCell_setCell] at this
 exact this.trans h'
theorem xR {n₀ L : Nat} {w : World} {t : Nd} {a : Option Addr} {cap : Nat} (h : t.hold n₀ w a cap) (hL : n₀≤L) (v : Value) : t.hold n₀ (w.setCell ⟨L,0,none⟩ v) a cap :=
 h.below ((Below.refl n₀ w).setCell (p:=⟨L,0,none⟩) hL v)
abbrev a1N (L K : Nat) : Value:=.func (.func 55) #[] #[.pointer (some ⟨L,0,none⟩),.pointer (some ⟨K,0,none⟩)]
structure Cnt (L K : Nat) (m : Int) (w : World) : Prop where
 lt : L<w.heap.size
 lk : K<w.heap.size
 ne : L≠K
 cell : w.cell? ⟨L,0,none⟩=some (.int .i64 m)
 froz : w.frozen? ⟨L,0,none⟩=false
 own : w.cell? ⟨K,0,none⟩=some (a1N L K)
theorem Cnt.set {L K : Nat} {m : Int} {w : World} (h : Cnt L K m w) (y : Int) : Cnt L K y (w.setCell ⟨L,0,none⟩ (.int .i64 y)) :=
 ⟨by simpa [World.setCell] using h.lt,by simpa [World.setCell] using h.lk,h.ne,World.cell?_setCell_same' _ _ _ (by rw [h.cell]; rfl),by rw [World.frozen?_setCell]; exact h.froz,by rw [World.cell?_setCell_other _ _ _ _ (by simp; exact fun e => h.ne e)]; exact h.own⟩
theorem Cnt.below {L K : Nat} {m : Int} {w w' : World} (h : Cnt L K m w) {B : Nat} (hb : Below B w w') (hL : L<B) (hK : K<B) : Cnt L K m w' :=
 ⟨Nat.lt_of_lt_of_le h.lt hb.size,Nat.lt_of_lt_of_le h.lk hb.size,h.ne,(hb.cell (p:=⟨L,0,none⟩) hL).trans h.cell,(hb.frozen (p:=⟨L,0,none⟩) hL).trans h.froz,(hb.cell (p:=⟨K,0,none⟩) hK).trans h.own⟩
def wY (t : Nd) (L K n₀ : Nat) : Prop:=∀ (a : Option Addr) (cap : Nat) (m : Int) (w : World),t.hold n₀ w a cap→n₀≤L→n₀≤K→Cnt L K m w→0≤m→m≤8192 →
 Calls Tryz.prog 55 #[.agg #[.int .i64 t.kind,.string t.text,.int .i64 t.n,.slice a t.kids.length cap,.int .i64 t.place],.pointer (some ⟨L,0,none⟩),.pointer (some ⟨K,0,none⟩)] w fun e w' => e=.returned (.bool (decide (0≤V5 t m)))∧Below w.heap.size (w.setCell ⟨L,0,none⟩ (.int .i64 (V5 t m))) w'
theorem a4d (t : Nd) (L K n₀ : Nat) (ih : wY t L K n₀) (a : Option Addr) (cap : Nat) (m : Int) (w : World) (hh : t.hold n₀ w a cap) (hL : n₀≤L) (hK : n₀≤K) (hc : Cnt L K m w) (h0 : 0≤m) (h1 : m≤8192) :
 Calls Tryz.prog 57 #[.agg #[.int .i64 t.kind,.string t.text,.int .i64 t.n,.slice a t.kids.length cap,.int .i64 t.place],.pointer (some ⟨K,0,none⟩)] w fun e w' => e=.returned (.bool (!decide (0≤V5 t m)))∧Below w.heap.size (w.setCell ⟨L,0,none⟩ (.int .i64 (V5 t m))) w':=by
 have eg:=enters_of Tryz.func55 (by kernel_rfl) rfl
 have HH:=hid hh
 have HC:=hid hc
 have IH:=hid ih
 have ow:=hc.own
 have lk:=hc.lk
 have hn : n₀≤w.heap.size:=Nat.le_trans hL (Nat.le_of_lt hc.lt)
 clear hh hc ih
 go_enter Tryz.func57,Tryz.ntmps57
 go_wp2_with fail
 have hb1:=c6 w (.cells #[.int .i64 t.kind,.string t.text,.int .i64 t.n,.slice a t.kids.length cap,.int .i64 t.place] 24)
 refine Calls.mono (IH.out a cap m _ (HH.out.below (hb1.mono hn)) hL hK (HC.out.below hb1 HC.out.lt HC.out.lk) h0 h1) ?_
 rintro e w' ⟨rfl,hb⟩
 have HB:=hid ((iN hb1 ⟨L,0,none⟩ (.int .i64 (V5 t m))).trans (hb.mono (by simp)))
 clear hb hb1
 go_wp2_with fail
 go_ret
 exact ⟨rfl,HB⟩
theorem a0i (t : Nd) (L K n₀ : Nat) (ih : ∀ k (hk : k<t.kids.length),wY t.kids[k] L K n₀) (a : Option Addr) (cap : Nat) (m : Int) (w : World) (hh : t.hold n₀ w a cap) (hL : n₀≤L) (hK : n₀≤K) (hc : Cnt L K m w) (h0 : 0≤m) (h1 : m≤8192)
 (hw : w.setCell ⟨L,0,none⟩ (.int .i64 m)=w) :
 Calls Tryz.prog 33 #[.slice a t.kids.length cap,.func (.func 57) #[] #[.pointer (some ⟨K,0,none⟩)]] w fun e w' => ∃ r : Int,e=.returned (.int .i64 r)∧(0≤r↔z6 t.kids m<0)∧Below w.heap.size (w.setCell ⟨L,0,none⟩ (.int .i64 (z6 t.kids m))) w':=by
 have eg:=enters_of Tryz.func57 (by kernel_rfl) rfl
 have hkl:=hh.bounds.2.2.2.2
 have hm:=hkl
 unfold maxLen at hm
 have HH:=hid hh
 have HC:=hid hc
 have IH:=hid ih
 have HW:=hid hw
 have hn : n₀≤w.heap.size:=Nat.le_trans hL (Nat.le_of_lt hc.lt)
 clear hh hc ih hw
 go_enter Tryz.func33,Tryz.ntmps33
 go_wp2_with fail
 go_loopw [8] (fun i wr => ∃ (k : Nat) (z : Int),k≤t.kids.length∧i=.int .i64 k∧0≤z∧z≤8192∧Hid (z6 (t.kids.drop k) z=z6 t.kids m)∧Hid (Below w.heap.size (w.setCell ⟨L,0,none⟩ (.int .i64 z)) wr)) (fun i _ => (t.kids.length - (intOf i).toNat))
 case atStart => exact ⟨0,m,Nat.zero_le _,rfl,h0,h1,rfl,by show Below _ _ _; rw [HW.out]; exact Below.refl _ _⟩
 case round =>
  obtain ⟨k,z,hk,rfl,hz0,hz1,HI,HBr⟩:=hrel
  have hnr : w.heap.size≤wr.heap.size:=by have:=HBr.out.size; simpa [World.setCell] using this
  by_cases hlt : k<t.kids.length
  ·have CR:=hid ((HC.out.set z).below HBr HC.out.lt HC.out.lk)
   obtain ⟨b,off,x,cx,A⟩:=((xR HH hL (.int .i64 z)).below (HBr.out.mono hn)).kid k hlt
   obtain ⟨rfl,hb0,c0,c1,c2,c3,c4,hk1⟩:=A
   have HK:=hid hk1
   clear hk1
   have R:=mY t.kids[k] z hz0
   have S:=hid (mU t.kids k hlt z)
   by_cases hl : 0≤V5 t.kids[k] z
   all_goals
    go_wp2_with fail
    refine Calls.mono (a4d t.kids[k] L K n₀ (IH.out k hlt) x cx z _ HK hL hK CR hz0 hz1) ?_
    rintro e w' ⟨rfl,hb⟩
    have HB:=hid (a1d HBr (hb.mono hnr))
    clear hb
   ·rw [decide_eq_true hl]
    go_wp2_with fail
    go_roundw
    case rel => exact ⟨k + 1,_,by omega,by go_num,hl,by omega,by show _=_; rw [← HI.out,S.out,if_pos hz0],HB⟩
    case measure => simp [intOf]; omega
   ·rw [decide_eq_false (show ¬ 0≤V5 t.kids[k] z by omega)]
    have F:=hid (show z6 t.kids m=V5 t.kids[k] z by rw [← HI.out,S.out,if_pos hz0,gE _ (show ¬ 0≤V5 t.kids[k] z by omega)])
    go_wp2_with fail
    go_ret
    exact ⟨k,rfl,by rw [F.out]; omega,by rw [F.out]; exact HB⟩
  ·have S:=hid (rC t.kids k hlt z)
   have F:=hid (show z6 t.kids m=z by rw [← HI.out,S.out])
   go_wp2_with fail
   go_ret
   exact ⟨-1,rfl,by rw [F.out]; omega,by rw [F.out]; exact HBr⟩
theorem rY (t : Nd) (L K n₀ : Nat) (ih : ∀ k (hk : k<t.kids.length),wY t.kids[k] L K n₀) (a : Option Addr) (cap : Nat) (m : Int) (w : World) (hh : t.hold n₀ w a cap) (hL : n₀≤L) (hK : n₀≤K) (hc : Cnt L K m w) (h0 : 0≤m) (h1 : m≤8192)
 (hw : w.setCell ⟨L,0,none⟩ (.int .i64 m)=w) :
 Calls Tryz.prog 56 #[.slice a t.kids.length cap,.func (.func 57) #[] #[.pointer (some ⟨K,0,none⟩)]] w fun e w' => e=.returned (.bool (decide (z6 t.kids m<0)))∧Below w.heap.size (w.setCell ⟨L,0,none⟩ (.int .i64 (z6 t.kids m))) w':=by
 have C:=hid (a0i t L K n₀ ih a cap m w hh hL hK hc h0 h1 hw)
 clear ih hh hc hw
 go_enter Tryz.func56,Tryz.ntmps56
 go_wp2_with fail
 refine Calls.mono C.out ?_
 rintro e w' ⟨r,rfl,hr,hb⟩
 have HB:=hid hb
 have HR:=hid hr
 clear hb hr
 go_wp2_with fail
 go_ret
 exact ⟨j9 (by rw [Bool.eq_iff_iff]; simp only [decide_eq_true_eq]; exact HR),HB⟩
theorem a2k (N : Nat) : ∀ (t : Nd),SizeOf.sizeOf t<N→∀ (L K n₀ : Nat),wY t L K n₀:=by
 induction N with
 | zero => intro t ht; omega
 | succ N ih =>
 intro t ht L K n₀ a cap m w hh hL hK hc h0 h1
 have hk : ∀ (k : Nat) (hk : k<t.kids.length),wY t.kids[k] L K n₀:=by
  cases t with
  | mk kind s n ks p => exact fun k hk => ih _ (dQ hk ht) L K n₀
 have E:=hid (show V5 t m=z6 t.kids (m - 1) by cases t; rw [V5]; rfl)
 have IH:=hid hk
 have HH:=hid hh
 have HC:=hid hc
 have hn : n₀≤w.heap.size:=Nat.le_trans hL (Nat.le_of_lt hc.lt)
 clear hh hc hk ih ht
 have hb1:=c6 w (.cells #[.int .i64 t.kind,.string t.text,.int .i64 t.n,.slice a t.kids.length cap,.int .i64 t.place] 24)
 obtain ⟨c,z⟩ : _∧_:=⟨(HC.out.below hb1 HC.out.lt HC.out.lk).cell,(HC.out.below hb1 HC.out.lt HC.out.lk).froz⟩
 go_enter Tryz.func55,Tryz.ntmps55
 by_cases hm : 0≤m - 1
 ·go_wp2_with fail
  refine Calls.mono (rY t L K n₀ IH a cap (m - 1) _ (xR (HH.out.below (hb1.mono hn)) hL _) hL hK ((HC.out.below hb1 HC.out.lt HC.out.lk).set (m - 1)) hm (by omega) (Go.Proofs.setCell_setCell _ _ _ _ _)) ?_
  rintro e w' ⟨rfl,hb⟩
  rw [Go.Proofs.setCell_setCell] at hb
  have HB:=hid ((iN hb1 ⟨L,0,none⟩ (.int .i64 (z6 t.kids (m - 1)))).trans (hb.mono (by simp [World.setCell])))
  clear hb hb1 c z
  go_wp2_with fail
  go_ret
  exact ⟨j9 (by rw [E.out,Bool.eq_iff_iff]; simp),by rw [E.out]; exact HB⟩
 ·have F:=hid (show V5 t m=m - 1 by rw [E.out,gE _ hm])
  have HB:=hid (iN hb1 ⟨L,0,none⟩ (.int .i64 (m - 1)))
  go_wp2_with fail
  go_ret
  exact ⟨j9 (by rw [F.out,decide_eq_false (show ¬ 0≤m - 1 by omega)]),by rw [F.out]; exact HB⟩
end
section
open Lib (hid)
open Go.RowKit Go.Shelf
theorem pJ (P : Program) (w : World) (p : Addr) (f : Fn) (x y : Array Value) (v : Value) (m : Mode) (h : w.cell? p=some v) (hf : w.frozen? p=false) : (store p (.func f x y) m).run P w=.ok () (w.setCell p (.func f x y)):=by
 rw [run_store P w p _ m rfl,h]
 simp [hf]
def a3v (w : World) (K : Value) : World:=((w.alloc (.cells #[.int .i64 8192] 3)).alloc (.cells #[.nilFunc] 26)).setCell ⟨w.heap.size + 1,0,none⟩ K
theorem a61 (w : World) : Cnt w.heap.size (w.heap.size + 1) 8192 (a3v w (a1N w.heap.size (w.heap.size + 1))):=by
 unfold a3v
 refine ⟨by simp [World.setCell]; omega,by simp [World.setCell],by omega,?_,?_,?_⟩
 ·rw [World.cell?_setCell_other _ _ _ _ (by simp)]; simp
 ·rw [World.frozen?_setCell]; simp
 ·exact World.cell?_setCell_same' _ _ _ (by simp)
theorem a1f (w : World) (K : Value) : Below w.heap.size w (a3v w K) :=
 ((c6 w _).alloc (by simp) _).setCell (p:=⟨w.heap.size + 1,0,none⟩) (by show w.heap.size≤w.heap.size + 1; omega) _
theorem eA (t : Nd) (a : Option Addr) (cap n₀ : Nat) (w : World) (hh : t.hold n₀ w a cap) (hn : n₀≤w.heap.size) :
 Calls Tryz.prog 26 #[.agg #[.int .i64 t.kind,.string t.text,.int .i64 t.n,.slice a t.kids.length cap,.int .i64 t.place]] w fun e w' => e=.returned (.bool (s8 t))∧Below w.heap.size w w':=by
 have HH:=hid hh
 clear hh
 have E:=hid (show s8 t=decide (0≤V5 t 8192) from rfl)
 go_enter Tryz.func26,Tryz.ntmps26
 go_wp2_with fail
 obtain ⟨W1,hW1⟩ : ∃ W1,W1=w.alloc (.cells #[.int .i64 t.kind,.string t.text,.int .i64 t.n,.slice a t.kids.length cap,.int .i64 t.place] 24):=⟨_,rfl⟩
 have HB:=hid (show Below w.heap.size w W1 from hW1 ▸ c6 _ _)
 have hsz : W1.heap.size=w.heap.size + 1:=by rw [hW1]; simp
 have hbx:=a7f w (.int .i64 t.kind) (.string t.text) (.int .i64 t.n) (.slice a t.kids.length cap) (.int .i64 t.place)
 rw [← hW1] at hbx ⊢
 clear hW1
 rw [pJ _ _ _ _ _ _ .nilFunc _ (by rw [← hsz]; simp) (by rw [← hsz]; simp)]
 have hc0:=a61 W1
 have hb0:=a1f W1 (a1N W1.heap.size (W1.heap.size + 1))
 have ew : ∀ v,((W1.alloc (.cells #[.int .i64 8192] 3)).alloc (.cells #[.nilFunc] 26)).setCell ⟨w.heap.size + 1 + 1,0,none⟩ v=a3v W1 v:=fun v => by unfold a3v; rw [hsz]
 rw [ew]
 clear ew
 rw [hsz] at hc0 hb0
 generalize a3v W1 (a1N (w.heap.size + 1) (w.heap.size + 1 + 1))=W2 at hc0 hb0 ⊢
 have HC:=hid hc0
 have HB1:=hid (show Below W1.heap.size W1 W2 from hsz.symm ▸ hb0)
 clear hc0 hb0
 have ow:=HC.out.own
 obtain ⟨b0,b1,b2,b3,b4⟩:=hbx
 have lt : w.heap.size<W1.heap.size:=by omega
 have d0:=(HB1.out.cell (p:=⟨w.heap.size,0,none⟩) lt).trans b0
 have d1:=(HB1.out.cell (p:=⟨w.heap.size,1,none⟩) lt).trans b1
 have d2:=(HB1.out.cell (p:=⟨w.heap.size,2,none⟩) lt).trans b2
 have d3:=(HB1.out.cell (p:=⟨w.heap.size,3,none⟩) lt).trans b3
 have d4:=(HB1.out.cell (p:=⟨w.heap.size,4,none⟩) lt).trans b4
 clear b0 b1 b2 b3 b4
 go_wp2_with fail
 have hn1 : n₀≤W1.heap.size:=by omega
 have HT:=hid ((HH.out.below (HB.out.mono hn)).below (HB1.out.mono hn1))
 refine Calls.mono (a2k _ t (Nat.lt_succ_self _) (w.heap.size + 1) (w.heap.size + 1 + 1) n₀ a cap 8192 W2 HT (by omega) (by omega) HC (by omega) (by omega)) ?_
 rintro e w' ⟨rfl,hb⟩
 have HW:=hid (HB.out.trans (((HB1.out.mono (Nat.le_of_lt lt)).setCell (p:=⟨w.heap.size + 1,0,none⟩) (by show w.heap.size≤w.heap.size + 1; omega) (.int .i64 (V5 t 8192))).trans (hb.mono (Nat.le_trans (Nat.le_of_lt lt) HB1.out.size))))
 clear hb
 go_wp2_with fail
 go_ret
 exact ⟨j9 E.out.symm,HW⟩
structure Boxed (b : Nat) (t : Nd) (a : Option Addr) (cap : Nat) (w : World) : Prop where
 lt : b<w.heap.size
 c0 : w.cell? ⟨b,0,none⟩=some (.int .i64 t.kind)
 c1 : w.cell? ⟨b,1,none⟩=some (.string t.text)
 c2 : w.cell? ⟨b,2,none⟩=some (.int .i64 t.n)
 c3 : w.cell? ⟨b,3,none⟩=some (.slice a t.kids.length cap)
 c4 : w.cell? ⟨b,4,none⟩=some (.int .i64 t.place)
theorem Boxed.below {b : Nat} {t : Nd} {a : Option Addr} {cap : Nat} {w w' : World} (h : Boxed b t a cap w) (hb : Below w.heap.size w w') : Boxed b t a cap w' :=
 ⟨Nat.lt_of_lt_of_le h.lt hb.size,(hb.cell (p:=⟨b,0,none⟩) h.lt).trans h.c0,(hb.cell (p:=⟨b,1,none⟩) h.lt).trans h.c1,(hb.cell (p:=⟨b,2,none⟩) h.lt).trans h.c2,(hb.cell (p:=⟨b,3,none⟩) h.lt).trans h.c3,(hb.cell (p:=⟨b,4,none⟩) h.lt).trans h.c4⟩
theorem Boxed.cells {b : Nat} {t : Nd} {a : Option Addr} {cap : Nat} {w : World} (h : Boxed b t a cap w) : w.cell? ⟨b,0,none⟩=some (.int .i64 t.kind)∧w.cell? ⟨b,1,none⟩=some (.string t.text)∧w.cell? ⟨b,2,none⟩=some (.int .i64 t.n) ∧
 w.cell? ⟨b,3,none⟩=some (.slice a t.kids.length cap)∧w.cell? ⟨b,4,none⟩=some (.int .i64 t.place):=⟨h.c0,h.c1,h.c2,h.c3,h.c4⟩
theorem Boxed.make (w : World) (t : Nd) (a : Option Addr) (cap : Nat) : Boxed w.heap.size t a cap (w.alloc (.cells #[.int .i64 t.kind,.string t.text,.int .i64 t.n,.slice a t.kids.length cap,.int .i64 t.place] 24)):=by
 refine ⟨?_,?_,?_,?_,?_,?_⟩ <;> simp
theorem a2O (t u : Nd) (a : Option Addr) (cap : Nat) (a' : Option Addr) (cap' n₀ : Nat) (w : World) (hh : t.hold n₀ w a cap) (hu : u.hold n₀ w a' cap') (hn : n₀≤w.heap.size) :
 Calls Tryz.prog 11 #[.agg #[.int .i64 t.kind,.string t.text,.int .i64 t.n,.slice a t.kids.length cap,.int .i64 t.place],.agg #[.int .i64 u.kind,.string u.text,.int .i64 u.n,.slice a' u.kids.length cap',.int .i64 u.place]] w
  fun e w' => e=.returned (.bool (s8 t && s8 u && aM t u))∧Below w.heap.size w w':=by
 have HB : Hid (Below w.heap.size w ((w.alloc (.cells #[.int .i64 t.kind,.string t.text,.int .i64 t.n,.slice a t.kids.length cap,.int .i64 t.place] 24)).alloc (.cells #[.int .i64 u.kind,.string u.text,.int .i64 u.n,.slice a' u.kids.length cap',.int .i64 u.place] 24))):=(c6 _ _).alloc (by simp) _
 have HH:=hid (hh.below (HB.out.mono hn))
 have HU:=hid (hu.below (HB.out.mono hn))
 have b0 : Hid (Boxed w.heap.size t a cap ((w.alloc (.cells #[.int .i64 t.kind,.string t.text,.int .i64 t.n,.slice a t.kids.length cap,.int .i64 t.place] 24)).alloc (.cells #[.int .i64 u.kind,.string u.text,.int .i64 u.n,.slice a' u.kids.length cap',.int .i64 u.place] 24))):=by
  refine ⟨by simp <;> omega,?_,?_,?_,?_,?_⟩ <;> simp
 have b1 : Hid (Boxed (w.heap.size + 1) u a' cap' ((w.alloc (.cells #[.int .i64 t.kind,.string t.text,.int .i64 t.n,.slice a t.kids.length cap,.int .i64 t.place] 24)).alloc (.cells #[.int .i64 u.kind,.string u.text,.int .i64 u.n,.slice a' u.kids.length cap',.int .i64 u.place] 24))):=by
  refine ⟨by simp <;> omega,?_,?_,?_,?_,?_⟩ <;> simp
 clear hh hu
 cases h1 : s8 t
 ·go_enter Tryz.func11,Tryz.ntmps11
  go_wp2_with fail
  refine Calls.mono (eA t a cap n₀ _ HH (Nat.le_trans hn HB.out.size)) ?_
  rintro e w' ⟨rfl,hb⟩
  rw [h1]
  have HW:=hid (HB.out.trans (hb.mono HB.out.size))
  go_wp2_with fail
  go_ret
  exact ⟨rfl,HW⟩
 ·cases h2 : s8 u
  all_goals
   go_enter Tryz.func11,Tryz.ntmps11
   go_wp2_with fail
   refine Calls.mono (eA t a cap n₀ _ HH (Nat.le_trans hn HB.out.size)) ?_
   rintro e w1 ⟨rfl,hb⟩
   rw [h1]
   have HW:=hid (HB.out.trans (hb.mono HB.out.size))
   have c0:=hid (b0.out.below hb)
   have c1:=hid (b1.out.below hb)
   have H1:=hid (HH.out.below (hb.mono (Nat.le_trans hn HB.out.size)))
   have U1:=hid (HU.out.below (hb.mono (Nat.le_trans hn HB.out.size)))
   clear hb b0 b1
   obtain ⟨y0,y1,y2,y3,y4⟩:=c1.out.cells
   go_wp2_with fail
   refine Calls.mono (eA u a' cap' n₀ _ U1 (Nat.le_trans hn HW.out.size)) ?_
   rintro e w2 ⟨rfl,hb⟩
   rw [h2]
   clear y0 y1 y2 y3 y4
   have HX:=hid (HW.out.trans (hb.mono HW.out.size))
   have d0:=hid (c0.out.below hb)
   have d1:=hid (c1.out.below hb)
   have H2:=hid (H1.out.below (hb.mono (Nat.le_trans hn HW.out.size)))
   have U2:=hid (U1.out.below (hb.mono (Nat.le_trans hn HW.out.size)))
   clear hb c0 c1 HW HB
   obtain ⟨x0,x1,x2,x3,x4⟩:=d0.out.cells
   obtain ⟨y0,y1,y2,y3,y4⟩:=d1.out.cells
   go_wp2_with fail
  ·go_ret
   exact ⟨rfl,HX⟩
  ·refine Calls.mono (a2x t u a cap a' cap' n₀ _ H2 U2 (Nat.le_trans hn HX.out.size)) ?_
   rintro e w3 ⟨rfl,hb⟩
   have HZ:=hid (HX.out.trans (hb.mono HX.out.size))
   clear hb
   go_wp2_with fail
   go_ret
   exact ⟨rfl,HZ⟩
end
section
open Go.ChangeShapes Go.WideShapes Go.ChangeAt Go.RowKit
section
variable {H : Type} {enc : TypeId × Value→H} {P : Program}
theorem jA (hl : laidOutB P=true) {W W' : World} (hb : Below W.heap.size W W') {sp : Nat→Bool} :
 ∀ (ts : List TypeId) (vs : List Value) (ds : List (DataW H)) (ps : List MemPlace),(∀ t∈ts,P.readableRec t=true∧t<P.types.size)→(∀ p∈ps,p.block<W.heap.size)→(∀ p∈ps,sp p.block=true) →
  DataW.TrodAll enc P W 0 (fun _ => true) true ts vs ds ps→DataW.TrodAll enc P W' 0 sp true ts vs ds ps
 | [],vs,ds,ps,_,_,_,h => by
   obtain ⟨rfl,rfl,rfl⟩:=trodAll_nil h
   exact trodAll_mk0
 | t :: ts,vs,ds,ps,ht,hlt,hs,h => by
   obtain ⟨v,vs',d,ds',p,q,rfl,rfl,rfl,h0,h1⟩:=trodAll_cons h
   have a:=ht t (by simp)
   refine trodAll_cons_mk (WideElems.Trod_stays hl a.1 a.2 h0 (fun x hx => hb.same (hlt x (by simp [hx]))) (fun x hx => hs x (by simp [hx]))) ?_
   exact jA hl hb ts vs' ds' q (fun u hu => ht u (by simp [hu])) (fun x hx => hlt x (by simp [hx])) (fun x hx => hs x (by simp [hx])) h1
theorem a48 {f : Func} {s : ChangeSpec} {apart fresh handsOn again : Bool} {W W' : World} {args : Array Value} {ds gs : List (DataW H)} {before : List MemPlace} {tb : TypeId}
 (hl : laidOutB P=true) (hts : ∀ t∈f.params.toList,P.readableRec t=true∧t<P.types.size) (hv : s.vars=[]) (hr : f.resultTypes=#[tb]) (hu : P.underlying tb=some .bool)
 (hfn : s.fn H (ds ++ gs)={ results:=[.lit (.bool true)],args:=ds })
 (hW : DataW.Whole enc P f.params.toList s.vars apart W args.toList ds gs before) (hb : Below W.heap.size W W') :
 s.post enc P f apart fresh handsOn again W args (.bool true) W':=by
 have hlt : ∀ p∈before,p.block<W.heap.size:=fun p hp => hW.lt p hp
 have hW':=hW
 obtain ⟨p,q,hA,hV,rfl,hz,hn⟩:=hW
 rw [hv] at hV
 obtain ⟨rfl,rfl⟩:=trodVars_none hV
 have hargs : ∀ sp : Nat→Bool,(∀ x∈p ++ [],sp x.block=true)→DataW.TrodAll enc P W' 0 sp true f.params.toList args.toList ds p:=fun sp hs =>
  jA hl hb _ _ _ _ hts (fun x hx => hlt x (by simpa using hx)) (fun x hx => hs x (by simpa using hx)) hA
 have hres : ∀ (b : Nat) (sp : Nat→Bool) (hd : Bool),DataW.TrodAll enc P W' b sp hd f.resultTypes.toList ((Value.bool true).resultList f.resultTypes.size) [DataW.lit (.bool true)] []:=fun b sp hd => by
  rw [hr]
  exact trodAll_mk1 (shut_bool hu true)
 have hok : ∀ (j : Nat) (t : TypeId) (r : Value),f.resultTypes[j]?=some t→((Value.bool true).resultList f.resultTypes.size)[j]?=some r→Value.okWide P W' .any 0 t r :=
  ok_one hr rfl (okWide_bool_mk hu _)
 refine ⟨ds,[],p ++ [],[],p,[],hW',?_,?_,?_,World.keptBut_mono (fun x hx => ⟨hx,?_⟩) (hb.frame (· ∈ p ++ [])),fun _ => ⟨hok,[DataW.lit (.bool true)] ++ ds,[],([] ++ p) ++ [],⟨[] ++ p,[],trodAll_append (hargs _ (fun _ _ => rfl)) (hres _ _ _),?_,rfl,?_,?_⟩,?_⟩⟩
 ·rw [hfn]; exact hres _ _ _
 ·rw [hfn]; exact hargs _ (fun x hx => by simpa using hlt x hx)
 ·rw [hv,hfn]; rfl
 ·exact .inr (.inl (by simpa using hx))
 ·rw [hv]; rfl
 ·intro b off hp
  have hin : MemPlace.cell b off∈p ++ []:=by simpa using hp
  rw [hb.frozen (p:=⟨b,off,none⟩) (hlt _ hin)]
  exact hz b off hin
 ·intro ha
  simpa using hn ha
 ·intro x hx _
  simpa using hx
end
theorem own : ownKnob Tryz.prog.godebug=none:=by kernel_rfl
theorem a5J : laidOutB Tryz.prog=true:=by kernel_rfl
theorem a7B : Tryz.prog.underlying 4=some .bool:=by kernel_rfl
end
end Go.Proofs.YtibiccacafjjfaaGreatDoor
