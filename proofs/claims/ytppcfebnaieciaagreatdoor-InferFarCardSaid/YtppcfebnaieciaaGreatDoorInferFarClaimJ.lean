import Derived.Test.YtppcfebnaieciaaGreatDoorF30
import Derived.Test.YtppcfebnaieciaaGreatDoorF34
namespace Go.Proofs.YtppcfebnaieciaaGreatDoor.inferFar
open Go.ChangeShapes Go.WideShapes Go.ChangeAt Go.RowKit
open Go.ChangeMaps (open_string shut_string)
set_option maxRecDepth 100000
theorem contract (H : Type) (enc : TypeId × Value→H) (W : World) (base : Nat) (args : Array Value) (ds gs : List (DataW H)) (before : List MemPlace)
 (hval : ∀ (j : Nat) t v,Tryz.f9.params[j]?=some t→args[j]?=some v→Value.okWide Tryz.prog W .any base t v)
 (hW : DataW.Whole enc Tryz.prog Tryz.f9.params.toList Rows.inferFarSpec.vars false W args.toList ds gs before) (hL : laidMetH Tryz.prog fL W) (hsh : W.ShapedOpen Tryz.prog) (hz : (DataW.weightsEach Tryz.prog (Tryz.f9.params.toList ++ (OpenSpec.ofChange Rows.inferFarSpec).bare.plain.varTypes Tryz.prog) (ds ++ gs)).all (· ≤ reachBytes)=true) :
 Calls Tryz.prog 9 args W fun e W' => ∃ v,e=.returned v∧Rows.inferFarSpec.post enc Tryz.prog Tryz.f9 false true false false W args v W':=by
 have hW':=hW
 obtain ⟨p,q,hA0,hV,rfl,hfz,hnd⟩:=hW
 have hA : DataW.TrodAll enc Tryz.prog W 0 (fun _ => true) true Tryz.f9.params.toList args.toList ds p:=hA0
 rw [Tryz.params9] at hA hval hz
 obtain ⟨v0,vs0,d0,ds0,p0,q0,hargs,rfl,rfl,h0,r0⟩:=trodAll_cons hA
 obtain ⟨rfl,rfl,rfl⟩:=trodAll_nil r0
 obtain rfl : args=#[v0]:=by cases args; simp_all
 obtain ⟨rfl,rfl⟩:=trodVars_none hV
 obtain ⟨x0,a0,c0,rfl,hx0,hs0⟩:=a0U (hval 0 24 v0 rfl rfl) h0 (aS _ _ hz 0 24 d0 rfl rfl)
 refine (zB x0 a0 c0 _ W hx0 hs0 (fun e => a1Z (e ▸ h0)) (Nat.le_refl _) (a0H hsh) (a3j hL) (a2F hL)).mono fun e W' ⟨he,hb⟩ => ?_
 subst he
 refine ⟨_,rfl,a18 a3Q ?_ rfl (tb:=4) (by kernel_rfl) a5n rfl hW' hb⟩
 intro t ht
 rw [Tryz.params9] at ht
 simp only [List.mem_cons,List.not_mem_nil,or_false] at ht
 subst ht
 all_goals exact ⟨by kernel_rfl,of_decide_eq_true (by kernel_rfl)⟩
def start : Array Value:=#[.agg #[.int .i64 0,.string ⟨#[]⟩,.int .i64 0,.slice none 0 0,.int .i64 0]]
theorem laid_met (os : Os) : laidMet Tryz.prog Rows.inferFarRow.laid ((fM os).forCall (fun _ _ => 0) ⟨#[],start,[]⟩).memory :=
 (show laidMet Tryz.prog fL _ from laidMet_laidAll _ (by kernel_rfl) (by kernel_rfl))
theorem reads (os : Os) {H : Type} (enc : TypeId × Value→H) : ∃ places,DataW.whole enc Tryz.prog ((fM os).forCall (fun _ _ => 0) ⟨#[],start,[]⟩).memory Tryz.f9.params.toList Rows.inferFarSpec.vars false start.toList 8=some ([.agg [.lit (.int .i64 0),.lit (.string []),.lit (.int .i64 0),.nil,.lit (.int .i64 0)]],[],places) :=
 ⟨[],by kernel_rfl⟩
theorem lifted (os : Os) (started : os.Started) (H : Type) (enc : TypeId × Value→H) (F : Stop.Interp) :
 ReturnsInHanded {} Tryz.checked os 9 .any ((OpenSpec.ofChange Rows.inferFarSpec).preRow enc Tryz.prog Tryz.f9 Rows.inferFarRow.domain false Rows.inferFarRow.laid) (((OpenSpec.ofChange Rows.inferFarSpec).at F).post enc Tryz.prog Tryz.f9 false true false false):=by
 obtain ⟨places,hx⟩:=reads os enc
 refine returnsInHanded_of_row (C:=Tryz.checked) (s:=OpenSpec.ofChange Rows.inferFarSpec) own started (by kernel_rfl) Tryz.func9
  (jX (enc:=enc) (C:=Tryz.checked) false (fM os) start (World.laidAll_os _ _ _) (by kernel_rfl) (by kernel_rfl) (by kernel_rfl)
    (OpenSpec.preRow_of_cond 8 hx (by kernel_rfl) (fun k hk => by cases hk) (by kernel_rfl) (laid_met os))) ?_
 intro W base args ds gs before hval hW _ _ hz hL hsh _
 exact contract H enc W base args ds gs before hval hW hL hsh hz
theorem said : Rows.InferFarSaid :=
 OpenClaim.holds_of_cond 9 Tryz.f9 rfl rfl rfl rfl rfl rfl rfl ⟨rfl,rfl,rfl,rfl,rfl⟩ rfl rfl rfl rfl rfl (by kernel_rfl) Tryz.func9 (by kernel_rfl)
  (of_decide_eq_true (by kernel_rfl)) (by unfold Func.isWrapper; first | (rw [if_pos (by decide +kernel)]; kernel_rfl) | (rw [if_neg (by decide +kernel)]; exact ⟨rfl,rfl⟩))
  (fun os started H enc _ F => by rw [OpenClaim.pre_eq_preRow]; exact lifted os started H enc F)
theorem plain (f : FuncId) (fn : Func) (hf : Tryz.pinned.checked.prog.funcNamed "usance/usancelaw11.InferFar"=some f) (hfn : Tryz.pinned.checked.prog.funcs[f]?=some fn) :
 true=Tryz.pinned.checked.prog.looks []∧∀ (j : Nat) t,fn.params[j]?=some t→Tryz.pinned.checked.prog.wantsStandIn t=false:=by
 obtain rfl : f=9:=Option.some.inj ((show Tryz.prog.funcNamed "usance/usancelaw11.InferFar"=some 9 by kernel_rfl).symm.trans hf) |>.symm
 obtain rfl : fn=Tryz.f9:=(Option.some.inj (Tryz.func9.symm.trans hfn)).symm
 refine ⟨by kernel_rfl,fun j t ht => ?_⟩
 rw [Tryz.params9] at ht
 have hm:=Array.mem_of_getElem? ht
 simp only [List.mem_toArray,List.mem_cons,List.not_mem_nil,or_false] at hm
 subst hm
 all_goals exact (show _=false by kernel_rfl)
theorem card : Rows.InferFarCardSaid :=
 Claim7.holds_tied_plain_at .later [] _ _ _ _ said (fun _ h => by cases h) (by kernel_rfl) (fun _ h => by cases h) inferFar_row_tie rfl ⟨rfl,rfl⟩ (by kernel_rfl) rfl plain (by kernel_rfl)
end Go.Proofs.YtppcfebnaieciaaGreatDoor.inferFar
