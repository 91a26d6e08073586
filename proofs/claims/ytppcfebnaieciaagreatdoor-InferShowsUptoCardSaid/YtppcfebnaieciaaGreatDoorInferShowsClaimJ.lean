import Derived.Test.YtppcfebnaieciaaGreatDoorE29
import Derived.Test.YtppcfebnaieciaaGreatDoorE33
namespace Go.Proofs.YtppcfebnaieciaaGreatDoor.inferShows
open Go.ChangeShapes Go.WideShapes Go.ChangeAt Go.RowKit
open Go.ChangeMaps (open_string shut_string)
set_option maxRecDepth 100000
theorem contract (H : Type) (enc : TypeId × Value→H) (W : World) (base : Nat) (args : Array Value) (ds gs : List (DataW H)) (before : List MemPlace)
 (hval : ∀ (j : Nat) t v,Tryz.f5.params[j]?=some t→args[j]?=some v→Value.okWide Tryz.prog W .any base t v)
 (hW : DataW.Whole enc Tryz.prog Tryz.f5.params.toList Rows.inferShowsSpec.vars false W args.toList ds gs before) (hL : laidMetH Tryz.prog bO W) (hsh : W.ShapedOpen Tryz.prog) (hcond : Rows.uptoSmall H (ds ++ gs)=true) :
 Calls Tryz.prog 5 args W fun e W' => ∃ v,e=.returned v∧Rows.inferShowsSpec.post enc Tryz.prog Tryz.f5 false true false false W args v W':=by
 have hW':=hW
 obtain ⟨p,q,hA0,hV,rfl,hfz,hnd⟩:=hW
 have hA : DataW.TrodAll enc Tryz.prog W 0 (fun _ => true) true Tryz.f5.params.toList args.toList ds p:=hA0
 rw [Tryz.params5] at hA hval
 obtain ⟨v0,vs0,d0,ds0,p0,q0,hargs,rfl,rfl,h0,r0⟩:=trodAll_cons hA
 obtain ⟨rfl,rfl,rfl⟩:=trodAll_nil r0
 obtain rfl : args=#[v0]:=by cases args; simp_all
 obtain ⟨rfl,rfl⟩:=trodVars_none hV
 have hb0 : Rows.uptoBulk d0≤1048576:=by
  have:=of_decide_eq_true hcond
  simp only [Rows.uptoBulkAll,List.cons_append,List.nil_append] at this
  omega
 obtain ⟨x0,a0,c0,rfl,hI,hc,hr,hn,hs⟩:=vN (hval 0 36 v0 rfl rfl) h0 hb0
 refine (sS (· < W.heap.size) x0 a0 c0 W hI hc hr hn hs (fun _ h => h) (jH hsh) (qS hL) (mI hL)).mono fun e W' ⟨he,hb⟩ => ?_
 subst he
 refine ⟨_,rfl,mS rS ?_ rfl (tb:=4) (by kernel_rfl) a2M rfl hW' hb⟩
 intro t ht
 rw [Tryz.params5] at ht
 simp only [List.mem_cons,List.not_mem_nil,or_false] at ht
 subst ht
 all_goals exact ⟨by kernel_rfl,of_decide_eq_true (by kernel_rfl)⟩
def start : Array Value:=#[.agg #[.string ⟨#[]⟩,.slice none 0 0,.int .i64 0]]
theorem laid_met (os : Os) : laidMet Tryz.prog Rows.inferShowsUptoRow.laid ((I5 os).forCall (fun _ _ => 0) ⟨#[],start,[]⟩).memory :=
 (show laidMet Tryz.prog bO _ from laidMet_laidAll _ (by kernel_rfl) (by kernel_rfl))
theorem reads (os : Os) {H : Type} (enc : TypeId × Value→H) : ∃ places,DataW.whole enc Tryz.prog ((I5 os).forCall (fun _ _ => 0) ⟨#[],start,[]⟩).memory Tryz.f5.params.toList Rows.inferShowsSpec.vars false start.toList 8=some ([.agg [.lit (.string []),.nil,.lit (.int .i64 0)]],[],places) :=
 ⟨[],by kernel_rfl⟩
theorem lifted (os : Os) (started : os.Started) (H : Type) (enc : TypeId × Value→H) (F : Stop.Interp) :
 ReturnsInHanded {} Tryz.checked os 5 .any ((Rows.OpenSpec.upto Rows.inferShowsSpec).preRow enc Tryz.prog Tryz.f5 Rows.inferShowsUptoRow.domain false Rows.inferShowsUptoRow.laid) (((Rows.OpenSpec.upto Rows.inferShowsSpec).at F).post enc Tryz.prog Tryz.f5 false true false false):=by
 obtain ⟨places,hx⟩:=reads os enc
 refine returnsInHanded_of_row (C:=Tryz.checked) (s:=Rows.OpenSpec.upto Rows.inferShowsSpec) own started (by kernel_rfl) Tryz.func5
  (aP (enc:=enc) (C:=Tryz.checked) false (I5 os) start (World.laidAll_os _ _ _) (by kernel_rfl) (by kernel_rfl) (by kernel_rfl)
    (OpenSpec.preRow_of_cond 8 hx (by kernel_rfl) (fun k hk => by cases hk; kernel_rfl) (by kernel_rfl) (laid_met os))) ?_
 intro W base args ds gs before hval hW _ hk _ hL hsh _
 exact contract H enc W base args ds gs before hval hW hL hsh (hk _ rfl)
theorem said : Rows.InferShowsUptoSaid :=
 OpenClaim.holds_of_cond 5 Tryz.f5 rfl rfl rfl rfl rfl rfl rfl ⟨rfl,rfl,rfl,rfl,rfl⟩ rfl rfl rfl rfl rfl (by kernel_rfl) Tryz.func5 (by kernel_rfl)
  (of_decide_eq_true (by kernel_rfl)) (by unfold Func.isWrapper; first | (rw [if_pos (by decide +kernel)]; kernel_rfl) | (rw [if_neg (by decide +kernel)]; exact ⟨rfl,rfl⟩))
  (fun os started H enc _ F => by rw [OpenClaim.pre_eq_preRow]; exact lifted os started H enc F)
theorem plain (f : FuncId) (fn : Func) (hf : Tryz.pinned.checked.prog.funcNamed "usance/usancelaw11.InferShows"=some f) (hfn : Tryz.pinned.checked.prog.funcs[f]?=some fn) :
 true=Tryz.pinned.checked.prog.looks []∧∀ (j : Nat) t,fn.params[j]?=some t→Tryz.pinned.checked.prog.wantsStandIn t=false:=by
 obtain rfl : f=5:=Option.some.inj ((show Tryz.prog.funcNamed "usance/usancelaw11.InferShows"=some 5 by kernel_rfl).symm.trans hf) |>.symm
 obtain rfl : fn=Tryz.f5:=(Option.some.inj (Tryz.func5.symm.trans hfn)).symm
 refine ⟨by kernel_rfl,fun j t ht => ?_⟩
 rw [Tryz.params5] at ht
 have hm:=Array.mem_of_getElem? ht
 simp only [List.mem_toArray,List.mem_cons,List.not_mem_nil,or_false] at hm
 subst hm
 all_goals exact (show _=false by kernel_rfl)
theorem card : Rows.InferShowsUptoCardSaid :=
 Claim7.holds_tied_plain_at .later [] _ _ _ _ said (fun _ h => by cases h) (by kernel_rfl) (fun _ h => by cases h) inferShowsUpto_row_tie rfl ⟨rfl,rfl⟩ (by kernel_rfl) rfl plain (by kernel_rfl)
end Go.Proofs.YtppcfebnaieciaaGreatDoor.inferShows
