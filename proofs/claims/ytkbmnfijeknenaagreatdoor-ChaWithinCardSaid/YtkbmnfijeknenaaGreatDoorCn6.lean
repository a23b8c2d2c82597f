/-
  The law ChaWithin holds: for every unit it returns true, and its argument reads afterwards as before. No condition beyond the row's own (the listed variables are as the program's text lays them).
-/
import Derived.Test.YtkbmnfijeknenaaGreatDoorCw20
import Derived.Test.YtkbmnfijeknenaaGreatDoorCng6
namespace Go.Proofs.YtkbmnfijeknenaaGreatDoor
open Go.ChangeShapes Go.WideShapes Go.ChangeAt Go.RowKit Go.LawLift
set_option maxRecDepth 100000

theorem hts6:∀ t ∈ Tryz.f6.params.toList,Tryz.prog.readableRec t=true∧t < Tryz.prog.types.size:=by
 rw [Tryz.params6]
 intro t ht
 obtain rfl:t=27:=by simpa using ht
 exact ⟨by kernel_rfl,of_decide_eq_true (by kernel_rfl)⟩
theorem contract6 (H:Type) (enc:TypeId × Value→H) (W:World) (base:Nat) (args:Array Value) (ds gs:List (DataW H)) (before:List MemPlace)
 (hval:∀ (j:Nat) t v,Tryz.f6.params[j]? = some t→args[j]? = some v→Value.okWide Tryz.prog W .any base t v)
 (hW:DataW.Whole enc Tryz.prog Tryz.f6.params.toList Rows.chaWithinSpec.vars false W args.toList ds gs before) (hL:laidMetH Tryz.prog Rows.chaWithinRow.laid W) (_hSh:W.ShapedOpen Tryz.prog) :
 Calls Tryz.prog 6 args W fun e W'=>∃ v,e = .returned v∧Rows.chaWithinSpec.post enc Tryz.prog Tryz.f6 false true false false W args v W':=by
 have hW':=hW
 obtain ⟨p,q,hA0,hV,rfl,hfz,hnd⟩:=hW
 have hA:DataW.TrodAll enc Tryz.prog W 0 (fun _=>true) true Tryz.f6.params.toList args.toList ds p:=hA0
 rw [Tryz.params6] at hA hval
 obtain ⟨v0,vs0,d0,ds0,p0,q0,hargs,rfl,rfl,h0,r0⟩:=trodAll_cons hA
 obtain ⟨rfl,rfl,rfl⟩:=trodAll_nil r0
 obtain rfl:args = #[v0]:=by cases args;simp_all
 obtain ⟨u,ha,hc,fa,fc,hv0,hs0,hf0,hk0,_⟩:=open_unit (hval 0 27 v0 rfl rfl) h0
 have hAW:=aw_of hL _hSh
 have walk:=within20 u ha hc fa fc W hAW hs0 hf0
 rw [← hv0] at walk
 refine walk.mono fun e W' ⟨he,hb⟩=>⟨_,he,?_⟩
 exact law_post laidOut hts6 rfl Tryz.underlying4 rfl rfl hW' hb
theorem laid_met6 (os:Os):laidMet Tryz.prog Rows.chaWithinRow.laid ((laidWorld os).forCall (fun _ _=>0) ⟨#[],#[.agg #[.slice none 0 0,.slice none 0 0,.int .i64 0]],[]⟩).memory :=
 laidMet_of_run' 8 (by kernel_rfl) (by kernel_rfl)
theorem reads6 (os:Os) {H:Type} (enc:TypeId × Value→H):∃ places,DataW.whole enc Tryz.prog ((laidWorld os).forCall (fun _ _=>0) ⟨#[],#[.agg #[.slice none 0 0,.slice none 0 0,.int .i64 0]],[]⟩).memory Tryz.f6.params.toList Rows.chaWithinSpec.vars false (#[.agg #[.slice none 0 0,.slice none 0 0,.int .i64 0]]:Array Value).toList 8=some ([.agg [.agg [.nil],.nil,.lit (.int .i64 0)]],[],places) :=
 ⟨[],by kernel_rfl⟩
set_option maxRecDepth 100000 in
theorem lifted6 (os:Os) (started:os.Started) (H:Type) (enc:TypeId × Value→H) (F:Stop.Interp) :
 ReturnsInHanded {} Tryz.checked os 6 .any ((OpenSpec.ofChange Rows.chaWithinSpec).preRow enc Tryz.prog Tryz.f6 Rows.chaWithinRow.domain false Rows.chaWithinRow.laid) (((OpenSpec.ofChange Rows.chaWithinSpec).at F).post enc Tryz.prog Tryz.f6 false true false false):=by
 obtain ⟨places,hx⟩:=reads6 os enc
 refine returnsInHanded_of_row (C:=Tryz.checked) (s:=OpenSpec.ofChange Rows.chaWithinSpec) own started (by kernel_rfl) Tryz.func6
  (witness_row_at (enc:=enc) (C:=Tryz.checked) false (laidWorld os) #[.agg #[.slice none 0 0,.slice none 0 0,.int .i64 0]] rfl (by kernel_rfl) (by kernel_rfl) (by kernel_rfl)
    (OpenSpec.preRow_of_cond 8 hx (by kernel_rfl) (fun k hk=>by cases hk) (by kernel_rfl) (laid_met6 os))) ?_
 intro W base args ds gs before hval hW _ hcond _ hL hSh _
 exact contract6 H enc W base args ds gs before hval hW hL hSh
theorem said6:Rows.ChaWithinSaid :=
 OpenClaim.holds_of_cond 6 Tryz.f6 rfl rfl rfl rfl rfl rfl rfl ⟨rfl,rfl,rfl,rfl,rfl⟩ rfl rfl rfl rfl rfl (by kernel_rfl) Tryz.func6 closed6
  (of_decide_eq_true (by kernel_rfl)) (by unfold Func.isWrapper;first | (rw [if_pos (by decide +kernel)];kernel_rfl) | (rw [if_neg (by decide +kernel)];exact ⟨rfl,rfl⟩))
  (fun os started H enc _ F=>by rw [OpenClaim.pre_eq_preRow];exact lifted6 os started H enc F)
theorem plain6 (f : FuncId) (fn : Func) (hf : Tryz.pinned.checked.prog.funcNamed "dataflow/dataflowlaw20.ChaWithin" = some f) (hfn : Tryz.pinned.checked.prog.funcs[f]? = some fn) :
 true=Tryz.pinned.checked.prog.looks []∧∀ (j:Nat) t,fn.params[j]? = some t→Tryz.pinned.checked.prog.wantsStandIn t=false:=by
 obtain rfl : f = 6 := Option.some.inj ((show Tryz.prog.funcNamed "dataflow/dataflowlaw20.ChaWithin" = some 6 by kernel_rfl).symm.trans hf) |>.symm
 obtain rfl:fn=Tryz.f6:=(Option.some.inj (Tryz.func6.symm.trans hfn)).symm
 refine ⟨by kernel_rfl,fun j t ht=>?_⟩
 have hm:=Array.mem_of_getElem? ht
 rw [Tryz.params6] at hm
 obtain rfl:t=27:=by simpa using hm
 exact (show Tryz.prog.wantsStandIn 27=false by kernel_rfl)
theorem card6:Rows.ChaWithinCardSaid :=
 Claim7.holds_tied_plain_at .later [] _ _ _ _ said6 (fun _ h=>by cases h) (by kernel_rfl) (fun _ h=>by cases h) chaWithin_row_tie rfl ⟨rfl,rfl⟩ (by kernel_rfl) rfl plain6 goes6
end Go.Proofs.YtkbmnfijeknenaaGreatDoor
