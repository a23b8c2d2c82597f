/-
  The law ConstraintGrows holds: for every unit and every part of its functions with call edges it returns true, and its arguments read afterwards as before. No condition beyond the row's own (the listed variables are as the program's text lays them).
-/
import Derived.Test.YtjnbddedmbhiaaaGreatDoorCbg
import Derived.Test.YtjnbddedmbhiaaaGreatDoorCng3
namespace Go.Proofs.YtjnbddedmbhiaaaGreatDoor
open Go.ChangeShapes Go.WideShapes Go.ChangeAt Go.RowKit Go.xg
set_option maxRecDepth 100000

theorem Yq:∀t∈Tryz.f3.params.toList,Tryz.prog.readableRec t=true/\t<Tryz.prog.types.size:=by
 rw[Tryz.params3]
 intro t ht
 simp only[List.mem_cons,List.mem_nil_iff,or_false]at ht
 rcases ht with rfl | rfl
 ·exact⟨by kernel_rfl,of_decide_eq_true (by kernel_rfl)⟩
 ·exact⟨by kernel_rfl,of_decide_eq_true (by kernel_rfl)⟩
theorem ZY(H:Type)(enc:TypeId × Value->H)(W:World)(base:Nat)(args:Array Value)(ds gs:List (DataW H))(before:List MemPlace)
 (hval:∀(j:Nat) t v,Tryz.f3.params[j]? = some t->args[j]? = some v->Value.okWide Tryz.prog W .any base t v)
 (hW:DataW.Whole enc Tryz.prog Tryz.f3.params.toList Rows.constraintGrowsSpec.vars false W args.toList ds gs before) (hL:laidMetH Tryz.prog Rows.constraintGrowsRow.laid W) (_hSh:W.ShapedOpen Tryz.prog) :
 Calls Tryz.prog 3 args W fun e W'=>∃v,e = .returned v/\Rows.constraintGrowsSpec.post enc Tryz.prog Tryz.f3 false true false false W args v W':=by
 have hW':=hW
 obtain⟨p,q,hA0,hV,rfl,hfz,hnd⟩:=hW
 have hA:DataW.TrodAll enc Tryz.prog W 0 (fun _=>true) true Tryz.f3.params.toList args.toList ds p:=hA0
 rw[Tryz.params3]at hA hval
 obtain⟨v0,vs0,d0,ds0,p0,q0,hargs,rfl,rfl,h0,r0⟩:=trodAll_cons hA
 obtain⟨v1,vs1,d1,ds1,p1,q1,rfl,rfl,rfl,h1,r1⟩:=trodAll_cons r0
 obtain⟨rfl,rfl,rfl⟩:=trodAll_nil r1
 obtain rfl:args=#[v0,v1]:=by cases args;simp_all
 obtain⟨u,ha,hc,fa,fc,hv0,hs0,hf0,hk0,_⟩:=UT (hval 0 27 v0 rfl rfl) h0
 obtain⟨funcs,na,nc,calls,la,lc,from_,hv1,hs1,hq1,hn1⟩:=UY (hval 1 31 v1 rfl rfl) h1
 have hAW:=y1K hL _hSh
 have walk:=constraintGrows u ha hc fa fc funcs na nc calls la lc from_ W hAW hs0 hf0 hs1 hq1 hn1
 rw[<-hv0,<-hv1]at walk
 refine walk.mono fun e W' ⟨he,hb⟩=>⟨_,he,?_⟩
 exact Xq laidOut Yq rfl Tryz.underlying4 rfl rfl hW' hb
theorem Xr(os:Os):laidMet Tryz.prog Rows.constraintGrowsRow.laid ((Fw os).forCall (fun _ _=>0) ⟨#[],#[.agg #[.slice none 0 0,.slice none 0 0,.int .i64 0],.agg #[.slice none 0 0,.slice none 0 0,.int .i64 0]],[]⟩).memory :=
 laidMet_of_run' 8 (by kernel_rfl) (by kernel_rfl)
theorem Uf(os:Os){H:Type}(enc:TypeId × Value->H):∃places,DataW.whole enc Tryz.prog ((Fw os).forCall (fun _ _=>0) ⟨#[],#[.agg #[.slice none 0 0,.slice none 0 0,.int .i64 0],.agg #[.slice none 0 0,.slice none 0 0,.int .i64 0]],[]⟩).memory Tryz.f3.params.toList Rows.constraintGrowsSpec.vars false (#[.agg #[.slice none 0 0,.slice none 0 0,.int .i64 0],.agg #[.slice none 0 0,.slice none 0 0,.int .i64 0]]:Array Value).toList 8=some ([.agg [.agg [.nil],.nil,.lit (.int .i64 0)],.agg [.nil,.nil,.lit (.int .i64 0)]],[],places) :=
 ⟨[],by kernel_rfl⟩
set_option maxRecDepth 100000 in
theorem WV(os:Os)(started:os.Started)(H:Type)(enc:TypeId × Value->H)(F:Stop.Interp) :
 ReturnsInHanded {} Tryz.checked os 3 .any ((OpenSpec.ofChange Rows.constraintGrowsSpec).preRow enc Tryz.prog Tryz.f3 Rows.constraintGrowsRow.domain false Rows.constraintGrowsRow.laid) (((OpenSpec.ofChange Rows.constraintGrowsSpec).at F).post enc Tryz.prog Tryz.f3 false true false false):=by
 obtain⟨places,hx⟩:=Uf os enc
 refine returnsInHanded_of_row (C:=Tryz.checked) (s:=OpenSpec.ofChange Rows.constraintGrowsSpec) own started (by kernel_rfl) Tryz.func3
  (witness_row_at (enc:=enc) (C:=Tryz.checked) false (Fw os) #[.agg #[.slice none 0 0,.slice none 0 0,.int .i64 0],.agg #[.slice none 0 0,.slice none 0 0,.int .i64 0]] rfl (by kernel_rfl) (by kernel_rfl) (by kernel_rfl)
    (OpenSpec.preRow_of_cond 8 hx (by kernel_rfl) (fun k hk=>by cases hk) (by kernel_rfl) (Xr os))) ?_
 intro W base args ds gs before hval hW _ hcond _ hL hSh _
 exact ZY H enc W base args ds gs before hval hW hL hSh
theorem Tq:Rows.ConstraintGrowsSaid :=
 OpenClaim.holds_of_cond 3 Tryz.f3 rfl rfl rfl rfl rfl rfl rfl ⟨rfl,rfl,rfl,rfl,rfl⟩ rfl rfl rfl rfl rfl (by kernel_rfl) Tryz.func3 y0k
  (of_decide_eq_true (by kernel_rfl)) (by unfold Func.isWrapper;first | (rw[if_pos (by decide +kernel)];kernel_rfl) | (rw[if_neg (by decide +kernel)];exact⟨rfl,rfl⟩))
  (fun os started H enc _ F=>by rw[OpenClaim.pre_eq_preRow];exact WV os started H enc F)
theorem Uz (f : FuncId) (fn : Func) (hf : Tryz.pinned.checked.prog.funcNamed "dataflow/dataflowlaw17.ConstraintGrows" = some f) (hfn : Tryz.pinned.checked.prog.funcs[f]? = some fn) :
 true=Tryz.pinned.checked.prog.looks []/\∀(j:Nat) t,fn.params[j]? = some t->Tryz.pinned.checked.prog.wantsStandIn t=false:=by
 obtain rfl : f = 3 := Option.some.inj ((show Tryz.prog.funcNamed "dataflow/dataflowlaw17.ConstraintGrows" = some 3 by kernel_rfl).symm.trans hf) |>.symm
 obtain rfl:fn=Tryz.f3:=(Option.some.inj (Tryz.func3.symm.trans hfn)).symm
 refine⟨by kernel_rfl,fun j t ht=>?_⟩
 have hm:=Array.mem_of_getElem? ht
 rw[Tryz.params3]at hm
 simp only[List.mem_toArray,List.mem_cons,List.mem_nil_iff,or_false]at hm
 rcases hm with rfl | rfl
 ·exact(show Tryz.prog.wantsStandIn 27=false by kernel_rfl)
 ·exact(show Tryz.prog.wantsStandIn 31=false by kernel_rfl)
theorem card3:Rows.ConstraintGrowsCardSaid :=
 Claim7.holds_tied_plain_at .later [] _ _ _ _ Tq (fun _ h=>by cases h) (by kernel_rfl) (fun _ h=>by cases h) constraintGrows_row_tie rfl ⟨rfl,rfl⟩ (by kernel_rfl) rfl Uz YF
end Go.Proofs.YtjnbddedmbhiaaaGreatDoor
