/-
  Closed facts of the row of ConstraintGrows, by the kernel.
-/
import Derived.Test.YtjnbddedmbhiaaaGreatDoorCnf3
namespace Go.Proofs.YtjnbddedmbhiaaaGreatDoor
set_option maxRecDepth 100000
theorem y1Y{α:Type}{p:α->Bool}{a:Array α}(h:a.any p=false)(g:Nat):(a[g]?).any p=false:=by
 rw[Array.any_eq_false]at h
 cases e:a[g]? with
 |none=>rfl
 |some x =>
  obtain⟨hg,rfl⟩:=Array.getElem?_eq_some_iff.1 e
  simpa using h g hg
theorem YD{P:Program}(h:P.funcs.any Func.goes=false)(f:FuncId):P.goes f=false:=by
 unfold Program.goes
 rw[h,Bool.and_false,Bool.or_false,List.any_eq_false]
 intro g _
 rw[y1Y h g]
 simp
theorem YE{P:Program}(h:P.funcs.any Func.goes=false)(s:Start)(hs:s = .entering)(func:String):P.goesAt s func=false:=by
 subst hs
 unfold Program.goesAt Program.goesFrom
 cases P.funcNamed func with
 |none=>rfl
 |some f=>simp[YD h f]
theorem VL:Tryz.pinned.checked.prog.funcs.any Func.goes=false:=by kernel_rfl
theorem YF:false=Rows.constraintGrowsRow.goesBy Tryz.pinned.checked.prog:=(YE VL _ rfl _).symm
theorem y0k:joinedFacts Tryz.pinned.checked.prog 3 Tryz.f3 (OpenSpec.ofChange Rows.constraintGrowsSpec).bare Rows.constraintGrowsRow=true:=by
 unfold joinedFacts
 rw[<-Yd,<-Rh,<-Uc,<-VW]
 kernel_rfl
end Go.Proofs.YtjnbddedmbhiaaaGreatDoor
