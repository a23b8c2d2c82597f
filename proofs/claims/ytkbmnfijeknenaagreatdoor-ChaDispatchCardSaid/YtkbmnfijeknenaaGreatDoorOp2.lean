/-
  Call edges as the row hands them, opened.
-/
import Derived.Test.YtkbmnfijeknenaaGreatDoorOp
import Derived.Test.YtkbmnfijeknenaaGreatDoorGA
namespace Go.Proofs.YtkbmnfijeknenaaGreatDoor
open Go.ChangeShapes Go.WideShapes Go.ChangeAt Go.RowKit Go.LawLift Go.Deep Go.Unit0
set_option maxRecDepth 100000

theorem oc_CallEdge:Tryz.prog.cellsOf 51=3:=by kernel_rfl
theorem oc_s_CallEdge:Tryz.prog.cellsOf 34=1:=by kernel_rfl
section
variable {H:Type} {enc:TypeId × Value→H} {w:World} {fuel:Nat} {v:Value} {cs:List Value} {x:DataW H × List MemPlace}
theorem open_cals1 (h:DataW.trod enc Tryz.prog w 0 (fun _=>true) true fuel 51 cs=some x):∃ (g:Cal),cs = [.int .i64 g.f,.int .i64 g.i,.int .i64 g.c]:=by
 obtain ⟨xs,n,_,hx,hcl,hlen,hg⟩:=DataW.trod_struct Tryz.underlying51 h
 match cs,hcl.trans oc_CallEdge with
 | [q0,q1,q2],_ =>
   match xs,hlen with
   | [y0,y1,y2],_ =>
     have g0:DataW.trod enc Tryz.prog w 0 (fun _=>true) true n 3 [q0]=some y0:=by have:=hg 0 _ rfl;simpa [oc_int,Value.cells] using this
     have g1:DataW.trod enc Tryz.prog w 0 (fun _=>true) true n 3 [q1]=some y1:=by have:=hg 1 _ rfl;simpa [oc_int,Value.cells] using this
     have g2:DataW.trod enc Tryz.prog w 0 (fun _=>true) true n 3 [q2]=some y2:=by have:=hg 2 _ rfl;simpa [oc_int,Value.cells] using this
     obtain ⟨v0,e0,_⟩:=DataW.trod_int Tryz.underlying3 g0
     obtain ⟨v1,e1,_⟩:=DataW.trod_int Tryz.underlying3 g1
     obtain ⟨v2,e2,_⟩:=DataW.trod_int Tryz.underlying3 g2
     simp only [List.cons.injEq,and_true] at e0 e1 e2
     subst e0 e1 e2
     exact ⟨⟨v0,v1,v2⟩,rfl⟩
theorem open_cals0 (h:DataW.trod enc Tryz.prog w 0 (fun _=>true) true fuel 34 [v]=some x):∃ a cap l,v = .slice a (List.length l) cap∧CalsAt w a l∧l.length≤cap:=by
 obtain ⟨a,len,cap,rfl,hle,hr⟩:=open_rows Tryz.underlying34 oc_CallEdge (by omega) h
 obtain ⟨l,hl,hq⟩:=list_of (Q:=fun i (g:Cal)=>∃ b off,a=some ⟨b,off,none⟩∧w.cell? ⟨b,off + i * 3,none⟩=some (.int .i64 g.f)∧w.cell? ⟨b,off + i * 3 + 1,none⟩=some (.int .i64 g.i)∧w.cell? ⟨b,off + i * 3 + 2,none⟩=some (.int .i64 g.c)) len fun i hi=>by
  obtain ⟨b,off,ha,cs,n,y,ht,hl,hat⟩:=hr i hi
  obtain ⟨g,rfl⟩:=open_cals1 ht
  exact ⟨g,b,off,ha,by first | exact hat 0 (by omega) | simp,by first | exact hat 1 (by omega) | simp,by first | exact hat 2 (by omega) | simp⟩
 subst hl
 exact ⟨a,cap,l,rfl,fun k hk=>hq k hk,hle⟩
end
theorem open_cals {H:Type} {enc:TypeId × Value→H} {w:World} {b0:Nat} {v:Value} {d:DataW H} {ps:List MemPlace} (hv:Value.okWide Tryz.prog w .any b0 34 v) (h:DataW.Trod enc Tryz.prog w 0 (fun _=>true) true 34 v d ps) :
 ∃ a cap l,v = .slice a (List.length l) cap∧CalsAt w a l∧l.length≤cap:=by
 obtain ⟨a,len,cap,rfl⟩:=okWide_slice Tryz.underlying34 hv
 obtain ⟨fuel,hf⟩:=h
 exact open_cals0 hf
end Go.Proofs.YtkbmnfijeknenaaGreatDoor
