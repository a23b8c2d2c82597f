/-
  A unit as the row hands it, opened: hierarchies, functions, instructions in memory.
  Call edges as the row hands them, opened.
  A result of a pointer analysis and a question as the row hands them, opened.
-/
import Derived.Test.YtffcklfigpmlgaaGreatDoorVA
import Derived.Test.YtffcklfigpmlgaaGreatDoorRG
import Derived.Test.YtffcklfigpmlgaaGreatDoorWF
import Derived.Test.YtffcklfigpmlgaaGreatDoorGA
import Derived.Test.YtffcklfigpmlgaaGreatDoorMA
import Derived.Test.YtffcklfigpmlgaaGreatDoorC1
namespace Go.Proofs.YtffcklfigpmlgaaGreatDoor
open Go.ChangeShapes Go.WideShapes Go.ChangeAt Go.RowKit Go.LawLift Go.Deep Go.Unit0
set_option maxRecDepth 100000

theorem oc_int:Tryz.prog.cellsOf 3=1:=by kernel_rfl
theorem oc_int64:Tryz.prog.cellsOf 2=1:=by kernel_rfl
theorem oc_bool:Tryz.prog.cellsOf 4=1:=by kernel_rfl
theorem oc_string:Tryz.prog.cellsOf 9=1:=by kernel_rfl
theorem oc_s_string:Tryz.prog.cellsOf 35=1:=by kernel_rfl
theorem oc_s_int:Tryz.prog.cellsOf 28=1:=by kernel_rfl
theorem oc_s_Field:Tryz.prog.cellsOf 82=1:=by kernel_rfl
theorem oc_s_Sig:Tryz.prog.cellsOf 83=1:=by kernel_rfl
theorem oc_s_Instr:Tryz.prog.cellsOf 88=1:=by kernel_rfl
theorem oc_s_ClassDecl:Tryz.prog.cellsOf 22=1:=by kernel_rfl
theorem oc_s_Func:Tryz.prog.cellsOf 25=1:=by kernel_rfl
theorem oc_Hier:Tryz.prog.cellsOf 24=1:=by kernel_rfl
theorem oc_Field:Tryz.prog.cellsOf 126=2:=by kernel_rfl
theorem oc_Sig:Tryz.prog.cellsOf 87=4:=by kernel_rfl
theorem oc_ClassDecl:Tryz.prog.cellsOf 85=4:=by kernel_rfl
theorem oc_Instr:Tryz.prog.cellsOf 92=10:=by kernel_rfl
theorem oc_Func:Tryz.prog.cellsOf 90=7:=by kernel_rfl
theorem oc_Unit:Tryz.prog.cellsOf 27=3:=by kernel_rfl
section
variable {H:Type} {enc:TypeId × Value→H} {w:World} {fuel:Nat} {v:Value} {cs:List Value} {x:DataW H × List MemPlace}
theorem open_rows {t e sz:Nat} (ht:Tryz.prog.underlying t=some (.slice e)) (hc:Tryz.prog.cellsOf e=sz) (h0:0 < sz) (h:DataW.trod enc Tryz.prog w 0 (fun _=>true) true fuel t [v]=some x) :
 ∃ (a:Option Addr) (len cap:Nat),v = .slice a len cap∧len≤cap∧∀ i,i < len→∃ b off,a=some ⟨b,off,none⟩∧∃ cs n y,DataW.trod enc Tryz.prog w 0 (fun _=>true) true n e cs=some y∧cs.length=sz∧∀ j,j < sz→w.cell? ⟨b,off + i * sz + j,none⟩=cs[j]?:=by
 rcases open_slice ht h with ⟨hcs,_⟩ | ⟨a,len,cap,m,n,D,Pl',hcs,hb,hle,hmx,hmm,rfl,hi⟩
 ·exact ⟨none,0,0,by simpa using hcs,Nat.le_refl _,fun i hi=>absurd hi (by omega)⟩
 ·refine ⟨some a,len,cap,by simpa using hcs,hle,fun i hil=>?_⟩
  have each:∀ i,i < len→∃ cs y,DataW.trod enc Tryz.prog w 0 (fun _=>true) true n e cs=some y∧cs.length=sz∧∀ j,j < sz→w.cell? (a.add (i * sz + j))=cs[j]?:=by
   intro i hil
   obtain ⟨cs',hc',ht'⟩:=hi i (by rw [hmm];split <;> omega)
   rw [hc] at hc'
   obtain ⟨_,hcl,hat⟩:=World.cells?_some hc'
   refine ⟨cs',_,ht',hcl,fun j hj=>?_⟩
   have h1:=hat j hj
   rw [Go.Deep.add_add] at h1
   exact h1
  obtain ⟨cs0,_,_,hl0,hat0⟩:=each 0 (by omega)
  have h00:=hat0 0 h0
  have ea:a.add 0=a:=by unfold Addr.add;simp
  rw [Nat.zero_mul,ea,List.getElem?_eq_getElem (by omega)] at h00
  obtain ⟨cs',y,ht',hl',hat'⟩:=each i hil
  refine ⟨a.block,a.off,by rw [← (add_out h00 0).1],cs',n,y,ht',hl',fun j hj=>?_⟩
  rw [← hat' j hj,(add_out h00 (i * sz + j)).2,Nat.add_assoc]
theorem open_strs (h:DataW.trod enc Tryz.prog w 0 (fun _=>true) true fuel 35 [v]=some x):∃ a cap l,v = .slice a (List.length l) cap∧StrsAt w a l∧l.length≤cap:=by
 obtain ⟨a,len,cap,rfl,hle,hr⟩:=open_rows Tryz.underlying35 oc_string (by omega) h
 obtain ⟨l,hl,hq⟩:=list_of (Q:=fun i (s:Str)=>∃ b off,a=some ⟨b,off,none⟩∧w.cell? ⟨b,off + i,none⟩=some (.string s)) len fun i hi=>by
  obtain ⟨b,off,ha,cs,n,y,ht,hl,hat⟩:=hr i hi
  match cs,hl with
  | [c0],_ =>
    obtain ⟨s,e,_⟩:=DataW.trod_string Tryz.underlying9 ht
    simp only [List.cons.injEq,and_true] at e
    subst e
    exact ⟨s,b,off,ha,by simpa using hat 0 (by omega)⟩
 subst hl
 exact ⟨a,cap,l,rfl,fun k hk=>hq k hk,hle⟩
theorem open_ints (h:DataW.trod enc Tryz.prog w 0 (fun _=>true) true fuel 28 [v]=some x):∃ a cap l,v = .slice a (List.length l) cap∧IntsAt w a l∧l.length≤cap:=by
 obtain ⟨a,len,cap,rfl,hle,hr⟩:=open_rows Tryz.underlying28 oc_int (by omega) h
 obtain ⟨l,hl,hq⟩:=list_of (Q:=fun i (s:Int)=>∃ b off,a=some ⟨b,off,none⟩∧w.cell? ⟨b,off + i,none⟩=some (.int .i64 s)) len fun i hi=>by
  obtain ⟨b,off,ha,cs,n,y,ht,hl,hat⟩:=hr i hi
  match cs,hl with
  | [c0],_ =>
    obtain ⟨s,e,_⟩:=DataW.trod_int Tryz.underlying3 ht
    simp only [List.cons.injEq,and_true] at e
    subst e
    exact ⟨s,b,off,ha,by simpa using hat 0 (by omega)⟩
 subst hl
 exact ⟨a,cap,l,rfl,fun k hk=>hq k hk,hle⟩
theorem open_flds1 (h:DataW.trod enc Tryz.prog w 0 (fun _=>true) true fuel 126 cs=some x):∃ (g:Fld),cs = [.string g.name,.string g.type]:=by
 obtain ⟨xs,n,_,hx,hcl,hlen,hg⟩:=DataW.trod_struct Tryz.underlying126 h
 match cs,hcl.trans oc_Field with
 | [q0,q1],_ =>
   match xs,hlen with
   | [y0,y1],_ =>
     have g0:DataW.trod enc Tryz.prog w 0 (fun _=>true) true n 9 [q0]=some y0:=by have:=hg 0 _ rfl;simpa [oc_string,Value.cells] using this
     have g1:DataW.trod enc Tryz.prog w 0 (fun _=>true) true n 9 [q1]=some y1:=by have:=hg 1 _ rfl;simpa [oc_string,Value.cells] using this
     obtain ⟨v0,e0,_⟩:=DataW.trod_string Tryz.underlying9 g0
     obtain ⟨v1,e1,_⟩:=DataW.trod_string Tryz.underlying9 g1
     simp only [List.cons.injEq,and_true] at e0 e1
     subst e0 e1
     exact ⟨⟨v0,v1⟩,rfl⟩
theorem open_flds (h:DataW.trod enc Tryz.prog w 0 (fun _=>true) true fuel 82 [v]=some x):∃ a cap l,v = .slice a (List.length l) cap∧FldsAt w a l∧l.length≤cap:=by
 obtain ⟨a,len,cap,rfl,hle,hr⟩:=open_rows Tryz.underlying82 oc_Field (by omega) h
 obtain ⟨l,hl,hq⟩:=list_of (Q:=fun i (g:Fld)=>∃ b off,a=some ⟨b,off,none⟩∧w.cell? ⟨b,off + i * 2,none⟩=some (.string g.name)∧w.cell? ⟨b,off + i * 2 + 1,none⟩=some (.string g.type)) len fun i hi=>by
  obtain ⟨b,off,ha,cs,n,y,ht,hl,hat⟩:=hr i hi
  obtain ⟨g,rfl⟩:=open_flds1 ht
  refine ⟨g,b,off,ha,hat 0 (by omega),hat 1 (by omega)⟩
 subst hl
 exact ⟨a,cap,l,rfl,fun k hk=>hq k hk,hle⟩
theorem open_sgns1 (h:DataW.trod enc Tryz.prog w 0 (fun _=>true) true fuel 87 cs=some x):∃ (g:Sgn) (a2:Option Addr) (c2:Nat),cs = [.string g.name,.bool g.stat,.slice a2 g.params.length c2,.string g.result]∧StrsAt w a2 g.params:=by
 obtain ⟨xs,n,_,hx,hcl,hlen,hg⟩:=DataW.trod_struct Tryz.underlying87 h
 match cs,hcl.trans oc_Sig with
 | [q0,q1,q2,q3],_ =>
   match xs,hlen with
   | [y0,y1,y2,y3],_ =>
     have g0:DataW.trod enc Tryz.prog w 0 (fun _=>true) true n 9 [q0]=some y0:=by have:=hg 0 _ rfl;simpa [oc_string,Value.cells] using this
     have g1:DataW.trod enc Tryz.prog w 0 (fun _=>true) true n 4 [q1]=some y1:=by have:=hg 1 _ rfl;simpa [oc_bool,Value.cells] using this
     have g2:DataW.trod enc Tryz.prog w 0 (fun _=>true) true n 35 [q2]=some y2:=by have:=hg 2 _ rfl;simpa [oc_s_string,Value.cells] using this
     have g3:DataW.trod enc Tryz.prog w 0 (fun _=>true) true n 9 [q3]=some y3:=by have:=hg 3 _ rfl;simpa [oc_string,Value.cells] using this
     obtain ⟨v0,e0,_⟩:=DataW.trod_string Tryz.underlying9 g0
     obtain ⟨v1,e1,_⟩:=DataW.trod_bool Tryz.underlying4 g1
     obtain ⟨a2,c2,v2,e2,s2,_⟩:=open_strs g2
     obtain ⟨v3,e3,_⟩:=DataW.trod_string Tryz.underlying9 g3
     simp only [List.cons.injEq,and_true] at e0 e1 e3
     subst e0 e1 e2 e3
     exact ⟨⟨v0,v1,v2,v3⟩,a2,c2,rfl,s2⟩
theorem open_sgns (h:DataW.trod enc Tryz.prog w 0 (fun _=>true) true fuel 83 [v]=some x):∃ a cap l,v = .slice a (List.length l) cap∧SgnsAt w a l∧l.length≤cap:=by
 obtain ⟨a,len,cap,rfl,hle,hr⟩:=open_rows Tryz.underlying83 oc_Sig (by omega) h
 obtain ⟨l,hl,hq⟩:=list_of (Q:=fun i (g:Sgn)=>∃ b off a2 c2,a=some ⟨b,off,none⟩∧w.cell? ⟨b,off + i * 4,none⟩=some (.string g.name)∧w.cell? ⟨b,off + i * 4 + 1,none⟩=some (.bool g.stat)∧w.cell? ⟨b,off + i * 4 + 2,none⟩=some (.slice a2 g.params.length c2)∧w.cell? ⟨b,off + i * 4 + 3,none⟩=some (.string g.result)∧StrsAt w a2 g.params) len fun i hi=>by
  obtain ⟨b,off,ha,cs,n,y,ht,hl,hat⟩:=hr i hi
  obtain ⟨g,a2,c2,rfl,s2⟩:=open_sgns1 ht
  refine ⟨g,b,off,a2,c2,ha,hat 0 (by omega),hat 1 (by omega),hat 2 (by omega),hat 3 (by omega),s2⟩
 subst hl
 exact ⟨a,cap,l,rfl,fun k hk=>hq k hk,hle⟩
theorem open_clss1 (h:DataW.trod enc Tryz.prog w 0 (fun _=>true) true fuel 85 cs=some x):∃ (g:Cls) (a2:Option Addr) (c2:Nat) (a3:Option Addr) (c3:Nat),cs = [.string g.name,.string g.super,.slice a2 g.fields.length c2,.slice a3 g.methods.length c3]∧FldsAt w a2 g.fields∧SgnsAt w a3 g.methods:=by
 obtain ⟨xs,n,_,hx,hcl,hlen,hg⟩:=DataW.trod_struct Tryz.underlying85 h
 match cs,hcl.trans oc_ClassDecl with
 | [q0,q1,q2,q3],_ =>
   match xs,hlen with
   | [y0,y1,y2,y3],_ =>
     have g0:DataW.trod enc Tryz.prog w 0 (fun _=>true) true n 9 [q0]=some y0:=by have:=hg 0 _ rfl;simpa [oc_string,Value.cells] using this
     have g1:DataW.trod enc Tryz.prog w 0 (fun _=>true) true n 9 [q1]=some y1:=by have:=hg 1 _ rfl;simpa [oc_string,Value.cells] using this
     have g2:DataW.trod enc Tryz.prog w 0 (fun _=>true) true n 82 [q2]=some y2:=by have:=hg 2 _ rfl;simpa [oc_s_Field,Value.cells] using this
     have g3:DataW.trod enc Tryz.prog w 0 (fun _=>true) true n 83 [q3]=some y3:=by have:=hg 3 _ rfl;simpa [oc_s_Sig,Value.cells] using this
     obtain ⟨v0,e0,_⟩:=DataW.trod_string Tryz.underlying9 g0
     obtain ⟨v1,e1,_⟩:=DataW.trod_string Tryz.underlying9 g1
     obtain ⟨a2,c2,v2,e2,s2,_⟩:=open_flds g2
     obtain ⟨a3,c3,v3,e3,s3,_⟩:=open_sgns g3
     simp only [List.cons.injEq,and_true] at e0 e1
     subst e0 e1 e2 e3
     exact ⟨⟨v0,v1,v2,v3⟩,a2,c2,a3,c3,rfl,s2,s3⟩
theorem open_clss (h:DataW.trod enc Tryz.prog w 0 (fun _=>true) true fuel 22 [v]=some x):∃ a cap l,v = .slice a (List.length l) cap∧ClssAt w a l∧l.length≤cap:=by
 obtain ⟨a,len,cap,rfl,hle,hr⟩:=open_rows Tryz.underlying22 oc_ClassDecl (by omega) h
 obtain ⟨l,hl,hq⟩:=list_of (Q:=fun i (g:Cls)=>∃ b off a2 c2 a3 c3,a=some ⟨b,off,none⟩∧w.cell? ⟨b,off + i * 4,none⟩=some (.string g.name)∧w.cell? ⟨b,off + i * 4 + 1,none⟩=some (.string g.super)∧w.cell? ⟨b,off + i * 4 + 2,none⟩=some (.slice a2 g.fields.length c2)∧w.cell? ⟨b,off + i * 4 + 3,none⟩=some (.slice a3 g.methods.length c3)∧FldsAt w a2 g.fields∧SgnsAt w a3 g.methods) len fun i hi=>by
  obtain ⟨b,off,ha,cs,n,y,ht,hl,hat⟩:=hr i hi
  obtain ⟨g,a2,c2,a3,c3,rfl,s2,s3⟩:=open_clss1 ht
  refine ⟨g,b,off,a2,c2,a3,c3,ha,hat 0 (by omega),hat 1 (by omega),hat 2 (by omega),hat 3 (by omega),s2,s3⟩
 subst hl
 exact ⟨a,cap,l,rfl,fun k hk=>hq k hk,hle⟩
theorem open_inss1 (h:DataW.trod enc Tryz.prog w 0 (fun _=>true) true fuel 92 cs=some x):∃ (g:Ins) (a7:Option Addr) (c7:Nat),cs = [.int .i64 g.op,.int .i64 g.dst,.int .i64 g.a,.int .i64 g.b,.int .i64 g.n,.string g.cls,.string g.name,.slice a7 g.args.length c7,.int .i64 g.goto,.int .i64 g.catch_]∧IntsAt w a7 g.args:=by
 obtain ⟨xs,n,_,hx,hcl,hlen,hg⟩:=DataW.trod_struct Tryz.underlying92 h
 match cs,hcl.trans oc_Instr with
 | [q0,q1,q2,q3,q4,q5,q6,q7,q8,q9],_ =>
   match xs,hlen with
   | [y0,y1,y2,y3,y4,y5,y6,y7,y8,y9],_ =>
     have g0:DataW.trod enc Tryz.prog w 0 (fun _=>true) true n 3 [q0]=some y0:=by have:=hg 0 _ rfl;simpa [oc_int,Value.cells] using this
     have g1:DataW.trod enc Tryz.prog w 0 (fun _=>true) true n 3 [q1]=some y1:=by have:=hg 1 _ rfl;simpa [oc_int,Value.cells] using this
     have g2:DataW.trod enc Tryz.prog w 0 (fun _=>true) true n 3 [q2]=some y2:=by have:=hg 2 _ rfl;simpa [oc_int,Value.cells] using this
     have g3:DataW.trod enc Tryz.prog w 0 (fun _=>true) true n 3 [q3]=some y3:=by have:=hg 3 _ rfl;simpa [oc_int,Value.cells] using this
     have g4:DataW.trod enc Tryz.prog w 0 (fun _=>true) true n 2 [q4]=some y4:=by have:=hg 4 _ rfl;simpa [oc_int64,Value.cells] using this
     have g5:DataW.trod enc Tryz.prog w 0 (fun _=>true) true n 9 [q5]=some y5:=by have:=hg 5 _ rfl;simpa [oc_string,Value.cells] using this
     have g6:DataW.trod enc Tryz.prog w 0 (fun _=>true) true n 9 [q6]=some y6:=by have:=hg 6 _ rfl;simpa [oc_string,Value.cells] using this
     have g7:DataW.trod enc Tryz.prog w 0 (fun _=>true) true n 28 [q7]=some y7:=by have:=hg 7 _ rfl;simpa [oc_s_int,Value.cells] using this
     have g8:DataW.trod enc Tryz.prog w 0 (fun _=>true) true n 3 [q8]=some y8:=by have:=hg 8 _ rfl;simpa [oc_int,Value.cells] using this
     have g9:DataW.trod enc Tryz.prog w 0 (fun _=>true) true n 3 [q9]=some y9:=by have:=hg 9 _ rfl;simpa [oc_int,Value.cells] using this
     obtain ⟨v0,e0,_⟩:=DataW.trod_int Tryz.underlying3 g0
     obtain ⟨v1,e1,_⟩:=DataW.trod_int Tryz.underlying3 g1
     obtain ⟨v2,e2,_⟩:=DataW.trod_int Tryz.underlying3 g2
     obtain ⟨v3,e3,_⟩:=DataW.trod_int Tryz.underlying3 g3
     obtain ⟨v4,e4,_⟩:=DataW.trod_int Tryz.underlying2 g4
     obtain ⟨v5,e5,_⟩:=DataW.trod_string Tryz.underlying9 g5
     obtain ⟨v6,e6,_⟩:=DataW.trod_string Tryz.underlying9 g6
     obtain ⟨a7,c7,v7,e7,s7,_⟩:=open_ints g7
     obtain ⟨v8,e8,_⟩:=DataW.trod_int Tryz.underlying3 g8
     obtain ⟨v9,e9,_⟩:=DataW.trod_int Tryz.underlying3 g9
     simp only [List.cons.injEq,and_true] at e0 e1 e2 e3 e4 e5 e6 e8 e9
     subst e0 e1 e2 e3 e4 e5 e6 e7 e8 e9
     exact ⟨⟨v0,v1,v2,v3,v4,v5,v6,v7,v8,v9⟩,a7,c7,rfl,s7⟩
theorem open_inss (h:DataW.trod enc Tryz.prog w 0 (fun _=>true) true fuel 88 [v]=some x):∃ a cap l,v = .slice a (List.length l) cap∧InssAt w a l∧l.length≤cap:=by
 obtain ⟨a,len,cap,rfl,hle,hr⟩:=open_rows Tryz.underlying88 oc_Instr (by omega) h
 obtain ⟨l,hl,hq⟩:=list_of (Q:=fun i (g:Ins)=>∃ b off a7 c7,a=some ⟨b,off,none⟩∧w.cell? ⟨b,off + i * 10,none⟩=some (.int .i64 g.op)∧w.cell? ⟨b,off + i * 10 + 1,none⟩=some (.int .i64 g.dst)∧w.cell? ⟨b,off + i * 10 + 2,none⟩=some (.int .i64 g.a)∧w.cell? ⟨b,off + i * 10 + 3,none⟩=some (.int .i64 g.b)∧w.cell? ⟨b,off + i * 10 + 4,none⟩=some (.int .i64 g.n)∧w.cell? ⟨b,off + i * 10 + 5,none⟩=some (.string g.cls)∧w.cell? ⟨b,off + i * 10 + 6,none⟩=some (.string g.name)∧w.cell? ⟨b,off + i * 10 + 7,none⟩=some (.slice a7 g.args.length c7)∧w.cell? ⟨b,off + i * 10 + 8,none⟩=some (.int .i64 g.goto)∧w.cell? ⟨b,off + i * 10 + 9,none⟩=some (.int .i64 g.catch_)∧IntsAt w a7 g.args) len fun i hi=>by
  obtain ⟨b,off,ha,cs,n,y,ht,hl,hat⟩:=hr i hi
  obtain ⟨g,a7,c7,rfl,s7⟩:=open_inss1 ht
  refine ⟨g,b,off,a7,c7,ha,hat 0 (by omega),hat 1 (by omega),hat 2 (by omega),hat 3 (by omega),hat 4 (by omega),hat 5 (by omega),hat 6 (by omega),hat 7 (by omega),hat 8 (by omega),hat 9 (by omega),s7⟩
 subst hl
 exact ⟨a,cap,l,rfl,fun k hk=>hq k hk,hle⟩
theorem open_fncs1 (h:DataW.trod enc Tryz.prog w 0 (fun _=>true) true fuel 90 cs=some x):∃ (g:Fnc) (a4:Option Addr) (c4:Nat) (a6:Option Addr) (c6:Nat),cs = [.string g.cls,.string g.name,.bool g.stat,.int .i64 g.params,.slice a4 g.vars.length c4,.string g.result,.slice a6 g.code.length c6]∧FldsAt w a4 g.vars∧InssAt w a6 g.code:=by
 obtain ⟨xs,n,_,hx,hcl,hlen,hg⟩:=DataW.trod_struct Tryz.underlying90 h
 match cs,hcl.trans oc_Func with
 | [q0,q1,q2,q3,q4,q5,q6],_ =>
   match xs,hlen with
   | [y0,y1,y2,y3,y4,y5,y6],_ =>
     have g0:DataW.trod enc Tryz.prog w 0 (fun _=>true) true n 9 [q0]=some y0:=by have:=hg 0 _ rfl;simpa [oc_string,Value.cells] using this
     have g1:DataW.trod enc Tryz.prog w 0 (fun _=>true) true n 9 [q1]=some y1:=by have:=hg 1 _ rfl;simpa [oc_string,Value.cells] using this
     have g2:DataW.trod enc Tryz.prog w 0 (fun _=>true) true n 4 [q2]=some y2:=by have:=hg 2 _ rfl;simpa [oc_bool,Value.cells] using this
     have g3:DataW.trod enc Tryz.prog w 0 (fun _=>true) true n 3 [q3]=some y3:=by have:=hg 3 _ rfl;simpa [oc_int,Value.cells] using this
     have g4:DataW.trod enc Tryz.prog w 0 (fun _=>true) true n 82 [q4]=some y4:=by have:=hg 4 _ rfl;simpa [oc_s_Field,Value.cells] using this
     have g5:DataW.trod enc Tryz.prog w 0 (fun _=>true) true n 9 [q5]=some y5:=by have:=hg 5 _ rfl;simpa [oc_string,Value.cells] using this
     have g6:DataW.trod enc Tryz.prog w 0 (fun _=>true) true n 88 [q6]=some y6:=by have:=hg 6 _ rfl;simpa [oc_s_Instr,Value.cells] using this
     obtain ⟨v0,e0,_⟩:=DataW.trod_string Tryz.underlying9 g0
     obtain ⟨v1,e1,_⟩:=DataW.trod_string Tryz.underlying9 g1
     obtain ⟨v2,e2,_⟩:=DataW.trod_bool Tryz.underlying4 g2
     obtain ⟨v3,e3,_⟩:=DataW.trod_int Tryz.underlying3 g3
     obtain ⟨a4,c4,v4,e4,s4,_⟩:=open_flds g4
     obtain ⟨v5,e5,_⟩:=DataW.trod_string Tryz.underlying9 g5
     obtain ⟨a6,c6,v6,e6,s6,_⟩:=open_inss g6
     simp only [List.cons.injEq,and_true] at e0 e1 e2 e3 e5
     subst e0 e1 e2 e3 e4 e5 e6
     exact ⟨⟨v0,v1,v2,v3,v4,v5,v6⟩,a4,c4,a6,c6,rfl,s4,s6⟩
theorem open_fncs (h:DataW.trod enc Tryz.prog w 0 (fun _=>true) true fuel 25 [v]=some x):∃ a cap l,v = .slice a (List.length l) cap∧FncsAt w a l∧l.length≤cap:=by
 obtain ⟨a,len,cap,rfl,hle,hr⟩:=open_rows Tryz.underlying25 oc_Func (by omega) h
 obtain ⟨l,hl,hq⟩:=list_of (Q:=fun i (g:Fnc)=>∃ b off a4 c4 a6 c6,a=some ⟨b,off,none⟩∧w.cell? ⟨b,off + i * 7,none⟩=some (.string g.cls)∧w.cell? ⟨b,off + i * 7 + 1,none⟩=some (.string g.name)∧w.cell? ⟨b,off + i * 7 + 2,none⟩=some (.bool g.stat)∧w.cell? ⟨b,off + i * 7 + 3,none⟩=some (.int .i64 g.params)∧w.cell? ⟨b,off + i * 7 + 4,none⟩=some (.slice a4 g.vars.length c4)∧w.cell? ⟨b,off + i * 7 + 5,none⟩=some (.string g.result)∧w.cell? ⟨b,off + i * 7 + 6,none⟩=some (.slice a6 g.code.length c6)∧FldsAt w a4 g.vars∧InssAt w a6 g.code) len fun i hi=>by
  obtain ⟨b,off,ha,cs,n,y,ht,hl,hat⟩:=hr i hi
  obtain ⟨g,a4,c4,a6,c6,rfl,s4,s6⟩:=open_fncs1 ht
  refine ⟨g,b,off,a4,c4,a6,c6,ha,hat 0 (by omega),hat 1 (by omega),hat 2 (by omega),hat 3 (by omega),hat 4 (by omega),hat 5 (by omega),hat 6 (by omega),s4,s6⟩
 subst hl
 exact ⟨a,cap,l,rfl,fun k hk=>hq k hk,hle⟩
end
theorem open_unit {H:Type} {enc:TypeId × Value→H} {w:World} {b0:Nat} {v:Value} {d:DataW H} {ps:List MemPlace} (hv:Value.okWide Tryz.prog w .any b0 27 v) (h:DataW.Trod enc Tryz.prog w 0 (fun _=>true) true 27 v d ps) :
 ∃ u ha hc fa fc,v=unV u ha hc fa fc∧ClssAt w ha u.h∧FncsAt w fa u.fs∧u.fs.length≤fc∧u.h.length≤hc:=by
 obtain ⟨cs,rfl,hsz⟩:=okWide_struct Tryz.underlying27 hv
 obtain ⟨l⟩:=cs
 match l,hsz.trans oc_Unit with
 | [c0,c1,c2],_ =>
   obtain ⟨fuel,hf⟩:=h
   obtain ⟨xs,n,_,hx,_,hlen,hg⟩:=DataW.trod_struct Tryz.underlying27 hf
   match xs,hlen with
   | [y0,y1,y2],_ =>
     have g0:DataW.trod enc Tryz.prog w 0 (fun _=>true) true n 24 [c0]=some y0:=by have:=hg 0 _ rfl;simpa [oc_Hier,Value.cells] using this
     have g1:DataW.trod enc Tryz.prog w 0 (fun _=>true) true n 25 [c1]=some y1:=by have:=hg 1 _ rfl;simpa [oc_s_Func,Value.cells] using this
     have g2:DataW.trod enc Tryz.prog w 0 (fun _=>true) true n 3 [c2]=some y2:=by have:=hg 2 _ rfl;simpa [oc_int,Value.cells] using this
     obtain ⟨xs1,n1,_,hx1,_,hlen1,hg1⟩:=DataW.trod_struct Tryz.underlying24 g0
     match xs1,hlen1 with
     | [z0],_ =>
       have k0:DataW.trod enc Tryz.prog w 0 (fun _=>true) true n1 22 [c0]=some z0:=by have:=hg1 0 _ rfl;simpa [oc_s_ClassDecl,Value.cells] using this
       obtain ⟨ha,hc,hl,rfl,h1,h2⟩:=open_clss k0
       obtain ⟨fa,fc,fl,rfl,h3,h4⟩:=open_fncs g1
       obtain ⟨m,e,_⟩:=DataW.trod_int Tryz.underlying3 g2
       simp only [List.cons.injEq,and_true] at e
       subst e
       exact ⟨⟨hl,fl,m⟩,ha,hc,fa,fc,rfl,h1,h3,h4,h2⟩
end Go.Proofs.YtffcklfigpmlgaaGreatDoor
namespace Go.Proofs.YtffcklfigpmlgaaGreatDoor
open Go.ChangeShapes Go.WideShapes Go.ChangeAt Go.RowKit Go.LawLift Go.Deep Go.Unit0
set_option maxRecDepth 100000

theorem oc_CallEdge:Tryz.prog.cellsOf 243=3:=by kernel_rfl
theorem oc_s_CallEdge:Tryz.prog.cellsOf 29=1:=by kernel_rfl
section
variable {H:Type} {enc:TypeId × Value→H} {w:World} {fuel:Nat} {v:Value} {cs:List Value} {x:DataW H × List MemPlace}
theorem open_cals1 (h:DataW.trod enc Tryz.prog w 0 (fun _=>true) true fuel 243 cs=some x):∃ (g:Cal),cs = [.int .i64 g.f,.int .i64 g.i,.int .i64 g.c]:=by
 obtain ⟨xs,n,_,hx,hcl,hlen,hg⟩:=DataW.trod_struct Tryz.underlying243 h
 match cs,hcl.trans oc_CallEdge with
 | [q0,q1,q2],_ =>
   match xs,hlen with
   | [y0,y1,y2],_ =>
     have g0:DataW.trod enc Tryz.prog w 0 (fun _=>true) true n 3 [q0]=some y0:=by have:=hg 0 _ rfl;simpa [oc_int,Value.cells] using this
     have g1:DataW.trod enc Tryz.prog w 0 (fun _=>true) true n 3 [q1]=some y1:=by have:=hg 1 _ rfl;simpa [oc_int,Value.cells] using this
     have g2:DataW.trod enc Tryz.prog w 0 (fun _=>true) true n 3 [q2]=some y2:=by have:=hg 2 _ rfl;simpa [oc_int,Value.cells] using this
     obtain ⟨v0,e0,_⟩:=DataW.trod_int Tryz.underlying3 g0
     obtain ⟨v1,e1,_⟩:=DataW.trod_int Tryz.underlying3 g1
     obtain ⟨v2,e2,_⟩:=DataW.trod_int Tryz.underlying3 g2
     simp only [List.cons.injEq,and_true] at e0 e1 e2
     subst e0 e1 e2
     exact ⟨⟨v0,v1,v2⟩,rfl⟩
theorem open_cals0 (h:DataW.trod enc Tryz.prog w 0 (fun _=>true) true fuel 29 [v]=some x):∃ a cap l,v = .slice a (List.length l) cap∧CalsAt w a l∧l.length≤cap:=by
 obtain ⟨a,len,cap,rfl,hle,hr⟩:=open_rows Tryz.underlying29 oc_CallEdge (by omega) h
 obtain ⟨l,hl,hq⟩:=list_of (Q:=fun i (g:Cal)=>∃ b off,a=some ⟨b,off,none⟩∧w.cell? ⟨b,off + i * 3,none⟩=some (.int .i64 g.f)∧w.cell? ⟨b,off + i * 3 + 1,none⟩=some (.int .i64 g.i)∧w.cell? ⟨b,off + i * 3 + 2,none⟩=some (.int .i64 g.c)) len fun i hi=>by
  obtain ⟨b,off,ha,cs,n,y,ht,hl,hat⟩:=hr i hi
  obtain ⟨g,rfl⟩:=open_cals1 ht
  exact ⟨g,b,off,ha,by first | exact hat 0 (by omega) | simp,by first | exact hat 1 (by omega) | simp,by first | exact hat 2 (by omega) | simp⟩
 subst hl
 exact ⟨a,cap,l,rfl,fun k hk=>hq k hk,hle⟩
end
end Go.Proofs.YtffcklfigpmlgaaGreatDoor
namespace Go.Proofs.YtffcklfigpmlgaaGreatDoor
open Go.ChangeShapes Go.WideShapes Go.ChangeAt Go.RowKit Go.LawLift Go.Deep Go.Unit0
set_option maxRecDepth 100000

theorem oc_s_s_int:Tryz.prog.cellsOf 30=1:=by kernel_rfl
theorem oc_Points:Tryz.prog.cellsOf 32=2:=by kernel_rfl
theorem oc_Result:Tryz.prog.cellsOf 34=4:=by kernel_rfl
theorem oc_Where:Tryz.prog.cellsOf 39=5:=by kernel_rfl
theorem oc_Path:Tryz.prog.cellsOf 37=4:=by kernel_rfl
section
variable {H:Type} {enc:TypeId × Value→H} {w:World} {fuel:Nat} {v:Value} {cs:List Value} {x:DataW H × List MemPlace}
theorem open_rws (h:DataW.trod enc Tryz.prog w 0 (fun _=>true) true fuel 30 [v]=some x):∃ a cap l,v = .slice a (List.length l) cap∧RowsAt w a l∧l.length≤cap:=by
 obtain ⟨a,len,cap,rfl,hle,hr⟩:=open_rows Tryz.underlying30 oc_s_int (by omega) h
 obtain ⟨l,hl,hq⟩:=list_of (Q:=fun i (g:List Int)=>∃ b off ra rc,a=some ⟨b,off,none⟩∧w.cell? ⟨b,off + i,none⟩=some (.slice ra g.length rc)∧IntsAt w ra g) len fun i hi=>by
  obtain ⟨b,off,ha,cs,n,y,ht,hl,hat⟩:=hr i hi
  match cs,hl with
  | [c0],_ =>
    obtain ⟨ra,rc,g,rfl,hg,_⟩:=open_ints ht
    exact ⟨g,b,off,ra,rc,ha,by simpa using hat 0 (by omega),hg⟩
 subst hl
 exact ⟨a,cap,l,rfl,fun k hk=>hq k hk,hle⟩
end
theorem open_result {H:Type} {enc:TypeId × Value→H} {w:World} {b0:Nat} {v:Value} {d:DataW H} {ps:List MemPlace} (hv:Value.okWide Tryz.prog w .any b0 34 v) (h:DataW.Trod enc Tryz.prog w 0 (fun _=>true) true 34 v d ps) :
 ∃ r p,v=rsV r p∧RslAt w p r:=by
 obtain ⟨cs,rfl,hsz⟩:=okWide_struct Tryz.underlying34 hv
 obtain ⟨l⟩:=cs
 match l,hsz.trans oc_Result with
 | [c0,c1,c2,c3],_ =>
   obtain ⟨fuel,hf⟩:=h
   obtain ⟨xs,n,_,hx,_,hlen,hg⟩:=DataW.trod_struct Tryz.underlying34 hf
   match xs,hlen with
   | [y0,y1,y2],_ =>
     have g0:DataW.trod enc Tryz.prog w 0 (fun _=>true) true n 28 [c0]=some y0:=by have:=hg 0 _ rfl;simpa [oc_s_int,Value.cells] using this
     have g1:DataW.trod enc Tryz.prog w 0 (fun _=>true) true n 29 [c1]=some y1:=by have:=hg 1 _ rfl;simpa [oc_s_int,oc_s_CallEdge,Value.cells] using this
     have g2:DataW.trod enc Tryz.prog w 0 (fun _=>true) true n 32 [c2,c3]=some y2:=by have:=hg 2 _ rfl;simpa [oc_s_int,oc_s_CallEdge,oc_Points,Value.cells] using this
     obtain ⟨xs1,n1,_,hx1,_,hlen1,hg1⟩:=DataW.trod_struct Tryz.underlying32 g2
     match xs1,hlen1 with
     | [z0,z1],_ =>
       have k0:DataW.trod enc Tryz.prog w 0 (fun _=>true) true n1 30 [c2]=some z0:=by have:=hg1 0 _ rfl;simpa [oc_s_s_int,Value.cells] using this
       have k1:DataW.trod enc Tryz.prog w 0 (fun _=>true) true n1 30 [c3]=some z1:=by have:=hg1 1 _ rfl;simpa [oc_s_s_int,Value.cells] using this
       obtain ⟨ra,rc,rl,rfl,_,_⟩:=open_ints g0
       obtain ⟨ca,cc,cl,rfl,hcl,_⟩:=open_cals0 g1
       obtain ⟨va,vc,vl,rfl,hvl,_⟩:=open_rws k0
       obtain ⟨xa,xc,xl,rfl,hxl,_⟩:=open_rws k1
       exact ⟨⟨rl.length,cl,vl,xl⟩,⟨ra,rc,ca,cc,va,vc,xa,xc⟩,rfl,hvl,hxl,hcl⟩
theorem open_whr {H:Type} {enc:TypeId × Value→H} {w:World} {b0:Nat} {v:Value} {d:DataW H} {ps:List MemPlace} (hv:Value.okWide Tryz.prog w .any b0 39 v) (h:DataW.Trod enc Tryz.prog w 0 (fun _=>true) true 39 v d ps) :
 ∃ f pt pa pc,v = .agg (whrC f pt pa pc)∧StrsAt w pa pt.fs:=by
 obtain ⟨cs,rfl,hsz⟩:=okWide_struct Tryz.underlying39 hv
 obtain ⟨l⟩:=cs
 match l,hsz.trans oc_Where with
 | [c0,c1,c2,c3,c4],_ =>
   obtain ⟨fuel,hf⟩:=h
   obtain ⟨xs,n,_,hx,_,hlen,hg⟩:=DataW.trod_struct Tryz.underlying39 hf
   match xs,hlen with
   | [y0,y1],_ =>
     have g0:DataW.trod enc Tryz.prog w 0 (fun _=>true) true n 3 [c0]=some y0:=by have:=hg 0 _ rfl;simpa [oc_int,Value.cells] using this
     have g1:DataW.trod enc Tryz.prog w 0 (fun _=>true) true n 37 [c1,c2,c3,c4]=some y1:=by have:=hg 1 _ rfl;simpa [oc_int,oc_Path,Value.cells] using this
     obtain ⟨xs1,n1,_,hx1,_,hlen1,hg1⟩:=DataW.trod_struct Tryz.underlying37 g1
     match xs1,hlen1 with
     | [z0,z1,z2,z3],_ =>
       have k0:DataW.trod enc Tryz.prog w 0 (fun _=>true) true n1 3 [c1]=some z0:=by have:=hg1 0 _ rfl;simpa [oc_int,oc_s_string,oc_bool,Value.cells] using this
       have k1:DataW.trod enc Tryz.prog w 0 (fun _=>true) true n1 3 [c2]=some z1:=by have:=hg1 1 _ rfl;simpa [oc_int,oc_s_string,oc_bool,Value.cells] using this
       have k2:DataW.trod enc Tryz.prog w 0 (fun _=>true) true n1 35 [c3]=some z2:=by have:=hg1 2 _ rfl;simpa [oc_int,oc_s_string,oc_bool,Value.cells] using this
       have k3:DataW.trod enc Tryz.prog w 0 (fun _=>true) true n1 4 [c4]=some z3:=by have:=hg1 3 _ rfl;simpa [oc_int,oc_s_string,oc_bool,Value.cells] using this
       obtain ⟨f,e0,_⟩:=DataW.trod_int Tryz.underlying3 g0
       obtain ⟨x0,e1,_⟩:=DataW.trod_int Tryz.underlying3 k0
       obtain ⟨x1,e2,_⟩:=DataW.trod_int Tryz.underlying3 k1
       obtain ⟨a,cap,l,e3,hs,_⟩:=open_strs k2
       obtain ⟨x3,e4,_⟩:=DataW.trod_bool Tryz.underlying4 k3
       simp only [List.cons.injEq,and_true] at e0 e1 e2 e4
       subst e0 e1 e2 e3 e4
       exact ⟨f,⟨x0,x1,l,x3⟩,a,cap,rfl,hs⟩
end Go.Proofs.YtffcklfigpmlgaaGreatDoor
