/-
  A typer's field.
-/
import Derived.Test.YtjnbddedmbhiaaaGreatDoorPk16
namespace Go.ak
def vt(f:aA)(v:Int):Str:=((f.vars[v.toNat]?).map (·.type)).getD ⟨#[]⟩
theorem IV{f:aA}{k:Nat}(hk:k<f.vars.length):vt f k=f.vars[k].type:=by unfold vt;rw[Int.toNat_natCast,List.getElem?_eq_getElem hk];rfl
def tE(b:Bool):Int:=if b=true then 0 else 8
end Go.ak
namespace Go.Proofs.YtjnbddedmbhiaaaGreatDoor
open Go.RowKit Go.ak

def nY(h:List ae)(f:aA)(x:Ins):Int:=if jy h (vt f x.a)=true then(match nX h (vt f x.a) x.name with
 |none=>6
 |some (_,g)=>if x.op=7 then tE (dm h g.type (vt f x.dst))else tE (dm h (vt f x.b) g.type))else 8
section
variable (h:List ae)(ha:Option Addr)(hc:Nat)(f:aA)(va:Option Addr)(vc:Nat)(ca:Option Addr)(cc:Nat)
theorem nD(v:Int)(h1:0<=v)(h2:v<f.vars.length)(w:World)(h0:ay w ha h)(hv:aK w va f.vars) :
 Calls Tryz.prog 128 #[aR h ha hc f va vc ca cc,.int .i64 v] w (aj w (.string (vt f v))):=by
 obtain⟨k,rfl⟩:∃k:Nat,v=k:=⟨v.toNat,by omega⟩
 rw[IV (by omega)]
 exact Ju h ha hc f va vc ca cc k (by omega) w h0 hv
theorem oL(v:Int)(h1:0<=v)(h2:v<f.vars.length)(w:World)(h0:ay w ha h)(hv:aK w va f.vars) :
 Calls Tryz.prog 126 #[aR h ha hc f va vc ca cc,.int .i64 v] w (aj w (.bool (aD (vt f v) aY))):=by
 obtain⟨k,rfl⟩:∃k:Nat,v=k:=⟨v.toNat,by omega⟩
 rw[IV (by omega)]
 exact Rj h ha hc f va vc ca cc k (by omega) w h0 hv
end
structure TI(h:List ae)(ha:Option Addr)(hc:Nat)(f:aA)(va:Option Addr)(vc:Nat)(ca:Option Addr)(cc:Nat)(x:Ins)(ga:Option Addr)(gc:Nat)(w wr:World):Prop where
 ty:TY h ha hc f va vc ca cc w.heap.size w wr
 ix:IW x ga gc (w.heap.size+1) w wr
section
variable {h:List ae}{ha:Option Addr}{hc:Nat}{f:aA}{va:Option Addr}{vc:Nat}{ca:Option Addr}{cc:Nat}{x:Ins}{ga:Option Addr}{gc:Nat}{w wr w':World}
theorem TI.below(k:TI h ha hc f va vc ca cc x ga gc w wr)(hb:Below wr.heap.size wr w'):TI h ha hc f va vc ca cc x ga gc w w':=⟨k.ty.below hb,k.ix.below hb⟩
theorem TI.start(h0:ay w ha h)(hv:aK w va f.vars)(hg:aM w ga x.args):TI h ha hc f va vc ca cc x ga gc w ((w.alloc (.cells (pR h ha hc f va vc ca cc) 159)).alloc (nR x ga gc)):=by
 have hb:=iH w (.cells (pR h ha hc f va vc ca cc) 159) (nR x ga gc)
 exact⟨(TY.start h0 hv).below (av ..),hb,gH ..,hg.below hb⟩
theorem TI.now(k:TI h ha hc f va vc ca cc x ga gc w wr)(hb:Below wr.heap.size wr w') :
 (w'.cell? ⟨w.heap.size,0,none⟩=some (.slice ha h.length hc)/\w'.cell? ⟨w.heap.size,1,none⟩=some (.string f.cls)/\w'.cell? ⟨w.heap.size,2,none⟩=some (.string f.name)/\w'.cell? ⟨w.heap.size,3,none⟩=some (.bool f.stat)/\w'.cell? ⟨w.heap.size,4,none⟩=some (.int .i64 f.params)/\w'.cell? ⟨w.heap.size,5,none⟩=some (.slice va f.vars.length vc)/\w'.cell? ⟨w.heap.size,6,none⟩=some (.string f.result)/\w'.cell? ⟨w.heap.size,7,none⟩=some (.slice ca f.code.length cc)) /\
 (w'.cell? ⟨w.heap.size+1,0,none⟩=some (.int .i64 x.op)/\w'.cell? ⟨w.heap.size+1,1,none⟩=some (.int .i64 x.dst)/\w'.cell? ⟨w.heap.size+1,2,none⟩=some (.int .i64 x.a)/\w'.cell? ⟨w.heap.size+1,3,none⟩=some (.int .i64 x.b)/\w'.cell? ⟨w.heap.size+1,4,none⟩=some (.int .i64 x.n)/\w'.cell? ⟨w.heap.size+1,5,none⟩=some (.string x.cls)/\w'.cell? ⟨w.heap.size+1,6,none⟩=some (.string x.name)/\w'.cell? ⟨w.heap.size+1,7,none⟩=some (.slice ga x.args.length gc)/\w'.cell? ⟨w.heap.size+1,8,none⟩=some (.int .i64 x.goto)/\w'.cell? ⟨w.heap.size+1,9,none⟩=some (.int .i64 x.aZ)) :=
 ⟨(k.ty.below hb).cells,(k.ix.below hb).cells⟩
end
set_option maxRecDepth 100000 in
set_option maxHeartbeats 16000000 in
theorem Jv(h:List ae)(ha:Option Addr)(hc:Nat)(f:aA)(va:Option Addr)(vc:Nat)(ca:Option Addr)(cc:Nat)(x:Ins)(ga:Option Addr)(gc:Nat)(w:World)(h0:ay w ha h)(hv:aK w va f.vars)(hg:aM w ga x.args)(hl:h.length<=100000)(hm:∀c∈h,c.fields.length<=100000)
 (ra:0<=x.a/\x.a<f.vars.length) (rd:x.op=7->0<=x.dst/\x.dst<f.vars.length) (rb:¬ x.op=7->0<=x.b/\x.b<f.vars.length) :
 Calls Tryz.prog 129 #[aR h ha hc f va vc ca cc,bN x ga gc] w (aj w (.int .i64 (nY h f x))):=by
 have S:Hid (TI h ha hc f va vc ca cc x ga gc w _):=TI.start (hc:=hc) (vc:=vc) (ca:=ca) (cc:=cc) (gc:=gc) h0 hv hg
 have HOA:Hid (∀w1,ay w1 ha h->aK w1 va f.vars->Calls Tryz.prog 128 #[aR h ha hc f va vc ca cc,.int .i64 x.a] w1 (aj w1 (.string (vt f x.a)))):=fun w1 h1 h2=>nD h ha hc f va vc ca cc x.a ra.1 ra.2 w1 h1 h2
 have HOD:Hid (x.op=7->∀w1,ay w1 ha h->aK w1 va f.vars->Calls Tryz.prog 128 #[aR h ha hc f va vc ca cc,.int .i64 x.dst] w1 (aj w1 (.string (vt f x.dst)))):=fun e w1 h1 h2=>nD h ha hc f va vc ca cc x.dst (rd e).1 (rd e).2 w1 h1 h2
 have HOB:Hid (¬ x.op=7->∀w1,ay w1 ha h->aK w1 va f.vars->Calls Tryz.prog 128 #[aR h ha hc f va vc ca cc,.int .i64 x.b] w1 (aj w1 (.string (vt f x.b)))):=fun e w1 h1 h2=>nD h ha hc f va vc ca cc x.b (rb e).1 (rb e).2 w1 h1 h2
 have HC:Hid (∀w1,ay w1 ha h->aK w1 va f.vars->Calls Tryz.prog 130 #[aR h ha hc f va vc ca cc,.string (vt f x.a)] w1 (aj w1 (.bool (jy h (vt f x.a))))):=fun w1 h1 h2=>Dk h ha hc f va vc ca cc _ w1 h1 h2 (by omega)
 have HFT:Hid (∀(s t:Str) w1,ay w1 ha h->aK w1 va f.vars->Calls Tryz.prog 127 #[aR h ha hc f va vc ca cc,.string s,.string t] w1 (aj w1 (.bool (dm h s t)))):=fun s t w1 h1 h2=>uT h ha hc f va vc ca cc s t w1 h1 h2 hl
 have HTY:Hid (∀(b:Bool) w1,Calls Tryz.prog 125 #[.bool b] w1 (Same w1 (.int .i64 (tE b)))):=fun b w1=>kP b w1
 have HFD:Hid (∀w1,ay w1 ha h->Calls Tryz.prog 160 #[.agg #[.slice ha h.length hc],.string (vt f x.a),.string x.name] w1 (aj w1 (fV (nX h (vt f x.a) x.name)))):=fun w1 h1=>(Zm h (vt f x.a) x.name ha hc w1 h1 hl hm).mono (fun _ _ h=>h.ret)
 have HE:Hid (nY h f x=if jy h (vt f x.a)=true then(match nX h (vt f x.a) x.name with
  |none=>6
  |some (_,g)=>if x.op=7 then tE (dm h g.type (vt f x.dst))else tE (dm h (vt f x.b) g.type))else 8):=rfl
 clear h0 hv hg hm ra rd rb
 unfold aR bN at *
 generalize nY h f x=R at *
 generalize vt f x.a=A at *
 generalize vt f x.dst=D at *
 generalize vt f x.b=B at *
 go_enter Tryz.func129,Tryz.ntmps129
 go_upto_region 1 with (fail)
 generalize (w.alloc _).alloc _=W at *
 have hne:Nonempty (WB W):=⟨⟨W,Below.refl _ _⟩⟩
 have y0:∀o:WB W,o.u.cell? ⟨w.heap.size,0,none⟩=some (.slice ha h.length hc):=fun o=>(S.out.now o.h).1.1
 have y1:∀o:WB W,o.u.cell? ⟨w.heap.size,1,none⟩=some (.string f.cls):=fun o=>(S.out.now o.h).1.2.1
 have y2:∀o:WB W,o.u.cell? ⟨w.heap.size,2,none⟩=some (.string f.name):=fun o=>(S.out.now o.h).1.2.2.1
 have y3:∀o:WB W,o.u.cell? ⟨w.heap.size,3,none⟩=some (.bool f.stat):=fun o=>(S.out.now o.h).1.2.2.2.1
 have y4:∀o:WB W,o.u.cell? ⟨w.heap.size,4,none⟩=some (.int .i64 f.params):=fun o=>(S.out.now o.h).1.2.2.2.2.1
 have y5:∀o:WB W,o.u.cell? ⟨w.heap.size,5,none⟩=some (.slice va f.vars.length vc):=fun o=>(S.out.now o.h).1.2.2.2.2.2.1
 have y6:∀o:WB W,o.u.cell? ⟨w.heap.size,6,none⟩=some (.string f.result):=fun o=>(S.out.now o.h).1.2.2.2.2.2.2.1
 have y7:∀o:WB W,o.u.cell? ⟨w.heap.size,7,none⟩=some (.slice ca f.code.length cc):=fun o=>(S.out.now o.h).1.2.2.2.2.2.2.2
 have x2:∀o:WB W,o.u.cell? ⟨w.heap.size+1,2,none⟩=some (.int .i64 x.a):=fun o=>(S.out.now o.h).2.2.2.1
 go_cut[14] (fun v wx=>v = .bool (!jy h A)/\Hid (Below W.heap.size W wx))
 case first =>
  clear HOD HOB HFT HTY HFD HE
  refine bJ W (by kernel_rfl) ?_
  repeat (go_big_quiet_step (first | (go_at_call 128;rename_i o;exact(HOA.out _ (S.out.below o.h).ty.ch (S.out.below o.h).ty.hv).mono (fun _ _ h=>aj.bu h)) | (go_at_call 130;rename_i o;exact(HC.out _ (S.out.below o.h).ty.ch (S.out.below o.h).ty.hv).mono (fun _ _ h=>aj.bu h))))
  refine wpQuiet_nil ?_
  intro _ hw'
  obtain⟨o,rfl⟩:=hw'
  have HB:=Lib.hid o.h
  clear y0 y1 y2 y3 y4 y5 y6 y7 x2
  go_wp2
  go_meet
  exact⟨rfl,HB.out⟩
 case rest =>
  obtain⟨rfl,HB⟩:=hcut

  clear y0 y1 y2 y3 y4 y5 y6 y7 x2 hne HC
  have S1:=Lib.hid (S.out.below HB.out)
  clear HB S
  cases cA:jy h A with
  |false =>
   have e:R=8:=by rw[HE.out,cA];rfl
   subst e
   clear HOD HOB HFT HTY HFD HE
   go_wp2
   go_ret
   exact⟨rfl,S1.out.ty.hb⟩
  |true =>
   have e0:R=(match nX h A x.name with
    |none=>6
    |some (_,g)=>if x.op=7 then tE (dm h g.type D)else tE (dm h B g.type)):=by rw[HE.out,cA];rfl
   clear HE
   go_upto_region 3 with (fail)
   have y0:∀o:WB wc,o.u.cell? ⟨w.heap.size,0,none⟩=some (.slice ha h.length hc):=fun o=>(S1.out.now o.h).1.1
   have y1:∀o:WB wc,o.u.cell? ⟨w.heap.size,1,none⟩=some (.string f.cls):=fun o=>(S1.out.now o.h).1.2.1
   have y2:∀o:WB wc,o.u.cell? ⟨w.heap.size,2,none⟩=some (.string f.name):=fun o=>(S1.out.now o.h).1.2.2.1
   have y3:∀o:WB wc,o.u.cell? ⟨w.heap.size,3,none⟩=some (.bool f.stat):=fun o=>(S1.out.now o.h).1.2.2.2.1
   have y4:∀o:WB wc,o.u.cell? ⟨w.heap.size,4,none⟩=some (.int .i64 f.params):=fun o=>(S1.out.now o.h).1.2.2.2.2.1
   have y5:∀o:WB wc,o.u.cell? ⟨w.heap.size,5,none⟩=some (.slice va f.vars.length vc):=fun o=>(S1.out.now o.h).1.2.2.2.2.2.1
   have y6:∀o:WB wc,o.u.cell? ⟨w.heap.size,6,none⟩=some (.string f.result):=fun o=>(S1.out.now o.h).1.2.2.2.2.2.2.1
   have y7:∀o:WB wc,o.u.cell? ⟨w.heap.size,7,none⟩=some (.slice ca f.code.length cc):=fun o=>(S1.out.now o.h).1.2.2.2.2.2.2.2
   have x2:∀o:WB wc,o.u.cell? ⟨w.heap.size+1,2,none⟩=some (.int .i64 x.a):=fun o=>(S1.out.now o.h).2.2.2.1
   have x6:∀o:WB wc,o.u.cell? ⟨w.heap.size+1,6,none⟩=some (.string x.name):=fun o=>(S1.out.now o.h).2.2.2.2.2.2.2.1
   have hne:Nonempty (WB wc):=⟨⟨wc,Below.refl _ _⟩⟩
   cases eF:nX h A x.name with
   |none =>
    rw[eF]at HFD e0
    change Hid (∀w1,ay w1 ha h->Calls Tryz.prog 160 #[.agg #[.slice ha h.length hc],.string A,.string x.name] w1 (aj w1 (.tuple #[.string ⟨#[]⟩,.string ⟨#[]⟩,.bool false])))at HFD
    have e:R=6:=e0
    subst e
    clear HOD HOB HFT HTY e0 hl
    refine bJ wc (by kernel_rfl) ?_
    repeat (go_big_quiet_step (first | (go_at_call 128;rename_i o;exact(HOA.out _ (S1.out.below o.h).ty.ch (S1.out.below o.h).ty.hv).mono (fun _ _ h=>aj.bu h)) | (go_at_call 160;rename_i o;exact(HFD.out _ (S1.out.below o.h).ty.ch).mono (fun _ _ h=>aj.bu h))))
    refine wpQuiet_nil ?_
    intro _ hw'
    obtain⟨o,rfl⟩:=hw'
    have HB:=Lib.hid o.h
    clear y0 y1 y2 y3 y4 y5 y6 y7 x2 x6 hne
    go_wp2
    go_ret
    exact⟨rfl,(S1.out.below HB.out).ty.hb⟩
   |some q =>
    obtain⟨ow,g⟩:=q
    rw[eF]at HFD e0
    clear hl
    change Hid (∀w1,ay w1 ha h->Calls Tryz.prog 160 #[.agg #[.slice ha h.length hc],.string A,.string x.name] w1 (aj w1 (.tuple #[.string ow,.string g.type,.bool true])))at HFD
    change R=(if x.op=7 then tE (dm h g.type D)else tE (dm h B g.type))at e0
    generalize g.type=G at *
    refine bJ wc (by kernel_rfl) ?_
    repeat (go_big_quiet_step (first | (go_at_call 128;rename_i o;exact(HOA.out _ (S1.out.below o.h).ty.ch (S1.out.below o.h).ty.hv).mono (fun _ _ h=>aj.bu h)) | (go_at_call 160;rename_i o;exact(HFD.out _ (S1.out.below o.h).ty.ch).mono (fun _ _ h=>aj.bu h))))
    refine wpQuiet_nil ?_
    intro _ hw'
    obtain⟨o,rfl⟩:=hw'
    have HB:=Lib.hid o.h
    clear y0 y1 y2 y3 y4 y5 y6 y7 x2 x6 hne
    by_cases h7:x.op=7
    case pos =>
     have e:R=tE (dm h G D):=by rw[e0,if_pos h7]
     subst e
     have he:(x.op==7)=true:=by simp[h7]
     have HOD7:=Lib.hid (HOD.out h7)
     have x0:=(S1.out.below HB.out).ix.cells.1
     clear HOD HOB e0 h7
     clear HFD HOA
     go_upto_region 7 with (fail)
     have S2:=Lib.hid (S1.out.below HB.out)
     generalize o.u=W2 at *
     clear S1 HB
     have y0:∀o:WB W2,o.u.cell? ⟨w.heap.size,0,none⟩=some (.slice ha h.length hc):=fun o=>(S2.out.now o.h).1.1
     have y1:∀o:WB W2,o.u.cell? ⟨w.heap.size,1,none⟩=some (.string f.cls):=fun o=>(S2.out.now o.h).1.2.1
     have y2:∀o:WB W2,o.u.cell? ⟨w.heap.size,2,none⟩=some (.string f.name):=fun o=>(S2.out.now o.h).1.2.2.1
     have y3:∀o:WB W2,o.u.cell? ⟨w.heap.size,3,none⟩=some (.bool f.stat):=fun o=>(S2.out.now o.h).1.2.2.2.1
     have y4:∀o:WB W2,o.u.cell? ⟨w.heap.size,4,none⟩=some (.int .i64 f.params):=fun o=>(S2.out.now o.h).1.2.2.2.2.1
     have y5:∀o:WB W2,o.u.cell? ⟨w.heap.size,5,none⟩=some (.slice va f.vars.length vc):=fun o=>(S2.out.now o.h).1.2.2.2.2.2.1
     have y6:∀o:WB W2,o.u.cell? ⟨w.heap.size,6,none⟩=some (.string f.result):=fun o=>(S2.out.now o.h).1.2.2.2.2.2.2.1
     have y7:∀o:WB W2,o.u.cell? ⟨w.heap.size,7,none⟩=some (.slice ca f.code.length cc):=fun o=>(S2.out.now o.h).1.2.2.2.2.2.2.2
     have x1:∀o:WB W2,o.u.cell? ⟨w.heap.size+1,1,none⟩=some (.int .i64 x.dst):=fun o=>(S2.out.now o.h).2.2.1
     have hne:Nonempty (WB W2):=⟨⟨W2,Below.refl _ _⟩⟩
     refine bJ W2 (by kernel_rfl) ?_
     repeat (go_big_quiet_step (first | (go_at_call 128;rename_i o;exact(HOD7.out _ (S2.out.below o.h).ty.ch (S2.out.below o.h).ty.hv).mono (fun _ _ h=>aj.bu h)) | (go_at_call 127;rename_i o;exact(HFT.out _ _ _ (S2.out.below o.h).ty.ch (S2.out.below o.h).ty.hv).mono (fun _ _ h=>aj.bu h)) | (go_at_call 125;rename_i o;exact(HTY.out _ _).mono (fun _ _ h=>Same.bu h))))
     refine wpQuiet_nil ?_
     intro _ hw'
     obtain⟨o2,rfl⟩:=hw'
     have HB:=Lib.hid o2.h
     clear y0 y1 y2 y3 y4 y5 y6 y7 x1 hne
     go_wp2
     go_ret
     exact⟨rfl,(S2.out.below HB.out).ty.hb⟩
    case neg =>
     have e:R=tE (dm h B G):=by rw[e0,if_neg h7]
     subst e
     have he:(x.op==7)=false:=by simp[h7]
     have HOB7:=Lib.hid (HOB.out h7)
     have x0:=(S1.out.below HB.out).ix.cells.1
     clear HOD HOB e0 h7
     clear HFD HOA
     go_upto_region 8 with (fail)
     have S2:=Lib.hid (S1.out.below HB.out)
     generalize o.u=W2 at *
     clear S1 HB
     have y0:∀o:WB W2,o.u.cell? ⟨w.heap.size,0,none⟩=some (.slice ha h.length hc):=fun o=>(S2.out.now o.h).1.1
     have y1:∀o:WB W2,o.u.cell? ⟨w.heap.size,1,none⟩=some (.string f.cls):=fun o=>(S2.out.now o.h).1.2.1
     have y2:∀o:WB W2,o.u.cell? ⟨w.heap.size,2,none⟩=some (.string f.name):=fun o=>(S2.out.now o.h).1.2.2.1
     have y3:∀o:WB W2,o.u.cell? ⟨w.heap.size,3,none⟩=some (.bool f.stat):=fun o=>(S2.out.now o.h).1.2.2.2.1
     have y4:∀o:WB W2,o.u.cell? ⟨w.heap.size,4,none⟩=some (.int .i64 f.params):=fun o=>(S2.out.now o.h).1.2.2.2.2.1
     have y5:∀o:WB W2,o.u.cell? ⟨w.heap.size,5,none⟩=some (.slice va f.vars.length vc):=fun o=>(S2.out.now o.h).1.2.2.2.2.2.1
     have y6:∀o:WB W2,o.u.cell? ⟨w.heap.size,6,none⟩=some (.string f.result):=fun o=>(S2.out.now o.h).1.2.2.2.2.2.2.1
     have y7:∀o:WB W2,o.u.cell? ⟨w.heap.size,7,none⟩=some (.slice ca f.code.length cc):=fun o=>(S2.out.now o.h).1.2.2.2.2.2.2.2
     have x3:∀o:WB W2,o.u.cell? ⟨w.heap.size+1,3,none⟩=some (.int .i64 x.b):=fun o=>(S2.out.now o.h).2.2.2.2.1
     have hne:Nonempty (WB W2):=⟨⟨W2,Below.refl _ _⟩⟩
     refine bJ W2 (by kernel_rfl) ?_
     repeat (go_big_quiet_step (first | (go_at_call 128;rename_i o;exact(HOB7.out _ (S2.out.below o.h).ty.ch (S2.out.below o.h).ty.hv).mono (fun _ _ h=>aj.bu h)) | (go_at_call 127;rename_i o;exact(HFT.out _ _ _ (S2.out.below o.h).ty.ch (S2.out.below o.h).ty.hv).mono (fun _ _ h=>aj.bu h)) | (go_at_call 125;rename_i o;exact(HTY.out _ _).mono (fun _ _ h=>Same.bu h))))
     refine wpQuiet_nil ?_
     intro _ hw'
     obtain⟨o2,rfl⟩:=hw'
     have HB:=Lib.hid o2.h
     clear y0 y1 y2 y3 y4 y5 y6 y7 x3 hne
     go_wp2
     go_ret
     exact⟨rfl,(S2.out.below HB.out).ty.hb⟩
end Go.Proofs.YtjnbddedmbhiaaaGreatDoor
namespace Go.ak
def mI:Str:=⟨#[]⟩
end Go.ak
namespace Go.Proofs.YtjnbddedmbhiaaaGreatDoor
open Go.RowKit Go.ak

def oF(h:List ae)(f:aA):List Int->List Str->Bool
 |v::vs,p::ps=>dm h (vt f v) p&&oF h f vs ps
 |_,_=>true
theorem y1R(h:List ae)(f:aA)(l:List Int)(m:List Str)(k:Nat)(h1:k<l.length)(h2:k<m.length):oF h f (l.drop k) (m.drop k)=(dm h (vt f l[k]) m[k]&&oF h f (l.drop (k+1)) (m.drop (k+1))):=by
 rw[List.drop_eq_getElem_cons h1,List.drop_eq_getElem_cons h2];rfl
theorem y1Q(h:List ae)(f:aA)(l:List Int)(m:List Str):oF h f (l.drop l.length) m=true:=by
 rw[List.drop_length];unfold oF;rfl
theorem ZA:mI.toList=[]:=by kernel_rfl
theorem eq_empty(s:Str):(s.toList==[])=aD s mI:=by unfold aD;rw[ZA]
def Ad(h:List ae)(f:aA)(x:Ins)(g:aH):Bool:=if x.dst = -1 then true else if aD g.result mI=true then false else dm h g.result (vt f x.dst)
def lI(h:List ae)(f:aA)(x:Ins)(g:aH):Int:=if x.args.length=g.params.length then(if oF h f x.args g.params=true then tE (Ad h f x g)else 8)else 9
structure TS(h:List ae)(ha:Option Addr)(hc:Nat)(f:aA)(va:Option Addr)(vc:Nat)(ca:Option Addr)(cc:Nat)(x:Ins)(ga:Option Addr)(gc:Nat)(g:aH)(pa:Option Addr)(pc:Nat)(w wr:World):Prop where
 ti:TI h ha hc f va vc ca cc x ga gc w wr
 sb:ah wr (w.heap.size+2) #[.string g.name,.bool g.stat,.slice pa g.params.length pc,.string g.result] 48
 ps:bF wr pa g.params
section
variable {h:List ae}{ha:Option Addr}{hc:Nat}{f:aA}{va:Option Addr}{vc:Nat}{ca:Option Addr}{cc:Nat}{x:Ins}{ga:Option Addr}{gc:Nat}{g:aH}{pa:Option Addr}{pc:Nat}{w wr w':World}
theorem TS.below(k:TS h ha hc f va vc ca cc x ga gc g pa pc w wr)(hb:Below wr.heap.size wr w'):TS h ha hc f va vc ca cc x ga gc g pa pc w w':=⟨k.ti.below hb,k.sb.below hb,k.ps.below hb⟩
theorem TS.start(h0:ay w ha h)(hv:aK w va f.vars)(hg:aM w ga x.args)(hp:bF w pa g.params):TS h ha hc f va vc ca cc x ga gc g pa pc w (((w.alloc (.cells (pR h ha hc f va vc ca cc) 159)).alloc (nR x ga gc)).alloc (jr g pa pc)) :=
 ⟨(TI.start h0 hv hg).below (av ..),wN ..,hp.below (xB ..)⟩
theorem TS.now(k:TS h ha hc f va vc ca cc x ga gc g pa pc w wr)(hb:Below wr.heap.size wr w') :
 w'.cell? ⟨w.heap.size+2,2,none⟩=some (.slice pa g.params.length pc)/\w'.cell? ⟨w.heap.size+2,3,none⟩=some (.string g.result) :=
 ⟨((k.sb.below hb).cell 2 (by simp)).trans (by simp),((k.sb.below hb).cell 3 (by simp)).trans (by simp)⟩
end
set_option maxRecDepth 100000 in
set_option maxHeartbeats 16000000 in
theorem Jw(h:List ae)(ha:Option Addr)(hc:Nat)(f:aA)(va:Option Addr)(vc:Nat)(ca:Option Addr)(cc:Nat)(x:Ins)(ga:Option Addr)(gc:Nat)(g:aH)(pa:Option Addr)(pc:Nat)(w:World)(h0:ay w ha h)(hv:aK w va f.vars)(hg:aM w ga x.args)(hp:bF w pa g.params)(hl:h.length<=100000)(hal:x.args.length<=1000000)
 (ra:∀v∈x.args,0<=v/\v<f.vars.length) (rd:¬ x.dst = -1->0<=x.dst/\x.dst<f.vars.length) :
 Calls Tryz.prog 131 #[aR h ha hc f va vc ca cc,bN x ga gc,fF g pa pc] w (aj w (.int .i64 (lI h f x g))):=by
 have S:Hid (TS h ha hc f va vc ca cc x ga gc g pa pc w _):=TS.start (hc:=hc) (vc:=vc) (ca:=ca) (cc:=cc) (gc:=gc) (pc:=pc) h0 hv hg hp
 have HOA:Hid (∀k (hk:k<x.args.length) w1,ay w1 ha h->aK w1 va f.vars->Calls Tryz.prog 128 #[aR h ha hc f va vc ca cc,.int .i64 x.args[k]] w1 (aj w1 (.string (vt f x.args[k])))):=fun k hk w1 h1 h2=>nD h ha hc f va vc ca cc x.args[k] (ra _ (List.getElem_mem hk)).1 (ra _ (List.getElem_mem hk)).2 w1 h1 h2
 have HOD:Hid (¬ x.dst = -1->∀w1,ay w1 ha h->aK w1 va f.vars->Calls Tryz.prog 128 #[aR h ha hc f va vc ca cc,.int .i64 x.dst] w1 (aj w1 (.string (vt f x.dst)))):=fun e w1 h1 h2=>nD h ha hc f va vc ca cc x.dst (rd e).1 (rd e).2 w1 h1 h2
 have HFT:Hid (∀(s t:Str) w1,ay w1 ha h->aK w1 va f.vars->Calls Tryz.prog 127 #[aR h ha hc f va vc ca cc,.string s,.string t] w1 (aj w1 (.bool (dm h s t)))):=fun s t w1 h1 h2=>uT h ha hc f va vc ca cc s t w1 h1 h2 hl
 have HTY:Hid (∀(b:Bool) w1,Calls Tryz.prog 125 #[.bool b] w1 (Same w1 (.int .i64 (tE b)))):=fun b w1=>kP b w1
 have HE:Hid (lI h f x g=if x.args.length=g.params.length then(if oF h f x.args g.params=true then tE (Ad h f x g)else 8)else 9):=rfl
 have HRB:Hid (Ad h f x g=if x.dst = -1 then true else if aD g.result mI=true then false else dm h g.result (vt f x.dst)):=rfl
 clear h0 hv hg hp ra rd
 unfold aR bN fF at *
 generalize lI h f x g=R at *
 generalize Ad h f x g=RB at *
 go_enter Tryz.func131,Tryz.ntmps131
 go_upto_region 1 with (fail)
 generalize ((w.alloc _).alloc _).alloc _=W at *
 have x7:=(S.out.ti.now (Below.refl _ _)).2.2.2.2.2.2.2.2.1
 have s2:=(S.out.now (Below.refl _ _)).1
 by_cases hq:x.args.length=g.params.length
 case neg =>
  have e:R=9:=by rw[HE.out,if_neg hq]
  subst e
  have hq2:¬ (x.args.length:Int)=g.params.length:=fun e=>hq (by omega)
  clear HOA HOD HFT HTY HE HRB hal
  go_wp2
  go_ret
  exact⟨rfl,S.out.ti.ty.hb⟩
 case pos =>
  have hq2:(x.args.length:Int)=g.params.length:=by omega
  have e0:Hid (R=if oF h f x.args g.params=true then tE RB else 8):=by show _=_;rw[HE.out,if_pos hq]
  clear HE
  go_wp2
  go_loopw[19] (fun i wr=>∃k:Nat,k<=x.args.length/\i = .int .i64 k/\Hid (oF h f (x.args.drop k) (g.params.drop k)=oF h f x.args g.params)/\Hid (TS h ha hc f va vc ca cc x ga gc g pa pc w wr)) (fun i _=>x.args.length-(intOf i).toNat)
  case atStart=>exact⟨0,Nat.zero_le _,rfl,rfl,S.out⟩
  case round =>
   clear S x7 s2
   obtain⟨k,hk,rfl,HJ,S⟩:=hrel
   by_cases hlt:k<x.args.length
   case neg =>
    have ek:k=x.args.length:=by omega
    subst ek
    have hB:oF h f x.args g.params=true:=by rw[<-HJ.out];exact y1Q ..
    have e:R=tE RB:=by rw[e0.out,if_pos hB]
    subst e
    clear HJ hB e0 HOA hlt hk
    go_upto_region 9 with (fail)
    have y0:∀o:WB wr,o.u.cell? ⟨w.heap.size,0,none⟩=some (.slice ha h.length hc):=fun o=>(S.out.ti.now o.h).1.1
    have y1:∀o:WB wr,o.u.cell? ⟨w.heap.size,1,none⟩=some (.string f.cls):=fun o=>(S.out.ti.now o.h).1.2.1
    have y2:∀o:WB wr,o.u.cell? ⟨w.heap.size,2,none⟩=some (.string f.name):=fun o=>(S.out.ti.now o.h).1.2.2.1
    have y3:∀o:WB wr,o.u.cell? ⟨w.heap.size,3,none⟩=some (.bool f.stat):=fun o=>(S.out.ti.now o.h).1.2.2.2.1
    have y4:∀o:WB wr,o.u.cell? ⟨w.heap.size,4,none⟩=some (.int .i64 f.params):=fun o=>(S.out.ti.now o.h).1.2.2.2.2.1
    have y5:∀o:WB wr,o.u.cell? ⟨w.heap.size,5,none⟩=some (.slice va f.vars.length vc):=fun o=>(S.out.ti.now o.h).1.2.2.2.2.2.1
    have y6:∀o:WB wr,o.u.cell? ⟨w.heap.size,6,none⟩=some (.string f.result):=fun o=>(S.out.ti.now o.h).1.2.2.2.2.2.2.1
    have y7:∀o:WB wr,o.u.cell? ⟨w.heap.size,7,none⟩=some (.slice ca f.code.length cc):=fun o=>(S.out.ti.now o.h).1.2.2.2.2.2.2.2
    have x1:∀o:WB wr,o.u.cell? ⟨w.heap.size+1,1,none⟩=some (.int .i64 x.dst):=fun o=>(S.out.ti.now o.h).2.2.1
    have s3:∀o:WB wr,o.u.cell? ⟨w.heap.size+2,3,none⟩=some (.string g.result):=fun o=>(S.out.now o.h).2
    by_cases hd:x.dst = -1
    case pos =>
     have e:RB=true:=by rw[HRB.out,if_pos hd]
     subst e
     have t1:(x.dst == -1)=true:=by simp[hd]
     clear HRB HOD HFT hd
     have hne:Nonempty (WB wr):=⟨⟨wr,Below.refl _ _⟩⟩
     refine bJ wr (by kernel_rfl) ?_
     repeat (go_big_quiet_step (first | (go_at_call 125;rename_i o;exact(HTY.out _ _).mono (fun _ _ h=>Same.bu h))))
     refine wpQuiet_nil ?_
     intro _ hw'
     obtain⟨o,rfl⟩:=hw'
     have HB:=Lib.hid o.h
     clear hne y0 y1 y2 y3 y4 y5 y6 y7 x1 s3
     go_wp2
     go_ret
     exact⟨rfl,(S.out.below HB.out).ti.ty.hb⟩
    case neg =>
     have HO:=Lib.hid (HOD.out hd)
     rw[if_neg hd]at HRB
     have t1:(x.dst == -1)=false:=by simp[hd]
     have t2:(g.result.toList==[])=aD g.result mI:=eq_empty _
     clear HOD hd
     cases er:aD g.result mI with
     |true =>
      have e:RB=false:=by rw[HRB.out,er];rfl
      subst e
      rw[er]at t2
      clear HRB HFT HO er
      have hne:Nonempty (WB wr):=⟨⟨wr,Below.refl _ _⟩⟩
      refine bJ wr (by kernel_rfl) ?_
      repeat (go_big_quiet_step (first | (go_at_call 125;rename_i o;exact(HTY.out _ _).mono (fun _ _ h=>Same.bu h))))
      refine wpQuiet_nil ?_
      intro _ hw'
      obtain⟨o,rfl⟩:=hw'
      have HB:=Lib.hid o.h
      clear hne y0 y1 y2 y3 y4 y5 y6 y7 x1 s3
      go_wp2
      go_ret
      exact⟨rfl,(S.out.below HB.out).ti.ty.hb⟩
     |false =>
      have e:RB=dm h g.result (vt f x.dst):=by rw[HRB.out,er];rfl
      subst e
      rw[er]at t2
      clear HRB er
      have hne:Nonempty (WB wr):=⟨⟨wr,Below.refl _ _⟩⟩
      refine bJ wr (by kernel_rfl) ?_
      repeat (go_big_quiet_step (first | (go_at_call 128;rename_i o;exact(HO.out _ (S.out.below o.h).ti.ty.ch (S.out.below o.h).ti.ty.hv).mono (fun _ _ h=>aj.bu h)) | (go_at_call 127;rename_i o;exact(HFT.out _ _ _ (S.out.below o.h).ti.ty.ch (S.out.below o.h).ti.ty.hv).mono (fun _ _ h=>aj.bu h)) | (go_at_call 125;rename_i o;exact(HTY.out _ _).mono (fun _ _ h=>Same.bu h))))
      refine wpQuiet_nil ?_
      intro _ hw'
      obtain⟨o,rfl⟩:=hw'
      have HB:=Lib.hid o.h
      clear hne y0 y1 y2 y3 y4 y5 y6 y7 x1 s3
      go_wp2
      go_ret
      exact⟨rfl,(S.out.below HB.out).ti.ty.hb⟩
   case pos =>
    have hlt2:k<g.params.length:=by omega
    have HD:=Lib.hid (HJ.out.symm.trans (y1R h f x.args g.params k hlt hlt2))
    obtain⟨b1,f1,rfl,z1⟩:=S.out.ti.ix.ga k hlt
    obtain⟨b2,f2,rfl,z2⟩:=S.out.ps k hlt2
    have HO:=Lib.hid (HOA.out k hlt)
    have HF:=Lib.hid (HFT.out (vt f x.args[k]) g.params[k])
    have zz:∀o:WB wr,o.u.cell? ⟨b2,f2+k,none⟩=some (.string g.params[k]):=fun o=>cell_below o.h z2
    have s2:∀o:WB wr,o.u.cell? ⟨w.heap.size+2,2,none⟩=some (.slice (some ⟨b2,f2,none⟩) g.params.length pc):=fun o=>(S.out.now o.h).1
    generalize x.args[k]=v at *
    generalize g.params[k]=q at *
    clear HOA HOD HRB HTY
    cases eF:dm h (vt f v) q with
    |false =>
     rw[eF]at HF HD
     have e:R=8:=by rw[e0.out,HD.out];rfl
     subst e
     clear e0 HD HFT HJ
     go_upto_region 6 with (fail)
     have y0:∀o:WB wr,o.u.cell? ⟨w.heap.size,0,none⟩=some (.slice ha h.length hc):=fun o=>(S.out.ti.now o.h).1.1
     have y1:∀o:WB wr,o.u.cell? ⟨w.heap.size,1,none⟩=some (.string f.cls):=fun o=>(S.out.ti.now o.h).1.2.1
     have y2:∀o:WB wr,o.u.cell? ⟨w.heap.size,2,none⟩=some (.string f.name):=fun o=>(S.out.ti.now o.h).1.2.2.1
     have y3:∀o:WB wr,o.u.cell? ⟨w.heap.size,3,none⟩=some (.bool f.stat):=fun o=>(S.out.ti.now o.h).1.2.2.2.1
     have y4:∀o:WB wr,o.u.cell? ⟨w.heap.size,4,none⟩=some (.int .i64 f.params):=fun o=>(S.out.ti.now o.h).1.2.2.2.2.1
     have y5:∀o:WB wr,o.u.cell? ⟨w.heap.size,5,none⟩=some (.slice va f.vars.length vc):=fun o=>(S.out.ti.now o.h).1.2.2.2.2.2.1
     have y6:∀o:WB wr,o.u.cell? ⟨w.heap.size,6,none⟩=some (.string f.result):=fun o=>(S.out.ti.now o.h).1.2.2.2.2.2.2.1
     have y7:∀o:WB wr,o.u.cell? ⟨w.heap.size,7,none⟩=some (.slice ca f.code.length cc):=fun o=>(S.out.ti.now o.h).1.2.2.2.2.2.2.2
     have hne:Nonempty (WB wr):=⟨⟨wr,Below.refl _ _⟩⟩
     refine bJ wr (by kernel_rfl) ?_
     repeat (go_big_quiet_step (first | (go_at_call 128;rename_i o;exact(HO.out _ (S.out.below o.h).ti.ty.ch (S.out.below o.h).ti.ty.hv).mono (fun _ _ h=>aj.bu h)) | (go_at_call 127;rename_i o;exact(HF.out _ (S.out.below o.h).ti.ty.ch (S.out.below o.h).ti.ty.hv).mono (fun _ _ h=>aj.bu h))))
     refine wpQuiet_nil ?_
     intro _ hw'
     obtain⟨o,rfl⟩:=hw'
     have HB:=Lib.hid o.h
     clear hne y0 y1 y2 y3 y4 y5 y6 y7 zz s2
     go_wp2
     go_ret
     exact⟨rfl,(S.out.below HB.out).ti.ty.hb⟩
    |true =>
     rw[eF]at HF HD
     clear e0 HFT HJ
     go_upto_region 6 with (fail)
     have y0:∀o:WB wr,o.u.cell? ⟨w.heap.size,0,none⟩=some (.slice ha h.length hc):=fun o=>(S.out.ti.now o.h).1.1
     have y1:∀o:WB wr,o.u.cell? ⟨w.heap.size,1,none⟩=some (.string f.cls):=fun o=>(S.out.ti.now o.h).1.2.1
     have y2:∀o:WB wr,o.u.cell? ⟨w.heap.size,2,none⟩=some (.string f.name):=fun o=>(S.out.ti.now o.h).1.2.2.1
     have y3:∀o:WB wr,o.u.cell? ⟨w.heap.size,3,none⟩=some (.bool f.stat):=fun o=>(S.out.ti.now o.h).1.2.2.2.1
     have y4:∀o:WB wr,o.u.cell? ⟨w.heap.size,4,none⟩=some (.int .i64 f.params):=fun o=>(S.out.ti.now o.h).1.2.2.2.2.1
     have y5:∀o:WB wr,o.u.cell? ⟨w.heap.size,5,none⟩=some (.slice va f.vars.length vc):=fun o=>(S.out.ti.now o.h).1.2.2.2.2.2.1
     have y6:∀o:WB wr,o.u.cell? ⟨w.heap.size,6,none⟩=some (.string f.result):=fun o=>(S.out.ti.now o.h).1.2.2.2.2.2.2.1
     have y7:∀o:WB wr,o.u.cell? ⟨w.heap.size,7,none⟩=some (.slice ca f.code.length cc):=fun o=>(S.out.ti.now o.h).1.2.2.2.2.2.2.2
     have hne:Nonempty (WB wr):=⟨⟨wr,Below.refl _ _⟩⟩
     refine bJ wr (by kernel_rfl) ?_
     repeat (go_big_quiet_step (first | (go_at_call 128;rename_i o;exact(HO.out _ (S.out.below o.h).ti.ty.ch (S.out.below o.h).ti.ty.hv).mono (fun _ _ h=>aj.bu h)) | (go_at_call 127;rename_i o;exact(HF.out _ (S.out.below o.h).ti.ty.ch (S.out.below o.h).ti.ty.hv).mono (fun _ _ h=>aj.bu h))))
     refine wpQuiet_nil ?_
     intro _ hw'
     obtain⟨o,rfl⟩:=hw'
     have HB:=Lib.hid o.h
     clear hne y0 y1 y2 y3 y4 y5 y6 y7 zz s2
     go_wp2
     go_roundw
     case rel=>exact⟨k+1,by omega,by go_num,HD.out.symm,S.out.below HB.out⟩
     case measure=>simp[intOf];omega
end Go.Proofs.YtjnbddedmbhiaaaGreatDoor
namespace Go.ak
def qP(h:List ae)(x:Ins):Option aH:=match dE h x.cls with
 |none=>none
 |some c=>match fE c.methods x.name with
  |none=>none
  |some g=>if g.stat=true then some g else none
end Go.ak
namespace Go.Proofs.YtjnbddedmbhiaaaGreatDoor
open Go.RowKit Go.ak

set_option maxHeartbeats 1000000 in
theorem Sq(t:Str)(x:aH)(pa:Option Addr)(pc:Nat)(n:Nat)(w:World)(hp:w.cell? ⟨n,6,none⟩=some (.string t)) :
 Calls Tryz.prog 184 #[.agg #[.string x.name,.bool x.stat,.slice pa x.params.length pc,.string x.result],.pointer (some ⟨n,0,none⟩)] w (aj w (.bool (x.name.toList==t.toList))):=by
 have HB:=Lib.hid (av w (.cells #[.string x.name,.bool x.stat,.slice pa x.params.length pc,.string x.result] 48))
 have hp':=cell_below HB.out hp
 have HD:Hid ((x.name.toList==t.toList)=(x.name.toList==t.toList)):=rfl
 go_enter Tryz.func184,Tryz.ntmps184
 go_wp2
 go_ret
 exact⟨rfl,HB.out⟩
set_option maxHeartbeats 2000000 in
theorem X7(l:List aH)(t:Str)(a:Option Addr)(c:Nat)(n:Nat)(w:World)(hl:kH w a l)(hp:w.cell? ⟨n,6,none⟩=some (.string t))(hn:l.length<=1000000) :
 Calls Tryz.prog 183 #[.slice a l.length c,.func (.func 184) #[] #[.pointer (some ⟨n,0,none⟩)]] w (aj w (.int .i64 (dX l t))):=by
 have HL:=Lib.hid hl;clear hl
 have HP:=Lib.hid hp;clear hp
 go_enter Tryz.func183,Tryz.ntmps183
 go_wp2
 go_loopw[8] (fun i wr=>∃k:Nat,k<=l.length/\i = .int .i64 k/\Hid (iX t (l.drop k) k=dX l t)/\Hid (Below w.heap.size w wr)) (fun i _=>l.length-(intOf i).toNat)
 case atStart=>exact⟨0,Nat.zero_le _,rfl,rfl,Below.refl _ _⟩
 case round =>
  obtain⟨k,hk,rfl,HI,HB⟩:=hrel
  by_cases hlt:k<l.length
  ·obtain⟨b,off,pa,pc,rfl,m0,m1,m2,m3,_⟩:=HL.out.below HB.out k hlt
   have HT:=Lib.hid (@Mj t l k hlt)
   have HM:=Lib.hid (@Mi t l k hlt)
   have HC:Hid (∀x:aH,Calls Tryz.prog 184 #[.agg #[.string x.name,.bool x.stat,.slice pa x.params.length pc,.string x.result],.pointer (some ⟨n,0,none⟩)] wr (aj wr (.bool (x.name.toList==t.toList)))):=fun x=>Sq t x pa pc n wr (cell_below HB.out HP.out)
   generalize l[k]=x at *
   have HD:=Lib.hid (HC.out x)
   clear HC
   cases hq:(x.name.toList==t.toList)
   ·rw[hq]at HD
    have HN:=Lib.hid (HM.out hq)
    clear HM HT
    go_wp2_with (go_at_call 184;refine HD.out.mono ?_;rintro e w1 ⟨rfl,hb1⟩)
    go_roundw
    case rel=>exact⟨k+1,by omega,by go_num,by show _=_;rw[<-HN.out];exact HI.out,HB.out.trans (hb1.mono HB.out.size)⟩
    case measure=>simp[intOf];omega
   ·rw[hq]at HD
    have HN:=Lib.hid (HT.out hq)
    clear HM HT
    go_wp2_with (go_at_call 184;refine HD.out.mono ?_;rintro e w1 ⟨rfl,hb1⟩)
    go_ret
    exact⟨eO (by rw[<-HI.out,HN.out]),HB.out.trans (hb1.mono HB.out.size)⟩
  ·have HN:=Lib.hid (@Mk t l k (by omega))
   go_wp2
   go_ret
   exact⟨eO (by rw[<-HI.out,HN.out]),HB.out⟩
def Qz(r:Option aH)(w:World)(e:Ending)(w':World):Prop:=Below w.heap.size w w'/\((r=none/\e = .returned (.tuple #[xw,.bool false]))∨∃g pa pc,r=some g/\e = .returned (.tuple #[fF g pa pc,.bool true])/\bF w pa g.params)
set_option maxRecDepth 100000 in
set_option maxHeartbeats 8000000 in
theorem Ri(h:List ae)(ha:Option Addr)(hc:Nat)(f:aA)(va:Option Addr)(vc:Nat)(ca:Option Addr)(cc:Nat)(x:Ins)(ga:Option Addr)(gc:Nat)(w:World)(h0:ay w ha h)(hv:aK w va f.vars)(hg:aM w ga x.args)(hl:h.length<=100000)(hm:∀c∈h,c.methods.length<=100000) :
 Calls Tryz.prog 132 #[aR h ha hc f va vc ca cc,bN x ga gc] w (Qz (qP h x) w):=by
 have S0:TI h ha hc f va vc ca cc x ga gc w _:=TI.start (hc:=hc) (vc:=vc) (ca:=ca) (cc:=cc) (gc:=gc) h0 hv hg
 have S:Hid (TI h ha hc f va vc ca cc x ga gc w ((((w.alloc (.cells (pR h ha hc f va vc ca cc) 159)).alloc (nR x ga gc))).alloc jk)):=S0.below (av ..)
 have B:Hid (ah ((((w.alloc (.cells (pR h ha hc f va vc ca cc) 159)).alloc (nR x ga gc))).alloc jk) (w.heap.size+2) #[.string ⟨#[]⟩,.bool false,.slice none 0 0,.string ⟨#[]⟩] 48):=wN ..
 have HQ:Hid (qP h x=match dE h x.cls with
  |none=>none
  |some c=>match fE c.methods x.name with
   |none=>none
   |some g=>if g.stat=true then some g else none):=rfl
 have C0:=Lib.hid h0
 clear S0 h0 hv hg
 unfold aR bN at *
 generalize qP h x=R at *
 go_enter Tryz.func132,Tryz.ntmps132
 go_upto_region 1 with (fail)
 generalize ((w.alloc _).alloc _).alloc _=W at *
 have y0:=(S.out.now (Below.refl _ _)).1.1
 have x5:=(S.out.now (Below.refl _ _)).2.2.2.2.2.2.1
 go_wp2_with fail
 have HC:Calls Tryz.prog 66 #[.agg #[.slice ha h.length hc],.string x.cls] W (aj W (.int .i64 (aI h x.cls))):=yL h ha hc x.cls W S.out.ty.ch (by omega)
 rcases find_spec h x.cls with ⟨f1,f2⟩ | ⟨j,hj,f2,f1,-⟩
 case inl =>
  have e:R=none:=by rw[HQ.out,f1]
  subst e
  rw[f2]at HC
  refine HC.mono ?_
  rintro e w1 ⟨rfl,hb1⟩
  have S1:=Lib.hid (S.out.below hb1)
  have B1:=Lib.hid (B.out.below hb1)
  clear S B hb1 y0 x5 HC HQ f1 f2
  go_wp2_with (refine l5 rfl rfl _ _ rfl (w.heap.size+2) sG none 0 rfl rfl _ B1.out rfl ?_)
  refine bodyPost_ret (v:=.tuple #[xw,.bool false]) (kU Tryz.results132 _ _ (w.heap.size+2) _ _ _ rfl rfl (B1.out.setRow _) Tryz.underlying48 rfl (by kernel_rfl)) rfl ?_
  exact⟨bP S1.out.ty.hb (by omega) _,.inl ⟨rfl,rfl⟩⟩
 case inr =>
  rw[f2]at HC
  refine HC.mono ?_
  rintro e w1 ⟨rfl,hb1⟩
  have S1:=Lib.hid (S.out.below hb1)
  have B1:=Lib.hid (B.out.below hb1)
  have y0:=(S1.out.now (Below.refl _ _)).1.1
  clear S B hb1 x5 HC f2
  obtain⟨b,off,fa,fc,ma,mc,rfl,m0,m1,m2,m3',m4,m5⟩:=C0.out j hj
  have m3:=cell_below S1.out.ty.hb m3'
  clear C0 m3'
  have hm2:=hm _ (List.getElem_mem hj)
  have e0:Hid (R=match fE h[j].methods x.name with
   |none=>none
   |some g=>if g.stat=true then some g else none):=by show _=_;rw[HQ.out,f1]
  clear HQ f1 hm
  generalize h[j].methods=ms at *
  have t0:decide ((j:Int)<0)=false:=by simp
  go_wp2_with fail
  have HC:Calls Tryz.prog 183 #[.slice ma ms.length mc,.func (.func 184) #[] #[.pointer (some ⟨w.heap.size+1,0,none⟩)]] w1 (aj w1 (.int .i64 (dX ms x.name))):=X7 ms x.name ma mc _ w1 (m5.below S1.out.ty.hb) (S1.out.now (Below.refl _ _)).2.2.2.2.2.2.2.1 (by omega)
  rcases Mo ms x.name with ⟨g1,g2⟩ | ⟨k,hk,g2,g1⟩
  case inl =>
   have e:R=none:=by rw[e0.out,g1]
   subst e
   rw[g2]at HC
   refine HC.mono ?_
   rintro e w2 ⟨rfl,hb2⟩
   have S2:=Lib.hid (S1.out.below hb2)
   have B2:=Lib.hid (B1.out.below hb2)
   clear S1 B1 hb2 y0 m0 m1 m2 m3 m4 m5 HC g1 g2 e0
   go_wp2_with (refine l5 rfl rfl _ _ rfl (w.heap.size+2) sG none 0 rfl rfl _ B2.out rfl ?_)
   refine bodyPost_ret (v:=.tuple #[xw,.bool false]) (kU Tryz.results132 _ _ (w.heap.size+2) _ _ _ rfl rfl (B2.out.setRow _) Tryz.underlying48 rfl (by kernel_rfl)) rfl ?_
   exact⟨bP S2.out.ty.hb (by omega) _,.inl ⟨rfl,rfl⟩⟩
  case inr =>
   rw[g2]at HC
   refine HC.mono ?_
   rintro e w2 ⟨rfl,hb2⟩
   have S2:=Lib.hid (S1.out.below hb2)
   have B2:=Lib.hid (B1.out.below hb2)
   obtain⟨b3,o3,pa,pc,rfl,q0',q1',q2',q3',q4⟩:=m5 k hk
   have q0:=cell_below S2.out.ty.hb q0'
   have q1:=cell_below S2.out.ty.hb q1'
   have q2:=cell_below S2.out.ty.hb q2'
   have q3:=cell_below S2.out.ty.hb q3'
   clear q0' q1' q2' q3'
   rw[g1]at e0
   clear S1 B1 hb2 y0 m0 m1 m2 m3 m4 m5 HC g1 g2
   have t1:decide ((k:Int)<0)=false:=by simp
   generalize ms[k]=g at *
   change Hid (R=if g.stat=true then some g else none)at e0
   cases hs:g.stat with
   |false =>
    rw[hs]at e0 q1
    have e:R=none:=e0.out
    subst e
    clear e0
    go_wp2_with (refine l5 rfl rfl _ _ rfl (w.heap.size+2) sG none 0 rfl rfl _ B2.out rfl ?_)
    refine bodyPost_ret (v:=.tuple #[xw,.bool false]) (kU Tryz.results132 _ _ (w.heap.size+2) _ _ _ rfl rfl (B2.out.setRow _) Tryz.underlying48 rfl (by kernel_rfl)) rfl ?_
    exact⟨bP S2.out.ty.hb (by omega) _,.inl ⟨rfl,rfl⟩⟩
   |true =>
    rw[hs]at e0 q1
    have e:R=some g:=e0.out
    subst e
    clear e0
    go_wp2_with (refine l5 rfl rfl _ _ rfl (w.heap.size+2) ⟨g.name,true,g.params,g.result⟩ pa pc rfl rfl _ B2.out rfl ?_)
    refine bodyPost_ret (v:=.tuple #[fF ⟨g.name,true,g.params,g.result⟩ pa pc,.bool true]) (kU Tryz.results132 _ _ (w.heap.size+2) _ _ _ rfl rfl (B2.out.setRow _) Tryz.underlying48 rfl (by kernel_rfl)) rfl ?_
    exact⟨bP S2.out.ty.hb (by omega) _,.inr ⟨g,pa,pc,rfl,by unfold fF;rw[hs],q4⟩⟩
end Go.Proofs.YtjnbddedmbhiaaaGreatDoor
