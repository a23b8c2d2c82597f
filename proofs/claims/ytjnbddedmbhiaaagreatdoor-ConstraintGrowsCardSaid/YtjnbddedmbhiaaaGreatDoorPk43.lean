/-
  Regions in their order or in one of their orders; codes; calls.
-/
import Derived.Test.YtjnbddedmbhiaaaGreatDoorPk42
import Derived.Defers
namespace Go.AM
noncomputable section
def gW:AV->AV->Bool
 | .b x,.b y=>oZ x y
 | .i q x,.i q' y=>lu q q'&&mG x y
 | .s x,.s y=>eqs x y
 | .p0,.p0=>true
 | .p r o,.p r' o'=>Nat.beq r r'&&Nat.beq o o'
 | .l0,.l0=>true
 | .l r o n,.l r' o' n'=>Nat.beq r r'&&(Nat.beq o o'&&(Nat.beq n n'&&(Nat.beq o 0||Nat.blt 0 n)))
 | .m0,.m0=>true
 | .m r,.m r'=>Nat.beq r r'
 | .f0,.f0=>true
 | .f (.func f) a c,.f (.func f') a' c'=>Nat.beq f f'&&(gW a a'&&gW c c')
 | .x0,.x0=>true
 | .x t v,.x t' v'=>Nat.beq t t'&&gW v v'
 | .a c,.a c'=>gW c c'
 | .t c,.t c'=>gW c c'
 | .nl,.nl=>true
 | .cn x l,.cn y m=>gW x y&&gW l m
 |_,_=>false
def Ke(d:Option (List D))(tm:Tm):AV:=Option.rec (motive:=fun _=>Tm->AV) (fun _=>.u) (fun p tm=>gv (T.get p tm)) d tm
def vU:gJ->Bool
 | .sl _ _ _ _=>true
 |_=>false
def PQ(c:CR):(Nat->Bool)->dS->Tm->St->Out->Out:=CR.rec (motive:=fun _=>(Nat->Bool)->dS->Tm->St->Out->Out)
 (fun o d g aC call tm st y=>iff (vU o) y (nT g tm (gF o aC call tm st (fun v _=>must (gW v (Ke d tm)) y)) y)) c
def jA(l:List CR):(Nat->Bool)->dS->Tm->St->Out->Out:=List.rec (motive:=fun _=>(Nat->Bool)->dS->Tm->St->Out->Out) (fun _ _ _ _ y=>y) (fun c _ ih aC call tm st y=>PQ c aC call tm st (ih aC call tm st y)) l
def K4(c:CR):(Nat->Bool)->dS->Tm->St->Out->Out:=CR.rec (motive:=fun _=>(Nat->Bool)->dS->Tm->St->Out->Out) (fun o _ _ aC call tm st y=>gF o aC call tm st (fun _ _=>y)) c
def vw(l:List CR):(Nat->Bool)->dS->Tm->St->Out->Out:=List.rec (motive:=fun _=>(Nat->Bool)->dS->Tm->St->Out->Out) (fun _ _ _ _ y=>y) (fun c _ ih aC call tm st y=>K4 c aC call tm st (ih aC call tm st y)) l
inductive CX where | mk (c:CR) (l:List CR) (pre:List CR) (l0:List CR)
def jf(l:List CX):(Nat->Bool)->dS->Tm->St->(Tm->St->Out)->Out:=List.rec (motive:=fun _=>(Nat->Bool)->dS->Tm->St->(Tm->St->Out)->Out) (fun _ _ tm st k=>k tm st)
 (fun x _ ih=>CX.rec (motive:=fun _=>((Nat->Bool)->dS->Tm->St->(Tm->St->Out)->Out)->(Nat->Bool)->dS->Tm->St->(Tm->St->Out)->Out)
   (fun c l pre l0 ih aC call tm st k=>jA l0 aC call tm st (vw pre aC call tm st (CR.rec (motive:=fun _=>List CR->((Nat->Bool)->dS->Tm->St->(Tm->St->Out)->Out)->(Nat->Bool)->dS->Tm->St->(Tm->St->Out)->Out)
     (fun o d g l ih aC call tm st k=>nT g tm (gF o aC call tm st (fun v st=>jA l aC call (dL d v tm) st (ih aC call (dL d v tm) st k))) (ih aC call (dL d (.t .nl) tm) st k)) c l ih aC call tm st k))) x ih) l
def CR.o:CR->gJ
 | .mk o _ _=>o
def lF(ops:Array Oper)(j i:Nat):Bool:=match ops[j]?,ops[i]? with
 |some oj,some oi=>(match oj.dst with | some d=>!(oi.looksAt ops).contains d&&oi.dst != some d | none=>true)
 |_,_=>false
def vT(c:CR):Bool:=match c with | .mk o (some _) _=>Nat.beq (cls o) 0 | _=>false
def Dy(ops:Array Oper)(o:Oper):Bool:=match o.dst with | some d=>!(o.looksAt ops).contains d | none=>true
def vz(P:Program)(nt:Nat)(ops:Array Oper)(listed:Array Bool):List Nat->Option (Nat × CR)
 |[]=>none
 |i::l=>match ops[i]? with
  |some o=>(match vT (fH P nt ops o)&&(Dy ops o&&Region.free .any ops listed i)with | true=>some (i,fH P nt ops o) | false=>vz P nt ops listed l)
  |none=>vz P nt ops listed l
def AP(c:CR):Bool:=match c with | .mk o (some _) none=>tX o | _=>false
def oU(P:Program)(nt:Nat)(ops:Array Oper)(i:Nat):Bool:=match ops[i]? with | some o=>AP (fH P nt ops o) | none=>false
def GH(P:Program)(nt:Nat)(ops:Array Oper)(rs:List Nat):Option Nat:=match rs.filter (fun i=>!oU P nt ops i)with
 |[j]=>some j
 |[]=>rs.head?
 |_=>none
def cK(is:List Nat)(listed:Array Bool):Array Bool:=is.foldl (fun l i=>l.setIfInBounds i true) listed
def DF(ops:Array Oper)(rs:List Nat)(listed:Array Bool)(others:List Nat):List Nat:=match others with
 |[]=>rs
 |_::_=>Region.ready .any ops (cK others listed)
def JW(ops:Array Oper)(rs:List Nat)(listed:Array Bool)(prs:List (Nat × CR))(cur:Nat)(others:List Nat):Bool :=
 (DF ops rs listed others==[cur])&&others.all (fun i=>lF ops i cur&&(lF ops cur i&&(others.all (fun j=>Nat.beq i j||lF ops i j)&&prs.all (fun p=>lF ops i p.1))))
def pE(P:Program)(nt:Nat)(ops:Array Oper):List Nat->List CR
 |[]=>[]
 |i::l=>match ops[i]? with | some o=>fH P nt ops o::pE P nt ops l | none=>pE P nt ops l
def K7(others:List Nat)(l:List CR):List CR:=match others with
 |[]=>[]
 |_::_=>l
def sj(P:Program)(nt:Nat)(ops:Array Oper)(listed:Array Bool):List Nat->Bool
 |[]=>true
 |i::l=>(match listed.getD i true with
  |true=>sj P nt ops listed l
  |false=>(match ops[i]? with | some o=>(match vT (fH P nt ops o)with | true=>sj P nt ops listed l | false=>false) | none=>sj P nt ops listed l))
def vM(P:Program)(nt:Nat)(ops:Array Oper):Nat->Array Bool->Option (List CX)
 |n,listed=>match Region.ready .any ops listed with
  |[]=>some []
  |rs=>match n with
   |0=>none
   |n+1=>match vz P nt ops listed rs with
    |some (i,c)=>(match vM P nt ops n (listed.setIfInBounds i true)with
     |some l=>some (.mk c [] [] []::l)
     |none=>none)
    |none=>none
def vL(P:Program)(nt:Nat)(ops:Array Oper):Nat->List (Nat × CR)->Array Bool->Option (List CX)
 |n,prs,listed=>match Region.ready .any ops listed with
  |[]=>some []
  |rs=>match sj P nt ops listed (List.range ops.size)with
   |true=>vM P nt ops n listed
   |false=>match n with
    |0=>none
    |n+1=>match vz P nt ops listed rs with
     |some (i,c)=>(match prs.all (fun p=>lF ops i p.1),vL P nt ops n ((i,c)::prs) (listed.setIfInBounds i true)with
      |true,some l=>some (.mk c [] [] []::l)
      |_,_=>none)
     |none=>match GH P nt ops rs with
      |some cur=>(match ops[cur]? with
       |some o =>
        let others:=(rs.filter (fun i=>oU P nt ops i)).filter (fun i=>!Nat.beq i cur)
        let prs':=prs.filter (fun p=>!mP .any ops cur p.1)
        (match JW ops rs listed prs cur others,prs'.all (fun p=>lF ops cur p.1),vL P nt ops n prs' (listed.setIfInBounds cur true)with
        |true,true,some l=>some (.mk (fH P nt ops o) (prs'.map (·.2)) (pE P nt ops others) (K7 others (prs.map (·.2)))::l)
        |_,_,_=>none)
       |none=>none)
      |none=>none
def GK(P:Program)(nt:Nat)(ops:Array Oper):List CX:=match Region.noSelect ops,vL P nt ops ops.size [] (Array.replicate ops.size false)with
 |true,some l=>l
 |_,_=>[.mk (.mk .bad none none) [] [] []]
-- codes
structure Env where
 kY:Nat->Option xu
 aC:Nat->Bool
structure XR where
 aC:Nat->Bool
 call:dS
 lp:Code->Program->Nat->Tm->St->KE->Out
def Bq(e:Ex):Out->Out->Out:=Ex.rec (motive:=fun _=>Out->Out->Out) (fun a _=>a) (fun _ _ b=>b) (fun _ b=>b) e
def OQ(e:Ex):Nat->Out->Out->Out:=Ex.rec (motive:=fun _=>Nat->Out->Out->Out) (fun _ _ b=>b) (fun j id a b=>iff (Nat.beq j id) a b) (fun _ _ b=>b) e
def Zu(e:Ex):Out->Out:=Ex.rec (motive:=fun _=>Out->Out) (fun a=>a) (fun _ _=>none) (fun a=>a) e
def reg(draw:Bool):Array Oper->Program->Nat->XR->Tm->St->KE->Out:=Bool.rec (motive:=fun _=>Array Oper->Program->Nat->XR->Tm->St->KE->Out)
 (fun ops P nt x tm st k=>yY (comp P nt ops) x.aC x.call tm st (fun tm st=>k .normal tm st))
 (fun ops P nt x tm st k=>jf (GK P nt ops) x.aC x.call tm st (fun tm st=>k .normal tm st)) draw
def exec(c:Code):Program->Nat->XR->Tm->St->KE->Out:=Code.rec (motive:=fun _=>Program->Nat->XR->Tm->St->KE->Out)
 (fun _ _ _ tm st k=>k .normal tm st)
 (fun _ ops draw P nt x tm st k=>reg draw ops P nt x tm st k)
 (fun _ _ iha ihb P nt x tm st k=>iha P nt x tm st (fun e tm st=>Bq e (ihb P nt x tm st k) (k e tm st)))
 (fun c _ _ iha ihb P nt x tm st k=>pI (aN (co c) tm) (fun q=>iff q (iha P nt x tm st k) (ihb P nt x tm st k)))
 (fun id _ ih P nt x tm st k=>ih P nt x tm st (fun e tm st=>OQ e id (k .normal tm st) (k e tm st)))
 (fun body ih P nt x tm st k=>ih P nt x tm st (fun e tm st=>Bq e (x.lp (.loop body) P nt tm st k) (k e tm st)))
 (fun _ _ _ _ _ _ _ _ _ _ _ _=>none)
 (fun id _ _ _ tm st k=>k (.exit id) tm st)
 (fun _ _ _ _ _ _ _ _=>none)
 (fun _ _ _ _ tm st k=>k .normal tm st)
 (fun _ _ _ _ _ _ _=>none)
 (fun _ _ _ tm st k=>k .ret tm st)
 (fun _ _ _ _ _ _ _=>none) c
def wR(v:AV):Nat->Tm->Tm:=AV.rec (motive:=fun _=>Nat->Tm->Tm) (fun _ tm=>tm) (fun _=>fun _ tm=>tm) (fun _ _=>fun _ tm=>tm) (fun _=>fun _ tm=>tm) (fun _ tm=>tm) (fun _ _=>fun _ tm=>tm) (fun _ tm=>tm) (fun _ _ _=>fun _ tm=>tm) (fun _ tm=>tm) (fun _=>fun _ tm=>tm) (fun _ tm=>tm) (fun _ _ _ _ _=>fun _ tm=>tm) (fun _ tm=>tm) (fun _ _ _=>fun _ tm=>tm) (fun _ _=>fun _ tm=>tm) (fun _ _=>fun _ tm=>tm) (fun _ tm=>tm) (fun h _ _ ih=>fun k tm=>ih (Nat.succ k) (T.set (az k) (some h) tm)) v
inductive RC where | t (p:CO) | c1 (p:CO) | cA (n:Nat) (p:CO) | bad
def pY(P:Program):ResultVar->RC
 | .tmp n=>.t (co (.tmp n))
 | .cell n t=>match dQ P t,cB P t with | some true,some m=>.cA m (co (.tmp n)) | some false,some _=>.c1 (co (.tmp n)) | _,_=>.bad
def Af(r:RC):Tm->St->(AV->Out)->Out:=RC.rec (motive:=fun _=>Tm->St->(AV->Out)->Out) (fun p tm _ f=>f (aN p tm)) (fun p tm st f=>sV p tm st (fun v _=>f v)) (fun n p tm st f=>sU n p tm st (fun v _=>f v)) (fun _ _ _=>none) r
def DI(l:List RC):Tm->St->(AV->Out)->Out:=List.rec (motive:=fun _=>Tm->St->(AV->Out)->Out) (fun _ _ f=>f .nl) (fun r _ ih tm st f=>Af r tm st (fun v=>ih tm st (fun vs=>f (.cn v vs)))) l
def res(l:List RC)(tm:Tm)(st:St):Out:=match l with
 |[r]=>Af r tm st (fun v=>some [(v,st)])
 |l=>DI l tm st (fun vs=>some [(.t vs,st)])
def Hd(P:Program)(G:Env)(x:XR)(f:Nat)(xs:AV)(st:St):Out:=match G.kY f with
 |some g=>g xs st
 |none=>match P.funcs[f]? with
  |some F=>(match F.body with
   |some c=>fM F.ntmps (fun nt=>must (and (Nat.ble nt 5000000) (Nat.ble (eu xs) nt)) (exec c P nt x (wR xs 0 .e) st (fun e tm st=>Zu e (res (F.results.toList.map (pY P)) tm st))))
   |none=>none)
  |none=>none
def recs(P:Program)(G:Env)(n:Nat):XR:=Nat.rec (motive:=fun _=>XR) ⟨G.aC,fun _ _ _=>none,fun _ _ _ _ _ _=>none⟩ (fun _ ih=>⟨G.aC,Hd P G ih,fun c P nt tm st k=>exec c P nt ih tm st k⟩) n
end
end Go.AM
namespace Go.AM
open Go.RowKit
def Idle(aC:Nat->Bool)(d:Deferred):Prop:=∃f cap,d.target = .fn (.func f) cap/\aC f=true/\(d.args++cap).size<=2
def qM(P:Program)(aC:Nat->Bool):Prop:=∀f,aC f=true->∀(args:Array Value) (w:World),args.size<=2 ->
 (callFunc f args).run P w = .ok (.enter f args) w/\CallsD P f args .returning w (fun e u' w'=>(∃v,e = .returned v)/\u' = .returning/\RowKit.Below w.heap.size w w')
def Ends(B:bB)(E:ax)(w:World)(outs:List (AV × St)):Ending->World->Prop :=
 fun e w'=>∃u v st' E',e = .returned u/\(v,st')∈outs/\E.le E'/\aB B E' st' w'/\ag E' v u/\bM B w w'
def ni(P:Program)(B:bB)(call:dS):Prop:=∀f xs st outs E w (args:List Value),call f xs st=some outs->aB B E st w->dJ B w->au E xs args ->
 (callFunc f args.toArray).run P w = .ok (.enter f args.toArray) w/\Calls P f args.toArray w (Ends B E w outs)
def Goes(P:Program)(B:bB)(E:ax)(w:World)(a:Act)(o:Oper)(aC:Nat->Bool)(k:K)(r:List (AV × St)):Prop:=∀(next:Act->World->Prop) (Q:Exit->Act->World->Prop),
 (∀(v:AV) (u:Value) (w':World) (E':ax) (st':St) (r':List (AV × St)) (a':Act),a'.tmps=a.tmps->(∀d∈a'.defers,Idle aC d∨d∈a.defers)->E.le E'->aB B E' st' w'->bM B w w'->ag E' v u->(∀x∈r',x∈r)->k v st' = some r'->next (a'.put o.dst u) w')->o.wp P a w next Q
section
variable {P:Program}{B:bB}{E:ax}{st:St}{w:World}{nt:Nat}{tm:Tm}{a:Act}{k:K}{r:List (AV × St)}{o:Oper}{aC:Nat->Bool}{call:dS}
theorem Does.goes(h:Does P B E w a o k r):Goes P B E w a o aC k r:=by
 intro next Q hn
 obtain⟨v,u,w',E',st',r',hrun,h1,h2,h3,h4,h5,h6⟩:=h
 unfold Oper.wp
 rcases hrun with hr | ⟨hr,rfl⟩
 ·rw[hr];exact hn v u w' E' st' r' a rfl (fun d hd=>.inr hd) h1 h2 h3 h4 h5 h6
 ·rw[hr];exact hn v _ w' E' st' r' a rfl (fun d hd=>.inr hd) h1 h2 h3 h4 h5 h6
theorem N9:∀{l:List (AV × St)} {r:List (AV × St)},F9 l k=some r->∀p∈l,∃r',k p.1 p.2=some r'/\∀x∈r',x∈r
 |[],_,_,p,hp=>by cases hp
 |[q],r,h,p,hp=>by
  obtain rfl:p=q:=by simpa using hp
  exact⟨r,h,fun _ h=>h⟩
 |q::q'::l,r,h,p,hp=>by
  obtain⟨ra,rb,ha,hb,rfl⟩:=Qj (show both (k q.1 q.2) (F9 (q'::l) k)=some r from h)
  rcases List.mem_cons.1 hp with rfl | hp
  ·exact⟨ra,ha,fun x hx=>List.mem_append_left _ hx⟩
  ·obtain⟨r',h1,h2⟩:=N9 hb p hp
   exact⟨r',h1,fun x hx=>List.mem_append_right _ (h2 x hx)⟩
theorem y1x{x:Out}(h:Qp x k=some r):∃outs,x=some outs/\∀p∈outs,∃r',k p.1 p.2=some r'/\∀x∈r',x∈r:=by
 cases x with
 |none=>exact aS h
 |some outs=>exact⟨outs,rfl,N9 h⟩
theorem Og{fn:Fn}{f:Nat->Out}(h:Gd fn f=some r):∃g,fn = .func g/\f g=some r:=by
 cases fn<;>first | exact⟨_,rfl,h⟩ | exact aS h
theorem Qu:∀{x:AV} {l:List Value} {y:AV} {m:List Value},au E x l->au E y m->au E (CB x y) (l++m):=by
 intro x
 induction x with
 |nl=>intro l y m h1 h2;simp only[au]at h1;subst h1;exact h2
 |cn h t _ ih =>
  intro l y m h1 h2
  simp only[au]at h1
  obtain⟨v,l',rfl,hv,hl⟩:=h1
  show au E (.cn h (CB t y)) _
  simp only[au]
  exact⟨v,l'++m,rfl,hv,ih hl h2⟩
 |_=>intro l y m h1;simp only[au]at h1
theorem Z8{c:Call}(h:cls (nZ P c)=2∨cls (nZ P c)=3):∃x,c.callee = .value x/\nZ P c = .cl (co x) (c.args.toList.map co):=by
 generalize hc:nZ P c=cop at h
 unfold nZ at hc
 split at hc
 ·rename_i x hx;exact⟨x,hx,hc.symm⟩
 all_goals (repeat' split at hc)<;>(subst hc;rcases h with h | h<;>exact absurd h (by simp[cls]))
theorem Po(h:cls (iO P o.op)=2∨cls (iO P o.op)=3):(∃c x,o.op = .call c/\c.callee = .value x/\iO P o.op = .cl (co x) (c.args.toList.map co))∨∃c x,o.op = .defer c/\c.callee = .value x/\c.args.toList=[]/\iO P o.op = .df (co x):=by
 generalize hc:iO P o.op=cop at h
 unfold iO at hc
 split at hc
 case h_33 c ho =>
  left
  obtain⟨x,h1,h2⟩:=Z8 (P:=P) (c:=c) (by rw[hc];exact h)
  exact⟨c,x,ho,h1,by rw[<-hc,h2]⟩
 case h_34 c ho =>
  right
  split at hc
  ·rename_i x hx hl;exact⟨c,x,ho,hx,hl,hc.symm⟩
  ·subst hc;rcases h with h | h<;>exact absurd h (by simp[cls])
 all_goals (repeat' split at hc)<;>(subst hc;rcases h with h | h<;>exact absurd h (by simp[cls]))
theorem PH(hs:aB B E st w)(hB:dJ B w)(ht:aU E nt tm a)(hcall:ni P B call){c:Call}{x:Operand}(ho:o.op = .call c)(hc:c.callee = .value x)(h:EA (co x) (c.args.toList.map co) call tm st k=some r):Goes P B E w a o aC k r:=by
 intro next Q hn
 unfold EA at h
 obtain⟨fn,fa,fc,hf,h⟩:=Qt h
 obtain⟨f,rfl,h⟩:=Og h
 obtain⟨outs,hout,hk⟩:=y1x h
 have hx:=aT hs ht x
 rw[hf]at hx
 simp only[ag]at hx
 obtain⟨la,lc,hx,h1,h2⟩:=hx
 have hargs:=Qu h1 (Qu (Br hs ht c.args.toList) h2)
 obtain⟨hen,hcalls⟩:=hcall f _ st outs E w _ hout hs hB hargs
 have hrun:(execOp a.eval o).run P w = .ok (.enter f (la++(c.args.toList.map a.eval++lc)).toArray) w:=by
  rw[<-hen]
  unfold execOp
  rw[ho]
  simp only[resolve,hc,hx,Deferred.ofValue,Sem.run_bind,Sem.run_pure,Result.andThen_ok,invoke]
  congr 2
  apply Array.ext'
  simp
 unfold Oper.wp
 rw[hrun]
 refine hcalls.mono ?_
 rintro e w' ⟨u,v,st',E',rfl,hm,g1,g2,g3,g4⟩
 obtain⟨r',i1,i2⟩:=hk _ hm
 exact hn v u w' E' st' r' a rfl (fun d hd=>.inr hd) g1 g2 g4 g3 i2 i1
theorem Pg(hs:aB B E st w)(ht:aU E nt tm a){c:Call}{x:Operand}(ho:o.op = .defer c)(hc:c.callee = .value x)(hca:c.args.toList=[])(h:Ev (co x) aC tm st k=some r):Goes P B E w a o aC k r:=by
 intro next Q hn
 unfold Ev at h
 obtain⟨fn,fa,fc,hf,h⟩:=Qt h
 obtain⟨f,rfl,h⟩:=Og h
 obtain⟨hno,h⟩:=aJ h
 obtain⟨hz1,h⟩:=aJ h
 obtain⟨hz2,h⟩:=aJ h
 have hx:=aT hs ht x
 rw[hf]at hx
 simp only[ag]at hx
 obtain⟨la,lc,hx,h1,h2⟩:=hx
 have hz1:=Nat.eq_of_beq_eq_true hz1
 have hz2:=Nat.le_of_ble_eq_true hz2
 rw[h1.len]at hz1
 rw[h2.len]at hz2
 have hrun:(execOp a.eval o).run P w = .ok (.defer { target:=.fn (.func f) lc.toArray,args:=la.toArray++c.args.map a.eval }) w:=by
  unfold execOp
  rw[ho]
  simp only[resolve,hc,hx,Deferred.ofValue,Sem.run_bind,Sem.run_pure,Result.andThen_ok]
 unfold Oper.wp
 rw[hrun]
 exact hn (.t .nl) undef w E st r { a with defers:=_::a.defers } rfl (fun d hd=>by
  rcases List.mem_cons.1 hd with rfl | hd
  ·exact .inl ⟨f,_,rfl,hno,by
    have e0:c.args.size=0:=by have:=congrArg List.length hca;simpa using this
    simp only[Array.size_append,List.size_toArray,Array.size_map]
    omega⟩
  ·exact .inr hd) (ax.le_refl E) hs (bM.refl B w) (by simp only[ag];exact⟨[],rfl,by simp only[au]⟩) (fun _ h=>h) h
theorem y0i(c:gJ):cls c=0∨cls c=1∨cls c=2∨cls c=3∨c = .bad:=by cases c<;>simp[cls]
theorem ZJ(hs:aB B E st w)(hB:dJ B w)(ht:aU E nt tm a)(hcall:ni P B call)(h:gF (iO P o.op) aC call tm st k=some r):Goes P B E w a o aC k r:=by
 have hok:=BJ hs hB ht rfl h
 rcases y0i (iO P o.op)with hc | hc | hc | hc | hc
 ·exact((hok.1 hc).does hs).goes
 ·exact(hok.2 hc).goes
 ·rcases Po (.inl hc)with ⟨c,x,ho,h1,h2⟩ | ⟨c,x,ho,h1,h3,h2⟩
  ·rw[h2]at h;exact PH hs hB ht hcall ho h1 h
  ·rw[h2]at h;exact Pg hs ht ho h1 h3 h
 ·rcases Po (.inr hc)with ⟨c,x,ho,h1,h2⟩ | ⟨c,x,ho,h1,h3,h2⟩
  ·rw[h2]at h;exact PH hs hB ht hcall ho h1 h
  ·rw[h2]at h;exact Pg hs ht ho h1 h3 h
 ·rw[hc]at h;exact aS h
structure At(B:bB)(aC:Nat->Bool)(E:ax)(nt:Nat)(tm:Tm)(st:St)(a:Act)(w:World):Prop where
 iI:aB B E st w
 big:dJ B w
 fD:aU E nt tm a
 idle:∀d∈a.defers,Idle aC d
def oI(B:bB)(aC:Nat->Bool)(E:ax)(nt:Nat)(w:World)(r:List (AV × St))(K:Tm->St->Out)(a':Act)(w':World):Prop :=
 ∃E' tm' st' r',E.le E'/\At B aC E' nt tm' st' a' w'/\bM B w w'/\(∀x∈r',x∈r)/\K tm' st' = some r'
theorem oI.from{E1:ax}{w1:World}{r1:List (AV × St)}{K:Tm->St->Out}{a':Act}{w':World}(h:oI B aC E1 nt w1 r1 K a' w')(hE:E.le E1)(hw:bM B w w1)(hr:∀x∈r1,x∈r):oI B aC E nt w r K a' w':=by
 obtain⟨E',tm',st',r',h1,h2,h3,h4,h5⟩:=h
 exact⟨E',tm',st',r',ax.le_trans hE h1,h2,hw.trans h3,fun x hx=>hr x (h4 x hx),h5⟩
theorem YC{v:AV}{q:Bool}{y n:Out}(h:F8 v q y n=some r):(v = .b q/\y=some r)∨(v = .b (!q)/\n=some r)∨∃c,v = .t c/\n=some r:=by
 cases v with
 |b x =>
  rcases iB (show iff (oZ x q) y n=some r from h)with ⟨h1,h⟩ | ⟨h1,h⟩
  ·left;cases x<;>cases q<;>first | exact⟨rfl,h⟩ | cases h1
  ·right;left;cases x<;>cases q<;>first | exact⟨rfl,h⟩ | cases h1
 |t c =>
  obtain⟨_,h⟩:=aJ (show must (Nat.beq (eu c) 0) n=some r from h)
  exact .inr (.inr ⟨c,rfl,h⟩)
 |_=>exact aS h
theorem QO{all:Array Oper}{j kk:Nat}{oj:Oper}(hj:all[j]? = some oj)(hd:oj.dst=some kk):(∀b,a.tmps.getD kk undef = .bool b->yielded all a.tmps j=some b)/\((∀b,a.tmps.getD kk undef ≠ .bool b)->yielded all a.tmps j=none):=by
 unfold yielded
 rw[hj]
 simp only[Option.bind_some,hd]
 rw[Array.getD_eq_getD_getElem?]
 cases hk:a.tmps[kk]? with
 |none =>
  refine⟨fun b hb=>?_,fun _=>rfl⟩
  simp[undef]at hb
 |some u =>
  simp only[Option.getD_some]
  refine⟨fun b hb=>by rw[hb],fun hb=>?_⟩
  split
  ·rename_i b he;cases he;exact absurd rfl (hb b)
  ·rfl
theorem Bb{all:Array Oper}(ht:aU E nt tm a){g:Option (List D × Bool)}(hg:yM all o.guard=some g){y n:Out}(h:nT g tm y n=some r) :
 (Region.wanted o (yielded all a.tmps)=true/\y=some r)∨(Region.wanted o (yielded all a.tmps)=false/\n=some r):=by
 unfold yM at hg
 split at hg
 ·rename_i hno
  cases hg
  left
  exact⟨by simp[Region.wanted,hno],h⟩
 ·rename_i j q hgu
  split at hg
  ·rename_i oj hj
   split at hg
   ·rename_i kk hd
    split at hg
    ·rename_i hlt
     cases hg
     have hlt:=dn hlt
     have hv:=ht.2 kk (by unfold lim;omega)
     have hy:=QO (a:=a) hj hd
     rcases YC (show F8 (gv (T.get (az kk) tm)) q y n=some r from h)with ⟨e,h⟩ | ⟨e,h⟩ | ⟨c,e,h⟩
     ·rw[e]at hv
      simp only[ag]at hv
      left
      exact⟨by simp[Region.wanted,hgu,hy.1 q hv],h⟩
     ·rw[e]at hv
      simp only[ag]at hv
      right
      refine⟨?_,h⟩
      simp only[Region.wanted,hgu,hy.1 _ hv]
      cases q<;>rfl
     ·rw[e]at hv
      simp only[ag]at hv
      obtain⟨l,hl,_⟩:=hv
      right
      refine⟨?_,h⟩
      simp only[Region.wanted,hgu,hy.2 (fun b hb=>by rw[hl]at hb;cases hb)]
      rfl
    ·cases hg
   ·cases hg
  ·cases hg
theorem um{all:Array Oper}{c:gJ}{d:Option (List D)}{g:Option (List D × Bool)}(h:fH P nt all o = .mk c d g) :
 (c = .bad/\d=none/\g=none)∨(c=iO P o.op/\yM all o.guard=some g/\((o.dst=none/\d=none)∨∃kk:Nat,o.dst=some kk/\kk<nt/\d=some (az kk))):=by
 unfold fH at h
 split at h
 ·rename_i g' hg hd
  cases h
  exact .inr ⟨rfl,hg,.inl ⟨hd,rfl⟩⟩
 ·rename_i g' kk hg hd
  split at h
  ·rename_i hlt
   cases h
   exact .inr ⟨rfl,hg,.inr ⟨kk,hd,dn hlt,rfl⟩⟩
  ·cases h;exact .inl ⟨rfl,rfl,rfl⟩
 ·cases h;exact .inl ⟨rfl,rfl,rfl⟩
theorem aU.tmps{a a':Act}(h:aU E nt tm a)(he:a'.tmps=a.tmps):aU E nt tm a':=by
 unfold aU at *;rw[he];exact h
theorem sO(hnt:nt<=5000000){d:Option (List D)}(hd:(o.dst=none/\d=none)∨∃kk:Nat,o.dst=some kk/\kk<nt/\d=some (az kk))(ht:aU E nt tm a){v:AV}{u:Value}(hv:ag E v u):aU E nt (dL d v tm) (a.put o.dst u):=by
 rcases hd with ⟨h1,rfl⟩ | ⟨kk,h1,h2,rfl⟩
 ·rw[h1];exact ht
 ·rw[h1];exact ht.put h2 (by unfold lim;omega) hv
theorem zO:ag E (.t .nl) undef:=by simp only[ag];exact⟨[],rfl,by simp only[au]⟩
theorem sP(a:Act)(d:Option Tmp)(u:Value):(a.put d u).defers=a.defers:=by cases d<;>rfl
theorem Lh{all:Array Oper}(hnt:nt<=5000000)(hcall:ni P B call)(hat:At B aC E nt tm st a w){c:gJ}{d:Option (List D)}{g:Option (List D × Bool)}(hc:fH P nt all o = .mk c d g){K1 K2:Tm->St->Out}
 (h:nT g tm (gF c aC call tm st (fun v st=>K1 (dL d v tm) st)) (K2 (dL d (.t .nl) tm) st)=some r) :
 (Region.wanted o (yielded all a.tmps)=true/\∀(next:Act->World->Prop) (Q:Exit->Act->World->Prop),
   (∀(v:AV) (u:Value) (w':World) (E':ax) (st':St) (r':List (AV × St)) (a':Act),a'.tmps=a.tmps->E.le E'->At B aC E' nt (dL d v tm) st' (a'.put o.dst u) w'->bM B w w'->(∀x∈r',x∈r)->K1 (dL d v tm) st' = some r'->next (a'.put o.dst u) w')->o.wp P a w next Q) ∨
 (Region.wanted o (yielded all a.tmps)=false/\At B aC E nt (dL d (.t .nl) tm) st (a.put o.dst undef) w/\K2 (dL d (.t .nl) tm) st=some r):=by
 rcases um hc with ⟨rfl,rfl,rfl⟩ | ⟨rfl,hg,hd⟩
 ·exact aS h
 ·rcases Bb hat.fD hg h with ⟨hw,h⟩ | ⟨hw,h⟩
  ·left
   refine⟨hw,fun next Q hn=>ZJ hat.iI hat.big hat.fD hcall h next Q ?_⟩
   intro v u w' E' st' r' a' h1 h2 h3 h4 h5 h6 h7 h8
   refine hn v u w' E' st' r' a' h1 h3 ⟨h4,hat.big.mono h5.size,sO hnt hd ((hat.fD.mono h3).tmps h1) h6,?_⟩ h5 h7 h8
   rw[sP]
   intro d' hd'
   rcases h2 d' hd' with h | h
   ·exact h
   ·exact hat.idle d' h
  ·right
   exact⟨hw,⟨hat.iI,hat.big,sO hnt hd hat.fD zO,by rw[sP];exact hat.idle⟩,h⟩
theorem GA{all:Array Oper}{K:Tm->St->Out}{Q:Exit->Act->World->Prop}(hnt:nt<=5000000)(hcall:ni P B call):∀(l:List Oper) {E:ax} {tm:Tm} {st:St} {a:Act} {w:World} {r:List (AV × St)},yY (l.map (fH P nt all)) aC call tm st K=some r ->
 At B aC E nt tm st a w->(∀a' w',oI B aC E nt w r K a' w'->Q .normal a' w')->wpList P all Q l a w
 |[],E,tm,st,a,w,r,h,hat,hQ=>hQ a w ⟨E,tm,st,r,ax.le_refl E,hat,bM.refl B w,fun _ h=>h,h⟩
 |o::l,E,tm,st,a,w,r,h,hat,hQ=>by
  cases hc:fH P nt all o with
  |mk c d g =>
   rw[List.map_cons,hc]at h
   rcases Lh hnt hcall hat hc (K1:=fun tm st=>yY (l.map (fH P nt all)) aC call tm st K) (K2:=fun tm st=>yY (l.map (fH P nt all)) aC call tm st K) h with ⟨hw,hn⟩ | ⟨hw,hat',h'⟩
   ·unfold wpList
    rw[if_pos hw]
    left
    refine hn _ Q ?_
    intro v u w' E' st' r' a' h1 h2 h3 h4 h5 h6
    exact GA hnt hcall l h6 h3 (fun a'' w'' ha=>hQ a'' w'' (ha.from h2 h4 h5))
   ·unfold wpList
    rw[if_neg (by rw[hw];simp)]
    exact GA hnt hcall l h' hat' hQ
end
end Go.AM
