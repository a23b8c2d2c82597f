/-
  Codes.
-/
import Derived.Test.YtjnbddedmbhiaaaGreatDoorPk45
namespace Go.AM
open Go.RowKit
def QI:Ex->Exit->Prop
 | .normal,e=>e = .normal
 | .exit id,e=>e = .exit id
 | .ret,e=>e = .ret
def Post(B:bB)(aC:Nat->Bool)(E:ax)(nt:Nat)(w:World)(r:List (AV × St))(k:KE):Exit->Act->World->Prop :=
 fun e a' w'=>∃x,QI x e/\oI B aC E nt w r (k x) a' w'
def qN(P:Program)(c:Code)(Q:Exit->Act->World->Prop)(a:Act)(w:World):Prop :=
 ∀(b:Frame) (k:List Item) (cs:List Frame),∃e a' w',Q e a' w'/\Arrives P (lone (b.at a (.code c :: .inLoop c::k)) cs w) b k cs e a' w'
section
variable {P:Program}{B:bB}{E:ax}{st:St}{w:World}{nt:Nat}{tm:Tm}{a:Act}{r:List (AV × St)}{aC:Nat->Bool}{call:dS}
theorem qN.wp{c:Code}{Q:Exit->Act->World->Prop}(h:qN P c Q a w):(Code.loop c).wp P Q a w :=
 fun b k cs=>let ⟨e,a',w',q,arr⟩:=h b k cs;⟨e,a',w',q,.of_steps (.one step_loop) arr⟩
theorem qN.mono{c:Code}{Q Q':Exit->Act->World->Prop}(h:qN P c Q a w)(hq:∀e a w,Q e a w->Q' e a w):qN P c Q' a w :=
 fun b k cs=>let ⟨e,a',w',q,arr⟩:=h b k cs;⟨e,a',w',hq _ _ _ q,arr⟩
theorem WI{c:Code}{Q:Exit->Act->World->Prop}(h:c.wp P (Exit.then (qN P c Q) Q) a w):qN P c Q a w:=by
 intro b k cs
 obtain⟨e,a₁,w₁,hq,harr⟩:=h b (.inLoop c::k) cs
 cases e with
 |normal =>
  obtain⟨e₂,a₂,w₂,hq₂,harr₂⟩:=hq b k cs
  exact⟨e₂,a₂,w₂,hq₂,.of_steps (Steps.trans harr (.one step_inLoop)) harr₂⟩
 |exit id=>exact⟨_,a₁,w₁,hq,.pass (x:=.inLoop c) rfl (fun _ _=>.inl (by simp)) harr⟩
 |goto l=>exact⟨_,a₁,w₁,hq,.pass (x:=.inLoop c) rfl (fun _ _=>.inl (by simp)) harr⟩
 |ret=>exact⟨_,a₁,w₁,hq,.pass (x:=.inLoop c) rfl (fun _ _=>.inl (by simp)) harr⟩
 |panic ch=>exact⟨_,a₁,w₁,hq,.pass (x:=.inLoop c) rfl (fun _ _=>.inl (by simp)) harr⟩
 |outgrown=>exact⟨_,a₁,w₁,hq,.pass (x:=.inLoop c) rfl (fun _ _=>.inl (by simp)) harr⟩
theorem Post.from{E1:ax}{w1:World}{r1:List (AV × St)}{k:KE}{e:Exit}{a':Act}{w':World}(h:Post B aC E1 nt w1 r1 k e a' w')(hE:E.le E1)(hw:bM B w w1)(hr:∀x∈r1,x∈r):Post B aC E nt w r k e a' w':=by
 obtain⟨x,h1,h2⟩:=h
 exact⟨x,h1,h2.from hE hw hr⟩
theorem Post.here{k:KE}(x:Ex){e:Exit}(hx:QI x e)(hat:At B aC E nt tm st a w)(h:k x tm st=some r):Post B aC E nt w r k e a w :=
 ⟨x,hx,E,tm,st,r,ax.le_refl E,hat,bM.refl B w,fun _ h=>h,h⟩
structure zy(P:Program)(B:bB)(x:XR):Prop where
 call:∀B',ni P B' x.call
 lp:∀(body:Code) (nt:Nat) (tm:Tm) (st:St) (k:KE) (r:List (AV × St)) (E:ax) (a:Act) (w:World),nt<=5000000->x.lp (.loop body) P nt tm st k=some r->At B x.aC E nt tm st a w->qN P body (Post B x.aC E nt w r k) a w
def Im(P:Program)(B:bB)(x:XR)(c:Code):Prop:=∀{nt:Nat} {tm:Tm} {st:St} {k:KE} {r:List (AV × St)} {E:ax} {a:Act} {w:World},nt<=5000000->exec c P nt x tm st k=some r->At B x.aC E nt tm st a w->c.wp P (Post B x.aC E nt w r k) a w
theorem MF{x:XR}(hx:zy P B x){body:Code}(ih:Im P B x body){k:KE}(hnt:nt<=5000000)(h:exec (.loop body) P nt x tm st k=some r)(hat:At B x.aC E nt tm st a w):qN P body (Post B x.aC E nt w r k) a w:=by
 refine WI (Code.wp_mono ?_ (ih hnt (show exec body P nt x tm st (fun e tm st=>Bq e (x.lp (.loop body) P nt tm st k) (k e tm st))=some r from h) hat))
 rintro e a' w' ⟨z,hz,E',tm',st',r',h1,h2,h3,h4,h5⟩
 cases z with
 |normal =>
  cases hz
  exact(hx.lp body nt tm' st' k r' E' a' w' hnt h5 h2).mono (fun e a w hp=>hp.from h1 h3 h4)
 |exit id=>cases hz;exact⟨.exit id,rfl,E',tm',st',r',h1,h2,h3,h4,h5⟩
 |ret=>cases hz;exact⟨.ret,rfl,E',tm',st',r',h1,h2,h3,h4,h5⟩
theorem Ua{x:XR}(hx:zy P B x)(hm:P.follows .mixedOrders=true){id:Nat}{ops:Array Oper}{draw:Bool}:Im P B x (.region id ops draw):=by
 intro nt tm st k r E a w hnt h hat
 cases draw with
 |false =>
  have h:yY (ops.toList.map (fH P nt ops)) x.aC x.call tm st (fun tm st=>k .normal tm st)=some r:=h
  exact wp_region_list (GA hnt (hx.call B) ops.toList h hat (fun a' w' ha=>⟨.normal,rfl,ha⟩))
 |true =>
  have h:jf (GK P nt ops) x.aC x.call tm st (fun tm st=>k .normal tm st)=some r:=h
  unfold GK at h
  split at h
  ·rename_i l hsel hmk
   have hat':At B x.aC E nt tm st a { w with drawn:=w.drawn+1 }:=⟨hat.iI.same rfl,hat.big.mono (Nat.le_refl _),hat.fD,hat.idle⟩
   have hb:bM B w { w with drawn:=w.drawn+1 }:=⟨rfl,rfl,rfl,Nat.le_refl _,fun _ _=>rfl⟩
   refine wp_region_any hm (IK _ [] _ _ _ (ZI (B:=B) (pr:=[]) (E:=E) (aV:=a) hnt hx.call hsel ?_ _ hmk h rfl ops.size (pend:=[]) (hat'.less (fun k hk=>by rcases hk with hk | hk;exact hk;cases hk)) ⟨fun e he=>(by cases he),(by simp[Pe.ix]),(by simp[Pe.bl]),fun p hp=>(by cases hp)⟩ (fun p hp=>(by cases hp)) (fun p hp=>(by cases hp)) ?_ ?_))
   ·rintro c a w ⟨z,hz,_⟩
    cases z<;>cases hz
   ·show ops.size=(Array.replicate ops.size false).toList.count false
    simp
   ·exact fun a' w' ha=>⟨.normal,rfl,ha.from (ax.le_refl E) hb (fun _ h=>h)⟩
  ·exact aS h
theorem OP{x:XR}(hx:zy P B x)(hm:P.follows .mixedOrders=true):∀c:Code,Im P B x c:=by
 intro c
 induction c with
 |skip=>intro nt tm st k r E a w hnt h hat;exact wp_skip (Post.here .normal rfl hat h)
 |region id ops draw=>exact Ua hx hm
 |seq c d ihc ihd =>
  intro nt tm st k r E a w hnt h hat
  refine wp_seq (Code.wp_mono ?_ (ihc hnt (show exec c P nt x tm st (fun e tm st=>Bq e (exec d P nt x tm st k) (k e tm st))=some r from h) hat))
  rintro e a' w' ⟨z,hz,E',tm',st',r',h1,h2,h3,h4,h5⟩
  cases z with
  |normal =>
   cases hz
   exact Code.wp_mono (fun e a w hp=>hp.from h1 h3 h4) (ihd hnt h5 h2)
  |exit id=>cases hz;exact⟨.exit id,rfl,E',tm',st',r',h1,h2,h3,h4,h5⟩
  |ret=>cases hz;exact⟨.ret,rfl,E',tm',st',r',h1,h2,h3,h4,h5⟩
 |cond c x' y' ihc ihd =>
  intro nt tm st k r E a w hnt h hat
  obtain⟨q,hq,h⟩:=uD (show pI (aN (co c) tm) (fun q=>iff q (exec x' P nt x tm st k) (exec y' P nt x tm st k))=some r from h)
  have hv:=aT hat.iI hat.fD c
  rw[hq]at hv
  simp only[ag]at hv
  rcases iB h with ⟨rfl,h⟩ | ⟨rfl,h⟩
  ·exact wp_cond_true hv (ihc hnt h hat)
  ·exact wp_cond_false hv (ihd hnt h hat)
 |block id c ih =>
  intro nt tm st k r E a w hnt h hat
  refine wp_block (Code.wp_mono ?_ (ih hnt (show exec c P nt x tm st (fun e tm st=>OQ e id (k .normal tm st) (k e tm st))=some r from h) hat))
  rintro e a' w' ⟨z,hz,E',tm',st',r',h1,h2,h3,h4,h5⟩
  cases z with
  |normal=>cases hz;exact⟨.normal,rfl,E',tm',st',r',h1,h2,h3,h4,h5⟩
  |exit j =>
   cases hz
   show Exit.inBlock id _ (.exit j) a' w'
   unfold Exit.inBlock
   rcases iB (show iff (Nat.beq j id) (k .normal tm' st') (k (.exit j) tm' st')=some r' from h5)with ⟨hj,h5⟩ | ⟨hj,h5⟩
   ·have hj:=Nat.eq_of_beq_eq_true hj
    simp only[hj,if_true]
    exact⟨.normal,rfl,E',tm',st',r',h1,h2,h3,h4,h5⟩
   ·have hne:j≠id:=fun e=>by subst e;rw[Nat.beq_refl]at hj;cases hj
    simp only[hne,if_false]
    exact⟨.exit j,rfl,E',tm',st',r',h1,h2,h3,h4,h5⟩
  |ret=>cases hz;exact⟨.ret,rfl,E',tm',st',r',h1,h2,h3,h4,h5⟩
 |loop body ih=>intro nt tm st k r E a w hnt h hat;exact(MF hx ih hnt h hat).wp
 |rangeFunc f ps as body _ _=>intro nt tm st k r E a w hnt h hat;exact aS h
 |exit id=>intro nt tm st k r E a w hnt h hat;exact wp_exit (Post.here (.exit id) rfl hat h)
 |scope body _=>intro nt tm st k r E a w hnt h hat;exact aS h
 |label l=>intro nt tm st k r E a w hnt h hat;exact wp_label (Post.here .normal rfl hat h)
 |goto l=>intro nt tm st k r E a w hnt h hat;exact aS h
 |ret=>intro nt tm st k r E a w hnt h hat;exact wp_ret (Post.here .ret rfl hat h)
 |refuse why=>intro nt tm st k r E a w hnt h hat;exact aS h
end
end Go.AM
namespace Go.AM
open Go.RowKit
section
variable {P:Program}{B:bB}{E:ax}{st:St}{w:World}{nt:Nat}{tm:Tm}{a:Act}{r:List (AV × St)}{aC:Nat->Bool}
def Ae(tmps:Array Value):ResultVar->Sem Value
 | .tmp t=>pure (tmps.getD t undef)
 | .cell x t=>do loadVar t (<-asAddr (tmps.getD x undef))
theorem MJ{t:TypeId}{v:Value}{l:Loc}{o:Nat}(hv:v = .pointer (some ⟨l.blk,l.base+o,none⟩)){u:Value}(h:(Instr.loadAt t v).run P w = .ok u w):((do loadVar t (<-asAddr v):Sem Value)).run P w = .ok u w:=by
 subst hv
 simpa[Instr.loadAt,Instr.sureAddr,asAddr]using h
theorem KS(hs:aB B E st w)(ht:aU E nt tm a){rv:ResultVar}{f:AV->Out}(h:Af (pY P rv) tm st f=some r):∃v u,(Ae a.tmps rv).run P w = .ok u w/\ag E v u/\f v=some r:=by
 cases rv with
 |tmp n=>exact⟨_,a.tmps.getD n undef,rfl,aT hs ht (.tmp n),h⟩
 |cell n t =>
  simp only[pY]at h
  split at h
  ·rename_i m hg hz
   have h:sU m (co (.tmp n)) tm st (fun v _=>f v)=some r:=h
   obtain⟨v,u,h1,h2,h3⟩:=Ll hs ht hg hz (.tmp n) h
   unfold sU at h
   obtain⟨b,o,he,_⟩:=pG h
   have hx:=aT hs ht (.tmp n)
   rw[he]at hx
   simp only[ag]at hx
   obtain⟨l,_,hx⟩:=hx
   exact⟨v,u,MJ hx h1,h2,h3⟩
  ·rename_i m hg hz
   have h:sV (co (.tmp n)) tm st (fun v _=>f v)=some r:=h
   obtain⟨v,u,h1,h2,h3⟩:=Lm hs ht hg (.tmp n) h
   unfold sV at h
   obtain⟨b,o,he,_⟩:=pG h
   have hx:=aT hs ht (.tmp n)
   rw[he]at hx
   simp only[ag]at hx
   obtain⟨l,_,hx⟩:=hx
   exact⟨v,u,MJ hx h1,h2,h3⟩
  ·exact aS h
theorem KQ(hs:aB B E st w)(ht:aU E nt tm a):∀{l:List ResultVar} {f:AV->Out},DI (l.map (pY P)) tm st f=some r->∃vs us,(l.mapM (Ae a.tmps)).run P w = .ok us w/\au E vs us/\us.length=l.length/\f vs=some r
 |[],f,h=>⟨.nl,[],by simp,by simp only[au],rfl,h⟩
 |rv::l,f,h=>by
  have h:Af (pY P rv) tm st (fun v=>DI (l.map (pY P)) tm st (fun vs=>f (.cn v vs)))=some r:=h
  obtain⟨v,u,h1,h2,h3⟩:=KS hs ht h
  obtain⟨vs,us,h4,h5,h7,h6⟩:=KQ hs ht h3
  refine⟨.cn v vs,u::us,?_,by simp only[au];exact⟨u,us,rfl,h2,h5⟩,by simp[h7],h6⟩
  rw[List.mapM_cons,Sem.run_bind,h1]
  simp only[Result.andThen_ok,Sem.run_bind,h4,Sem.run_pure]
theorem Ku(F:Func)(tmps:Array Value){us:List Value}(h:(F.results.toList.mapM (Ae tmps)).run P w = .ok us w):(results F tmps).run P w = .ok (if h:us.length=1 then us[0]else .tuple us.toArray) w:=by
 have e:results F tmps=(do let vs <- F.results.mapM (Ae tmps);pure (if h:vs.size=1 then vs[0]else .tuple vs)):=by
  unfold results
  congr 2
 rw[e,Array.mapM_eq_mapM_toList]
 simp only[Sem.run_bind,Sem.run_map,h,Result.andThen_ok,Sem.run_pure,List.size_toArray,List.getElem_toArray]
theorem TU(hs:aB B E st w)(ht:aU E nt tm a){F:Func}(h:res (F.results.toList.map (pY P)) tm st=some r):∃v u,(results F a.tmps).run P w = .ok u w/\ag E v u/\r=[(v,st)]:=by
 generalize hl:F.results.toList=l at h
 unfold res at h
 split at h
 ·rename_i rc hrc
  cases l with
  |nil=>cases hrc
  |cons rv l' =>
   cases l' with
   |cons _ _=>cases hrc
   |nil =>
    cases hrc
    obtain⟨v,u,h1,h2,h3⟩:=KS hs ht h
    cases h3
    refine⟨v,u,?_,h2,rfl⟩
    have:=Ku (P:=P) (w:=w) F a.tmps (us:=[u]) (by rw[hl,List.mapM_cons,Sem.run_bind,h1];simp)
    simpa using this
 ·rename_i hne
  obtain⟨vs,us,h1,h2,hlen,h3⟩:=KQ hs ht h
  cases h3
  refine⟨.t vs,.tuple us.toArray,?_,by simp only[ag];exact⟨us,rfl,h2⟩,rfl⟩
  have hn1:us.length≠1:=by
   rw[hlen]
   intro h1
   obtain⟨x,rfl⟩:=List.length_eq_one_iff.1 h1
   exact hne (pY P x) rfl
  have:=Ku (P:=P) (w:=w) F a.tmps (us:=us) (by rw[hl];exact h1)
  rw[this]
  simp[hn1]
theorem CallsD.mono{f:FuncId}{args:Array Value}{u:FrameMode}{R R':Ending->FrameMode->World->Prop}(h:CallsD P f args u w R)(hr:∀e u' w',R e u' w'->R' e u' w'):CallsD P f args u w R' :=
 fun c cs hc=>let ⟨e,u',w',fr,q,rest⟩:=h c cs hc;⟨e,u',w',fr,hr _ _ _ q,rest⟩
theorem aB.below(hs:aB B E st w){w':World}(hb:RowKit.Below w.heap.size w w'):aB B E st w' :=
 ⟨fun r o hr hg=>by
   obtain⟨l,hl,ho⟩:=hs.live r o hr hg
   exact⟨l,hl,ho.keep (ax.le_refl E) (hb.block l.blk ho.there)⟩,hs.apart,hs.own,hs.fresh,hs.low,hs.high,hs.kg⟩
theorem MU(hno:qM P aC){F:Func}{tmps:Array Value}{R:Ending->World->Prop}:∀(ds:List Deferred),(∀d∈ds,Idle aC d)->∀(w:World),(∀w',RowKit.Below w.heap.size w w'->∃v,(results F tmps).run P w' = .ok v w'/\R (.returned v) w')->Leaves P F tmps R ds .returning w
 |[],_,w,hv=>hv w (RowKit.Below.refl _ _)
 |d::ds,h,w,hv=>by
  obtain⟨f,cap,ht,hn,hsz⟩:=h d (List.mem_cons_self ..)
  obtain⟨h1,h2⟩:=hno f hn (d.args++cap) w hsz
  refine⟨by simp,_,cap,f,d.args++cap,ht,?_,?_⟩
  ·rw[ht];exact h1
  ·refine CallsD.mono h2 ?_
   rintro e u' w' ⟨⟨v',rfl⟩,rfl,hw⟩
   exact MU hno ds (fun d hd=>h d (List.mem_cons_of_mem _ hd)) w' (fun w'' h''=>hv w'' (hw.trans (h''.mono hw.size)))
theorem y1P:∀{xs:AV} {args:List Value},au E xs args->∀(n:Nat) (tm:Tm),n+args.length<=5000000->(∀k,k<lim->n<=k->gv (T.get (az k) tm) = .t .nl) ->
 ∀k,k<lim->(k<n->T.get (az k) (wR xs n tm)=T.get (az k) tm)/\(n<=k->ag E (gv (T.get (az k) (wR xs n tm))) (args.getD (k-n) undef)):=by
 intro xs
 induction xs with
 |nl =>
  intro args h n tm hn ht k hk
  simp only[au]at h
  subst h
  refine⟨fun _=>rfl,fun hk'=>?_⟩
  show ag E (gv (T.get (az k) tm)) _
  rw[ht k hk hk']
  simpa using zO
 |cn x l _ ih =>
  intro args h n tm hn ht k hk
  simp only[au]at h
  obtain⟨y,m,rfl,h1,h2⟩:=h
  simp only[List.length_cons]at hn
  have hnl:n<lim:=by unfold lim;omega
  have ih:=ih h2 (n+1) (T.set (az n) (some x) tm) (by omega) (fun j hj hnj=>by
   rw[fu hj hnl,if_neg (by omega)];exact ht j hj (by omega)) k hk
  have e:wR (.cn x l) n tm=wR l (n+1) (T.set (az n) (some x) tm):=rfl
  rw[e]
  refine⟨fun hkn=>?_,fun hkn=>?_⟩
  ·rw[ih.1 (by omega),fu hk hnl,if_neg (by omega)]
  ·by_cases hkk:k=n
   ·subst hkk
    rw[ih.1 (by omega),fu hk hnl,if_pos rfl]
    simpa[gv]using h1
   ·have h3:=ih.2 (by omega)
    have e2:k-n=(k-(n+1))+1:=by omega
    rw[e2]
    simpa using h3
 |_=>intro args h;simp only[au]at h
theorem Zx{xs:AV}{args:List Value}(h:au E xs args)(hn:nt<=5000000)(hl:args.length<=nt):aU E nt (wR xs 0 .e) { tmps:=args.toArray++Array.replicate (nt-args.toArray.size) undef,defers:=[] }:=by
 refine⟨by simp;omega,fun k hk=>?_⟩
 have:=(y1P h 0 .e (by omega) (fun k _ _=>by rw[lh];rfl) k hk).2 (by omega)
 have e:((args.toArray++Array.replicate (nt-args.toArray.size) undef).getD k undef)=args.getD (k-0) undef:=by
  rw[Array.getD_eq_getD_getElem?,List.getD_eq_getElem?_getD,Nat.sub_zero,Array.getElem?_append]
  by_cases hk':k<args.length
  ·simp[hk']
  ·simp only[List.size_toArray,hk',if_false,Array.getElem?_replicate]
   rw[List.getElem?_eq_none (by omega)]
   split<;>rfl
 rw[e]
 exact this
def sw (P : Program) : Prop := ∀ (f : Nat) (F : Func) (c : Code), P.funcs[f]? = some F -> F.body = some c -> (F.name == "runtime.NumGoroutine") = false
theorem Kz(hN:sw P){f:Nat}{F:Func}{c:Code}(hf:P.funcs[f]? = some F)(hb:F.body=some c)(args:Array Value)(w:World):(callFunc f args).run P w = .ok (.enter f args) w:=by
 have h1:=hN f F c hf hb
 simp only[callFunc,Sem.run_bind,run_program,Result.andThen_ok,hf,h1,hb,Option.isNone_some,Bool.false_eq_true,if_false,Sem.run_pure]
def iR(P:Program)(B:bB)(f:Nat)(g:xu):Prop:=∀xs st outs E w (args:List Value),g xs st=some outs->aB B E st w->dJ B w->au E xs args ->
 (callFunc f args.toArray).run P w = .ok (.enter f args.toArray) w/\Calls P f args.toArray w (Ends B E w outs)
theorem y0M{G:Env}{x:XR}(hx:zy P B x)(hm:P.follows .mixedOrders=true)(hno:qM P x.aC)(hN:sw P)(hprim:∀f g,G.kY f=some g->iR P B f g):ni P B (Hd P G x):=by
 intro f xs st outs E w args h hs hB hl
 unfold Hd at h
 split at h
 ·rename_i g hg
  exact hprim f g hg xs st outs E w args h hs hB hl
 ·split at h
  ·rename_i F hF
   split at h
   ·rename_i c hc
    rw[gV]at h
    obtain⟨hb,h⟩:=aJ h
    rw[Bool.and_eq_true]at hb
    have h1:F.ntmps<=5000000:=Nat.le_of_ble_eq_true hb.1
    have h2:eu xs<=F.ntmps:=Nat.le_of_ble_eq_true hb.2
    rw[hl.len]at h2
    refine⟨Kz hN hF hc _ _,calls_of_wp_defers hF hc (Code.wp_mono ?_ (OP hx hm c h1 h ⟨hs,hB,Zx hl h1 h2,fun d hd=>by cases hd⟩))⟩
    rintro e a' w' ⟨z,hz,E',tm',st',r',i1,i2,i3,i4,i5⟩
    have key:res (F.results.toList.map (pY P)) tm' st' = some r'->Leaves P F a'.tmps (Ends B E w outs) a'.defers .returning w':=fun hres=>by
     refine MU hno a'.defers i2.idle w' (fun w2 hb=>?_)
     have hs2:=i2.iI.below hb
     obtain⟨v,u,j1,j2,rfl⟩:=TU hs2 i2.fD hres
     exact⟨u,j1,u,v,st',E',rfl,i4 _ (List.mem_singleton.2 rfl),i1,hs2,j2,i3.trans ⟨hb.os,hb.tape,hb.output,hb.size,fun k hk=>hb.block k (i2.big.lt k hk)⟩⟩
    cases z with
    |normal=>cases hz;exact key i5
    |exit id=>exact aS i5
    |ret=>cases hz;exact key i5
   ·exact aS h
  ·exact aS h
theorem Ud(G:Env)(n:Nat):(recs P G n).aC=G.aC:=by cases n<;>rfl
theorem xP{G:Env}(hm:P.follows .mixedOrders=true)(hno:qM P G.aC)(hN:sw P)(hprim:∀B f g,G.kY f=some g->iR P B f g):∀n B,zy P B (recs P G n)
 |0,B=>⟨fun B' f xs st outs E w args h=>aS h,fun body nt tm st k r E a w _ h=>aS h⟩
 |n+1,B=>by
  have ih:=xP hm hno hN hprim n B
  have hn:(recs P G n).aC=G.aC:=Ud G n
  refine⟨fun B'=>y0M (G:=G) (xP hm hno hN hprim n B') hm (show qM P (recs P G n).aC by rw[hn];exact hno) hN (hprim B'),fun body nt tm st k r E a w hnt h hat=>?_⟩
  have h:exec (.loop body) P nt (recs P G n) tm st k=some r:=h
  have hat:At B (recs P G n).aC E nt tm st a w:=by rw[hn];exact hat
  have:=MF ih (OP ih hm body) hnt h hat
  rw[hn]at this
  exact this
theorem y0I{G:Env}(hm:P.follows .mixedOrders=true)(hno:qM P G.aC)(hN:sw P)(hprim:∀B f g,G.kY f=some g->iR P B f g)(n:Nat){f:Nat}{xs:AV}{outs:List (AV × St)}(h:(recs P G n).call f xs st=some outs)
 (hs:aB B E st w) (hB:dJ B w) {args:List Value} (hl:au E xs args):Calls P f args.toArray w (Ends B E w outs) :=
 ((xP hm hno hN hprim n B).call B f xs st outs E w args h hs hB hl).2
end
end Go.AM
