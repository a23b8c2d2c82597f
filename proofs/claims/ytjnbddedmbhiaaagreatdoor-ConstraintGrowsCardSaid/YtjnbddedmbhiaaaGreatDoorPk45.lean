/-
  Regions that draw their order, in one of their orders.
-/
import Derived.Test.YtjnbddedmbhiaaaGreatDoorPk44
namespace Go.AM
open Go.RowKit
section
variable {P:Program}{B:bB}{E:ax}{st:St}{w:World}{nt:Nat}{tm:Tm}{a:Act}{r:List (AV × St)}{o:Oper}{aC:Nat->Bool}{call:dS}{ops:Array Oper}
-- what is listed
theorem Te(l:Array Bool)(i j:Nat)(d:Bool):(l.setIfInBounds i true).getD j d=if i=j/\j<l.size then true else l.getD j d:=by
 by_cases h:i=j
 ·subst h
  by_cases hs:i<l.size
  ·simp[hs]
  ·simp[hs]
 ·rw[getD_set_ne d h,if_neg (fun x=>h x.1)]
theorem tN:∀(is:List Nat) (l:Array Bool) (j:Nat) (d:Bool),(cK is l).getD j d=if j∈is/\j<l.size then true else l.getD j d
 |[],l,j,d=>by simp[cK]
 |i::is,l,j,d=>by
  show(cK is (l.setIfInBounds i true)).getD j d=_
  rw[tN is,Te]
  simp only[Array.size_setIfInBounds,List.mem_cons]
  by_cases h1:j<l.size
  ·by_cases h2:j∈is
   ·simp[h1,h2]
   ·by_cases h3:i=j
    ·simp[h1,h2,h3]
    ·simp[h1,h2,h3,Ne.symm h3]
  ·simp[h1]
theorem Fa(is js:List Nat)(l:Array Bool):cK (is++js) l=cK js (cK is l):=by simp[cK]
theorem rF:∀(is:List Nat) (l:Array Bool) (i:Nat),cK is (l.setIfInBounds i true)=(cK is l).setIfInBounds i true
 |[],_,_=>rfl
 |j::is,l,i=>by
  show cK is ((l.setIfInBounds i true).setIfInBounds j true)=(cK is (l.setIfInBounds j true)).setIfInBounds i true
  rw[<-rF is]
  by_cases h:i=j
  ·subst h;rfl
  ·rw[Array.setIfInBounds_comm _ _ h]
theorem Ue{l:Array Bool}{x:Nat}(h:x∈Region.ready .any ops l):x<l.size:=by
 have:=(mem_ready.1 h).1
 by_cases hx:x<l.size
 ·exact hx
 ·simp[hx]at this
theorem KO{l l':Array Bool}{x:Nat}(hle:∀j,l.getD j false=true->l'.getD j false=true)(hx:l'.getD x true=false)(h:x∈Region.ready .any ops l):x∈Region.ready .any ops l':=by
 rw[mem_ready]at *
 obtain⟨_,o,ho,hall⟩:=h
 exact⟨hx,o,ho,fun e he hb=>hle _ (hall e he hb)⟩
theorem WE(is:List Nat)(l:Array Bool)(j:Nat)(h:l.getD j false=true):(cK is l).getD j false=true:=by
 rw[tN];split
 ·rfl
 ·exact h
theorem DD{is:List Nat}{l:Array Bool}{x:Nat}(hx:x∉is)(h:x∈Region.ready .any ops l):x∈Region.ready .any ops (cK is l) :=
 KO (WE is l) (by rw[tN,if_neg (fun e=>hx e.1)];exact(mem_ready.1 h).1) h
theorem count_set{l:Array Bool}{x:Nat}(h:l.getD x true=false):l.toList.count false=(l.setIfInBounds x true).toList.count false+1:=by
 have hx:x<l.size:=by
  by_cases hx:x<l.size
  ·exact hx
  ·simp[hx]at h
 have hv:l[x]=false:=by simpa[hx]using h
 have hm:false∈l.toList:=by rw[<-hv];simp
 have hp:0<l.toList.count false:=List.count_pos_iff.2 hm
 have e:(l.setIfInBounds x true).toList=l.toList.set x true:=by simp
 have h1:(l.toList[x]'(by simpa using hx)==false)=true:=by rw[Array.getElem_toList,hv];rfl
 have h2:(true==false)=false:=rfl
 rw[e,List.count_set (by simpa using hx),if_pos h1,h2,if_neg (by simp)]
 omega
-- pending operations
structure Pe where
 i:Nat
 s:Sem Next
 u:Value
 bx:Option (Nat × Obj)
def Pe.ix(l:List Pe):List Nat:=l.map (·.i)
def Pe.bl(l:List Pe):List Nat:=l.filterMap (fun e=>e.bx.map (·.1))
def gP(ops:Array Oper)(i:Nat):Option Tmp:=(ops[i]?).bind (·.dst)
def dF(ops:Array Oper):List Pe->Act->Act
 |[],a=>a
 |e::l,a=>dF ops l (a.put (gP ops e.i) e.u)
theorem DK(l m:List Pe)(a:Act):dF ops (l++m) a=dF ops m (dF ops l a):=by
 induction l generalizing a with
 |nil=>rfl
 |cons e l ih=>exact ih _
theorem vg{d:Option Tmp}{u:Value}:∀{l:List Pe} {a:Act},(∀e∈l,∀x,d=some x->gP ops e.i≠some x)->dF ops l (a.put d u)=(dF ops l a).put d u
 |[],_,_=>rfl
 |e::l,a,h=>by
  show dF ops l ((a.put d u).put (gP ops e.i) e.u)=(dF ops l (a.put (gP ops e.i) e.u)).put d u
  rw[Act.put_comm a u e.u (h e (List.mem_cons_self ..)),vg (fun e' he'=>h e' (List.mem_cons_of_mem _ he'))]
theorem KZ(d:Deferred):∀{l:List Pe} {a:Act},dF ops l { a with defers:=d::a.defers } = { dF ops l a with defers:=d::(dF ops l a).defers }
 |[],_=>rfl
 |e::l,a=>by
  show dF ops l (({ a with defers:=d::a.defers }:Act).put (gP ops e.i) e.u)=_
  rw[<-Act.put_defers,KZ d]
  rfl
theorem Bo(hsel:∀cs b,o.op ≠ .select cs b):∀{l:List Pe} {a:Act},(∀e∈l,∀x,gP ops e.i=some x->x∉o.looksAt ops)->execOp (dF ops l a).eval o=execOp a.eval o
 |[],_,_=>rfl
 |e::l,a,h=>by
  show execOp (dF ops l (a.put (gP ops e.i) e.u)).eval o=_
  rw[Bo hsel (fun e' he'=>h e' (List.mem_cons_of_mem _ he')),execOp_put (ops:=ops) o hsel a _ _ (h e (List.mem_cons_self ..))]
theorem xx:∀{l:List Pe} {a:Act},(∀e∈l,∀x,gP ops e.i=some x->x∉o.looksAt ops)->Region.wanted o (yielded ops (dF ops l a).tmps)=Region.wanted o (yielded ops a.tmps)
 |[],_,_=>rfl
 |e::l,a,h=>by
  show Region.wanted o (yielded ops (dF ops l (a.put (gP ops e.i) e.u)).tmps)=_
  rw[xx (fun e' he'=>h e' (List.mem_cons_of_mem _ he')),wanted_put (ops:=ops) o a _ _ (h e (List.mem_cons_self ..))]
theorem QU{l:List Pe}{N N':Act->World->Prop}{Q:Exit->Act->World->Prop}(hsel:∀cs b,o.op ≠ .select cs b)(hlook:∀e∈l,∀x,gP ops e.i=some x->x∉o.looksAt ops)(hdst:∀e∈l,∀x,o.dst=some x->gP ops e.i≠some x)
 (hP:∀c a w,¬ Q (.panic c) a w) (hN:∀a w,N a w->N' (dF ops l a) w) (h:o.wp P a w N Q):o.wp P (dF ops l a) w N' Q:=by
 unfold Oper.wp at *
 rw[Bo hsel hlook]
 generalize (execOp a.eval o).run P w=z at *
 have put:∀(a:Act) (u:Value) (w:World),N (a.put o.dst u) w->N' ((dF ops l a).put o.dst u) w:=fun a u w hn=>by
  rw[<-vg hdst];exact hN _ _ hn
 cases z with
 |ok n w' =>
  cases n<;>simp only[Oper.upon]at h ⊢
  case value u=>exact put _ _ _ h
  case skip=>exact put _ _ _ h
  case defer d =>
   have:=put _ _ _ h
   rw[KZ]at this
   exact this
  case enter f args =>
   refine Calls.mono h fun e w'' he=>?_
   cases e with
   |returned u=>exact put _ _ _ he
   |panicked c=>exact absurd he (hP _ _ _)
   |outgrown=>exact he
  case row row args=>exact Rows.mono h fun u w'' he=>put _ _ _ he
 |halt x w' =>
  cases x<;>simp only[Oper.upon]at h ⊢
  case panic u=>exact absurd h (hP _ _ _)
def Bp(B:bB)(l:List Pe):bB:=fun k=>B k∨k∈Pe.bl l
theorem aB.less{B B':bB}(h:∀k,B k->B' k)(hs:aB B' E st w):aB B E st w:=⟨hs.live,hs.apart,fun r o l h1 h2 h3 h4 hb=>hs.own r o l h1 h2 h3 h4 (h _ hb),hs.fresh,hs.low,hs.high,hs.kg⟩
theorem dJ.less{B B':bB}(h:∀k,B k->B' k)(hs:dJ B' w):dJ B w:=⟨hs.low,fun k hk=>hs.lt k (h k hk)⟩
theorem bM.less{B B':bB}{w':World}(h:∀k,B k->B' k)(hs:bM B' w w'):bM B w w':=⟨hs.os,hs.tape,hs.output,hs.size,fun k hk=>hs.block k (h k hk)⟩
theorem At.less{B B':bB}(h:∀k,B k->B' k)(hs:At B' aC E nt tm st a w):At B aC E nt tm st a w:=⟨hs.iI.less h,hs.big.less h,hs.fD,hs.idle⟩
theorem aB.grow{B B':bB}(hs:aB B E st w)(x:Obj)(h:∀k,B' k->B k∨k=w.heap.size):aB B' E st (w.alloc x) :=
 ⟨fun r o h1 h2=>by
   obtain⟨l,hl,ho⟩:=hs.live r o h1 h2
   exact⟨l,hl,ho.keep (ax.le_refl E) (Below.heap_alloc w x _ ho.there)⟩,hs.apart,
   fun r o l h1 h2 h3 h4 hb=>by
    obtain⟨l',hl',ho⟩:=hs.live r o h1 h3
    rw[h4]at hl'
    cases hl'
    rcases h _ hb with hb | hb
    ·exact hs.own r o l h1 h2 h3 h4 hb
    ·have:=ho.there;omega,hs.fresh,hs.low,hs.high,hs.kg⟩
structure CL(P:Program)(nt:Nat)(ops:Array Oper)(aV:Act)(listed:Array Bool)(w:World)(e:Pe):Prop where
 qW:e.i∈Region.ready .any ops listed
 lag:oU P nt ops e.i=true
 qU:∃o,ops[e.i]? = some o/\execOp aV.eval o=e.s
 box:match e.bx with
  |some (p,x)=>lowN<=p/\w.heap[p]? = some x/\∃w0,w0.heap.size=p/\e.s.run P w0 = .ok (.value e.u) (w0.alloc x)
  |none=>∃w0,e.s.run P w0 = .ok (.value e.u) w0
theorem AQ{i:Nat}(h:oU P nt ops i=true):∃o c d,ops[i]? = some o/\fH P nt ops o = .mk c (some d) none/\tX c=true:=by
 unfold oU at h
 split at h
 ·rename_i o ho
  cases hc:fH P nt ops o with
  |mk c d g =>
   rw[hc]at h
   cases d with
   |none=>cases h
   |some d =>
    cases g with
    |some g=>cases h
    |none=>exact⟨o,c,d,ho,hc,h⟩
 ·cases h
theorem NY{c:gJ}{d:List D}(hc:fH P nt ops o = .mk c (some d) none):o.guard=none/\c=iO P o.op/\∃kk:Nat,o.dst=some kk/\kk<nt/\d=az kk:=by
 rcases um hc with ⟨_,e,_⟩ | ⟨e1,hg,hd⟩
 ·cases e
 ·refine⟨?_,e1,?_⟩
  ·unfold yM at hg
   split at hg
   ·assumption
   ·(repeat' split at hg)<;>cases hg
  ·rcases hd with ⟨_,e⟩ | ⟨kk,h1,h2,e⟩
   ·cases e
   ·cases e;exact⟨kk,h1,h2,rfl⟩
theorem ZU{l:List Nat}{i:Nat}{o:Oper}(hi:i∈l)(ho:ops[i]? = some o):fH P nt ops o∈pE P nt ops l:=by
 induction l with
 |nil=>cases hi
 |cons j l ih =>
  unfold pE
  rcases List.mem_cons.1 hi with rfl | hi
  ·rw[ho];exact List.mem_cons_self ..
  ·have:=ih hi
   split
   ·exact List.mem_cons_of_mem _ this
   ·exact this
theorem ZV{l:List Nat}(h:∀i∈l,oU P nt ops i=true):∀c∈pE P nt ops l,AP c=true:=by
 induction l with
 |nil=>intro c hc;cases hc
 |cons j l ih =>
  intro c hc
  have ih:=ih (fun i hi=>h i (List.mem_cons_of_mem _ hi))
  have hj:=h j (List.mem_cons_self ..)
  unfold pE at hc
  unfold oU at hj
  split at hc
  ·rename_i o ho
   rw[ho]at hj
   rcases List.mem_cons.1 hc with rfl | hc
   ·exact hj
   ·exact ih c hc
  ·exact ih c hc
theorem OM{f:T AV->Out}:∀{ps:List (Nat × CO)} {sz:Nat} {z:T AV},wy ps sz z tm f=some r->∃z',f z' = some r
 |[],_,z,h=>⟨z,h⟩
 |p::ps,sz,z,h=>by
  have h:cellsOf (aN p.2 tm) (fun m _=>must (Nat.beq m sz) (wy ps sz (T.set (az p.1) (some (aN p.2 tm)) z) tm f))=some r:=h
  obtain⟨m,row,h,_⟩:=zi h
  obtain⟨_,h⟩:=aJ h
  exact OM h
theorem Xt{c:gJ}{k:K}(hl:tX c=true)(h:gF c aC call tm st k=some r):∃v st',k v st' = some r:=by
 cases c with
 |nw t n row=>obtain⟨_,_,_,_,h⟩:=fP (show iJ st _ _ k=some r from h);exact⟨_,_,h⟩
 |bx t x =>
  obtain⟨_,_,h,_⟩:=zi (show cellsOf _ _=some r from h)
  obtain⟨_,_,_,_,h⟩:=fP h;exact⟨_,_,h⟩
 |bs e sz n z ps =>
  obtain⟨_,h⟩:=OM (show wy _ _ _ _ _=some r from h)
  obtain⟨_,_,_,_,h⟩:=fP h;exact⟨_,_,h⟩
 |mm=>obtain⟨_,_,_,_,h⟩:=fP (show iJ st _ _ k=some r from h);exact⟨_,_,h⟩
 |m2 x =>
  obtain⟨_,_,_,h⟩:=jC (show iP _ _=some r from h)
  obtain⟨_,_,_,_,h⟩:=fP h;exact⟨_,_,h⟩
 |ms e sz z l c =>
  obtain⟨_,_,_,h⟩:=iG (show kD _ _=some r from h)
  obtain⟨_,_,_,h⟩:=iG h
  obtain⟨_,h⟩:=aJ h
  obtain⟨_,h⟩:=aJ h
  obtain⟨_,_,_,_,h⟩:=fP h;exact⟨_,_,h⟩
 |s3 sz x lo hi mx =>
  rcases lJ (show oD _ _ _=some r from h)with ⟨_,h⟩ | ⟨_,_,_,_,h⟩
  ·exact aS h
  have bc:∀{f:Nat->Out} {d:Nat},bnd lo d tm f=some r->∃n,f n=some r:=fun {f d} h=>by
   cases lo with
   |none=>exact⟨d,h⟩
   |some x=>obtain⟨_,n,_,h⟩:=iG (show kD _ f=some r from h);exact⟨n,h⟩
  obtain⟨_,h⟩:=bc h
  obtain⟨_,_,_,h⟩:=iG h
  obtain⟨_,_,_,h⟩:=iG h
  obtain⟨_,h⟩:=aJ h
  obtain⟨_,h⟩:=aJ h
  obtain⟨_,h⟩:=aJ h
  obtain⟨_,h⟩:=aJ h
  obtain⟨_,_,_,_,_,_,h,_⟩:=vG h
  obtain⟨_,h⟩:=aJ h
  obtain⟨_,h⟩:=aJ h
  rw[gV]at h
  obtain⟨_,_,_,_,h⟩:=fP h;exact⟨_,_,h⟩
 |_=>cases hl
theorem DN{y:Out}:∀{l:List CR},(∀c∈l,AP c=true)->vw l aC call tm st y=some r->y=some r/\∀c∈l,(∃y',gF c.o aC call tm st (fun _ _=>y')=some r):=by
 intro l
 induction l with
 |nil=>intro _ h;exact⟨h,fun c hc=>by cases hc⟩
 |cons c l ih =>
  intro hl h
  have h:K4 c aC call tm st (vw l aC call tm st y)=some r:=h
  have hc:=hl c (List.mem_cons_self ..)
  cases c with
  |mk o d g =>
   have h:gF o aC call tm st (fun _ _=>vw l aC call tm st y)=some r:=h
   have ho:tX o=true:=by
    cases d with
    |none=>cases hc
    |some d=>cases g with
     |some g=>cases hc
     |none=>exact hc
   obtain⟨_,_,h'⟩:=Xt ho h
   obtain⟨i1,i2⟩:=ih (fun c hc=>hl c (List.mem_cons_of_mem _ hc)) h'
   refine⟨i1,fun c hc=>?_⟩
   rcases List.mem_cons.1 hc with rfl | hc
   ·exact⟨_,h⟩
   ·exact i2 c hc
structure lT(P:Program)(B:bB)(nt:Nat)(ops:Array Oper)(aV:Act)(listed:Array Bool)(w:World)(l:List Pe):Prop where
 ok:∀e∈l,CL P nt ops aV listed w e
 nd:(Pe.ix l).Nodup
 nb:(Pe.bl l).Nodup
 nB:∀p∈Pe.bl l,¬ B p
theorem lT.nil{aV:Act}{listed:Array Bool}{l:List Pe}(h:lT P B nt ops aV listed w l)(hr:Region.ready .any ops listed=[]):l=[]:=by
 cases l with
 |nil=>rfl
 |cons e l=>have:=(h.ok e (List.mem_cons_self ..)).qW;rw[hr]at this;cases this
theorem Qo{l:List Pe}{p:Nat}(h:p∈Pe.bl l):∃e∈l,∃x,e.bx=some (p,x):=by
 obtain⟨e,he,hp⟩:=List.mem_filterMap.1 h
 cases hb:e.bx with
 |none=>rw[hb]at hp;cases hp
 |some q=>rw[hb]at hp;cases hp;exact⟨e,he,q.2,hb⟩
theorem l9{l:List Pe}{e:Pe}{p:Nat}{x:Obj}(he:e∈l)(hb:e.bx=some (p,x)):p∈Pe.bl l:=List.mem_filterMap.2 ⟨e,he,by rw[hb];rfl⟩
def zB(ops:Array Oper)(pr prR:List Pr)(pend:List Pe):Prop:=∀p∈prR,p∈pr/\∀e∈pend,mP .any ops e.i p.i=false
theorem mq{j:Nat}{pr:List Pr}{p:Pr}:p∈Pr.left .any ops j pr↔p∈pr/\mP .any ops j p.i=false:=by
 unfold Pr.left
 rw[List.mem_filter]
 simp
theorem oN{l:Array Bool}{x:Nat}(h:x∈Region.ready .any ops l):l.getD x true=false:=(mem_ready.1 h).1
theorem KP{l:Array Bool}{x i:Nat}(h:x∈Region.ready .any ops l)(hi:l.getD i true=false):mP .any ops x i=false:=by
 obtain⟨_,o,ho,hall⟩:=mem_ready.1 h
 unfold mP
 rw[ho]
 simp only[]
 rw[Bool.eq_false_iff]
 intro hany
 obtain⟨e,he,hb⟩:=Array.any_eq_true'.1 hany
 simp only[Bool.and_eq_true,beq_iff_eq]at hb
 have h1:=hall e he hb.1
 rw[hb.2]at h1
 rcases Nat.lt_or_ge i l.size with h' | h'
 ·simp[h']at hi h1;rw[hi]at h1;cases h1
 ·simp[Array.getElem?_eq_none h']at h1
theorem ZQ{rs:List Nat}{cur:Nat}(h:GH P nt ops rs=some cur):cur∈rs:=by
 unfold GH at h
 split at h
 ·rename_i j hj
  cases h
  have:cur∈rs.filter (fun i=>!oU P nt ops i):=by rw[hj];exact List.mem_cons_self ..
  exact(List.mem_filter.1 this).1
 ·exact List.mem_of_head? h
 ·cases h
theorem Nz{c:gJ}(h:tX c=true):cls c=1:=by cases c<;>first | rfl | cases h
theorem CL.put{aV a':Act}{listed:Array Bool}{w':World}{e:Pe}(h:CL P nt ops aV listed w e)(hsel:Region.noSelect ops=true){j:Nat}{oj:Oper}(hne:e.i≠j)(hlook:∀o,ops[e.i]? = some o->∀d,oj.dst=some d->d∉o.looksAt ops)
 (ha:a'.tmps=aV.tmps) (u:Value) (hw:∀p x,e.bx=some (p,x)->w'.heap[p]? = w.heap[p]?):CL P nt ops (a'.put oj.dst u) (listed.setIfInBounds j true) w' e:=by
 obtain⟨h1,h2,⟨o,ho,hs⟩,h4⟩:=h
 refine⟨ready_mono h1 hne,h2,⟨o,ho,?_⟩,?_⟩
 ·have hev:a'.eval=aV.eval:=by funext y;cases y<;>simp[Act.eval,ha]
  rw[execOp_put (ops:=ops) o (fun cs b=>Region.noSelect_spec hsel _ o cs b ho) a' oj.dst u (hlook o ho),hev];exact hs
 ·cases hb:e.bx with
  |none=>rw[hb]at h4;exact h4
  |some q =>
   obtain⟨p,x⟩:=q
   rw[hb]at h4
   obtain⟨g1,g2,g3⟩:=h4
   exact⟨g1,(hw p x hb).trans g2,g3⟩
theorem y2b{w0:World}{x y:Obj}(h:w0.alloc x=w0.alloc y):x=y:=by
 have:(w0.alloc x).heap=(w0.alloc y).heap:=by rw[h]
 have:w0.heap.push x=w0.heap.push y:=this
 have h1:=congrArg (fun a:Array Obj=>a[w0.heap.size]?) this
 simpa using h1
theorem Qv{w0:World}{x:Obj}(h:w0.alloc x=w0):False:=by
 have:(w0.alloc x).heap.size=w0.heap.size:=by rw[h]
 have e:(w0.heap.push x).size=w0.heap.size:=this
 simp at e
theorem rR{i:Nat}{o:Oper}(h:ops[i]? = some o):gP ops i=o.dst:=by simp[gP,h]
theorem LZ{l1 l2:List Nat}{a:Nat}(h:(l1++a::l2).Nodup):a∉l1++l2/\(l1++l2).Nodup:=by
 rw[List.nodup_append]at h
 obtain⟨h1,h2,h3⟩:=h
 rw[List.nodup_cons]at h2
 refine⟨fun hm=>?_,List.nodup_append.2 ⟨h1,h2.2,fun x hx y hy=>h3 x hx y (List.mem_cons_of_mem _ hy)⟩⟩
 rcases List.mem_append.1 hm with hm | hm
 ·exact h3 a hm a (List.mem_cons_self ..) rfl
 ·exact h2.1 hm
theorem Uk{K:Tm->St->Out}{Q:Exit->Act->World->Prop}(hnt:nt<=5000000)(hsel:Region.noSelect ops=true)(hP:∀c a w,¬ Q (.panic c) a w) :
 ∀(m:Nat) {listed:Array Bool} {l:List CX},vM P nt ops m listed=some l->∀{E:ax} {tm:Tm} {st:St} {aV:Act} {r:List (AV × St)},jf l aC call tm st K=some r ->
 ∀(n:Nat) {w:World} {prR:List Pr},At B aC E nt tm st aV w->jh P prR w->n=listed.toList.count false ->
  (∀a' w',oI B aC E nt w r K a' w'->Q .normal a' w')->iU P .any ops Q n prR listed aV w:=by
 have done:∀{listed:Array Bool} {E:ax} {tm:Tm} {st:St} {aV:Act} {r:List (AV × St)},Region.ready .any ops listed=[]->K tm st=some r->∀(n:Nat) {w:World} {prR:List Pr},At B aC E nt tm st aV w ->
  (∀a' w',oI B aC E nt w r K a' w'->Q .normal a' w')->iU P .any ops Q n prR listed aV w:=by
  intro listed E tm st aV r hr h n w prR hat hQ
  exact IQ hr (hQ aV w ⟨E,tm,st,r,ax.le_refl E,hat,bM.refl B w,fun _ h=>h,h⟩) n
 intro m
 induction m with
 |zero =>
  intro listed l hl E tm st aV r h n w prR hat hk hn hQ
  unfold vM at hl
  split at hl
  ·rename_i hr
   cases hl
   exact done hr h n hat hQ
  ·cases hl
 |succ m ihm =>
  intro listed l hl E tm st aV r h n w prR hat hk hn hQ
  unfold vM at hl
  split at hl
  ·rename_i hr
   cases hl
   exact done hr h n hat hQ
  ·rename_i rs hne
   simp only[]at hl
   split at hl
   ·rename_i i c hpick
    split at hl
    ·rename_i l' hmk
     cases hl
     obtain⟨hmem,o,ho,hc,hrd,_,hfree⟩:=Ak hpick
     obtain⟨co,d,g,hco,hcls⟩:=yJ hrd
     rw[hco]at hc h
     rcases um hc.symm with ⟨_,e',_⟩ | ⟨ec,hg,hd⟩
     ·cases e'
     ·have h:nT g tm (gF co aC call tm st (fun v st=>jf l' aC call (dL (some d) v tm) st K)) (jf l' aC call (dL (some d) (.t .nl) tm) st K)=some r:=h
      have hrdy:i∈Region.ready .any ops listed:=hmem
      have hcnt:=count_set (oN hrdy)
      rw[<-hn]at hcnt
      cases n with
      |zero=>omega
      |succ n =>
       have hn':n=(listed.setIfInBounds i true).toList.count false:=by omega
       rcases Bb hat.fD hg h with ⟨hw,hy⟩ | ⟨hw,hy⟩
       ·obtain⟨v,u,g1,g2,g3⟩:=(BJ hat.iI hat.big hat.fD (o:=o) ec.symm hy).1 hcls
        refine zN (s:=execOp aV.eval o) (v:=u) ho (Region.noSelect_spec hsel) (fun c a w hq=>absurd hq (hP c _ w)) n prR _ _ w hk g1 (Region.free_spec ho hfree) hrdy (.inl ⟨hw,rfl⟩) ?_
        exact ihm hmk g3 n ⟨hat.iI,hat.big,sO hnt hd hat.fD g2,by rw[sP];exact hat.idle⟩ (fun q hq=>by
         rcases List.mem_cons.1 hq with rfl | hq
         ·exact g1
         ·exact hk q hq) hn' hQ
       ·refine zN (s:=pure (.value undef)) (v:=undef) ho (Region.noSelect_spec hsel) (fun c a w hq=>absurd hq (hP c _ w)) n prR _ _ w hk rfl (Region.free_spec ho hfree) hrdy (.inr ⟨hw,rfl⟩) ?_
        exact ihm hmk hy n ⟨hat.iI,hat.big,sO hnt hd hat.fD zO,by rw[sP];exact hat.idle⟩ (fun q hq=>by
         rcases List.mem_cons.1 hq with rfl | hq
         ·rfl
         ·exact hk q hq) hn' hQ
    ·cases hl
   ·cases hl
theorem CF{listed:Array Bool}:∀{l:List Nat},sj P nt ops listed l=true->∀i∈l,listed.getD i true=false->∀o,ops[i]? = some o->vT (fH P nt ops o)=true
 |[],_,i,hi,_,_,_=>by cases hi
 |j::l,h,i,hi,hu,o,ho=>by
  unfold sj at h
  split at h
  ·rename_i hj
   rcases List.mem_cons.1 hi with rfl | hi
   ·rw[hu]at hj;cases hj
   ·exact CF h i hi hu o ho
  ·split at h
   ·rename_i o' ho'
    split at h
    ·rename_i hrd
     rcases List.mem_cons.1 hi with rfl | hi
     ·rw[ho]at ho';cases ho';exact hrd
     ·exact CF h i hi hu o ho
    ·cases h
   ·rename_i hno
    rcases List.mem_cons.1 hi with rfl | hi
    ·rw[ho]at hno;cases hno
    ·exact CF h i hi hu o ho
theorem lT.quiet{aV:Act}{listed:Array Bool}{l:List Pe}(h:lT P B nt ops aV listed w l)(hr:sj P nt ops listed (List.range ops.size)=true):l=[]:=by
 cases l with
 |nil=>rfl
 |cons e l =>
  have he:=h.ok e (List.mem_cons_self ..)
  obtain⟨o,c,d,ho,hc,hl⟩:=AQ he.lag
  have hrd:=CF hr e.i (List.mem_range.2 (Array.getElem?_eq_some_iff.1 ho).1) (oN he.qW) o ho
  rw[hc]at hrd
  obtain⟨co,d',g',e1,e2⟩:=yJ hrd
  cases e1
  rw[Nz hl]at e2
  cases e2
theorem ZI{K:Tm->St->Out}{Q:Exit->Act->World->Prop}(hnt:nt<=5000000)(hcall:∀B,ni P B call)(hsel:Region.noSelect ops=true)(hP:∀c a w,¬ Q (.panic c) a w) :
 ∀(m:Nat) {prs:List (Nat × CR)} {listed:Array Bool} {l:List CX},vL P nt ops m prs listed=some l->∀{E:ax} {tm:Tm} {st:St} {aV:Act} {r:List (AV × St)} {pr:List Pr},jf l aC call tm st K=some r->jV P nt ops E tm aV prs pr ->
 ∀(n:Nat) {w:World} {pend:List Pe} {prR:List Pr},At (Bp B pend) aC E nt tm st aV w->lT P B nt ops aV listed w pend->jh P pr w->zB ops pr prR pend->n=(cK (Pe.ix pend) listed).toList.count false ->
  (∀a' w',oI B aC E nt w r K a' w'->Q .normal a' w')->iU P .any ops Q n prR (cK (Pe.ix pend) listed) (dF ops pend aV) w:=by
 have done:∀{listed:Array Bool} {E:ax} {tm:Tm} {st:St} {aV:Act} {r:List (AV × St)},Region.ready .any ops listed=[]->K tm st=some r->∀(n:Nat) {w:World} {pend:List Pe} {prR:List Pr},At (Bp B pend) aC E nt tm st aV w->lT P B nt ops aV listed w pend ->
  (∀a' w',oI B aC E nt w r K a' w'->Q .normal a' w')->iU P .any ops Q n prR (cK (Pe.ix pend) listed) (dF ops pend aV) w:=by
  intro listed E tm st aV r hr h n w pend prR hat hp hQ
  have:=hp.nil hr
  subst this
  exact IQ hr (hQ aV w ⟨E,tm,st,r,ax.le_refl E,hat.less (fun k hk=>.inl hk),bM.refl B w,fun _ h=>h,h⟩) n
 have quiet:∀{m:Nat} {listed:Array Bool} {l:List CX} {E:ax} {tm:Tm} {st:St} {aV:Act} {r:List (AV × St)} {pr:List Pr},sj P nt ops listed (List.range ops.size)=true->vM P nt ops m listed=some l->jf l aC call tm st K=some r ->
  ∀(n:Nat) {w:World} {pend:List Pe} {prR:List Pr},At (Bp B pend) aC E nt tm st aV w->lT P B nt ops aV listed w pend->jh P pr w->zB ops pr prR pend->n=(cK (Pe.ix pend) listed).toList.count false ->
  (∀a' w',oI B aC E nt w r K a' w'->Q .normal a' w')->iU P .any ops Q n prR (cK (Pe.ix pend) listed) (dF ops pend aV) w:=by
  intro m listed l E tm st aV r pr hq hmk h n w pend prR hat hp hk hR hn hQ
  have:=hp.quiet hq
  subst this
  exact Uk hnt hsel hP m hmk h n (hat.less (fun k hk=>.inl hk)) (fun p hpp=>hk p (hR p hpp).1) hn hQ
 intro m
 induction m with
 |zero =>
  intro prs listed l hl E tm st aV r pr h hpr n w pend prR hat hp hk hR hn hQ
  unfold vL at hl
  split at hl
  ·rename_i hr
   cases hl
   exact done hr h n hat hp hQ
  ·split at hl
   ·rename_i hq
    exact quiet hq hl h n hat hp hk hR hn hQ
   ·cases hl
 |succ m ihm =>
  intro prs listed l hl E tm st aV r pr h hpr
  unfold vL at hl
  split at hl
  ·rename_i hr
   cases hl
   intro n w pend prR hat hp hk hR hn hQ
   exact done hr h n hat hp hQ
  ·split at hl
   ·rename_i hq
    intro n w pend prR hat hp hk hR hn hQ
    exact quiet hq hl h n hat hp hk hR hn hQ
   rename_i rs hne _
   simp only[]at hl
   split at hl
   ·-- a reading operation is taken
    rename_i i c hpick
    split at hl
    ·rename_i l' hall hmk
     cases hl
     obtain⟨hmem,o,ho,hc,hrd,hslf,hfree⟩:=Ak hpick
     have hself:∀d,o.dst=some d->d∉o.looksAt ops:=fun d hd=>by
      unfold Dy at hslf
      rw[hd]at hslf
      simpa using hslf
     obtain⟨co,d,g,hco,hcls⟩:=yJ hrd
     rw[hco]at hc h
     rcases um hc.symm with ⟨_,e',_⟩ | ⟨ec,hg,hd⟩
     ·cases e'
     ·have h:nT g tm (gF co aC call tm st (fun v st=>jf l' aC call (dL (some d) v tm) st K)) (jf l' aC call (dL (some d) (.t .nl) tm) st K)=some r:=h
      have hrdy:i∈Region.ready .any ops listed:=hmem
      have hun:=oN hrdy
      intro n w pend prR hat hp hk hR hn hQ
      have hni:∀e∈pend,e.i≠i:=fun e he hei=>by
       obtain⟨o',c',d',ho',hc',hl'⟩:=AQ (hp.ok e he).lag
       rw[hei,ho]at ho'
       cases ho'
       rw[<-hc]at hc'
       cases hc'
       rw[Nz hl']at hcls
       cases hcls
      have hnix:i∉Pe.ix pend:=fun hx=>by
       obtain⟨e,he,hei⟩:=List.mem_map.1 hx
       exact hni e he hei
      have hap:∀e∈pend,∀oj,ops[e.i]? = some oj->o.apart ops oj=true:=fun e he oj hoj =>
       Region.free_spec ho hfree e.i oj hoj (hni e he) (oN (hp.ok e he).qW) (fun x hx hb hxi=>by
        have:=KP (hp.ok e he).qW hun
        unfold mP at this
        rw[hoj]at this
        simp only[]at this
        rw[Bool.eq_false_iff]at this
        exact this (Array.any_eq_true'.2 ⟨x,hx,by simp[hb,hxi]⟩))
      have hlook:∀e∈pend,∀x,gP ops e.i=some x->x∉o.looksAt ops:=fun e he x hx=>by
       obtain⟨oj,hoj,_⟩:=(hp.ok e he).qU
       rw[rR hoj]at hx
       exact(Oper.apart_spec (hap e he oj hoj)).2.2 x hx
      have hdst:∀e∈pend,∀x,o.dst=some x->gP ops e.i≠some x:=fun e he x hx=>by
       obtain⟨oj,hoj,_⟩:=(hp.ok e he).qU
       rw[rR hoj]
       exact(Oper.apart_spec (hap e he oj hoj)).2.1 x hx
      have hselo:∀cs b,o.op ≠ .select cs b:=fun cs b=>Region.noSelect_spec hsel _ o cs b ho
      have hrdyR:=DD hnix hrdy
      have hcnt:=count_set (oN hrdyR)
      rw[<-hn]at hcnt
      cases n with
      |zero=>omega
      |succ n =>
       have hn':n=(cK (Pe.ix pend) (listed.setIfInBounds i true)).toList.count false:=by rw[rF];omega
       have hfreeR:∀j oj,ops[j]? = some oj->j≠i->(cK (Pe.ix pend) listed).getD j true=false->(∀e∈oj.after,Region.binds .any e=true->e.on≠i)->o.apart ops oj=true:=fun j oj hj hji hu hno=>by
        refine Region.free_spec ho hfree j oj hj hji ?_ hno
        rw[tN]at hu
        split at hu
        ·cases hu
        ·exact hu
       have hpend:∀u,lT P B nt ops (aV.put o.dst u) (listed.setIfInBounds i true) w pend:=fun u =>
        ⟨fun e he=>(hp.ok e he).put hsel (hni e he) (fun oj hoj d hd=>(Oper.apart_spec (hap e he oj hoj)).1 d hd) rfl u (fun _ _ _=>rfl),hp.nd,hp.nb,hp.nB⟩
       have hRR:∀s u,zB ops (⟨i,s,u⟩::pr) (⟨i,s,u⟩::prR) pend:=fun s u p hpp=>by
        rcases List.mem_cons.1 hpp with rfl | hpp
        ·exact⟨List.mem_cons_self ..,fun e he=>KP (hp.ok e he).qW hun⟩
        ·exact⟨List.mem_cons_of_mem _ (hR p hpp).1,(hR p hpp).2⟩
       have hkR:jh P prR w:=fun p hpp=>hk p (hR p hpp).1
       rcases Bb hat.fD hg h with ⟨hw,hy⟩ | ⟨hw,hy⟩
       ·obtain⟨v,u,g1,g2,g3⟩:=(BJ hat.iI hat.big hat.fD (o:=o) ec.symm hy).1 hcls
        refine zN (s:=execOp aV.eval o) (v:=u) ho (Region.noSelect_spec hsel) (fun c a w hq=>absurd hq (hP c _ w)) n prR _ _ w hkR g1 hfreeR hrdyR (.inl ⟨by rw[xx hlook];exact hw,Bo hselo hlook⟩) ?_
        have hat':At (Bp B pend) aC E nt (dL (some d) v tm) st (aV.put o.dst u) w:=⟨hat.iI,hat.big,sO hnt hd hat.fD g2,by rw[sP];exact hat.idle⟩
        have hpr':=hpr.put hnt hsel ho hall (ax.le_refl E) (a':=aV) rfl hd v u
        rw[<-rF,<-vg hdst]
        refine ihm hmk g3 (pr:=⟨i,execOp aV.eval o,u⟩::pr) ⟨_,_,rfl,⟨rfl,o,ho,hco.trans hc,hrd,?_⟩,hpr'⟩ n hat' (hpend u) ?_ (hRR _ _) hn' hQ
        ·cases hpu:vU co with
         |true =>
          obtain⟨u',hu'⟩:=Uu hat.iI hat.fD (o:=o) ec.symm hpu hy
          refine .inr fun w'=>?_
          have e1:=hu' w
          rw[g1]at e1
          cases e1
          exact hu' w'
         |false =>
          refine .inl ⟨by rw[hco];exact hpu,?_,?_,?_⟩
          ·rw[wanted_put (ops:=ops) o aV o.dst u hself];exact hw
          ·rw[execOp_put (ops:=ops) o hselo aV o.dst u hself]
          ·rw[hco]
           rcases hd with ⟨_,e⟩ | ⟨kk,hk1,hk2,e⟩
           ·cases e
           ·cases e
            show ag E (gv (T.get (az kk) (T.set (az kk) (some v) tm))) u
            rw[fu (by omega) (by omega),if_pos rfl]
            exact g2
        ·intro q hq
         rcases List.mem_cons.1 hq with rfl | hq
         ·exact g1
         ·exact hk q hq
       ·refine zN (s:=pure (.value undef)) (v:=undef) ho (Region.noSelect_spec hsel) (fun c a w hq=>absurd hq (hP c _ w)) n prR _ _ w hkR rfl hfreeR hrdyR (.inr ⟨by rw[xx hlook];exact hw,rfl⟩) ?_
        have hat':At (Bp B pend) aC E nt (dL (some d) (.t .nl) tm) st (aV.put o.dst undef) w:=⟨hat.iI,hat.big,sO hnt hd hat.fD zO,by rw[sP];exact hat.idle⟩
        have hpr':=hpr.put hnt hsel ho hall (ax.le_refl E) (a':=aV) rfl hd (.t .nl) undef
        rw[<-rF,<-vg hdst]
        refine ihm hmk hy (pr:=⟨i,pure (.value undef),undef⟩::pr) ⟨_,_,rfl,⟨rfl,o,ho,hco.trans hc,hrd,.inr fun _=>rfl⟩,hpr'⟩ n hat' (hpend undef) ?_ (hRR _ _) hn' hQ
        intro q hq
        rcases List.mem_cons.1 hq with rfl | hq
        ·rfl
        ·exact hk q hq
    ·cases hl
   ·rename_i hpick
    split at hl
    ·rename_i cur hcur
     split at hl
     ·rename_i o ho
      generalize hoth:((Region.ready .any ops listed).filter (fun i=>oU P nt ops i)).filter (fun i=>!Nat.beq i cur)=others at hl
      split at hl
      ·rename_i l' hstep hall hmk
       cases hl
       have hcmem:cur∈Region.ready .any ops listed:=ZQ hcur
       have hselo:∀cs b,o.op ≠ .select cs b:=fun cs b=>Region.noSelect_spec hsel _ o cs b ho
       -- what may be taken up late
       have hoi:∀i,i∈others↔i∈Region.ready .any ops listed/\oU P nt ops i=true/\i≠cur:=fun i=>by
        rw[<-hoth,List.mem_filter,List.mem_filter]
        constructor
        ·rintro⟨⟨h1,h2⟩,h3⟩
         exact⟨h1,h2,fun e=>by subst e;simp at h3⟩
        ·rintro⟨h1,h2,h3⟩
         exact⟨⟨h1,h2⟩,by
          cases hb:Nat.beq i cur with
          |false=>rfl
          |true=>exact absurd (Nat.eq_of_beq_eq_true hb) h3⟩
       unfold JW at hstep
       rw[Bool.and_eq_true]at hstep
       have hready:Region.ready .any ops (cK others listed)=[cur]:=by
        have h1:DF ops (Region.ready .any ops listed) listed others=[cur]:=by simpa using hstep.1
        unfold DF at h1
        split at h1
        ·exact h1
        ·exact h1
       have hclr:∀i∈others,lF ops i cur=true/\lF ops cur i=true/\(∀j∈others,i≠j->lF ops i j=true)/\prs.all (fun p=>lF ops i p.1)=true:=fun i hi=>by
        have h1:=List.all_eq_true.1 hstep.2 i hi
        simp only[Bool.and_eq_true]at h1
        refine⟨h1.1,h1.2.1,fun j hj hij=>?_,h1.2.2.2⟩
        have h2:=List.all_eq_true.1 h1.2.2.1 j hj
        rw[Bool.or_eq_true]at h2
        rcases h2 with h2 | h2
        ·exact absurd (Nat.eq_of_beq_eq_true h2) hij
        ·exact h2
       cases hc:fH P nt ops o with
       |mk c d g =>
        rw[hc]at h
        have hdd:(c = .bad/\d=none/\g=none)∨((o.dst=none/\d=none)∨∃kk:Nat,o.dst=some kk/\kk<nt/\d=some (az kk)):=by
         rcases um hc with h | ⟨_,_,h⟩
         ·exact .inl h
         ·exact .inr h
        generalize hpost:prs.filter (fun p=>!mP .any ops cur p.1)=prs' at *
        have hleft:jV P nt ops E tm aV prs' (Pr.left .any ops cur pr):=hpost▸hpr.left (j:=cur)
        have h:jA (K7 others (prs.map (·.2))) aC call tm st (vw (pE P nt ops others) aC call tm st (nT g tm (gF c aC call tm st (fun v st=>jA (prs'.map (·.2)) aC call (dL d v tm) st (jf l' aC call (dL d v tm) st K))) (jf l' aC call (dL d (.t .nl) tm) st K)))=some r:=h
        have hlagc:∀c∈pE P nt ops others,AP c=true:=ZV (fun i hi=>((hoi i).1 hi).2.1)
        -- what is looked at ahead
        have ahead:∀{w:World} {B':bB},At B' aC E nt tm st aV w->(others=[]∨jh P pr w)/\vw (pE P nt ops others) aC call tm st (nT g tm (gF c aC call tm st (fun v st=>jA (prs'.map (·.2)) aC call (dL d v tm) st (jf l' aC call (dL d v tm) st K))) (jf l' aC call (dL d (.t .nl) tm) st K))=some r:=by
         intro w B' hat
         cases others with
         |nil=>exact⟨.inl rfl,h⟩
         |cons i is =>
          obtain⟨h1,h2⟩:=BX hat hpr h
          exact⟨.inr h2,h1⟩
        -- operation cur has been done: it is taken up
        have absorb:∀(n:Nat) {w:World} {pend:List Pe} {prR:List Pr},At (Bp B pend) aC E nt tm st aV w->lT P B nt ops aV listed w pend->zB ops pr prR pend->n=(cK (Pe.ix pend) listed).toList.count false ->
         (∀a' w',oI B aC E nt w r K a' w'->Q .normal a' w')->cur∈Pe.ix pend->iU P .any ops Q n prR (cK (Pe.ix pend) listed) (dF ops pend aV) w:=by
         intro n w pend prR hat hp hR hn hQ hcp
         obtain⟨e,he,hei⟩:=List.mem_map.1 hcp
         obtain⟨l1,l2,rfl⟩:=List.append_of_mem he
         have hpe:=hp.ok e he
         obtain⟨o',c',d',ho',hc',hlag'⟩:=AQ hpe.lag
         rw[hei,ho]at ho'
         cases ho'
         rw[hc]at hc'
         cases hc'
         obtain⟨hgn,hcc,kk,hk1,hk2,hk3⟩:=NY hc
         obtain⟨hpl,_⟩:=DN hlagc (ahead hat).2
         have hd:gF c aC call tm st (fun v st=>jA (prs'.map (·.2)) aC call (dL (some d') v tm) st (jf l' aC call (dL (some d') v tm) st K))=some r:=hpl
         have hsub:∀k,Bp B (l1++l2) k->Bp B (l1++e::l2) k:=fun k hk=>by
          rcases hk with hk | hk
          ·exact .inl hk
          ·right
           obtain⟨e',he',x,hx⟩:=Qo hk
           refine l9 (e:=e') ?_ hx
           rcases List.mem_append.1 he' with h | h
           ·exact List.mem_append_left _ h
           ·exact List.mem_append_right _ (List.mem_cons_of_mem _ h)
         obtain⟨blk,val,hS,hL⟩:=Na (hat.iI.less hsub) hat.fD hcc.symm hlag' hd
         obtain⟨o2,ho2,hs2⟩:=hpe.qU
         rw[hei,ho]at ho2
         cases ho2
         rw[hs2]at hS
         have key:∃v E' st',E.le E'/\aB (Bp B (l1++l2)) E' st' w/\ag E' v e.u/\jA (prs'.map (·.2)) aC call (dL (some d') v tm) st' (jf l' aC call (dL (some d') v tm) st' K)=some r:=by
          have hbox:=hpe.box
          cases hb:e.bx with
          |none =>
           rw[hb]at hbox
           obtain⟨w0,hw0⟩:=hbox
           cases blk with
           |some x'=>have:=hS w0;rw[hw0]at this;injection this with _ h2;exact(Qv h2.symm).elim
           |none =>
            have h1:=hS w0
            rw[hw0]at h1
            injection h1 with h2 _
            injection h2 with h2
            rw[h2];exact hL
          |some q =>
           obtain⟨p,x⟩:=q
           rw[hb]at hbox
           obtain⟨hlow,hheap,w0,hsz,hw0⟩:=hbox
           cases blk with
           |none=>have:=hS w0;rw[hw0]at this;injection this with _ h2;exact(Qv h2).elim
           |some x' =>
            have h1:=hS w0
            rw[hw0]at h1
            injection h1 with h2 h3
            injection h2 with h2
            have h3:=y2b h3
            subst h3
            rw[hsz]at h2
            rw[h2]
            have hpin:p∈Pe.bl (l1++e::l2):=l9 he hb
            refine hL p hheap ?_ hlow ?_
            ·rintro(hB | hB)
             ·exact hp.nB p hpin hB
             ·have hnb:=hp.nb
              have e1:Pe.bl (l1++e::l2)=Pe.bl l1++p::Pe.bl l2:=by simp[Pe.bl,List.filterMap_append,hb]
              rw[e1]at hnb
              have e2:Pe.bl (l1++l2)=Pe.bl l1++Pe.bl l2:=by simp[Pe.bl,List.filterMap_append]
              rw[e2]at hB
              exact(LZ hnb).1 hB
            ·intro s q l3 h1 h2 h3 h4 h5 h6
             exact hat.iI.own s q l3 h1 h2 h3 h5 (.inr (by rw[h6];exact hpin))
         obtain⟨v,E',st',g1,g2,g3,g4⟩:=key
         have hddd:(o.dst=none/\some d' = none)∨∃kk:Nat,o.dst=some kk/\kk<nt/\some d' = some (az kk):=.inr ⟨kk,hk1,hk2,by rw[hk3]⟩
         have hat':At (Bp B (l1++l2)) aC E' nt (dL (some d') v tm) st' (aV.put o.dst e.u) w:=⟨g2,hat.big.less hsub,sO hnt hddd (hat.fD.mono g1) g3,by rw[sP];exact hat.idle⟩
         have hpr':=hleft.put hnt hsel ho hall g1 (a':=aV) rfl hddd v e.u
         obtain⟨i1,i2⟩:=BX hat' hpr' g4
         have hnd:cur∉Pe.ix (l1++l2)/\(Pe.ix (l1++l2)).Nodup:=by
          have h1:=hp.nd
          have e1:Pe.ix (l1++e::l2)=Pe.ix l1++cur::Pe.ix l2:=by simp[Pe.ix,hei]
          have e2:Pe.ix (l1++l2)=Pe.ix l1++Pe.ix l2:=by simp[Pe.ix]
          rw[e1]at h1
          rw[e2]
          exact LZ h1
         have hmem2:∀e'∈l1++l2,e'∈l1++e::l2:=fun e' he'=>by
          rcases List.mem_append.1 he' with h | h
          ·exact List.mem_append_left _ h
          ·exact List.mem_append_right _ (List.mem_cons_of_mem _ h)
         have hne2:∀e'∈l1++l2,e'.i≠cur:=fun e' he' h=>hnd.1 (h▸List.mem_map.2 ⟨e',he',rfl⟩)
         have hino:∀e'∈l1++l2,e'.i∈others:=fun e' he'=>(hoi _).2 ⟨(hp.ok e' (hmem2 e' he')).qW,(hp.ok e' (hmem2 e' he')).lag,hne2 e' he'⟩
         have hp':lT P B nt ops (aV.put o.dst e.u) (listed.setIfInBounds cur true) w (l1++l2):=by
          refine⟨fun e' he'=>(hp.ok e' (hmem2 e' he')).put hsel (hne2 e' he') (fun oj hoj x hx=>(rW ho hoj (hclr _ (hino e' he')).2.1 x hx).1) rfl e.u (fun _ _ _=>rfl),hnd.2,?_,fun p hpp=>?_⟩
          ·have h1:=hp.nb
           have e2:Pe.bl (l1++l2)=Pe.bl l1++Pe.bl l2:=by simp[Pe.bl,List.filterMap_append]
           have e1:Pe.bl (l1++e::l2)=Pe.bl l1++Pe.bl (e::l2):=by simp[Pe.bl,List.filterMap_append]
           rw[e2]
           rw[e1]at h1
           refine h1.sublist (List.Sublist.append_left ?_ _)
           cases hb:e.bx with
           |none=>simp[Pe.bl,hb]
           |some q=>simp[Pe.bl,hb]
          ·obtain⟨e',he',x,hx⟩:=Qo hpp
           exact hp.nB p (l9 (hmem2 e' he') hx)
         have elst:cK (Pe.ix (l1++e::l2)) listed=cK (Pe.ix (l1++l2)) (listed.setIfInBounds cur true):=by
          have e1:Pe.ix (l1++e::l2)=Pe.ix l1++cur::Pe.ix l2:=by simp[Pe.ix,hei]
          have e2:Pe.ix (l1++l2)=Pe.ix l1++Pe.ix l2:=by simp[Pe.ix]
          rw[e1,e2,Fa,Fa]
          show cK (Pe.ix l2) ((cK (Pe.ix l1) listed).setIfInBounds cur true)=_
          rw[<-rF]
         have eput:dF ops (l1++e::l2) aV=dF ops (l1++l2) (aV.put o.dst e.u):=by
          rw[DK,DK,vg (fun e' he' x hx=>?_)]
          ·show dF ops l2 ((dF ops l1 aV).put (gP ops e.i) e.u)=_
           rw[hei,rR ho]
          ·have hin:=List.mem_append_left l2 he'
           obtain⟨oj,hoj,_⟩:=(hp.ok e' (hmem2 e' hin)).qU
           rw[rR hoj]
           exact(rW ho hoj (hclr _ (hino e' hin)).2.1 x hx).2
         rw[elst,eput]
         refine ihm hmk i1 hpr' n hat' hp' i2 (fun p hpp=>?_) (by rw[<-elst];exact hn) (fun a' w' ha=>hQ a' w' (ha.from g1 (bM.refl B w) (fun _ h=>h)))
         obtain⟨j1,j2⟩:=hR p hpp
         exact⟨mq.2 ⟨j1,by have:=j2 e he;rwa [hei]at this⟩,fun e' he'=>j2 e' (hmem2 e' he')⟩
        intro n
        induction n with
        |zero =>
         intro w pend prR hat hp hk hR hn hQ
         by_cases hcp:cur∈Pe.ix pend
         ·exact absorb 0 hat hp hR hn hQ hcp
         ·have:=count_set (oN (DD hcp hcmem))
          omega
        |succ n ihn =>
         intro w pend prR hat hp hk hR hn hQ
         by_cases hcp:cur∈Pe.ix pend
         ·exact absorb (n+1) hat hp hR hn hQ hcp
         ·have hcR:=DD hcp hcmem
          have hino:∀e∈pend,e.i∈others:=fun e he=>(hoi _).2 ⟨(hp.ok e he).qW,(hp.ok e he).lag,fun h=>hcp (h▸List.mem_map.2 ⟨e,he,rfl⟩)⟩
          have hkR:jh P prR w:=fun p hpp=>hk p (hR p hpp).1
          refine⟨fun h0=>(by rw[h0]at hcR;cases hcR),fun x hx=>?_⟩
          by_cases hxo:x∈others
          ·-- an operation that may be taken up late
           obtain⟨h1,h2,h3⟩:=(hoi x).1 hxo
           obtain⟨ox,cx,dx,hox,hcx,hlx⟩:=AQ h2
           obtain⟨hgn,hcc,kx,hkx1,hkx2,hkx3⟩:=NY hcx
           have hkeep:∀{w':World} {B':bB},At B' aC E nt tm st aV w'->jh P pr w':=fun hat'=>(ahead hat').1.resolve_left (fun e=>by rw[e]at hxo;cases hxo)
           obtain⟨_,hprobe⟩:=DN hlagc (ahead hat).2
           obtain⟨y',hy'⟩:=hprobe _ (ZU hxo hox)
           rw[hcx]at hy'
           have hy':gF cx aC call tm st (fun _ _=>y')=some r:=hy'
           obtain⟨blk,val,hS,_⟩:=Na (o:=ox) hat.iI hat.fD hcc.symm hlx hy'
           have hxp:x∉Pe.ix pend:=fun hxp=>by
            have:=oN hx
            rw[tN,if_pos ⟨hxp,Ue h1⟩]at this
            cases this
           have hlook:∀e∈pend,∀z,gP ops e.i=some z->z∉ox.looksAt ops:=fun e he z hz=>by
            obtain⟨oj,hoj,_⟩:=(hp.ok e he).qU
            rw[rR hoj]at hz
            have hne:e.i≠x:=fun h=>hxp (h▸List.mem_map.2 ⟨e,he,rfl⟩)
            exact(rW hoj hox ((hclr _ (hino e he)).2.2.1 x hxo hne) z hz).1
           have hcnt:=count_set (oN hx)
           rw[<-hn]at hcnt
           have fin:∀(u:Value) (w1:World) (bx:Option (Nat × Obj)),At (Bp B (pend++[⟨x,execOp aV.eval ox,u,bx⟩])) aC E nt tm st aV w1->lT P B nt ops aV listed w1 (pend++[⟨x,execOp aV.eval ox,u,bx⟩])->bM B w w1 ->
            jh P (Pr.left .any ops x prR) w1/\iU P .any ops Q n (Pr.left .any ops x prR) ((cK (Pe.ix pend) listed).setIfInBounds x true) ((dF ops pend aV).put ox.dst u) w1:=by
            intro u w1 bx hat1 hp1 hbel
            have hk1:=hkeep hat1
            refine⟨fun p hpp=>hk1 p (hR p (Pr.mq p hpp)).1,?_⟩
            have e1:(cK (Pe.ix pend) listed).setIfInBounds x true=cK (Pe.ix (pend++[⟨x,execOp aV.eval ox,u,bx⟩])) listed:=by
             have e0:Pe.ix (pend++[⟨x,execOp aV.eval ox,u,bx⟩])=Pe.ix pend++[x]:=by simp[Pe.ix]
             rw[e0,Fa];rfl
            have e2:(dF ops pend aV).put ox.dst u=dF ops (pend++[⟨x,execOp aV.eval ox,u,bx⟩]) aV:=by
             rw[DK]
             show _=(dF ops pend aV).put (gP ops x) u
             rw[rR hox]
            rw[e1,e2]
            refine ihn hat1 hp1 hk1 (fun p hpp=>?_) (by rw[<-e1];omega) (fun a' w' ha=>hQ a' w' (ha.from (ax.le_refl E) hbel (fun _ h=>h)))
            obtain⟨j1,j2⟩:=mq.1 hpp
            refine⟨(hR p j1).1,fun e he=>?_⟩
            rcases List.mem_append.1 he with he | he
            ·exact(hR p j1).2 e he
            ·obtain rfl:e=_:=by simpa using he
             exact j2
           have hnd:(Pe.ix pend++[x]).Nodup:=List.nodup_append.2 ⟨hp.nd,by simp,fun a ha b hb=>by
            obtain rfl:b=x:=by simpa using hb
            exact fun e=>hxp (e▸ha)⟩
           unfold wpOp
           simp only[hox]
           rw[if_pos (by simp[Region.wanted,hgn])]
           left
           unfold Oper.wp
           rw[Bo (fun cs b=>Region.noSelect_spec hsel _ ox cs b hox) hlook]
           cases blk with
           |none =>
            have hrun:=hS w
            rw[hrun]
            have ebl:Pe.bl (pend++[⟨x,execOp aV.eval ox,val 0,none⟩])=Pe.bl pend:=by simp[Pe.bl,List.filterMap_append]
            have eix:Pe.ix (pend++[⟨x,execOp aV.eval ox,val 0,none⟩])=Pe.ix pend++[x]:=by simp[Pe.ix]
            refine fin (val 0) w none ?_ ⟨fun e he=>?_,by rw[eix];exact hnd,by rw[ebl];exact hp.nb,by rw[ebl];exact hp.nB⟩ (bM.refl B w)
            ·exact hat.less (fun k hk=>by unfold Bp at *;rw[ebl]at hk;exact hk)
            ·rcases List.mem_append.1 he with he | he
             ·exact hp.ok e he
             ·obtain rfl:e=_:=by simpa using he
              exact⟨h1,h2,⟨ox,hox,rfl⟩,w,hrun⟩
           |some x0 =>
            have hrun:=hS w
            rw[hrun]
            have ebl:Pe.bl (pend++[⟨x,execOp aV.eval ox,val w.heap.size,some (w.heap.size,x0)⟩])=Pe.bl pend++[w.heap.size]:=by simp[Pe.bl,List.filterMap_append]
            have eix:Pe.ix (pend++[⟨x,execOp aV.eval ox,val w.heap.size,some (w.heap.size,x0)⟩])=Pe.ix pend++[x]:=by simp[Pe.ix]
            have hold:∀p∈Pe.bl pend,p<w.heap.size:=fun p hpp=>hat.big.lt p (.inr hpp)
            have hsz:(w.alloc x0).heap.size=w.heap.size+1:=by show(w.heap.push x0).size=_;simp
            refine fin (val w.heap.size) (w.alloc x0) (some (w.heap.size,x0)) ?_ ⟨fun e he=>?_,by rw[eix];exact hnd,?_,?_⟩ ((bM.refl B w).alloc (hat.big.less (fun k hk=>.inl hk)) x0)
            ·refine⟨hat.iI.grow x0 (fun k hk=>?_),⟨by rw[hsz];have:=hat.big.low;omega,fun k hk=>?_⟩,hat.fD,hat.idle⟩
             ·rcases hk with hk | hk
              ·exact .inl (.inl hk)
              ·rw[ebl]at hk
               rcases List.mem_append.1 hk with hk | hk
               ·exact .inl (.inr hk)
               ·exact .inr (by simpa using hk)
             ·rw[hsz]
              rcases hk with hk | hk
              ·have:=hat.big.lt k (.inl hk);omega
              ·rw[ebl]at hk
               rcases List.mem_append.1 hk with hk | hk
               ·have:=hold k hk;omega
               ·have:k=w.heap.size:=by simpa using hk
                omega
            ·rcases List.mem_append.1 he with he | he
             ·have hpe:=hp.ok e he
              refine⟨hpe.qW,hpe.lag,hpe.qU,?_⟩
              have hbox:=hpe.box
              cases hb:e.bx with
              |none=>rw[hb]at hbox;exact hbox
              |some q =>
               obtain⟨p,y⟩:=q
               rw[hb]at hbox
               obtain⟨g1,g2,g3⟩:=hbox
               exact⟨g1,(Below.heap_alloc w x0 p (hold p (l9 he hb))).trans g2,g3⟩
             ·obtain rfl:e=_:=by simpa using he
              exact⟨h1,h2,⟨ox,hox,rfl⟩,hat.big.low,uF w x0,w,rfl,hrun⟩
            ·rw[ebl]
             refine List.nodup_append.2 ⟨hp.nb,by simp,fun a ha b hb=>?_⟩
             have:=hold a ha
             have:b=w.heap.size:=by simpa using hb
             omega
            ·rw[ebl]
             intro p hpp
             rcases List.mem_append.1 hpp with hpp | hpp
             ·exact hp.nB p hpp
             ·have:p=w.heap.size:=by simpa using hpp
              rw[this]
              exact(hat.big.less (fun k hk=>(.inl hk:Bp B pend k))).out
          ·have hxc:x=cur:=by
            have:x∈Region.ready .any ops (cK others listed):=KO (fun j hj=>by
             rw[tN]at hj ⊢
             split at hj
             ·rename_i h1
              obtain⟨e,he,hei⟩:=List.mem_map.1 h1.1
              rw[if_pos ⟨hei▸hino e he,h1.2⟩]
             ·rw[hj];simp) (by
             have:=oN hx
             rw[tN]at this ⊢
             rw[if_neg (fun e=>hxo e.1)]
             split at this
             ·cases this
             ·exact this) hx
            rw[hready]at this
            simpa using this
           subst hxc
           obtain⟨hpl,_⟩:=DN hlagc (ahead hat).2
           have hdd:(o.dst=none/\d=none)∨∃kk:Nat,o.dst=some kk/\kk<nt/\d=some (az kk):=by
            rcases hdd with ⟨rfl,rfl,rfl⟩ | h'
            ·exact aS hpl
            ·exact h'
           have hlook:∀e∈pend,∀z,gP ops e.i=some z->z∉o.looksAt ops:=fun e he z hz=>by
            obtain⟨oj,hoj,_⟩:=(hp.ok e he).qU
            rw[rR hoj]at hz
            exact(rW hoj ho (hclr _ (hino e he)).1 z hz).1
           have hdst:∀e∈pend,∀z,o.dst=some z->gP ops e.i≠some z:=fun e he z hz=>by
            obtain⟨oj,hoj,_⟩:=(hp.ok e he).qU
            rw[rR hoj]
            exact(rW ho hoj (hclr _ (hino e he)).2.1 z hz).2
           have hnc:∀e∈pend,e.i≠x:=fun e he h=>hcp (h▸List.mem_map.2 ⟨e,he,rfl⟩)
           have hcnt:=count_set (oN hx)
           rw[<-hn]at hcnt
           have hn':n=(cK (Pe.ix pend) (listed.setIfInBounds x true)).toList.count false:=by rw[rF];omega
           have hRR:zB ops (Pr.left .any ops x pr) (Pr.left .any ops x prR) pend:=fun p hpp=>by
            obtain⟨j1,j2⟩:=mq.1 hpp
            exact⟨mq.2 ⟨(hR p j1).1,j2⟩,(hR p j1).2⟩
           unfold wpOp
           simp only[ho]
           rcases Lh hnt (hcall _) hat hc (K1:=fun tm st=>jA (prs'.map (·.2)) aC call tm st (jf l' aC call tm st K)) (K2:=fun tm st=>jf l' aC call tm st K) hpl with ⟨hw,hgo⟩ | ⟨hw,hat',h'⟩
           ·rw[if_pos (by rw[xx hlook];exact hw)]
            left
            refine QU hselo hlook hdst hP (N:=fun a' w'=>jh P (Pr.left .any ops x prR) w'/\iU P .any ops Q n (Pr.left .any ops x prR) ((cK (Pe.ix pend) listed).setIfInBounds x true) (dF ops pend a') w') (fun _ _ h=>h) (hgo _ Q ?_)
            intro v u w' E' st' r' a' k1 k2 k3 k4 k5 k6
            have hpr':=hleft.put hnt hsel ho hall k2 k1 hdd v u
            obtain⟨i1,i2⟩:=BX k3 hpr' k6
            have hp':lT P B nt ops (a'.put o.dst u) (listed.setIfInBounds x true) w' pend :=
             ⟨fun e he=>(hp.ok e he).put hsel (hnc e he) (fun oj hoj z hz=>(rW ho hoj (hclr _ (hino e he)).2.1 z hz).1) k1 u (fun p y hb=>k4.block p (.inr (l9 he hb))),hp.nd,hp.nb,hp.nB⟩
            refine⟨fun p hpp=>i2 p (hRR p hpp).1,?_⟩
            rw[<-rF]
            exact ihm hmk i1 hpr' n k3 hp' i2 hRR hn' (fun a'' w'' ha=>hQ a'' w'' (ha.from k2 (k4.less (fun k hk=>.inl hk)) k5))
           ·rw[if_neg (by rw[xx hlook,hw];simp)]
            have hpr':=hleft.put hnt hsel ho hall (ax.le_refl E) (a':=aV) rfl hdd (.t .nl) undef
            have hp':lT P B nt ops (aV.put o.dst undef) (listed.setIfInBounds x true) w pend :=
             ⟨fun e he=>(hp.ok e he).put hsel (hnc e he) (fun oj hoj z hz=>(rW ho hoj (hclr _ (hino e he)).2.1 z hz).1) rfl undef (fun _ _ _=>rfl),hp.nd,hp.nb,hp.nB⟩
            refine⟨hkR.sub Pr.mq,?_⟩
            rw[<-rF,<-vg hdst]
            exact ihm hmk h' hpr' n hat' hp' (hk.sub Pr.mq) hRR hn' hQ
      ·cases hl
     ·cases hl
    ·cases hl
end
end Go.AM
