/-
  Maps: looked into, written; iterators over strings and maps.
-/
import Derived.Test.YtjnbddedmbhiaaaGreatDoorPk10
import Derived.Laws.RangeString
namespace Go.AM
open Go.RowKit
theorem Cj{s s':ByteArray}(h:(s.toList==s'.toList)=true):s=s':=by
 rw[beq_iff_eq,ByteArray.toList_eq,ByteArray.toList_eq]at h
 cases s;cases s';simp at h;simp[h]
theorem Ko{q:KK}{d:TypeDesc}{b:Bool}{u v:Value}(hd:QF q d)(he:kL q b u v):Instr.sameNow d u v=some b:=by
 cases q with
 |b=>cases hd;obtain⟨x,y,rfl,rfl,rfl⟩:=he;rfl
 |i=>obtain⟨k',rfl⟩:=hd;obtain⟨k,x,y,rfl,rfl,rfl⟩:=he;simp[Instr.sameNow]
 |s=>cases hd;obtain⟨x,y,rfl,rfl,rfl⟩:=he;rw[<-beq_toListBytes];rfl
theorem Kr{q:KK}{u v:Value}(he:kL q true u v)(n:Nat):Instr.sameBits n v u=true:=by
 cases q with
 |b=>obtain⟨x,y,rfl,rfl,h⟩:=he;have h:=beq_iff_eq.1 h.symm;subst h;cases n<;>simp[Instr.sameBits]
 |i=>obtain⟨k,x,y,rfl,rfl,h⟩:=he;have h:=beq_iff_eq.1 h.symm;subst h;cases n<;>simp[Instr.sameBits]
 |s=>obtain⟨x,y,rfl,rfl,h⟩:=he;have h:=Cj h.symm;subst h;cases n<;>simp[Instr.sameBits,beq_toListBytes]
section
variable {P:Program}{B:bB}{E:ax}{st:St}{w:World}{nt:Nat}{tm:Tm}{a:Act}{k:K}{r:List (AV × St)}{o:Oper}
theorem Ab{α:Type}{step:α->PUnit->Sem (ForInStep PUnit)}:∀{l:List α},(∀x∈l,(step x PUnit.unit).run P w = .ok (.yield PUnit.unit) w)->(forIn l PUnit.unit step).run P w = .ok PUnit.unit w
 |[],_=>by simp
 |x::l,h=>by
  rw[List.forIn_cons,Sem.run_bind,h x (List.mem_cons_self ..)]
  simp only[Result.andThen_ok]
  exact Ab (fun y hy=>h y (List.mem_cons_of_mem _ hy))
theorem u6{t:TypeId}{q:KK}(h:jw P t=some q)(em:Bool)(n:Nat)(v:Value):(Instr.checkKey em (n+1) t v).run P w = .ok () w:=by
 obtain⟨d,hu,hd⟩:=vP h
 unfold Instr.checkKey
 rw[Sem.run_bind,run_underlying hu]
 cases q with
 |b=>cases hd;rfl
 |i=>obtain⟨_,rfl⟩:=hd;rfl
 |s=>cases hd;rfl
theorem MR:∀ks:List KK,AO ks=ks.length
 |[]=>rfl
 |_::ks=>by
  show Nat.succ (AO ks)=_
  rw[MR ks];rfl
theorem Ou:∀{fs:List Field} {j:Nat} {ks:List KK},flatK P fs j=some ks->∀f∈fs,∃qs,yO P f.type=some qs/\f.offset+qs.length<=j+ks.length
 |[],_,_,_,f,hf=>by cases hf
 |fd::fs,j,ks,h,f,hf=>by
  simp only[flatK]at h
  split at h
  ·rename_i qs hn hq
   split at h
   ·rename_i ks' hks
    cases h
    rw[Bool.and_eq_true]at hn
    rcases List.mem_cons.1 hf with rfl | hf
    ·exact⟨qs,hq,by rw[Nat.eq_of_beq_eq_true hn.2,List.length_append];omega⟩
    ·obtain⟨q',h1,h2⟩:=Ou hks f hf
     refine⟨q',h1,?_⟩
     have:Nat.add j qs.length=j+qs.length:=rfl
     rw[this]at h2
     rw[List.length_append];omega
   ·cases h
  ·cases h
theorem Ty{step:Nat->PUnit->Sem (ForInStep PUnit)}{n:Nat}(h:∀i,i<n->(step i PUnit.unit).run P w = .ok (.yield PUnit.unit) w):(forIn [0:n] PUnit.unit step).run P w = .ok PUnit.unit w:=by
 rw[Std.Legacy.Range.forIn_eq_forIn_range']
 refine Ab (fun x hx=>h x ?_)
 simp[Std.Legacy.Range.size,List.mem_range']at hx
 omega
theorem Oz:∀{fs:List Field} {j:Nat} {ks:List KK},nW P fs j=some ks->∀f∈fs,∃q,jw P f.type=some q/\f.offset<j+ks.length
 |[],_,_,_,f,hf=>by cases hf
 |g::fs,j,ks,h,f,hf=>by
  obtain⟨q,ks',_,hoff,hq,hks,rfl⟩:=yP h
  rcases List.mem_cons.1 hf with rfl | hf
  ·exact⟨q,hq,by simp;omega⟩
  ·obtain⟨q2,h1,h2⟩:=Oz hks f hf
   exact⟨q2,h1,by simp;omega⟩
theorem Ky{t:TypeId}{fs:Array Field}{ks:List KK}(hu:P.underlying t=some (.struct fs))(hk:eT P t fs=some ks)(em:Bool)(n:Nat){xs:List Value}(hl:xs.length=ks.length):(Instr.checkKey em (n+3) t (.agg xs.toArray)).run P w = .ok () w:=by
 unfold eT at hk
 split at hk
 ·rename_i ks' h1 h2 h3
  cases hk
  unfold Instr.checkKey
  rw[Sem.run_bind,run_underlying hu]
  simp only[Result.andThen_ok]
  rw[<-Array.forIn_toList]
  rw[Sem.run_bind,Ab (w:=w) (fun f hf=>?_)]
  ·rfl
  obtain⟨qs,hq,ho⟩:=Ou h1 f hf
  have fin : ∀ u, (part f.type xs.toArray f.offset).run P w = .ok u w -> (Instr.checkKey em (n + 2) f.type u).run P w = .ok () w -> ((if f.name ≠ "_" then do Instr.checkKey em (n + 2) f.type (<- part f.type xs.toArray f.offset); pure (ForInStep.yield PUnit.unit) else pure (ForInStep.yield PUnit.unit) : Sem (ForInStep PUnit))).run P w = .ok (.yield PUnit.unit) w := fun u hp hc => by
   split<;>simp only[Sem.run_bind,hp,hc,Result.andThen_ok,Sem.run_pure]
  rcases Oq hq with ⟨q,hkq,rfl⟩ | ⟨m,e,q,i,hu2,hkq,hi,hc1,hz,rfl⟩ | ⟨fs2,hu2,hk1,hz,_⟩
  ·simp only[List.length_cons,List.length_nil]at ho
   have hlt:f.offset<xs.length:=by omega
   exact fin xs[f.offset] (by simp[part,gX (iZ hkq),hlt]) (u6 (w:=w) hkq em (n+1) _)
  ·rw[List.length_replicate]at ho
   have ha:dQ P f.type=some true:=by unfold dQ;rw[hu2]
   refine fin (.agg (xs.toArray.extract f.offset (f.offset+m))) (by simp[part,xJ ha,run_sizeOf hz]) ?_
   unfold Instr.checkKey
   rw[Sem.run_bind,run_underlying hu2]
   simp only[Result.andThen_ok]
   have hze:cB P e=some 1:=by
    unfold cB
    unfold Program.cellsOf at hc1
    rw[hi]at hc1 ⊢
    simpa using hc1
   rw[Sem.run_bind,Ty (w:=w) (fun j hj=>?_)]
   ·rfl
   have hlt:f.offset+j<xs.length:=by omega
   have hp:(part e (xs.toArray.extract f.offset (f.offset+m)) j).run P w = .ok xs[f.offset+j] w:=by
    have:(xs.toArray.extract f.offset (f.offset+m))[j]? = some xs[f.offset+j]:=by
     rw[Array.getElem?_extract_of_lt (by simp;omega)]
     simp
    unfold part
    rw[Sem.run_bind,gX (iZ hkq)]
    simp only[Result.andThen_ok,Bool.false_eq_true,if_false,this,Sem.run_pure]
   have hc:=u6 (w:=w) hkq em n xs[f.offset+j]
   simp only[Sem.run_bind,run_sizeOf hze,Result.andThen_ok,Nat.mul_one,hp,hc,Sem.run_pure]
  ·have ha:dQ P f.type=some true:=by unfold dQ;rw[hu2]
   refine fin (.agg (xs.toArray.extract f.offset (f.offset+qs.length))) (by simp[part,xJ ha,run_sizeOf hz]) ?_
   unfold Instr.checkKey
   rw[Sem.run_bind,run_underlying hu2]
   simp only[Result.andThen_ok]
   rw[<-Array.forIn_toList]
   rw[Sem.run_bind,Ab (w:=w) (fun f2 hf2=>?_)]
   ·rfl
   obtain⟨q2,hq2,ho2⟩:=Oz hk1 f2 hf2
   have hlt:f.offset+f2.offset<xs.length:=by omega
   have hp:(part f2.type (xs.toArray.extract f.offset (f.offset+qs.length)) f2.offset).run P w = .ok xs[f.offset+f2.offset] w:=by
    have:(xs.toArray.extract f.offset (f.offset+qs.length))[f2.offset]? = some xs[f.offset+f2.offset]:=by
     rw[Array.getElem?_extract_of_lt (by simp;omega)]
     simp
    unfold part
    rw[Sem.run_bind,gX (iZ hq2)]
    simp only[Result.andThen_ok,Bool.false_eq_true,if_false,this,Sem.run_pure]
   have hc:=u6 (w:=w) hq2 em n xs[f.offset+f2.offset]
   split<;>simp only[Sem.run_bind,hp,hc,Result.andThen_ok,Sem.run_pure]
 ·cases hk
def uJ(P:Program)(t:TypeId)(q:KT)(b:Bool)(u v:Value):Prop:=match q with
 | .k q=>kL q b u v
 | .r _=>(∀w,(Op.equal t u v).run P w = .ok b w)/\(∃xs ys,u = .agg xs/\v = .agg ys)/\(b=true->Instr.sameBits 10000 v u=true)
def oG(P:Program)(t:TypeId)(q:KT):Prop:=match q with
 | .k q=>jw P t=some q
 | .r ks=>∃fs,P.underlying t=some (.struct fs)/\eT P t fs=some ks
def Ie(q:KT)(v:AV):Prop:=match q with
 | .k _=>True
 | .r ks=>∃c,v = .a c/\eu c=ks.length
def wX(q:KT)(v:Value):Prop:=match q with
 | .k _=>True
 | .r _=>∃c,v = .agg c
theorem qp{t:TypeId}{q:KT}(h:oV P t=some q):oG P t q:=by
 unfold oV at h
 split at h
 ·rename_i q' hq;cases h;exact hq
 ·split at h
  ·rename_i fs hu
   split at h
   ·rename_i ks hk;cases h;exact⟨fs,hu,hk⟩
   ·cases h
  ·cases h
theorem Nc{q:KT}{v:AV}{x:Out}(h:Fx q v x=some r):x=some r/\Ie q v:=by
 cases q with
 |k q=>exact⟨h,trivial⟩
 |r ks =>
  obtain⟨c,rfl,h⟩:=qI (show kE v (fun c=>must (Nat.beq (eu c) (AO ks)) x)=some r from h)
  obtain⟨hb,h⟩:=aJ h
  exact⟨h,c,rfl,by rw[<-MR];exact Nat.eq_of_beq_eq_true hb⟩
theorem Kt:∀{ks:List KK} {l m:List Value},gQ ks l m->l.length=m.length/\∀n,(m.zip l).all (fun p=>Instr.sameBits n p.1 p.2)=true
 |[],l,m,h=>by obtain⟨rfl,rfl⟩:=h;exact⟨rfl,fun _=>rfl⟩
 |q::ks,l,m,h=>by
  obtain⟨u,l',v,m',rfl,rfl,h1,h2⟩:=h
  obtain⟨i1,i2⟩:=Kt h2
  refine⟨by simp[i1],fun n=>?_⟩
  rw[List.zip_cons_cons,List.all_cons,i2 n,Kr h1 n]
  rfl
theorem FH{t:TypeId}{q:KT}(hq:oG P t q){x y:AV}{f:Bool->Out}(h:vQ q x y f=some r){u v:Value}(hu:ag E x u)(hv:ag E y v):∃b,f b=some r/\uJ P t q b u v:=by
 cases q with
 |k q =>
  obtain⟨b,h1,h2⟩:=Nk (show vR q x y f=some r from h)
  exact⟨b,h1,h2 E u v hu hv⟩
 |r ks =>
  obtain⟨fs,hun,hk⟩:=hq
  obtain⟨a,rfl,h⟩:=qI (show kE x (fun a=>kE y (fun c=>pg ks a c f))=some r from h)
  obtain⟨c,rfl,h⟩:=qI h
  simp only[ag]at hu hv
  obtain⟨xs,rfl,hrx⟩:=hu
  obtain⟨ys,rfl,hry⟩:=hv
  unfold eT at hk
  split at hk
  ·rename_i ks' h1 h2 h3
   cases hk
   have hfs:P.fieldsOf t=fs:=by simp[Program.fieldsOf,hun]
   obtain⟨b,h,hb,hall⟩:=Gq (P:=P) (d:=9997) fs.toList [] [] xs ys ks rfl h1 hrx hry h
   refine⟨b,h,fun w=>?_,⟨_,_,rfl,rfl⟩,fun e=>?_⟩
   ·show(Op.equalIn 10000 t (.agg xs.toArray) (.agg ys.toArray)).run P w = .ok b w
    rw[show(10000:Nat)=9999+1 from rfl,run_equalIn_struct w 9999 t _ _ (by rw[hfs];exact hun) h2,hfs]
    exact hb w
   ·obtain⟨g1,g2⟩:=Kt (hall e)
    show(ys.toArray.size==xs.toArray.size&&(ys.toArray.toList.zip xs.toArray.toList).all fun(x,y)=>Instr.sameBits 9999 x y)=true
    simp only[List.size_toArray,g1,beq_self_eq_true,Bool.true_and]
    exact g2 9999
  ·cases hk
def Finds(P:Program)(t:TypeId)(q:KT)(kv:Value)(l:List MapEntry)(i:Nat)(x:Option (Nat × Value)):Prop:=match q with
 | .k _=>∃d,P.underlying t=some d/\Instr.findNow d kv l i=some x
 | .r _=>(∃c,kv = .agg c)/\∀w,(Instr.findAsking t kv l i).run P w = .ok x w
theorem run_findKey{t:TypeId}{q:KT}(hq:oG P t q){kv:Value}{l:List MapEntry}{x:Option (Nat × Value)}(h:Finds P t q kv l 0 x):(Instr.findKey t kv l).run P w = .ok x w:=by
 cases q with
 |k q =>
  obtain⟨d,hu,h⟩:=h
  unfold Instr.findKey
  rw[Sem.run_bind,run_underlying hu]
  simp only[Result.andThen_ok,h]
  rfl
 |r ks =>
  obtain⟨fs,hu,_⟩:=hq
  obtain⟨⟨c,rfl⟩,h⟩:=h
  unfold Instr.findKey
  rw[Sem.run_bind,run_underlying hu]
  simp only[Result.andThen_ok]
  cases l with
  |nil=>exact h w
  |cons e l =>
   have:Instr.findNow (.struct fs) (.agg c) (e::l) 0=none:=by simp[Instr.findNow,Instr.sameNow]
   rw[this]
   exact h w
theorem Bl{t:TypeId}{q:KT}(hq:oG P t q){kv:Value}(hs:wX q kv)(i:Nat):Finds P t q kv [] i none:=by
 cases q with
 |k q=>obtain⟨d,hu,_⟩:=vP hq;exact⟨d,hu,rfl⟩
 |r ks=>exact⟨hs,fun w=>rfl⟩
theorem Gh{t:TypeId}{q:KT}(hq:oG P t q){kv:Value}{e:MapEntry}(he:uJ P t q true kv e.key)(l:List MapEntry)(i:Nat):Finds P t q kv (e::l) i (some (i,e.val)):=by
 cases q with
 |k q =>
  obtain⟨d,hu,hd⟩:=vP hq
  exact⟨d,hu,by simp only[Instr.findNow,Ko hd he]⟩
 |r ks =>
  obtain⟨h1,⟨xs,ys,rfl,_⟩,_⟩:=he
  refine⟨⟨xs,rfl⟩,fun w=>?_⟩
  simp[Instr.findAsking,h1 w]
theorem wm{t:TypeId}{q:KT}(hq:oG P t q){kv:Value}{e:MapEntry}(he:uJ P t q false kv e.key){l:List MapEntry}{i:Nat}{x:Option (Nat × Value)}(h:Finds P t q kv l (i+1) x):Finds P t q kv (e::l) i x:=by
 cases q with
 |k q =>
  obtain⟨d,hu,hd⟩:=vP hq
  obtain⟨d',hu',h⟩:=h
  rw[hu]at hu'
  cases hu'
  exact⟨d,hu,by simp only[Instr.findNow,Ko hd he];exact h⟩
 |r ks =>
  obtain⟨h1,⟨xs,ys,rfl,_⟩,_⟩:=he
  refine⟨⟨xs,rfl⟩,fun w=>?_⟩
  have:=h.2 w
  simp[Instr.findAsking,h1 w,this]
theorem Kq{t:TypeId}{q:KT}{u v:Value}(he:uJ P t q true u v):Instr.sameBits 10000 v u=true:=by
 cases q with
 |k q=>exact Kr he 10000
 |r ks=>exact he.2.2 rfl
theorem run_checkKey{t:TypeId}{q:KT}(hq:oG P t q)(em:Bool){key:AV}{v:Value}(hv:ag E key v)(hs:Ie q key):(Instr.checkKey em 10000 t v).run P w = .ok () w:=by
 cases q with
 |k q=>exact u6 hq em 9999 v
 |r ks =>
  obtain⟨fs,hu,hk⟩:=hq
  obtain⟨c,rfl,hl⟩:=hs
  simp only[ag]at hv
  obtain⟨xs,rfl,hr⟩:=hv
  exact Ky hu hk em 9997 (by rw[<-hr.len,hl])
theorem Ni{q:KT}{key:AV}{v:Value}(hv:ag E key v)(hs:Ie q key):wX q v:=by
 cases q with
 |k q=>trivial
 |r ks =>
  obtain⟨c,rfl,_⟩:=hs
  simp only[ag]at hv
  obtain⟨xs,rfl,_⟩:=hv
  exact⟨_,rfl⟩
theorem Wn{t:TypeId}{q:KT}(hq:oG P t q){key:AV}{kv:Value}(hk:ag E key kv)(ha:wX q kv){z:Out}{f:AV->Out}:∀(es:ME) {l:List MapEntry} (i:Nat),dI E es l->EW es q key z f=some r ->
 (Finds P t q kv l i none/\z=some r)∨∃j v x,Finds P t q kv l i (some (j,x))/\ag E v x/\f v=some r:=by
 intro es
 induction es with
 |nil =>
  intro l i hl h
  simp only[dI]at hl
  subst hl
  exact .inl ⟨Bl hq ha i,h⟩
 |cons k1 v1 n rest ih =>
  intro l i hl h
  obtain⟨e,m,rfl,h1,h2,_,h4⟩:=hl
  obtain⟨b,h,hkey⟩:=FH hq (show vQ q key k1 (fun b=>iff b (f v1) (EW rest q key z f))=some r from h) hk h1
  rcases iB h with ⟨rfl,h⟩ | ⟨rfl,h⟩
  ·exact .inr ⟨i,v1,e.val,Gh hq hkey m i,h2,h⟩
  ·rcases ih (i+1) h4 h with ⟨g1,g2⟩ | ⟨j,v,x,g1,g2,g3⟩
   ·exact .inl ⟨wm hq hkey g1,g2⟩
   ·exact .inr ⟨j,v,x,wm hq hkey g1,g2,g3⟩
theorem Wd{t:TypeId}{q:KT}(hq:oG P t q){key v:AV}{kv x:Value}(hk:ag E key kv)(ha:wX q kv)(hv:ag E v x){c:Nat}:∀(es:ME) {l:List MapEntry} (i:Nat) {f:ME->Nat->Out},dI E es l->ES es q key v c f=some r ->
 (Finds P t q kv l i none/\∃es',f es' (c+1)=some r/\dI E es' (l++[⟨kv,x,c⟩])) ∨
 ∃j y,Finds P t q kv l i (some (i+j,y))/\(∃e,l[j]? = some e/\Instr.sameBits 10000 e.key kv=true)/\∃es',f es' c=some r/\dI E es' (l.modify j fun e=>{ e with key:=kv,val:=x }):=by
 intro es
 induction es with
 |nil =>
  intro l i f hl h
  simp only[dI]at hl
  subst hl
  exact .inl ⟨Bl hq ha i,_,h,⟨_,[],rfl,hk,hv,rfl,rfl⟩⟩
 |cons k1 v1 n rest ih =>
  intro l i f hl h
  obtain⟨e,m,rfl,h1,h2,h3,h4⟩:=hl
  obtain⟨b,h,hke⟩:=FH hq (show vQ q key k1 (fun b=>iff b (f (.cons key v n rest) c) (ES rest q key v c (fun l' c'=>f (.cons k1 v1 n l') c')))=some r from h) hk h1
  rcases iB h with ⟨rfl,h⟩ | ⟨rfl,h⟩
  ·refine .inr ⟨0,e.val,Gh hq hke m i,⟨e,rfl,Kq hke⟩,_,h,?_⟩
   rw[List.modify_zero_cons]
   exact⟨_,m,rfl,hk,hv,h3,h4⟩
  ·rcases ih (i+1) h4 h with ⟨g1,es',g2,g3⟩ | ⟨j,y,g1,g2,es',g3,g4⟩
   ·refine .inl ⟨wm hq hke g1,_,g2,?_⟩
    exact⟨e,_,rfl,h1,h2,h3,g3⟩
   ·refine .inr ⟨j+1,y,by rw[show i+(j+1)=i+1+j by omega];exact wm hq hke g1,by simpa using g2,_,g3,?_⟩
    rw[List.modify_succ_cons]
    exact⟨e,_,rfl,h1,h2,h3,g4⟩
theorem Tv{t:TypeId}{z:AV}(h:oJ P t=some z):∃v,ag E z v/\(zeroValue t).run P w = .ok v w:=by
 obtain⟨i,v,hi,hv,rfl⟩:=IB h
 exact⟨v,EJ E v,by simp[zeroValue,typeInfo,hi,hv]⟩
theorem Fj{ok b:Bool}{v:AV}{x:Value}(h:ag E v x):ag E (AJ ok v b) (if ok=true then .tuple #[x,.bool b]else x):=by
 cases ok with
 |false=>exact h
 |true =>
  show ag E (.t (.cn v (.cn (.b b) .nl))) (.tuple #[x,.bool b])
  simp only[ag]
  exact⟨[x,.bool b],rfl,by simp only[au,ag];exact⟨x,_,rfl,h,.bool b,[],rfl,rfl,rfl⟩⟩
theorem WQ(hs:aB B E st w)(ht:aU E nt tm a){t kt e:TypeId}{x y:Operand}{ok:Bool}{q:KT}{z:AV}(ho:o.op = .lookup t x y ok)(hu:P.underlying t=some (.map kt e))(hq:oV P kt=some q)(hz:oJ P e=some z)
 (h:En z ok q (co x) (co y) tm st k=some r):Reads P E st w a o k r:=by
 unfold En at h
 have hx:=aT hs ht x
 have hy:=aT hs ht y
 have hq:=qp hq
 obtain⟨h,hsh⟩:=Nc h
 have hag:=Ni hy hsh
 obtain⟨zv,hzv,hzr⟩:=Tv (E:=E) (w:=w) hz
 rcases Cx h with ⟨hm,h⟩ | ⟨b,hm,h⟩
 ·rw[hm]at hx
  simp only[ag]at hx
  refine dW (s:=Instr.lookup t (a.eval x) (a.eval y) ok) (by unfold execOp;rw[ho]) ?_ (Fj hzv) h
  have h1:=run_findKey (P:=P) (w:=w) hq (Bl hq hag 0)
  have h2:=run_checkKey (w:=w) hq true hy hsh
  simp[Instr.lookup,run_underlying hu,hx,h1,h2,hzr]
 ·obtain⟨ob,hob,h⟩:=jM h
  obtain⟨es,cl,rfl,h⟩:=vJ h
  rw[hm]at hx
  obtain⟨l,ar,_,hx,hb,hme⟩:=hs.map hx hob
  have h2:=run_checkKey (w:=w) hq ar.isEmpty hy hsh
  rcases Wn hq hy hag es 0 hme h with ⟨h1,h⟩ | ⟨j,v,xv,h1,hv,h⟩
  ·refine dW (s:=Instr.lookup t (a.eval x) (a.eval y) ok) (by unfold execOp;rw[ho]) ?_ (Fj hzv) h
   have h1:=run_findKey (P:=P) (w:=w) hq h1
   simp[Instr.lookup,run_underlying hu,hx,run_getObj_map hb,h1,h2,hzr]
  ·refine dW (s:=Instr.lookup t (a.eval x) (a.eval y) ok) (by unfold execOp;rw[ho]) ?_ (Fj hv) h
   have h1:=run_findKey (P:=P) (w:=w) hq h1
   simp[Instr.lookup,run_underlying hu,hx,run_getObj_map hb,h1,h2]
def l6(w:World)(g:Nat)(ob:Obj):World:={ w with heap:=w.heap.setIfInBounds g ob }
theorem xQ{g:Nat}(ob:Obj)(h:g<w.heap.size):(l6 w g ob).heap[g]? = some ob:=by
 show(w.heap.setIfInBounds g ob)[g]? = _
 rw[Array.getElem?_setIfInBounds_self,if_pos h]
theorem xR{g j:Nat}(ob:Obj)(h:j≠g):(l6 w g ob).heap[j]? = w.heap[j]?:=by
 show(w.heap.setIfInBounds g ob)[j]? = _
 exact Array.getElem?_setIfInBounds_ne (fun e=>h e.symm)
theorem DL{g:Nat}(ob:Obj)(h:¬ B g):bM B w (l6 w g ob):=⟨rfl,rfl,rfl,by show w.heap.size<=(w.heap.setIfInBounds g ob).size;simp,fun j hj=>xR ob (fun e=>h (e▸hj))⟩
theorem uZ{g:Nat}{x y:Obj}(h:w.heap[g]? = some y)(hy:∀c e f,y ≠ .cells c e f):(setObj g x).run P w = .ok () (l6 w g x):=by
 cases y with
 |cells c e f=>exact absurd rfl (hy c e f)
 |_=>simp[setObj,Sem.run,h,l6]
theorem Tw{s:Sem Unit}{w':World}(he:execOp a.eval o=(do s;pure .skip))(hr:s.run P w = .ok () w'):(execOp a.eval o).run P w = .ok .skip w':=by
 rw[he,Sem.run_bind,hr];rfl
theorem Dc(E:ax)(v:Value)(h:v=undef):ag E (.t .nl) v:=by
 subst h
 simp only[ag];exact⟨[],rfl,by simp only[au]⟩
theorem Mf(hs:aB B E st w)(ht:aU E nt tm a){t kt e:TypeId}{x y v:Operand}{q:KT}(ho:o.op = .mapUpdate t x y v∨o.op = .insert t x y v)(hu:P.underlying t=some (.map kt e))(hq:oV P kt=some q)
 (h:Ef q (co x) (co y) (co v) tm st k=some r):Does P B E w a o k r:=by
 unfold Ef at h
 have hx:=aT hs ht x
 have hy:=aT hs ht y
 have hv:=aT hs ht v
 have hq:=qp hq
 obtain⟨h,hsh⟩:=Nc h
 have hag:=Ni hy hsh
 rcases Cx h with ⟨hm,h⟩ | ⟨b,hm,h⟩
 ·exact aS h
 ·obtain⟨h64,h⟩:=aJ h
  have h64:lowN<=b:=Nat.le_of_ble_eq_true h64
  obtain⟨ob,hob,h⟩:=jM h
  obtain⟨es,cl,rfl,h⟩:=vJ h
  rw[hm]at hx
  obtain⟨l,ar,hl,hx,hb,hme⟩:=hs.map hx hob
  have hlt:=hs.lt hl
  have hown:=hs.own b _ l hlt h64 hob hl
  have hbs:l.blk<w.heap.size:=(Array.getElem?_eq_some_iff.1 hb).1
  have h2:=run_checkKey (w:=w) hq false hy hsh
  have fin:∀(es':ME) (ar':Array MapEntry) (c':Nat),(Instr.mapUpdate t (a.eval x) (a.eval y) (a.eval v)).run P w = .ok () (l6 w l.blk (.map ar' c'))->dI E es' ar'.toList->k (.t .nl) (gz st b (some (.mp es' c')))=some r->Does P B E w a o k r:=by
   intro es' ar' c' hrun hme' hk
   refine⟨.t .nl,undef,l6 w l.blk (.map ar' c'),E,gz st b (some (.mp es' c')),r,.inr ⟨?_,rfl⟩,ax.le_refl E,?_,DL _ hown,Dc E _ rfl,fun _ h=>h,hk⟩
   ·refine Tw ?_ hrun
    unfold execOp
    rcases ho with ho | ho<;>rw[ho]
   ·cases st with
    |mk tr nn=>exact aB.put hs hlt h64 hl hob rfl (fun j hj=>xR _ hj) ⟨ar',xQ _ hbs,hme'⟩
  rcases Wd hq hy hag hv es 0 hme h with ⟨h1,es',h,hme'⟩ | ⟨j,y',h1,⟨e',hj,hke⟩,es',h,hme'⟩
  ·have h1:=run_findKey (P:=P) (w:=w) hq h1
   refine fin es' (ar.push ⟨a.eval y,a.eval v,cl⟩) (cl+1) ?_ (by simpa using hme') h
   simp[Instr.mapUpdate,run_underlying hu,hx,run_getObj_map hb,h1,h2,uZ hb (by simp)]
  ·rw[Nat.zero_add]at h1
   have h1:=run_findKey (P:=P) (w:=w) hq h1
   have hj':ar[j]? = some e':=by rw[<-Array.getElem?_toList];exact hj
   refine fin es' (ar.modify j fun e=>{ e with key:=a.eval y,val:=a.eval v }) cl ?_ (by simpa using hme') h
   have h3:(Instr.keyThatStays e'.key (a.eval y)).run P w = .ok (a.eval y) w:=by
    unfold Instr.keyThatStays
    rw[if_pos hke]
    rfl
   simp[Instr.mapUpdate,run_underlying hu,hx,run_getObj_map hb,h1,h2,hj',h3,uZ hb (by simp)]
theorem aB.newAt{t:T Ob}{n:Nat}(hs:aB B E (.mk t n) w)(hB:dJ B w)(hn:n<5000000){x:Obj}{q:Ob}(hq:dR (E.with n ⟨w.heap.size,0,0,0⟩) false ⟨w.heap.size,0,0,0⟩ (w.alloc x) q) :
 E.le (E.with n ⟨w.heap.size,0,0,0⟩)/\aB B (E.with n ⟨w.heap.size,0,0,0⟩) (.mk (T.set (az n) (some q) t) (Nat.succ n)) (w.alloc x):=by
 have hlt:∀s q l',s<lim->T.get (az s) t=some q->E s=some l'->l'.blk<w.heap.size:=fun s q l' h1 h2 h3=>by
  obtain⟨l2,hl2,ho⟩:=hs.live s q h1 h2
  rw[h3]at hl2
  cases hl2
  exact ho.there
 exact aB.new hs hn hB.out (by show w.heap.size<=(w.heap.push _).size;simp) (fun _ s q l' h1 h2 _ h3=>by have:=hlt s q l' h1 h2 h3;show l'.blk≠w.heap.size;omega) (fun s q l' h1 h2 _ h3=>Below.heap_alloc _ _ _ (hlt s q l' h1 h2 h3)) hq
theorem uF(w:World)(x:Obj):(w.alloc x).heap[w.heap.size]? = some x:=by
 show(w.heap.push x)[w.heap.size]? = _
 simp
theorem TK(hs:aB B E st w)(hB:dJ B w)(ht:aU E nt tm a){t:TypeId}{x:Operand}(ho:o.op = .range t x)(hu:P.underlying t=some .string)(h:D5 (co x) tm st k=some r):Does P B E w a o k r:=by
 unfold D5 at h
 obtain⟨l,hl,h⟩:=mQ h
 have hx:=aT hs ht x
 rw[hl]at hx
 simp only[ag]at hx
 obtain⟨s,hx,hsl⟩:=hx
 obtain⟨tr,nn,rfl,hnn,h⟩:=fP h
 obtain⟨hle,hs'⟩:=aB.newAt hs hB hnn (x:=.stringIter s 0) (q:=.si 0 l) ⟨rfl,s,uF w _,by simpa using hsl⟩
 refine⟨_,.pointer (some ⟨w.heap.size,0,none⟩),_,_,_,_,.inl ?_,hle,hs',(bM.refl B w).alloc hB _,?_,fun _ h=>h,h⟩
 ·unfold execOp
  rw[ho]
  simp[Instr.range,run_underlying hu,hx,newObj,Sem.run]
 ·simp only[ag]
  exact⟨_,ax.jl _ _ _,rfl⟩
theorem TR(hs:aB B E st w)(hB:dJ B w)(ht:aU E nt tm a){t kt e:TypeId}{x:Operand}(ho:o.op = .range t x)(hu:P.underlying t=some (.map kt e))(h:D6 (co x) tm st k=some r):Does P B E w a o k r:=by
 unfold D6 at h
 have hx:=aT hs ht x
 rcases Cx h with ⟨hm,h⟩ | ⟨b,hm,h⟩
 ·rw[hm]at hx
  simp only[ag]at hx
  obtain⟨tr,nn,rfl,hnn,h⟩:=fP h
  obtain⟨hle,hs'⟩:=aB.newAt hs hB hnn (x:=.mapIter none 0 #[] 0) (q:=.vO) ⟨rfl,uF w _⟩
  refine⟨_,.pointer (some ⟨w.heap.size,0,none⟩),_,_,_,_,.inl ?_,hle,hs',(bM.refl B w).alloc hB _,?_,fun _ h=>h,h⟩
  ·unfold execOp
   rw[ho]
   simp[Instr.range,run_underlying hu,hx,newObj,Sem.run]
  ·simp only[ag]
   exact⟨_,ax.jl _ _ _,rfl⟩
 ·obtain⟨ob,hob,h⟩:=jM h
  obtain⟨es,cl,rfl,h⟩:=vJ h
  rw[hm]at hx
  obtain⟨l,ar,hl,hx,hb,hme⟩:=hs.map hx hob
  obtain⟨tr,nn,rfl,hnn,h⟩:=fP h
  have hle':=ax.qo (l:=⟨w.heap.size,0,0,0⟩) (hs.fresh nn (Nat.le_refl nn))
  obtain⟨hle,hs'⟩:=aB.newAt hs hB hnn (x:=.mapIter (some l.blk) cl #[] cl) (q:=.mi b cl [] cl) ⟨rfl,l,hle' b l hl,uF w _⟩
  refine⟨_,.pointer (some ⟨w.heap.size,0,none⟩),_,_,_,_,.inl ?_,hle,hs',(bM.refl B w).alloc hB _,?_,fun _ h=>h,h⟩
  ·unfold execOp
   rw[ho]
   have hg:=run_getObj_map (P:=P) hb
   simp[Instr.range,run_underlying hu,hx,hg,newObj,Sem.run]
  ·simp only[ag]
   exact⟨_,ax.jl _ _ _,rfl⟩
end
end Go.AM
namespace Go.AM
open Go.RowKit
section
variable {P:Program}{κ:Type}[DecidableEq κ]
structure lU(P:Program)(t:TypeId)(enc:κ->Value):Prop where
 ex:∃q,oG P t q/\(∀a,wX q (enc a))/\(∀a b,uJ P t q (decide (a=b)) (enc a) (enc b))/\∀em a w,(Instr.checkKey em 10000 t (enc a)).run P w = .ok () w
def dO(l:List (κ × Value))(k:κ):Option Value:=(l.find? (fun p=>decide (k=p.1))).map (·.2)
def kJ(enc:κ->Value)(l:List (κ × Value))(m:List MapEntry):Prop:=m.map (fun e=>(e.key,e.val))=l.map (fun p=>(enc p.1,p.2))
theorem Gg{t:TypeId}{q:KT}{enc:κ->Value}(hq:oG P t q)(hs:∀a,wX q (enc a))(he:∀a b,uJ P t q (decide (a=b)) (enc a) (enc b))(k:κ):∀(l:List (κ × Value)) (m:List MapEntry) (i:Nat),kJ enc l m ->
 (dO l k=none/\(∀p∈l,k≠p.1)/\Finds P t q (enc k) m i none)∨∃j x e,l[j]? = some (k,x)/\(∀p∈l.take j,k≠p.1)/\m[j]? = some e/\e.key=enc k/\dO l k=some x/\Finds P t q (enc k) m i (some (i+j,x))
 |[],m,i,h=>by
  have:m=[]:=by simpa[kJ]using h
  subst this
  exact .inl ⟨rfl,by simp,Bl hq (hs k) i⟩
 |(a,v)::l,m,i,h=>by
  cases m with
  |nil=>simp[kJ]at h
  |cons e m =>
   have h':(e.key=enc a/\e.val=v)/\kJ enc l m:=by
    simp only[kJ,List.map_cons,List.cons.injEq,Prod.mk.injEq]at h
    exact⟨h.1,h.2⟩
   obtain⟨⟨h1,h2⟩,h3⟩:=h'
   have hk:=he k a
   by_cases hka:k=a
   ·subst hka
    rw[decide_eq_true rfl,<-h1]at hk
    refine .inr ⟨0,v,e,rfl,by simp,rfl,h1,by simp[dO],?_⟩
    rw[<-h2]
    have:=Gh hq hk m i
    rw[h1]at this
    exact this
   ·rw[decide_eq_false hka,<-h1]at hk
    rcases Gg hq hs he k l m (i+1) h3 with ⟨g1,g2,g3⟩ | ⟨j,x,e',g1,g2,g3,g4,g5,g6⟩
    ·refine .inl ⟨?_,?_,?_⟩
     ·simpa[dO,List.find?_cons,hka]using g1
     ·intro p hp
      rcases List.mem_cons.1 hp with rfl | hp
      ·exact hka
      ·exact g2 p hp
     ·rw[h1]at hk
      exact wm hq (by rw[h1];exact hk) g3
    ·refine .inr ⟨j+1,x,e',by simpa using g1,?_,by simpa using g3,g4,?_,?_⟩
     ·intro p hp
      rw[List.take_succ_cons]at hp
      rcases List.mem_cons.1 hp with rfl | hp
      ·exact hka
      ·exact g2 p hp
     ·simpa[dO,List.find?_cons,hka]using g5
     ·rw[show i+(j+1)=i+1+j by omega]
      exact wm hq hk g6
structure bC(w:World)(g:Nat)(enc:κ->Value)(F:κ->Option Value)(n:Nat):Prop where
 ex:∃(l:List (κ × Value)) (ar:Array MapEntry) (c:Nat),w.heap[g]? = some (.map ar c)/\kJ enc l ar.toList/\(l.map (·.1)).Nodup/\(∀k,F k=dO l k)/\l.length<=n/\(ar.toList.map (·.born)).Nodup/\∀e∈ar.toList,e.born<c
theorem bC.made{w:World}{g:Nat}{enc:κ->Value}(h:w.heap[g]? = some (.map #[] 0)):bC w g enc (fun _=>none) 0 :=
 ⟨[],#[],0,h,rfl,List.nodup_nil,fun _=>rfl,Nat.le_refl _,List.nodup_nil,by simp⟩
theorem bC.new(w:World)(enc:κ->Value):bC (w.alloc (.map #[] 0)) w.heap.size enc (fun _=>none) 0:=bC.made (uF w _)
theorem bC.lt{w:World}{g:Nat}{enc:κ->Value}{F:κ->Option Value}{n:Nat}(h:bC w g enc F n):g<w.heap.size:=by
 obtain⟨l,ar,c,h1,_⟩:=h.ex
 exact(Array.getElem?_eq_some_iff.1 h1).1
theorem bC.at{w w':World}{g:Nat}{enc:κ->Value}{F:κ->Option Value}{n:Nat}(h:bC w g enc F n)(e:w'.heap[g]? = w.heap[g]?):bC w' g enc F n:=by
 obtain⟨l,ar,c,h1,h2⟩:=h.ex
 exact⟨l,ar,c,by rw[e,h1],h2⟩
theorem bC.below{w w':World}{g:Nat}{enc:κ->Value}{F:κ->Option Value}{n:Nat}(h:bC w g enc F n)(hb:Below w.heap.size w w'):bC w' g enc F n:=h.at (hb.block g h.lt)
theorem bC.grown{w w':World}{g:Nat}{enc:κ->Value}{F:κ->Option Value}{n:Nat}{row:Option Nat}(h:bC w g enc F n)(hg:w.grownBy w' row)(hne:some g≠row):bC w' g enc F n:=h.at (hg.block g h.lt hne)
theorem bC.lookup{w:World}{g:Nat}{enc:κ->Value}{F:κ->Option Value}{n:Nat}(h:bC w g enc F n){t kt e:TypeId}(K:lU P kt enc)(hu:P.underlying t=some (.map kt e)){z:Value}(hz:(zeroValue e).run P w = .ok z w)(k:κ)(ok:Bool) :
 (Instr.lookup t (.map (some g)) (enc k) ok).run P w = .ok (if ok=true then .tuple #[(F k).getD z,.bool (F k).isSome]else(F k).getD z) w:=by
 obtain⟨l,ar,c,hb,hm,_,hF,_⟩:=h.ex
 obtain⟨q,hq,hs,he,hc⟩:=K.ex
 have h2:=hc ar.isEmpty k w
 rw[hF k]
 rcases Gg hq hs he k l ar.toList 0 hm with ⟨g1,_,g3⟩ | ⟨j,x,e',_,_,_,_,g5,g6⟩
 ·have h1:=run_findKey (P:=P) (w:=w) hq g3
  rw[g1]
  simp[Instr.lookup,run_underlying hu,run_getObj_map hb,h1,h2,hz]
 ·have h1:=run_findKey (P:=P) (w:=w) hq g6
  rw[g5]
  simp[Instr.lookup,run_underlying hu,run_getObj_map hb,h1,h2]
theorem sameBits_self{t:TypeId}{q:KT}{enc:κ->Value}(he:∀a b,uJ P t q (decide (a=b)) (enc a) (enc b))(k:κ):Instr.sameBits 10000 (enc k) (enc k)=true:=by
 have:=he k k
 rw[decide_eq_true rfl]at this
 exact Kq this
theorem WO(l:List (κ × Value))(k k':κ)(v:Value)(h:∀p∈l,k≠p.1):dO (l++[(k,v)]) k' = if k' = k then some v else dO l k':=by
 unfold dO
 rw[List.find?_append]
 by_cases e:k' = k
 ·subst e
  have:l.find? (fun p=>decide (k' = p.1))=none:=by
   rw[List.find?_eq_none]
   intro p hp
   simpa using h p hp
  rw[this]
  simp
 ·rw[if_neg e]
  cases l.find? (fun p=>decide (k' = p.1))<;>simp[e]
theorem MI:∀(l:List (κ × Value)) (j:Nat) (k k':κ) (v x:Value),l[j]? = some (k,x)->(∀p∈l.take j,k≠p.1)->dO (l.set j (k,v)) k' = if k' = k then some v else dO l k'
 |[],j,k,k',v,x,h,_=>by simp at h
 |(a,y)::l,0,k,k',v,x,h,_=>by
  simp only[List.getElem?_cons_zero,Option.some.injEq,Prod.mk.injEq]at h
  obtain⟨rfl,rfl⟩:=h
  by_cases e:k' = a
  ·subst e;simp[dO]
  ·simp[dO,e]
 |(a,y)::l,j+1,k,k',v,x,h,hp=>by
  have ih:=MI l j k k' v x (by simpa using h) (fun p hq=>hp p (by rw[List.take_succ_cons];exact List.mem_cons_of_mem _ hq))
  have hka:k≠a:=hp (a,y) (by rw[List.take_succ_cons];exact List.mem_cons_self ..)
  rw[List.set_cons_succ]
  by_cases e:k' = a
  ·have:¬ k' = k:=fun h=>hka (by rw[<-h,e])
   simp[dO,e,Ne.symm hka]
  ·simpa[dO,List.find?_cons,e]using ih
theorem bC.update{w:World}{g:Nat}{enc:κ->Value}{F:κ->Option Value}{n:Nat}(h:bC w g enc F n){t kt e:TypeId}(K:lU P kt enc)(hu:P.underlying t=some (.map kt e))(k:κ)(v:Value) :
 ∃ar c,(Instr.mapUpdate t (.map (some g)) (enc k) v).run P w = .ok () (l6 w g (.map ar c))/\bC (l6 w g (.map ar c)) g enc (fun k'=>if k' = k then some v else F k') (n+1):=by
 have hlt:=h.lt
 obtain⟨l,ar,c,hb,hm,hn,hF,hl,hbn,hbc⟩:=h.ex
 obtain⟨q,hq,hs,he,hc⟩:=K.ex
 have h2:=hc false k w
 rcases Gg hq hs he k l ar.toList 0 hm with ⟨g1,g2,g3⟩ | ⟨j,x,e',g1,g2,g3,g4,g5,g6⟩
 ·have h1:=run_findKey (P:=P) (w:=w) hq g3
  refine⟨ar.push ⟨enc k,v,c⟩,c+1,?_,l++[(k,v)],_,_,xQ _ hlt,?_,?_,?_,by simp;omega,?_,?_⟩
  ·simp[Instr.mapUpdate,run_underlying hu,run_getObj_map hb,h1,h2,uZ hb (by simp)]
  ·simp only[kJ,Array.toList_push,List.map_append]at hm ⊢
   rw[hm];rfl
  ·rw[List.map_append,List.nodup_append]
   refine⟨hn,by simp,?_⟩
   intro a ha b hb' hab
   obtain⟨p,hp,rfl⟩:=List.mem_map.1 ha
   simp only[List.map_cons,List.map_nil,List.mem_singleton]at hb'
   exact g2 p hp (by rw[<-hb',hab])
  ·intro k'
   rw[WO l k k' v g2,hF k']
  ·rw[Array.toList_push,List.map_append,List.nodup_append]
   refine⟨hbn,by simp,?_⟩
   intro a ha b hb' hab
   obtain⟨p,hp,rfl⟩:=List.mem_map.1 ha
   simp only[List.map_cons,List.map_nil,List.mem_singleton]at hb'
   have:=hbc p hp
   omega
  ·intro p hp
   rw[Array.toList_push]at hp
   rcases List.mem_append.1 hp with hp | hp
   ·have:=hbc p hp;omega
   ·simp only[List.mem_singleton]at hp;subst hp;exact Nat.lt_succ_self _
 ·rw[Nat.zero_add]at g6
  have h1:=run_findKey (P:=P) (w:=w) hq g6
  have hj':ar[j]? = some e':=by rw[<-Array.getElem?_toList];exact g3
  have hjl:j<l.length:=(List.getElem?_eq_some_iff.1 g1).1
  have h3:(Instr.keyThatStays e'.key (enc k)).run P w = .ok (enc k) w:=by
   unfold Instr.keyThatStays
   rw[if_pos (by rw[g4];exact sameBits_self he k)]
   rfl
  refine⟨ar.modify j fun e=>{ e with key:=enc k,val:=v },c,?_,l.set j (k,v),_,_,xQ _ hlt,?_,?_,?_,by rw[List.length_set];omega,?_,?_⟩
  ·simp[Instr.mapUpdate,run_underlying hu,run_getObj_map hb,h1,h2,hj',h3,uZ hb (by simp)]
  ·simp only[kJ]at hm ⊢
   apply List.ext_getElem?
   intro i
   have hi:=congrArg (·[i]?) hm
   simp only[List.getElem?_map,Array.toList_modify,List.getElem?_modify,List.getElem?_set]at hi ⊢
   by_cases hij:j=i
   ·subst hij
    rw[g3] 
    simp[hjl]
   ·simp only[hij,if_false]
    simpa using hi
  ·have:(l.set j (k,v)).map (·.1)=l.map (·.1):=by
    apply List.ext_getElem?
    intro i
    simp only[List.getElem?_map,List.getElem?_set]
    by_cases hij:j=i
    ·subst hij
     rw[g1]
     simp[hjl]
    ·simp[hij]
   rw[this];exact hn
  ·intro k'
   rw[MI l j k k' v x g1 g2,hF k']
  ·have:(ar.modify j fun e=>{ e with key:=enc k,val:=v }).toList.map (·.born)=ar.toList.map (·.born):=by
    apply List.ext_getElem?
    intro i
    simp only[List.getElem?_map,Array.toList_modify,List.getElem?_modify]
    by_cases hij:j=i
    ·subst hij;rw[g3];simp
    ·simp[hij]
   rw[this];exact hbn
  ·intro p hp
   rw[Array.toList_modify]at hp
   obtain⟨i,hi⟩:=List.getElem?_of_mem hp
   rw[List.getElem?_modify]at hi
   cases hai:ar.toList[i]? with
   |none=>rw[hai]at hi;simp at hi
   |some y =>
    rw[hai]at hi
    have hy:=hbc y (List.mem_of_getElem? hai)
    by_cases hij:j=i
    ·simp[hij]at hi;subst hi;exact hy
    ·simp[hij]at hi;subst hi;exact hy
end
end Go.AM
