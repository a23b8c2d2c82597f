/-
  Plain: what a unit that is accepted gives to constraint.Of.
-/
import Derived.Test.YtjnbddedmbhiaaaGreatDoorPk38
import Derived.Test.YtjnbddedmbhiaaaGreatDoorPk39
import Derived.Test.YtjnbddedmbhiaaaGreatDoorPk48
namespace Go.Proofs.YtjnbddedmbhiaaaGreatDoor
open Go.RowKit Go.ak Go.AM

theorem Rb{h:List ae}{p q r:Int}(k:Up h p q)(l:Up h q r):Up h p r:=by
 induction k with
 |refl _=>exact l
 |step h0 _ ih=>exact .step h0 (ih l)
theorem Rc{h:List ae}{i p q:Int}(k:Up h i p)(l:Up h i q):Up h p q∨Up h q p:=by
 induction k with
 |refl _=>exact .inl l
 |step h0 k ih =>
  cases l with
  |refl _=>exact .inr (.step h0 k)
  |step _ l=>exact ih l
theorem Fe{h:List ae}{i:Int}(k:cu h i){t x:Str}{g:aH}(e:dN h (nameAt h i) t=some (x,g)):∃(j:Nat) (hj:j<h.length),Up h i (j:Int)/\cu h (j:Int)/\x=h[j].name/\g∈h[j].methods/\g.name=t/\fE h[j].methods t=some g:=by
 obtain⟨h1,c,_,_,h3,h4,h5,h6⟩:=Fh e
 rw[<-GU k]at h1
 obtain⟨y,hy,rfl⟩:=List.mem_map.1 h1
 have hf:=Ce (fun _=>k) y hy
 have hu:=(Cb (.inr k.nat) y).1 hy
 obtain⟨j,hj,rfl,hn⟩:=hf
 rw[jP hj,Gj hj hn]at h3
 cases h3
 exact⟨j,hj,hu,⟨j,hj,rfl,hn⟩,jP hj,h4,rO.1 h5,h6⟩
theorem NV{h:List ae}:∀(l:List ae) (i:Nat),(nS h l i).2=0->∀j (hj:j<l.length),lD h (i+j) l[j]=0
 |[],_,_,_,hj=>absurd hj (by simp)
 |x::l,i,e,j,hj=>by
  by_cases h0:lD h i x=0
  ·have e1:nS h (x::l) i=nS h l (i+1):=if_pos h0
   rw[e1]at e
   cases j with
   |zero=>exact h0
   |succ j =>
    have:=NV l (i+1) e j (by simpa using hj)
    rw[show i+(j+1)=i+1+j by omega];exact this
  ·have e1:nS h (x::l) i=((i:Int),lD h i x):=if_neg h0
   rw[e1]at e
   exact absurd e h0
theorem Mg{h:List ae}{up:List Int}{x:ae}:∀(l:List aH) (k:Nat),l8 h up x l k=0->∀j (hj:j<l.length),jZ h up x (k+j) l[j]=0
 |[],_,_,_,hj=>absurd hj (by simp)
 |m::l,k,e,j,hj=>by
  by_cases h0:jZ h up x k m=0
  ·have e1:l8 h up x (m::l) k=l8 h up x l (k+1):=if_pos h0
   rw[e1]at e
   cases j with
   |zero=>exact h0
   |succ j =>
    have:=Mg l (k+1) e j (by simpa using hj)
    rw[show k+(j+1)=k+1+j by omega];exact this
  ·have e1:l8 h up x (m::l) k=jZ h up x k m:=if_neg h0
   rw[e1]at e
   exact absurd e h0
def CQ(h:List ae):Prop:=∀j (hj:j<h.length),cu h (j:Int)/\∀k (hk:k<h[j].methods.length),(k:Int)<=dX h[j].methods h[j].methods[k].name/\iK h h[j].methods[k] (gu h j)=false
theorem Wt{h:List ae}{up:List Int}{x:ae}{k:Nat}{m:aH}(e:jZ h up x k m=0):(k:Int)<=dX x.methods m.name/\iK h m up=false:=by
 unfold jZ at e
 split at e
 ·split at e
  ·omega
  ·split at e
   ·omega
   ·refine⟨by omega,?_⟩
    unfold vN at e
    cases hu:iK h m up with
    |false=>rfl
    |true =>
     exfalso
     rw[hu]at e
     simp only[if_true]at e
     split at e
     ·split at e
      ·omega
      ·split at e<;>omega
     ·omega
 ·omega
theorem Yy{h:List ae}(e:(jQ h).2=0):CQ h:=by
 intro j hj
 unfold jQ at e
 split at e
 ·simp at e
 have e1:=NV h 0 e j hj
 rw[Nat.zero_add]at e1
 unfold lD at e1
 split at e1
 case isFalse=>omega
 split at e1
 case isFalse=>omega
 rename_i hf
 have ce:rV h j h[j]=0:=by
  split at e1
  ·exact e1
  ·split at e1
   ·omega
   ·exact e1
 refine⟨⟨j,hj,rfl,hf⟩,?_⟩
 unfold rV at ce
 split at ce
 ·omega
 split at ce
 ·omega
 split at ce
 ·omega
 unfold BP at ce
 split at ce
 case isFalse h9=>exact absurd ce h9
 intro k hk
 have:=Mg _ 0 ce k hk
 rw[Nat.zero_add]at this
 exact Wt this
theorem Mm{m:aH}:∀{l:List aH},iq m l=false->∀o∈l,o.name=m.name->nI m o=true
 |[],_,_,ho,_=>absurd ho (by simp)
 |x::l,e,o,ho,hn=>by
  have e1:iq m (x::l)=if (x.name.toList==m.name.toList)=true then(if nI m x=true then iq m l else true)else iq m l:=rfl
  rw[e1]at e
  rcases List.mem_cons.1 ho with rfl | ho
  ·rw[hn]at e
   simp only[beq_self_eq_true,if_true]at e
   cases hv:nI m o with
   |true=>rfl
   |false=>rw[hv]at e;simp at e
  ·refine Mm ?_ o ho hn
   split at e
   ·split at e
    ·exact e
    ·cases e
   ·exact e
theorem Ml{h:List ae}{m:aH}:∀{l:List Int},iK h m l=false->∀y∈l,iq m (tH h y)=false
 |[],_,_,hy=>absurd hy (by simp)
 |x::l,e,y,hy=>by
  have e1:iK h m (x::l)=if iq m (tH h x)=true then true else iK h m l:=rfl
  rw[e1]at e
  cases hv:iq m (tH h x)with
  |true=>rw[hv]at e;simp at e
  |false =>
   rw[hv]at e
   rcases List.mem_cons.1 hy with rfl | hy
   ·exact hv
   ·exact Ml (by simpa using e) y hy
theorem UN{m o:aH}(e:nI m o=true):m.stat=false/\o.stat=false/\m.params=o.params:=by
 unfold nI at e
 cases h1:m.stat with
 |true=>rw[h1]at e;simp at e
 |false =>
  cases h2:o.stat with
  |true=>rw[h1,h2]at e;simp at e
  |false =>
   rw[h1,h2]at e
   simp only[Bool.false_eq_true,if_false]at e
   split at e
   ·exact⟨rfl,rfl,by simpa using e⟩
   ·cases e
theorem Le{h:List ae}(ok:CQ h){p q:Nat}(hp:p<h.length)(hq:q<h.length)(u:Up h (p:Int) (q:Int))(hne:q≠p){g o:aH}(hg:g∈h[p].methods)(ho:o∈h[q].methods)(hn:o.name=g.name):g.stat=false/\o.stat=false/\g.params=o.params:=by
 obtain⟨kp,hk⟩:=ok p hp
 obtain⟨k,hkl,rfl⟩:=List.getElem_of_mem hg
 have h1:=(hk k hkl).2
 have h2:(q:Int)∈gu h p:=by
  have h3:=(Cb (.inr kp.nat) (q:Int)).2 u
  rw[Cc]at h3
  rcases List.mem_cons.1 h3 with h4 | h4
  ·exact absurd (by omega) hne
  ·exact h4
 have h3:=Ml h1 _ h2
 rw[Mh hq]at h3
 exact UN (Mm h3 o ho hn)
theorem WJ{h:List ae}(ok:CQ h){i r:Int}(ki:cu h i)(ur:Up h i r){t y x:Str}{g g':aH}(e:dN h (nameAt h r) t=some (y,g))(e':dN h (nameAt h i) t=some (x,g')):g'.params=g.params/\(g.stat=false->g'.stat=false):=by
 obtain⟨q,hq,uq,kq,-,gq,nq,sq⟩:=Fe (ur.mem ki) e
 obtain⟨p,hp,up,kp,-,gp,np,sp⟩:=Fe ki e'
 by_cases hpq:p=q
 ·subst hpq
  rw[sq]at sp
  cases sp
  exact⟨rfl,id⟩
 rcases Rc up (Rb ur uq)with u | u
 ·obtain⟨a,b,c⟩:=Le ok hp hq u (Ne.symm hpq) gp gq (by rw[nq,np])
  exact⟨c,fun _=>a⟩
 ·obtain⟨a,b,c⟩:=Le ok hq hp u hpq gq gp (by rw[nq,np])
  exact⟨c.symm,fun _=>b⟩
theorem Oi{s t:Str}:∀(l:List aA) (k n:Nat),ko s t l k=(n:Int)->∃(j:Nat) (hj:j<l.length),n=k+j/\ja s t l[j]=true
 |[],k,n,e=>by
  have:(-1:Int)=(n:Int):=e
  omega
 |x::l,k,n,e=>by
  have e1:ko s t (x::l) k=if ja s t x=true then(k:Int)else ko s t l (k+1):=rfl
  rw[e1]at e
  by_cases hx:ja s t x=true
  ·rw[if_pos hx]at e
   exact⟨0,by simp,by omega,hx⟩
  ·rw[if_neg hx]at e
   obtain⟨j,hj,h1,h2⟩:=Oi l (k+1) n e
   exact⟨j+1,by simpa using hj,by omega,h2⟩
theorem Oe{u:aQ}{s t:Str}{g:Nat}(hg:g<u.fs.length)(e:dM u.fs s t=(g:Int)):u.fs[g].cls=s/\u.fs[g].name=t:=by
 obtain⟨j,hj,h1,h2⟩:=Oi u.fs 0 g e
 obtain rfl:g=j:=by omega
 unfold ja at h2
 simp only[Bool.and_eq_true]at h2
 exact⟨toList_inj (by simpa using h2.1),toList_inj (by simpa using h2.2)⟩
theorem ET{t:Str}:∀(l:List aH) (k j:Nat) (hj:j<l.length),l[j].name=t->iX t l k<=((k+j:Nat):Int)
 |x::l,k,j,hj,hn=>by
  have e1:iX t (x::l) k=if (x.name.toList==t.toList)=true then(k:Int)else iX t l (k+1):=rfl
  rw[e1]
  split
  ·omega
  ·rename_i hx
   cases j with
   |zero =>
    simp only[List.getElem_cons_zero]at hn
    rw[hn]at hx
    simp at hx
   |succ j =>
    have:=ET l (k+1) j (by simpa using hj) (by simpa using hn)
    omega
theorem Lp{h:List ae}(ok:CQ h){x y:ae}(hx:x∈h)(hy:y∈h)(hn:x.name=y.name){m g:aH}(hm:m∈x.methods)(hg:g∈y.methods)(hmn:m.name=g.name):m=g:=by
 obtain⟨i,hi,rfl⟩:=List.getElem_of_mem hx
 obtain⟨j,hj,rfl⟩:=List.getElem_of_mem hy
 have hij:i=j:=by
  obtain⟨_,_,e1,f1⟩:=(ok i hi).1
  obtain⟨_,_,e2,f2⟩:=(ok j hj).1
  obtain rfl:=Int.ofNat.inj e1
  obtain rfl:=Int.ofNat.inj e2
  rw[hn,f2]at f1
  exact(Int.ofNat.inj f1).symm
 subst hij
 obtain⟨k,hk,rfl⟩:=List.getElem_of_mem hm
 obtain⟨k2,hk2,rfl⟩:=List.getElem_of_mem hg
 have h1:=((ok i hi).2 k hk).1
 have h2:=((ok i hi).2 k2 hk2).1
 have h3:=ET h[i].methods 0 k2 hk2 hmn.symm
 have h4:=ET h[i].methods 0 k hk hmn
 have h5:dX h[i].methods h[i].methods[k].name=iX h[i].methods[k].name h[i].methods 0:=rfl
 have h6:dX h[i].methods h[i].methods[k2].name=iX h[i].methods[k2].name h[i].methods 0:=rfl
 rw[h5]at h1
 rw[h6]at h2
 obtain rfl:k=k2:=by omega
 rfl
theorem Vl{f:aA}{x:Ins}(e:jI f x=true):x.aZ = -1∨(0<=x.aZ/\x.aZ<f.code.length):=by
 have ho:vF f x=true:=by
  unfold jI at e
  split at e
  ·cases e
  split at e
  ·cases e
  split at e
  ·cases e
  split at e
  ·split at e
   ·cases e
   ·exact e
  ·cases e
 unfold vF at ho
 split at ho
 ·rename_i h;exact .inl (by simpa using h)
 ·unfold gG at ho
  simp only[Bool.and_eq_true,decide_eq_true_eq]at ho
  exact .inr ⟨ho.1.1,ho.1.2⟩
theorem FU{h:List ae}{f:aA}{j:Nat}{x:Ins}(e:iA h f j x=0):jI f x=true/\lX x=true:=by
 unfold iA at e
 cases h1:tT x with
 |true=>rw[h1]at e;cases e
 |false =>
  cases h2:lX x with
  |false=>rw[h1,h2]at e;cases e
  |true =>
   cases h3:jI f x with
   |false=>rw[h1,h2,h3]at e;cases e
   |true=>exact⟨rfl,rfl⟩
theorem Ub{f:aA}{x:Ins}(hr:lN f x)(hz:lX x=true)(hv:f.vars.length<=1000000):(-1<=x.dst/\x.dst<=1000000)/\(-1<=x.a/\x.a<=1000000)/\(-1<=x.b/\x.b<=1000000):=by
 have u:=Jq x.op
 unfold lX at hz
 simp only[Bool.and_eq_true]at hz
 obtain⟨⟨⟨⟨⟨⟨⟨hd,ha⟩,hb⟩,-⟩,-⟩,-⟩,-⟩,-⟩:=hz
 refine⟨?_,?_,?_⟩
 ·cases h1:aW x.op 100 with
  |true =>
   rw[u.1]at h1
   rcases hr.d h1 with h2 | h2<;>omega
  |false =>
   rw[h1]at hd
   have:x.dst=0:=by simpa using hd
   omega
 ·cases h1:aW x.op 97 with
  |true =>
   rw[u.2.1]at h1
   rcases hr.a h1 with h2 | h2<;>omega
  |false =>
   rw[h1]at ha
   have:x.a=0:=by simpa using ha
   omega
 ·cases h1:aW x.op 98 with
  |true =>
   rw[u.2.2.1]at h1
   have:=hr.b h1
   omega
  |false =>
   rw[h1]at hb
   have:x.b=0:=by simpa using hb
   omega
theorem YT{u:aQ}(c:CU u){f:aA}(hf:f∈u.fs):∃x∈u.h,∃m∈x.methods,zD u.h x.name m f:=by
 obtain⟨g,hg,rfl⟩:=List.getElem_of_mem hf
 exact c.fn hg
theorem Qg{h:List ae}{f:aA}{x:Ins}{g:aH}(e:lI h f x g=0):x.args.length=g.params.length:=by
 unfold lI at e
 split at e
 ·rename_i h1;exact h1
 ·omega
theorem K5{u:aQ}(hb:mW u 150)(hc:(iD u).2.2=0):Pre u:=by
 have c:=y0u hc
 have hz:(jQ u.h).2=0:=by
  have:=c.ue
  unfold jF at this
  split at this
  ·rename_i h1;exact h1
  ·rename_i h1;exact absurd this h1
 have ok:=Yy hz
 have ins:∀f∈u.fs,∀x∈f.code,∃j,iA u.h f j x=0:=fun f hf x hx=>by
  obtain⟨_,_,_,_,k⟩:=YT c hf
  obtain⟨j,hj,rfl⟩:=List.getElem_of_mem hx
  exact⟨j,k.i j hj⟩
 refine⟨fun D du dl db=>?_,fun f i g hf hi hg hacc=>?_⟩
 ·have hv:∀f∈u.fs,f.vars.length<=1000:=fun f hf=>by have:=(hb.f f hf).v;omega
  refine⟨by rw[du];exact OB hb (by omega),?_,by rw[db,du,Cv],fun f hf=>?_,by rw[du];have:=hb.nf;omega,by rw[du];exact fun f hf=>by have:=hv f hf;omega,by rw[du];exact fun f hf=>by have:=(hb.f f hf).c;omega,by rw[du];exact fun f hf x hx=>by have:=(hb.f f hf).a x hx;omega,?_,?_,?_⟩
  ·rw[dl]
   have h1:=zW (fs:=u.fs) (Nat.le_refl u.fs.length)
   rw[List.take_length]at h1
   have h2:=hb.t
   show(iV u.fs u.fs.length).length<=_
   omega
  ·have hfl:f<u.fs.length:=by rw[db,Cv]at hf;exact hf
   have e:D.bs[f]=((gy u.fs f:Nat):Int):=by simp[db,iE]
   rw[e]
   have h1:=Cu hv (k:=f) (by omega)
   have h2:=hb.nf
   omega
  ·rw[du]
   intro f hf x hx
   obtain⟨j,e⟩:=ins f hf x hx
   obtain⟨e1,e2⟩:=FU e
   exact Ub (Ag e1) e2 (by have:=hv f hf;omega)
  ·rw[du]
   intro f hf x hx
   obtain⟨j,e⟩:=ins f hf x hx
   exact Vl (FU e).1
  ·rw[du]
   intro f hf x hx
   obtain⟨j,e⟩:=ins f hf x hx
   exact Ag (FU e).1
 ·obtain⟨f',i',g',hf',hi',hg',e,hcase⟩:=hacc
  simp only[bA.mk.injEq]at e
  obtain⟨e1,e2,e3⟩:=e
  obtain rfl:=Int.ofNat.inj e1
  obtain rfl:=Int.ofNat.inj e2
  obtain rfl:=Int.ofNat.inj e3
  obtain⟨j,hie⟩:=ins _ (List.getElem_mem hf) _ (List.getElem_mem hi)
  have hin:=(X0 hie).e
  obtain⟨x1,hx1,m,hm,k⟩:=c.fn hg
  have bel:=y1F (YK k.e).b
  have hl:=bel.l
  rw[List.length_append]at hl
  generalize u.fs[f].code[i]=x at *
  rcases hcase with ⟨h10,hfn⟩ | ⟨h9,s,hts,hfn⟩
  ·refine⟨.inl h10,?_⟩
   rw[h10]
   obtain⟨n1,n2⟩:=Oe hg hfn
   have e5:bY u.h u.fs[f] x=sK u.h u.fs[f] x:=by simp[bY,h10]
   rw[e5]at hin
   unfold sK at hin
   cases hq:qP u.h x with
   |none=>rw[hq]at hin;simp at hin
   |some g0 =>
    rw[hq]at hin
    have hal:=Qg hin
    unfold qP at hq
    cases hfc:dE u.h x.cls with
    |none=>rw[hfc]at hq;simp at hq
    |some c0 =>
     rw[hfc]at hq
     simp only at hq
     cases hsg:fE c0.methods x.name with
     |none=>rw[hsg]at hq;simp at hq
     |some g1 =>
      rw[hsg]at hq
      simp only at hq
      split at hq
      case isFalse=>cases hq
      cases hq
      have hc0:c0∈u.h:=List.mem_of_find?_eq_some hfc
      have hcn:c0.name=x.cls:=by have h9:=List.find?_some hfc;exact rO.1 h9
      have hg1:g0∈c0.methods:=List.mem_of_find?_eq_some hsg
      have hgn:g0.name=x.name:=by have h9:=List.find?_some hsg;exact rO.1 h9
      have:=Lp ok hx1 hc0 (by rw[hcn,<-n1,bel.c]) hm hg1 (by rw[hgn,<-n2,bel.n])
      subst this
      simp
      omega
  ·refine⟨.inr h9,?_⟩
   rw[h9]
   obtain⟨n1,n2⟩:=Oe hg hfn.symm
   have e5:bY u.h u.fs[f] x=uB u.h u.fs[f] x:=by simp[bY,h9]
   rw[e5]at hin
   unfold uB at hin
   split at hin
   case isFalse=>omega
   split at hin
   case isFalse=>omega
   unfold xy at hin
   cases hlk:dN u.h x.cls x.name with
   |none=>rw[hlk]at hin;simp at hin
   |some p =>
    obtain⟨y,g0⟩:=p
    rw[hlk]at hin
    simp only at hin
    split at hin
    ·omega
    rename_i hst
    have hal:=Qg hin
    obtain⟨s0,⟨d,hd,hdn,hi0⟩,g2,hl2⟩:=hts
    subst hdn
    obtain⟨jj,hjj,rfl⟩:=List.getElem_of_mem hd
    have kj:=(ok jj hjj).1
    rw[<-jP hjj]at hi0 hl2
    have ur:=(FI kj _).1 hi0
    have hr:=(ur.mem kj).ge
    rw[<-Gi hr]at hlk
    obtain⟨hpar,hsta⟩:=WJ ok kj ur hlk hl2
    obtain⟨p,hp,-,-,hsn,gp,np,-⟩:=Fe kj hl2
    have:=Lp ok hx1 (List.getElem_mem hp) (by rw[<-hsn,<-n1,bel.c]) hm gp (by rw[np,<-n2,bel.n])
    subst this
    have hms:m.stat=false:=hsta (by simpa using hst)
    have hpl:(fO x1.name m).length=1:=by unfold fO;rw[hms];rfl
    simp only[if_true]
    rw[hal,<-hpar]
    omega
end Go.Proofs.YtjnbddedmbhiaaaGreatDoor
namespace Go.Proofs.YtjnbddedmbhiaaaGreatDoor
open Go.RowKit Go.ak Go.AM Go.Sort

theorem zS{α:Type}{r:α->α->Prop}(irr:∀a,¬ r a a)(tr:∀a b c,r a b->r b c->r a c):∀{C Q:List α},Q.Pairwise r->C.Pairwise r->(∀x∈Q,x∈C)->Q.Sublist C
 |[],[],_,_,_=>.slnil
 |[],q::Q,_,_,h=>absurd (h q (by simp)) (by simp)
 |c::C,[],_,_,_=>List.nil_sublist _
 |c::C,q::Q,hq,hc,h=>by
  have hq':=List.pairwise_cons.1 hq
  have hc':=List.pairwise_cons.1 hc
  rcases List.mem_cons.1 (h q (by simp))with e | hin
  ·subst e
   refine .cons_cons _ (zS irr tr hq'.2 hc'.2 fun x hx=>?_)
   rcases List.mem_cons.1 (h x (List.mem_cons_of_mem _ hx))with e | h2
   ·subst e;exact absurd (hq'.1 _ hx) (irr _)
   ·exact h2
  ·refine .cons _ (zS irr tr hq hc'.2 fun x hx=>?_)
   have h1:=hc'.1 q hin
   rcases List.mem_cons.1 (h x hx)with e | h2
   ·exfalso
    subst e
    rcases List.mem_cons.1 hx with e2 | h3
    ·subst e2;exact irr _ h1
    ·exact irr _ (tr _ _ _ h1 (hq'.1 _ h3))
   ·exact h2
theorem AB{κ:Type}[DecidableEq κ]{l:List (κ × Value)}{k:κ}:(∃v,dO l k=some v)↔k∈l.map (·.1):=by
 unfold dO
 constructor
 ·rintro⟨v,h⟩
  obtain⟨p,hp,-⟩:=Option.map_eq_some_iff.1 h
  have h1:=List.find?_some hp
  have h2:k=p.1:=by simpa using h1
  exact List.mem_map.2 ⟨p,List.mem_of_find?_eq_some hp,h2.symm⟩
 ·intro h
  obtain⟨p,hp,rfl⟩:=List.mem_map.1 h
  cases hf:l.find? (fun q=>decide (p.1=q.1))with
  |none =>
   have:=List.find?_eq_none.1 hf p hp
   simp at this
  |some q=>exact⟨q.2,rfl⟩
theorem WL{κ:Type}[DecidableEq κ]{l m:List (κ × Value)}(hl:(l.map (·.1)).Nodup)(hm:(m.map (·.1)).Nodup)(h:∀k,dO l k=dO m k):l.length=m.length:=by
 have h1:=yt hl (m:=m.map (·.1)) fun k hk=>by
  rw[<-AB,<-h k];exact AB.2 hk
 have h2:=yt hm (m:=l.map (·.1)) fun k hk=>by
  rw[<-AB,h k];exact AB.2 hk
 simp only[List.length_map]at h1 h2
 omega
theorem XZ{u:aQ}{funcs:List Int}{n:Nat}:∀p∈cO u (funcs.drop n),p∈cO u funcs:=fun p hp=>by
 unfold cO at *
 obtain⟨f,hf,h⟩:=List.mem_flatMap.1 hp
 exact List.mem_flatMap.2 ⟨f,List.mem_of_mem_drop hf,h⟩
theorem UG{u:aQ}{funcs:List Int}{n:Nat}{C:List Cn}{nv nf:Int}(hz:(iD u).2.2=0)(ho:kM u.fs.length funcs)(hs:(bL u).length<=1024)(hl:C.length<=32768)(hnv:nv=(gy u.fs u.fs.length:Nat))
 (hnf:∃l:List (Str × Value),(l.map (·.1)).Nodup/\(∀k,fQ (jR (dH (cZ (eB u.h))) (dH (cZ (eB u.h))).length) k=dO l k)/\nf=l.length)
 (hp:(C.map Cn.p).Pairwise nM) (hin:∀p∈cO u funcs,p∈C.map Cn.p) {w:World} {e:Ending} {w':World} (k:CP u (funcs.drop n) [] w e w') :
 Below w.heap.size w w'/\∃(C2:List Cn) (ca:Option Addr) (cc:Nat),e = .returned (.tuple #[.agg #[.int .i64 nv,.int .i64 (bL u).length,.int .i64 nf,.slice ca C2.length cc],.int .i64 0])/\C2.length<=32768/\(∃base,w'.ownsRow base 60 5 (.slice ca C2.length cc) C2.length (bE C2))/\(∀x∈C2,bK w' x.sa x.s/\x.s.length<=1000000)/\(C2.map Cn.p).Sublist (C.map Cn.p):=by
 have hsub:∀p∈cO u (funcs.drop n),p∈C.map Cn.p:=fun p h=>hin p (XZ p h)
 have hdo:kM u.fs.length (funcs.drop n):=⟨fun f hf=>ho.1 f (List.mem_of_mem_drop hf),ho.2.sublist (List.drop_sublist n funcs)⟩
 refine⟨k.1,?_⟩
 rcases k.2 with ⟨r,h0,-,h⟩ | ⟨C2,ca,cc,nv2,nf2,he,-,-,-,hl2,hnv2,⟨l2,d2,f2,e2⟩,hat,hset,hp2,hin2,hall⟩
 ·exfalso
  obtain⟨Q,hq,hm,hlen⟩:=h hz hdo rfl hs
  have h1:=(zS qh.irrefl (fun a b c=>qh.trans a b c) hq hp fun p h=>hsub p (hm p h)).length_le
  rw[List.length_map]at h1
  omega
 ·obtain⟨l1,d1,f1,e1⟩:=hnf
  have e3:l2.length=l1.length:=WL d2 d1 fun k=>by rw[<-f2 k,f1 k]
  refine⟨C2,ca,cc,?_,hl2,hat,hset,zS qh.irrefl (fun a b c=>qh.trans a b c) hp2 hp fun p h=>hsub p (hall rfl p h)⟩
  rw[he,hnv2,hnv,e2,e1,e3]

structure zC(u:aQ)(ha:Option Addr)(hc:Nat)(fa:Option Addr)(fc:Nat)(g:Nat)(row:Array Value)(C:List Cn)(ca:Option Addr)(w wr:World):Prop where
 ub:UB u ha hc fa fc w wr
 bk:ah wr g row 36
 at_:uL wr ca C
 st:∀x∈C,aM wr x.sa x.s/\x.s.length<=1000000
theorem zC.below{u:aQ}{ha:Option Addr}{hc:Nat}{fa:Option Addr}{fc:Nat}{g:Nat}{row:Array Value}{C:List Cn}{ca:Option Addr}{w wr w':World}(k:zC u ha hc fa fc g row C ca w wr)(hb:Below wr.heap.size wr w'):zC u ha hc fa fc g row C ca w w' :=
 ⟨k.ub.below hb,k.bk.below hb,k.at_.below hb,fun x hx=>⟨(k.st x hx).1.below hb,(k.st x hx).2⟩⟩
theorem XU{w:World}{a:Option Addr}{l:List Int}(h:aM w a l){n c:Nat}(hn:n<=l.length)(hc:l.length<=c):aM w (if c=n then a else a.map (·.add n)) (l.drop n):=by
 intro k hk
 have hk':n+k<l.length:=by simpa[Nat.lt_sub_iff_add_lt']using hk
 obtain⟨b,off,rfl,h1⟩:=h (n+k) hk'
 rw[if_neg (by omega)]
 refine⟨b,off+n,by simp[Addr.add],?_⟩
 rw[List.getElem_drop,show off+n+k=off+(n+k) by omega]
 exact h1
structure sD(C:List Cn)(C2:List Cn)(ca:Option Addr)(cc:Nat)(w:World):Prop where
 ln:C2.length<=32768
 ow:∃base,w.ownsRow base 60 5 (.slice ca C2.length cc) C2.length (bE C2)
 st:∀x∈C2,bK w x.sa x.s/\x.s.length<=1000000
 sub:(C2.map Cn.p).Sublist (C.map Cn.p)
theorem sD.below{C C2:List Cn}{ca:Option Addr}{cc:Nat}{w w':World}(k:sD C C2 ca cc w)(hb:Below w.heap.size w w'):sD C C2 ca cc w':=by
 obtain⟨base,ow⟩:=k.ow
 exact⟨k.ln,⟨base,gL ow hb⟩,fun x hx=>⟨(k.st x hx).1.below hb,(k.st x hx).2⟩,k.sub⟩
theorem sD.row{C C2:List Cn}{ca:Option Addr}{cc:Nat}{w:World}(k:sD C C2 ca cc w){g:Nat}{old:Array Value}(hB:ah w g old 36)(cs':Array Value):sD C C2 ca cc (w.setRow g cs'):=by
 have hg:=oW w g cs'
 obtain⟨base,ow⟩:=k.ow
 refine⟨k.ln,⟨base,ow.kept hg (.inr (gD ow hB (by decide)).symm)⟩,fun x hx=>⟨(k.st x hx).1.keep hg (fun b cs fr hc e=>?_),(k.st x hx).2⟩,k.sub⟩
 cases e
 unfold ah at hB
 rw[hc]at hB
 simp at hB
def y2o(C:List Cn)(nv nf:Int)(ns:Nat)(w:World)(e:Ending)(w':World):Prop :=
 Below w.heap.size w w'/\∃(C2:List Cn) (ca:Option Addr) (cc:Nat),e = .returned (.tuple #[.agg #[.int .i64 nv,.int .i64 ns,.int .i64 nf,.slice ca C2.length cc],.int .i64 0])/\sD C C2 ca cc w'
theorem Sl{α:Type}{x y:α}{l m:List α}(h:(x::l).Sublist (y::m))(hne:y≠x):(x::l).Sublist m:=by
 cases h with
 |cons _ h=>exact h
 |cons_cons _ _=>exact absurd rfl hne
set_option maxRecDepth 100000 in
set_option maxHeartbeats 32000000 in
set_option pp.deepTerms true in
set_option pp.maxSteps 100000 in
theorem Yz(u:aQ)(ha:Option Addr)(hc:Nat)(fa:Option Addr)(fc:Nat)(funcs:List Int)(na:Option Addr)(nc:Nat)(calls:List bA)(la:Option Addr)(lc:Nat)(from_:Int)(w:World)(hkw:KW w)(hfm:FM w)(hak:∀w1,Below w.heap.size w w1->Calls Tryz.prog 5 #[] w1 (aj w1 (.bool true)))(h:ay w ha u.h)(hf:bR w fa u.fs)(hfs:aM w na funcs)(hcs:mZ w la calls)(hnc:funcs.length<=nc) :
 Calls Tryz.prog 3 #[bZ u ha hc fa fc,.agg #[.slice na funcs.length nc,.slice la calls.length lc,.int .i64 from_]] w (aj w (.bool true)):=by
 have S0:=Lib.hid (UB.start (hc:=hc) (fc:=fc) h hf)
 have HFT:Hid (∀w1,ay w1 ha u.h->bR w1 fa u.fs->Calls Tryz.prog 4 #[bZ u ha hc fa fc,.int .i64 150] w1 (QL (fun b=>b=true->mW u 150) w1)):=fun w1 h1 h2=>Zf u ha hc fa fc 150 w1 h1 h2 (by omega)
 have HOF:Hid (mW u 150->funcs.length<=40->calls.length<=60->∀w1,Below w.heap.size w w1->Calls Tryz.prog 6 #[bZ u ha hc fa fc,.slice na funcs.length nc,.slice la calls.length lc] w1 (CP u funcs calls w1)):=fun k h1 h2 w1 hb=>Pj u ha hc fa fc funcs na nc calls la lc w1 (h.below hb) (hf.below hb) k (hkw.below hb) (hfm.below hb) (hfs.below hb) (hcs.below hb) h1 h2 (K5 k)
 have HOP:Hid (mW u 150->funcs.length<=40->∀(n:Nat),n<=funcs.length->∀w1,Below w.heap.size w w1->Calls Tryz.prog 6 #[bZ u ha hc fa fc,.slice (if nc=n then na else na.map (·.add n)) (funcs.drop n).length (nc-n),.slice none 0 0] w1 (CP u (funcs.drop n) [] w1)):=fun k h1 n hn w1 hb=>Pj u ha hc fa fc (funcs.drop n) _ (nc-n) [] none 0 w1 (h.below hb) (hf.below hb) k (hkw.below hb) (hfm.below hb) (XU (hfs.below hb) hn hnc) (fun k hk=>absurd hk (by simp)) (by simp;omega) (by simp) (K5 k)
 have HAK:=Lib.hid hak
 clear hkw hfm hak h hf hfs hcs
 unfold bZ at *
 go_enter Tryz.func3,Tryz.ntmps3
 go_upto_region 1 with (fail)
 have S1:Hid (UB u ha hc fa fc w ((w.alloc (.cells #[.slice ha u.h.length hc,.slice fa u.fs.length fc,.int .i64 u.main] 27)).alloc (.cells #[.slice na funcs.length nc,.slice la calls.length lc,.int .i64 from_] 31))):=S0.out.below (av ..)
 have BQ:Hid (ah ((w.alloc (.cells #[.slice ha u.h.length hc,.slice fa u.fs.length fc,.int .i64 u.main] 27)).alloc (.cells #[.slice na funcs.length nc,.slice la calls.length lc,.int .i64 from_] 31)) (w.heap.size+1) #[.slice na funcs.length nc,.slice la calls.length lc,.int .i64 from_] 31):=by
  have e:(w.alloc (.cells #[.slice ha u.h.length hc,.slice fa u.fs.length fc,.int .i64 u.main] 27)).heap.size=w.heap.size+1:=by simp only[World.alloc,Array.size_push]
  rw[<-e]
  exact aL ..
 clear S0
 generalize World.alloc _ _=W at *
 have hne:Nonempty (WB W):=⟨⟨W,Below.refl _ _⟩⟩
 have k0:∀o:WB W,o.u.cell? ⟨w.heap.size+1,0,none⟩=some (.slice na funcs.length nc):=fun o=>cell_below o.h (BQ.out.cell 0 (by simp))
 have k1:∀o:WB W,o.u.cell? ⟨w.heap.size+1,1,none⟩=some (.slice la calls.length lc):=fun o=>cell_below o.h (BQ.out.cell 1 (by simp))
 have k2:∀o:WB W,o.u.cell? ⟨w.heap.size+1,2,none⟩=some (.int .i64 from_):=fun o=>cell_below o.h (BQ.out.cell 2 (by simp))
 clear BQ
 refine bJ W (by kernel_rfl) ?_
 repeat (go_big_quiet_step (fail))
 refine wpQuiet_nil ?_
 intro _ hw'
 obtain⟨o,rfl⟩:=hw'
 have S2:=Lib.hid (S1.out.below o.h)
 clear k0 k1 k2 hne S1
 generalize o.u=V at *
 obtain⟨z0,z1,z2⟩:=S2.out.cells
 go_wp2_with fail
 refine(HFT.out _ S2.out.h S2.out.f).mono ?_
 rintro e w1 ⟨hb',d,rfl,hr⟩
 have S:=Lib.hid (S2.out.below hb')
 have HR:=Lib.hid hr
 clear S2 hb' z0 z1 z2 hr HFT
 generalize w1=W1 at *
 cases d
 case false =>
  go_wp2_with fail
  refine(HAK.out _ S.out.hb).mono ?_
  rintro e w2 ⟨rfl,hb'⟩
  have S1:=Lib.hid (S.out.below hb')
  clear S hb'
  go_wp2
  go_ret
  exact⟨rfl,S1.out.hb⟩
 have HFO:=Lib.hid (HR.out rfl)
 clear HR
 by_cases hl1:40<funcs.length
 case pos =>
  have t1:decide ((40:Int)<(funcs.length:Int))=true:=by simp;omega
  have t1':decide (40<funcs.length)=true:=decide_eq_true hl1
  clear hl1
  go_wp2_with fail
  refine(HAK.out _ S.out.hb).mono ?_
  rintro e w2 ⟨rfl,hb'⟩
  have S1:=Lib.hid (S.out.below hb')
  clear S hb'
  go_wp2
  go_ret
  exact⟨rfl,S1.out.hb⟩
 have t1:decide ((40:Int)<(funcs.length:Int))=false:=by simp;omega
 have t1':decide (40<funcs.length)=false:=decide_eq_false hl1
 by_cases hl2:60<calls.length
 case pos =>
  have t2:decide ((60:Int)<(calls.length:Int))=true:=by simp;omega
  have t2':decide (60<calls.length)=true:=decide_eq_true hl2
  clear hl2 hl1
  go_wp2_with fail
  refine(HAK.out _ S.out.hb).mono ?_
  rintro e w2 ⟨rfl,hb'⟩
  have S1:=Lib.hid (S.out.below hb')
  clear S hb'
  go_wp2
  go_ret
  exact⟨rfl,S1.out.hb⟩
 have t2:decide ((60:Int)<(calls.length:Int))=false:=by simp;omega
 have t2':decide (60<calls.length)=false:=decide_eq_false hl2
 have HO1:=Lib.hid (HOF.out HFO.out (by omega) (by omega))
 have HO2:=Lib.hid (HOP.out HFO.out (by omega))
 clear HOF HOP HFO hl1 hl2
 obtain⟨z0,z1,z2⟩:=S.out.cells
 go_wp2_with fail
 refine(HO1.out _ S.out.hb).mono ?_
 rintro e w2 hop
 have S3:=Lib.hid (S.out.below hop.1)
 clear HO1 S z0 z1 z2 t1 t1' t2 t2'
 have BA:Hid (ah (w2.alloc (.cells dK 36)) w2.heap.size dK 36):=aL ..
 have hrow:∀cs,Below w2.heap.size w2 ((w2.alloc (.cells dK 36)).setRow w2.heap.size cs):=fun cs=>bP (av w2 (.cells dK 36)) (Nat.le_refl w2.heap.size) cs
 have HRW:=Lib.hid hrow
 clear hrow
 rcases hop.2 with ⟨r,hr0,rfl,-⟩ | ⟨C,ca,cc,nv,nf,rfl,hz,ho,hs,hl,hnv,hnf,⟨base,how⟩,hset,hpp,hin,-⟩
 case inl =>
  have t1:(r != 0)=true:=by simpa using hr0
  clear hop hr0
  go_wp2_with (refine kQ rfl rfl _ _ rfl w2.heap.size 0 0 0 none 0 0 rfl rfl _ BA.out rfl ?_)
  go_wp2_with fail
  have S4:=Lib.hid (S3.out.below (HRW.out dK))
  refine(HAK.out _ S4.out.hb).mono ?_
  rintro e w3 ⟨rfl,hb'⟩
  have S5:=Lib.hid (S4.out.below hb')
  clear S4 hb'
  go_wp2
  go_ret
  exact⟨rfl,S5.out.hb⟩
 have HPC:Hid (∀n,n<=funcs.length->∀w1,Below w.heap.size w w1->Calls Tryz.prog 6 #[.agg #[.slice ha u.h.length hc,.slice fa u.fs.length fc,.int .i64 u.main],.slice (if nc=n then na else na.map (·.add n)) (funcs.length-n) (nc-n),.slice none 0 0] w1 (y2o C nv nf (bL u).length w1)):=fun n hn w1 hb=>by
  have h9:=HO2.out n hn w1 hb
  rw[List.length_drop]at h9
  refine h9.mono fun e w' k=>?_
  obtain⟨p1,C2,ca2,cc2,p2,p4,p5,p6,p7⟩:=UG hz ho hs hl hnv hnf hpp hin k
  exact⟨p1,C2,ca2,cc2,p2,p4,p5,p6,p7⟩
 obtain⟨hcc,hat⟩:=Am how
 have S4:Hid (zC u ha hc fa fc w2.heap.size #[.int .i64 nv,.int .i64 (bL u).length,.int .i64 nf,.slice ca C.length cc] C ca w ((w2.alloc (.cells dK 36)).setRow w2.heap.size #[.int .i64 nv,.int .i64 (bL u).length,.int .i64 nf,.slice ca C.length cc])):=⟨S3.out.below (HRW.out _),BA.out.setRow _,hat.below (HRW.out _),fun x hx=>⟨(hset x hx).1.1.below (HRW.out _),(hset x hx).2⟩⟩
 clear how HO2 hop hz ho hs hnv hnf hpp hin hat hset S3 HRW
 generalize (bL u).length=ns at *
 go_upto_region 7 with (refine kQ rfl rfl _ _ rfl w2.heap.size nv ns nf ca C.length cc rfl rfl _ BA.out rfl ?_)
 clear BA
 generalize World.setRow _ _ _=W3 at *
 generalize w2.heap.size=g1 at *
 go_cut[10,11] (fun v r wx=>∃g C2 ca2 cc2,v = .pointer (some ⟨g,0,none⟩)/\r = .int .i64 0/\Hid (ah wx g #[.int .i64 nv,.int .i64 ns,.int .i64 nf,.slice ca2 (List.length C2) cc2] 36)/\Hid (zC u ha hc fa fc g1 #[.int .i64 nv,.int .i64 ns,.int .i64 nf,.slice ca C.length cc] C ca w wx)/\Hid (sD C C2 ca2 cc2 wx))
 case first =>
  obtain⟨z0,z1,z2⟩:=S4.out.ub.cells
  have hne:Nonempty (WB W3):=⟨⟨W3,Below.refl _ _⟩⟩
  have k0:∀o:WB W3,o.u.cell? ⟨w.heap.size,0,none⟩=some (.slice ha u.h.length hc):=fun o=>cell_below o.h z0
  have k1:∀o:WB W3,o.u.cell? ⟨w.heap.size,1,none⟩=some (.slice fa u.fs.length fc):=fun o=>cell_below o.h z1
  have k2:∀o:WB W3,o.u.cell? ⟨w.heap.size,2,none⟩=some (.int .i64 u.main):=fun o=>cell_below o.h z2
  clear z0 z1 z2
  have h0:Below W3.heap.size W3 W3.drew:=(Below.refl _ _).drew
  refine dC (fun w'=>∃o:WB W3,w' = o.u) (by kernel_rfl) ?_
  change bO _ _ _ _ _ _ _ _ W3.drew
  generalize W3.drew=V0 at *
  refine af 0 rfl (by kernel_rfl) (fun _ _ _ _ h=>h) ⟨⟨_,h0⟩,rfl⟩ (fun K hK=>?_);go_simp;refine hK _ ?_;clear hK K
  refine af 1 rfl (by kernel_rfl) (fun _ _ _ _ h=>h) ⟨⟨_,h0⟩,rfl⟩ (fun K hK=>?_);go_simp;refine hK _ ?_;clear hK K
  refine af 2 rfl (by kernel_rfl) (fun _ _ _ _ h=>h) ⟨⟨_,h0⟩,rfl⟩ (fun K hK=>?_);go_simp;refine hK _ ?_;clear hK K
  refine af 3 rfl (by kernel_rfl) (fun _ _ _ _ h=>h) ⟨⟨_,h0⟩,rfl⟩ (fun K hK=>?_);go_simp;refine hK _ ?_;clear hK K
  refine af 4 rfl (by kernel_rfl) (fun _ _ _ _ h=>h) ⟨⟨_,h0⟩,rfl⟩ (fun K hK=>?_);go_simp;refine hK _ ?_;clear hK K
  refine af 5 rfl (by kernel_rfl) (fun _ _ _ _ h=>h) ⟨⟨_,h0⟩,rfl⟩ (fun K hK=>?_);go_simp;refine hK _ ?_;clear hK K
  refine af 6 rfl (by kernel_rfl) (fun _ _ _ _ h=>h) ⟨⟨_,h0⟩,rfl⟩ (fun K hK=>?_);go_simp;refine hK _ ?_;clear hK K
  have HN:∃n:Nat,n<=funcs.length/\min (max from_ 0) (funcs.length:Int)=(n:Int):=⟨(min (max from_ 0) (funcs.length:Int)).toNat,by omega,by omega⟩
  obtain⟨n,hn,hne2⟩:=HN
  rw[hne2]
  clear hne2
  have hn0:(0:Int)<=(n:Int):=by omega
  have hn1:(n:Int)<=(funcs.length:Int):=by omega
  refine af 7 rfl (by kernel_rfl) (fun _ _ _ _ h=>h) ⟨⟨_,h0⟩,rfl⟩ (fun K hK=>?_);go_simp;refine hK _ ?_;clear hK K
  clear hn0 hn1
  have HC:=Lib.hid (HPC.out n hn)
  clear HPC hn hnc
  generalize (if nc=n then na else Option.map (fun x=>x.add n) na)=ap at *
  generalize funcs.length-n=fl at *
  generalize nc-n=fcap at *
  refine IP 8 12 rfl rfl (by kernel_rfl) ?_ ?_
  ·go_wp2_with fail
   refine(HC.out _ (S4.out.below h0).ub.hb).mono ?_
   rintro e w5 ⟨hb2,C2,ca2,cc2,rfl,hg⟩
   have h2:Below W3.heap.size W3 w5:=h0.trans (hb2.mono h0.size)
   have h3:Below W3.heap.size W3 (w5.alloc (.cells dK 36)):=h2.trans ((av ..).mono h2.size)
   have B3:Hid (ah (w5.alloc (.cells dK 36)) w5.heap.size dK 36):=aL ..
   have G3:=Lib.hid (hg.below (av w5 (.cells dK 36)))
   clear hb2 hg
   go_wp2
   refine⟨⟨⟨_,h2⟩,rfl⟩,?_⟩
   refine af 9 rfl (by kernel_rfl) (fun _ _ _ _ h=>h) ⟨⟨_,h2⟩,rfl⟩ (fun K hK=>?_);go_simp;refine hK _ ?_;clear hK K
   refine af 10 rfl (by kernel_rfl) (fun _ _ _ _ h=>h) ⟨⟨_,h2⟩,rfl⟩ (fun K hK=>?_);go_simp;refine hK _ ?_;clear hK K
   refine af 11 rfl (by kernel_rfl) (fun _ _ _ _ h=>h) ⟨⟨_,h2⟩,rfl⟩ (fun K hK=>?_);go_simp;refine hK _ ?_;clear hK K
   refine aP 12 rfl (by kernel_rfl) ?_
   go_wp2
   refine⟨⟨⟨_,h3⟩,rfl⟩,?_⟩
   have h4:=below_setRow h3 h2.size #[.int .i64 nv,.int .i64 ns,.int .i64 nf,.slice ca2 C2.length cc2]
   refine aP 13 rfl (by kernel_rfl) ?_
   go_wp2_with (refine kQ rfl rfl _ _ rfl w5.heap.size nv ns nf ca2 C2.length cc2 rfl rfl _ B3.out rfl ?_)
   refine⟨⟨⟨_,h4⟩,rfl⟩,?_⟩
   refine aP 14 rfl (by kernel_rfl) ?_
   go_wp2
   refine⟨⟨⟨_,h4⟩,rfl⟩,?_⟩
   refine dh (by kernel_rfl) ?_ _
   have S5:=Lib.hid (S4.out.below h4)
   have G5:=Lib.hid (G3.out.row B3.out #[.int .i64 nv,.int .i64 ns,.int .i64 nf,.slice ca2 C2.length cc2])
   have B5:=Lib.hid (B3.out.setRow #[.int .i64 nv,.int .i64 ns,.int .i64 nf,.slice ca2 C2.length cc2])
   clear k0 k1 k2 h0 h2 h3 h4 hne
   go_wp2
   go_meet
   exact⟨_,C2,ca2,cc2,rfl,rfl,B5.out,S5.out,G5.out⟩
  ·have h2:Below W3.heap.size W3 (V0.alloc (.cells dK 36)):=h0.trans ((av ..).mono h0.size)
   have B2:Hid (ah (V0.alloc (.cells dK 36)) V0.heap.size dK 36):=aL ..
   go_wp2
   refine⟨⟨⟨_,h2⟩,rfl⟩,?_⟩
   refine aP 8 rfl (by kernel_rfl) ?_
   go_wp2_with fail
   refine(HC.out _ (S4.out.below h2).ub.hb).mono ?_
   rintro e w5 ⟨hb2,C2,ca2,cc2,rfl,hg⟩
   have h3:Below W3.heap.size W3 w5:=h2.trans (hb2.mono h2.size)
   have B3:=Lib.hid (B2.out.below hb2)
   have G3:=Lib.hid hg
   clear hb2 hg B2
   go_wp2
   refine⟨⟨⟨_,h3⟩,rfl⟩,?_⟩
   refine af 9 rfl (by kernel_rfl) (fun _ _ _ _ h=>h) ⟨⟨_,h3⟩,rfl⟩ (fun K hK=>?_);go_simp;refine hK _ ?_;clear hK K
   refine af 10 rfl (by kernel_rfl) (fun _ _ _ _ h=>h) ⟨⟨_,h3⟩,rfl⟩ (fun K hK=>?_);go_simp;refine hK _ ?_;clear hK K
   refine af 11 rfl (by kernel_rfl) (fun _ _ _ _ h=>h) ⟨⟨_,h3⟩,rfl⟩ (fun K hK=>?_);go_simp;refine hK _ ?_;clear hK K
   have h4:=below_setRow h3 h0.size #[.int .i64 nv,.int .i64 ns,.int .i64 nf,.slice ca2 C2.length cc2]
   refine aP 13 rfl (by kernel_rfl) ?_
   go_wp2_with (refine kQ rfl rfl _ _ rfl V0.heap.size nv ns nf ca2 C2.length cc2 rfl rfl _ B3.out rfl ?_)
   refine⟨⟨⟨_,h4⟩,rfl⟩,?_⟩
   refine aP 14 rfl (by kernel_rfl) ?_
   go_wp2
   refine⟨⟨⟨_,h4⟩,rfl⟩,?_⟩
   refine dh (by kernel_rfl) ?_ _
   have S5:=Lib.hid (S4.out.below h4)
   have G5:=Lib.hid (G3.out.row B3.out #[.int .i64 nv,.int .i64 ns,.int .i64 nf,.slice ca2 C2.length cc2])
   have B5:=Lib.hid (B3.out.setRow #[.int .i64 nv,.int .i64 ns,.int .i64 nf,.slice ca2 C2.length cc2])
   clear k0 k1 k2 h0 h2 h3 h4 hne
   go_wp2
   go_meet
   exact⟨_,C2,ca2,cc2,rfl,rfl,B5.out,S5.out,G5.out⟩
 case rest =>
  obtain⟨g,C2,ca2,cc2,rfl,rfl,B,S,G⟩:=hcut
  clear HPC S4 hnc
  generalize wc=W5 at *
  have x0:=S.out.bk.cell 0 (by simp)
  have x1:=S.out.bk.cell 1 (by simp)
  have x2:=S.out.bk.cell 2 (by simp)
  have y0:=B.out.cell 0 (by simp)
  have y1:=B.out.cell 1 (by simp)
  have y2:=B.out.cell 2 (by simp)
  have y3:=B.out.cell 3 (by simp)
  simp only[List.getElem_toArray,List.getElem_cons_zero,List.getElem_cons_succ]at x0 x1 x2 y0 y1 y2 y3
  go_wp2
  clear x0 x1 x2 y0 y1 y2 y3
  have hl2:C2.length<=32768:=G.out.ln
  have HOW:Hid (C2.length<=cc2/\∀w1,Below W5.heap.size W5 w1->uL w1 ca2 C2):=by
   obtain⟨base,ow⟩:=G.out.ow
   obtain⟨h1,h2⟩:=Am ow
   exact⟨h1,fun w1 hb=>h2.below hb⟩
  have hcc2:C2.length<=cc2:=HOW.out.1
  have B0:=B
  have S0':=S
  have G0:=G
  have hlen1:(C.map Cn.p).length=C.length:=List.length_map ..
  go_loopw[12,82] (fun v x wl=>∃(a k:Nat),k<=C2.length/\a<=C.length/\v = .int .i64 a/\x = .int .i64 k/\Hid (((C2.map Cn.p).drop k).Sublist ((C.map Cn.p).drop a))/\Hid (Below W5.heap.size W5 wl)) (fun _ x _=>C2.length-(intOf x).toNat)
  case atStart=>exact⟨0,0,Nat.zero_le _,Nat.zero_le _,rfl,rfl,G.out.sub,Below.refl _ _⟩
  case round =>
   obtain⟨a,k,hk,ha1,rfl,rfl,HS,HW⟩:=hrel
   by_cases hlt:k<C2.length
   case neg =>
    have SW:=Lib.hid (S0'.out.below HW.out)
    clear hcc hcc2 hl hl2 hlen1 HS HOW
    go_wp2_with fail
    refine(HAK.out _ SW.out.ub.hb).mono ?_
    rintro e w6 ⟨rfl,hb'⟩
    have S6:=Lib.hid (SW.out.below hb')
    clear hb'
    go_wp2
    go_ret
    exact⟨rfl,S6.out.ub.hb⟩
   go_wp2
   obtain⟨wo,rfl⟩:∃wo:World,wo=wr:=⟨_,rfl⟩
   go_loopw[12] (fun v wl=>∃(a:Nat),a<=C.length/\v = .int .i64 a/\Hid (((C2.map Cn.p).drop k).Sublist ((C.map Cn.p).drop a))/\Hid (Below W5.heap.size W5 wl)) (fun v _=>C.length-(intOf v).toNat)
   case atStart=>exact⟨a,ha1,rfl,HS.out,HW.out⟩
   case round =>
    clear HS HW
    obtain⟨a,ha1,rfl,HS,HW⟩:=hrel
    have hk2:k<(C2.map Cn.p).length:=by rw[List.length_map];exact hlt
    have hal:a<C.length:=by
     rcases Nat.lt_or_ge a C.length with h1 | h1
     ·exact h1
     ·have h2:=HS.out.length_le
      rw[List.length_drop,List.length_drop]at h2
      omega
    have ha2:a<(C.map Cn.p).length:=by rw[List.length_map];exact hal
    have e1:=List.drop_eq_getElem_cons hk2
    have e2:=List.drop_eq_getElem_cons ha2
    rw[List.getElem_map]at e1 e2
    have HNX:Hid (decide (C[a].p=C2[k].p)=false->((C2.map Cn.p).drop k).Sublist ((C.map Cn.p).drop (a+1))):=fun hne=>by
     have h1:=HS.out
     rw[e2]at h1
     rw[e1]at h1 ⊢
     exact Sl h1 (of_decide_eq_false hne)
    have HTL:Hid (((C2.map Cn.p).drop (k+1)).Sublist ((C.map Cn.p).drop a)):=by
     have h1:=HS.out
     rw[e1]at h1
     exact(List.sublist_cons_self _ _).trans h1
    have SW:=Lib.hid (S0'.out.below HW.out)
    obtain⟨b1,o1,he1,p0,p1,p2,p3,p4⟩:=SW.out.at_ a hal
    obtain⟨b2,o2,he2,q0,q1,q2,q3,q4⟩:=HOW.out.2 wr HW.out k hlt
    have hy3:=(B0.out.below HW.out).cell 3 (by simp)
    have hx3:=SW.out.bk.cell 3 (by simp)
    simp only[List.getElem_toArray,List.getElem_cons_zero,List.getElem_cons_succ]at hx3 hy3
    rw[he1]at hx3
    rw[he2]at hy3
    have A1:uM wr b1 (o1+a*5) C[a]:=⟨p0,p1,p2,p3,p4,(SW.out.st _ (List.getElem_mem hal)).1⟩
    have A2:uM wr b2 (o2+k*5) C2[k]:=⟨q0,q1,q2,q3,q4,((G0.out.below HW.out).st _ (List.getElem_mem hlt)).1.1⟩
    have HC:Hid (∀o:WB wr,Calls Tryz.prog 7 #[.slice (some ⟨b1,o1+a*5,none⟩) 1 (cc-a),.slice (some ⟨b2,o2+k*5,none⟩) 1 (cc2-k)] o.u (aj o.u (.bool (decide (C[a].p=C2[k].p))))):=fun o=>Tn _ _ b1 _ _ b2 _ _ o.u (A1.below o.h) (A2.below o.h) (SW.out.st _ (List.getElem_mem hal)).2
    clear p0 p1 p2 p3 p4 q0 q1 q2 q3 q4 A1 A2 e1 e2 hk2 ha2 he1 he2 SW
    generalize decide (C[a].p=C2[k].p)=eb at *
    have hcca:¬ cc=a:=by omega
    have hcck:¬ cc2=k:=by omega
    have hb1:(⟨b1,o1,none⟩:Addr).add (a*5)=⟨b1,o1+a*5,none⟩:=by unfold Addr.add;split<;>simp_all
    have hb2:(⟨b2,o2,none⟩:Addr).add (k*5)=⟨b2,o2+k*5,none⟩:=by unfold Addr.add;split<;>simp_all
    have hta:((a:Int)+1).toNat=a+1:=by omega
    have htk:((k:Int)+1).toNat=k+1:=by omega
    have ha0:(0:Int)<=(a:Int):=by omega
    have ha9:(a:Int)<=(a:Int)+1:=by omega
    have ha8:(a:Int)+1<=(cc:Int):=by omega
    have hk0:(0:Int)<=(k:Int):=by omega
    have hk9:(k:Int)<=(k:Int)+1:=by omega
    have hk8:(k:Int)+1<=(cc2:Int):=by omega
    have hne:Nonempty (WB wr):=⟨⟨wr,Below.refl _ _⟩⟩
    have k3:∀o:WB wr,o.u.cell? ⟨g1,3,none⟩=some (.slice (some ⟨b1,o1,none⟩) C.length cc):=fun o=>cell_below o.h hx3
    have m3:∀o:WB wr,o.u.cell? ⟨g,3,none⟩=some (.slice (some ⟨b2,o2,none⟩) C2.length cc2):=fun o=>cell_below o.h hy3
    cases eb
    case true =>
     go_upto_region 14 with (fail)
     clear hx3 hy3
     refine bJ wr (by kernel_rfl) ?_
     repeat (go_big_quiet_step ((rename_i o;exact(HC.out o).mono (fun _ _ h=>aj.bu h))))
     refine wpQuiet_nil ?_
     intro _ hw'
     obtain⟨o,rfl⟩:=hw'
     have HW3:=Lib.hid (HW.out.trans (o.h.mono HW.out.size))
     have x3:=k3 o
     have t5:((a:Int)==(C.length:Int))=false:=by simp;omega
     have t5':(a==C.length)=false:=by simp;omega
     clear k3 m3 HC hcca hcck hb1 hb2 hta htk ha0 ha9 ha8 hk0 hk9 hk8 hne
     go_wp2
     go_roundw
     case rel=>exact⟨a,k+1,by omega,ha1,rfl,by go_num,HTL.out,HW3.out⟩
     case measure=>simp[intOf];omega
    case false =>
     go_upto_region 14 with (fail)
     clear hx3 hy3
     refine bJ wr (by kernel_rfl) ?_
     repeat (go_big_quiet_step ((rename_i o;exact(HC.out o).mono (fun _ _ h=>aj.bu h))))
     refine wpQuiet_nil ?_
     intro _ hw'
     obtain⟨o,rfl⟩:=hw'
     have HW3:=Lib.hid (HW.out.trans (o.h.mono HW.out.size))
     have HN2:=Lib.hid (HNX.out rfl)
     clear k3 m3 HC hcca hcck hb1 hb2 hta htk ha0 ha9 ha8 hk0 hk9 hk8 hne HNX
     go_wp2
     go_roundw
     case rel=>exact⟨a+1,by omega,by go_num,HN2.out,HW3.out⟩
     case measure=>simp[intOf];omega
end Go.Proofs.YtjnbddedmbhiaaaGreatDoor
namespace Go.Proofs.YtjnbddedmbhiaaaGreatDoor
open Go.RowKit Go.ak Go.AM

theorem AW.key{w:World}(h:AW w):KW w:=by
 obtain⟨t,fr,h⟩:=h.kw
 exact⟨t,fr,h⟩
theorem AW.YL{w:World}(h:AW w):FM w:=by
 obtain⟨t,fr,h⟩:=h.fm
 exact⟨t,fr,h⟩
theorem constraintGrows(u:aQ)(ha:Option Addr)(hc:Nat)(fa:Option Addr)(fc:Nat)(funcs:List Int)(na:Option Addr)(nc:Nat)(calls:List bA)(la:Option Addr)(lc:Nat)(from_:Int)(w:World)(hA:AW w)(h:ay w ha u.h)(hf:bR w fa u.fs)(hfs:aM w na funcs)(hcs:mZ w la calls)(hnc:funcs.length<=nc) :
 Calls Tryz.prog 3 #[bZ u ha hc fa fc,.agg #[.slice na funcs.length nc,.slice la calls.length lc,.int .i64 from_]] w (aj w (.bool true)) :=
 Yz u ha hc fa fc funcs na nc calls la lc from_ w hA.key hA.YL (fun w1 hb=>y1J w1 (hA.below hb)) h hf hfs hcs hnc
end Go.Proofs.YtjnbddedmbhiaaaGreatDoor
