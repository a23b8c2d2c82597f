/-
  Regions that draw their order.
-/
import Derived.Test.YtjnbddedmbhiaaaGreatDoorPk43
namespace Go.AM
open Go.RowKit
theorem OU{x y:Bool}(h:oZ x y=true):x=y:=by cases x<;>cases y<;>first | rfl | cases h
theorem bytes_inj{s t:ByteArray}(h:s.data.toList.map (·.toNat)=t.data.toList.map (·.toNat)):s=t:=by
 have:s.data.toList=t.data.toList:=(List.map_inj_right (fun a b h=>UInt8.toNat_inj.1 h)).1 h
 cases s;cases t
 simp only[ByteArray.mk.injEq]
 exact Array.toList_inj.1 this
theorem Tp{E:ax}(x:AV):(∀y u v,gW x y=true->ag E x u->ag E y v->u=v)/\(∀y l m,gW x y=true->au E x l->au E y m->l=m):=by
 induction x with
 |u=>exact⟨fun y u v h=>(by cases y<;>cases h),fun y l m h=>(by cases y<;>cases h)⟩
 |b x =>
  refine⟨fun y u v h h1 h2=>?_,fun y l m h h1=>by simp only[au]at h1⟩
  cases y<;>try (cases h)
  rename_i z
  simp only[ag]at h1 h2
  rw[h1,h2,OU (show oZ x z=true from h)]
 |i q n =>
  refine⟨fun y u v h h1 h2=>?_,fun y l m h h1=>by simp only[au]at h1⟩
  cases y<;>try (cases h)
  rename_i q' n'
  have h:(lu q q'&&mG n n')=true:=h
  rw[Bool.and_eq_true]at h
  simp only[ag]at h1 h2
  rw[h1,h2,uh h.1,(show n=n' by have:=h.2;rw[yS]at this;simpa using this)]
 |s x =>
  refine⟨fun y u v h h1 h2=>?_,fun y l m h h1=>by simp only[au]at h1⟩
  cases y<;>try (cases h)
  rename_i z
  have h:eqs x z=true:=h
  have h:=(yR _ _).1 h
  subst h
  simp only[ag]at h1 h2
  obtain⟨s,rfl,h1⟩:=h1
  obtain⟨t,rfl,h2⟩:=h2
  rw[bytes_inj (h1.trans h2.symm)]
 |p0 =>
  refine⟨fun y u v h h1 h2=>?_,fun y l m h h1=>by simp only[au]at h1⟩
  cases y<;>try (cases h)
  simp only[ag]at h1 h2;rw[h1,h2]
 |l0 =>
  refine⟨fun y u v h h1 h2=>?_,fun y l m h h1=>by simp only[au]at h1⟩
  cases y<;>try (cases h)
  simp only[ag]at h1 h2;rw[h1,h2]
 |m0 =>
  refine⟨fun y u v h h1 h2=>?_,fun y l m h h1=>by simp only[au]at h1⟩
  cases y<;>try (cases h)
  simp only[ag]at h1 h2;rw[h1,h2]
 |f0 =>
  refine⟨fun y u v h h1 h2=>?_,fun y l m h h1=>by simp only[au]at h1⟩
  cases y<;>try (cases h)
  simp only[ag]at h1 h2;rw[h1,h2]
 |x0 =>
  refine⟨fun y u v h h1 h2=>?_,fun y l m h h1=>by simp only[au]at h1⟩
  cases y<;>try (cases h)
  simp only[ag]at h1 h2;rw[h1,h2]
 |p r o =>
  refine⟨fun y u v h h1 h2=>?_,fun y l m h h1=>by simp only[au]at h1⟩
  cases y<;>try (cases h)
  rename_i r' o'
  have h:(Nat.beq r r'&&Nat.beq o o')=true:=h
  rw[Bool.and_eq_true]at h
  have e1:=Nat.eq_of_beq_eq_true h.1
  have e2:=Nat.eq_of_beq_eq_true h.2
  subst e1;subst e2
  simp only[ag]at h1 h2
  obtain⟨l,hl,rfl⟩:=h1
  obtain⟨l',hl',rfl⟩:=h2
  rw[hl]at hl';cases hl';rfl
 |m r =>
  refine⟨fun y u v h h1 h2=>?_,fun y l m h h1=>by simp only[au]at h1⟩
  cases y<;>try (cases h)
  rename_i r'
  have e1:=Nat.eq_of_beq_eq_true (show Nat.beq r r' = true from h)
  subst e1
  simp only[ag]at h1 h2
  obtain⟨l,hl,rfl⟩:=h1
  obtain⟨l',hl',rfl⟩:=h2
  rw[hl]at hl';cases hl';rfl
 |l r o n =>
  refine⟨fun y u v h h1 h2=>?_,fun y l m h h1=>by simp only[au]at h1⟩
  cases y<;>try (cases h)
  rename_i r' o' n'
  have h:(Nat.beq r r'&&(Nat.beq o o'&&(Nat.beq n n'&&(Nat.beq o 0||Nat.blt 0 n))))=true:=h
  simp only[Bool.and_eq_true,Bool.or_eq_true]at h
  obtain⟨e1,e2,e3,e4⟩:=h
  have e1:=Nat.eq_of_beq_eq_true e1
  have e2:=Nat.eq_of_beq_eq_true e2
  have e3:=Nat.eq_of_beq_eq_true e3
  subst e1;subst e2;subst e3
  simp only[ag]at h1 h2
  obtain⟨l,hl,hk,p,hp,rfl⟩:=h1
  obtain⟨l',hl',hk',p',hp',rfl⟩:=h2
  rw[hl]at hl';cases hl'
  have hor:o<l.cap∨o=0:=by
   rcases e4 with e4 | e4
   ·exact .inr (Nat.eq_of_beq_eq_true e4)
   ·have:=dn e4;left;omega
  rw[hp hor,hp' hor]
 |f fn c d ihc ihd =>
  refine⟨fun y u v h h1 h2=>?_,fun y l m h h1=>by simp only[au]at h1⟩
  cases y with
  |f fn' c' d' =>
   cases fn<;>try (cases h)
   cases fn'<;>try (cases h)
   rename_i f f'
   have h:(Nat.beq f f'&&(gW c c'&&gW d d'))=true:=h
   simp only[Bool.and_eq_true]at h
   obtain⟨e1,e2,e3⟩:=h
   have e1:=Nat.eq_of_beq_eq_true e1
   subst e1
   simp only[ag]at h1 h2
   obtain⟨la,lc,rfl,g1,g2⟩:=h1
   obtain⟨la',lc',rfl,g1',g2'⟩:=h2
   rw[ihc.2 _ _ _ e2 g1 g1',ihd.2 _ _ _ e3 g2 g2']
  |_=>cases fn<;>cases h
 |x t w ih =>
  refine⟨fun y u v h h1 h2=>?_,fun y l m h h1=>by simp only[au]at h1⟩
  cases y<;>try (cases h)
  rename_i t' w'
  have h:(Nat.beq t t'&&gW w w')=true:=h
  simp only[Bool.and_eq_true]at h
  have e1:=Nat.eq_of_beq_eq_true h.1
  subst e1
  simp only[ag]at h1 h2
  obtain⟨u1,rfl,g1⟩:=h1
  obtain⟨u2,rfl,g2⟩:=h2
  rw[ih.1 _ _ _ h.2 g1 g2]
 |a c ih =>
  refine⟨fun y u v h h1 h2=>?_,fun y l m h h1=>by simp only[au]at h1⟩
  cases y<;>try (cases h)
  rename_i c'
  simp only[ag]at h1 h2
  obtain⟨l1,rfl,g1⟩:=h1
  obtain⟨l2,rfl,g2⟩:=h2
  rw[ih.2 _ _ _ (show gW c c' = true from h) g1 g2]
 |t c ih =>
  refine⟨fun y u v h h1 h2=>?_,fun y l m h h1=>by simp only[au]at h1⟩
  cases y<;>try (cases h)
  rename_i c'
  simp only[ag]at h1 h2
  obtain⟨l1,rfl,g1⟩:=h1
  obtain⟨l2,rfl,g2⟩:=h2
  rw[ih.2 _ _ _ (show gW c c' = true from h) g1 g2]
 |nl =>
  refine⟨fun y u v h h1 h2=>by simp only[ag]at h1,fun y l m h h1 h2=>?_⟩
  cases y<;>try (cases h)
  simp only[au]at h1 h2;rw[h1,h2]
 |cn x l ihx ihl =>
  refine⟨fun y u v h h1 h2=>by simp only[ag]at h1,fun y l m h h1 h2=>?_⟩
  cases y<;>try (cases h)
  rename_i x' l'
  have h:(gW x x'&&gW _ l')=true:=h
  simp only[Bool.and_eq_true]at h
  simp only[au]at h1 h2
  obtain⟨v1,m1,rfl,g1,g2⟩:=h1
  obtain⟨v2,m2,rfl,g3,g4⟩:=h2
  rw[ihx.1 _ _ _ h.1 g1 g3,ihl.2 _ _ _ h.2 g2 g4]
section
variable {P:Program}{B:bB}{E:ax}{st:St}{w:World}{nt:Nat}{tm:Tm}{a:Act}{r:List (AV × St)}{o:Oper}{aC:Nat->Bool}{call:dS}{ops:Array Oper}
def CR.d:CR->Option (List D)
 | .mk _ d _=>d
theorem SF(hs:aB B E st w)(ht:aU E nt tm a){t e sz:Nat}{x:Operand}{lo hi:Option Operand}{k:K}{o:Oper}(ho:o.op = .slice t x lo hi none)(hu:P.underlying t=some (.slice e))(hz:cB P e=some sz)(h:xU sz (co x) (lo.map co) (hi.map co) tm st k=some r):∃u,∀w',(execOp a.eval o).run P w' = .ok (.value u) w':=by
 unfold xU at h
 have he':execOp a.eval o=(do pure (.value (<-Instr.sliceAt t (a.eval x) (lo.map a.eval) (hi.map a.eval) none))):=by unfold execOp;rw[ho];rfl
 have hx:=aT hs ht x
 rcases lJ h with ⟨he,h⟩ | ⟨b,q,n,he,h⟩
 ·obtain⟨la,h,hlo⟩:=mO hs ht h
  obtain⟨ha,h,hhi⟩:=mO hs ht h
  obtain⟨h1,h⟩:=aJ h
  obtain⟨h2,h⟩:=aJ h
  have h1:=Nat.eq_of_beq_eq_true h1
  have h2:=Nat.eq_of_beq_eq_true h2
  subst h1;subst h2
  rw[he]at hx
  simp only[ag]at hx
  refine⟨.slice none 0 0,fun w'=>?_⟩
  have hr:(Instr.sliceAt t (a.eval x) (lo.map a.eval) (hi.map a.eval) none).run P w' = .ok (.slice none 0 0) w':=by
   simp[Instr.sliceAt,run_underlying hu,Instr.slice,hx,xI true hlo hhi (Nat.le_refl 0) (Nat.le_refl 0),run_sizeOf hz]
  rw[he',Sem.run_bind,hr];rfl
 ·obtain⟨la,h,hlo⟩:=mO hs ht h
  obtain⟨ha,h,hhi⟩:=mO hs ht h
  obtain⟨h1,h⟩:=aJ h
  obtain⟨h2,h⟩:=aJ h
  have h1:la<=ha:=Nat.le_of_ble_eq_true h1
  have h2:ha<=n:=Nat.le_of_ble_eq_true h2
  rw[he]at hx
  simp only[ag]at hx
  obtain⟨l,hl,hcap,off,hoff,hv⟩:=hx
  refine⟨.slice (some (if l.cap-q=la then(⟨l.blk,off,none⟩:Addr)else(⟨l.blk,off,none⟩:Addr).add (la*sz))) (ha-la) (l.cap-q-la),fun w'=>?_⟩
  have hb:=xI (P:=P) (w:=w') (cap:=l.cap-q) true hlo hhi h1 (by omega)
  have hr:(Instr.sliceAt t (a.eval x) (lo.map a.eval) (hi.map a.eval) none).run P w' = .ok (.slice (some (if l.cap-q=la then(⟨l.blk,off,none⟩:Addr)else(⟨l.blk,off,none⟩:Addr).add (la*sz))) (ha-la) (l.cap-q-la)) w':=by
   simp only[Instr.sliceAt,run_underlying hu,Instr.slice,hv,Sem.run_bind,Result.andThen_ok,hb,run_sizeOf hz,Sem.run_pure]
   split<;>simp
  rw[he',Sem.run_bind,hr];rfl
theorem Uu(hs:aB B E st w)(ht:aU E nt tm a){o:Oper}{k:K}{cop:gJ}(hc:iO P o.op=cop)(hp:vU cop=true)(h:gF cop aC call tm st k=some r):∃u,∀w',(execOp a.eval o).run P w' = .ok (.value u) w':=by
 unfold iO at hc
 split at hc
 case h_19 t x lo hi ho =>
  split at hc
  ·subst hc;cases hp
  ·rename_i e hu
   split at hc
   ·rename_i sz hz;subst hc;exact SF hs ht ho hu hz h
   ·subst hc;cases hp
  ·subst hc;cases hp
 all_goals first
 |(subst hc;cases hp;done)
 |(repeat' split at hc
   all_goals (subst hc;cases hp))
 |(unfold nZ at hc
   repeat' split at hc
   all_goals (subst hc;cases hp))
def Ig(P:Program)(nt:Nat)(ops:Array Oper)(E:ax)(tm:Tm)(a:Act)(x:Nat × CR)(p:Pr):Prop :=
 p.i=x.1/\∃o,ops[x.1]? = some o/\x.2=fH P nt ops o/\vT x.2=true/\((vU x.2.o=false/\Region.wanted o (yielded ops a.tmps)=true/\execOp a.eval o=p.s/\ag E (Ke x.2.d tm) p.v)∨∀w,p.s.run P w = .ok (.value p.v) w)
def jV(P:Program)(nt:Nat)(ops:Array Oper)(E:ax)(tm:Tm)(a:Act):List (Nat × CR)->List Pr->Prop
 |[],pr=>pr=[]
 |x::l,pr=>∃p m,pr=p::m/\Ig P nt ops E tm a x p/\jV P nt ops E tm a l m
theorem yJ{c:CR}(h:vT c=true):∃co d g,c = .mk co (some d) g/\cls co=0:=by
 cases c with
 |mk co d g =>
  cases d with
  |none=>cases h
  |some d=>exact⟨co,d,g,rfl,Nat.eq_of_beq_eq_true h⟩
theorem jV.imp{E':ax}{tm':Tm}{a':Act}:∀{l:List (Nat × CR)} {pr:List Pr},jV P nt ops E tm a l pr->(∀x∈l,∀p,Ig P nt ops E tm a x p->Ig P nt ops E' tm' a' x p)->jV P nt ops E' tm' a' l pr
 |[],_,h,_=>h
 |x::_l,_,⟨p,m,h1,h2,h3⟩,hi=>⟨p,m,h1,hi x (List.mem_cons_self ..) p h2,jV.imp h3 (fun y hy=>hi y (List.mem_cons_of_mem _ hy))⟩
theorem jV.left{j:Nat}:∀{l:List (Nat × CR)} {pr:List Pr},jV P nt ops E tm a l pr->jV P nt ops E tm a (l.filter (fun p=>!mP .any ops j p.1)) (Pr.left .any ops j pr)
 |[],_,h=>by subst h;rfl
 |x::l,_,⟨p,m,h1,h2,h3⟩=>by
  subst h1
  have ih:=jV.left (j:=j) h3
  unfold Pr.left at ih ⊢
  rw[List.filter_cons,List.filter_cons,h2.1]
  cases mP .any ops j x.1 with
  |true=>exact ih
  |false=>exact⟨p,_,rfl,h2,ih⟩
theorem rW{j i:Nat}{oj oi:Oper}(hj:ops[j]? = some oj)(hi:ops[i]? = some oi)(h:lF ops j i=true):∀d,oj.dst=some d->d∉oi.looksAt ops/\oi.dst≠some d:=by
 intro d hd
 unfold lF at h
 rw[hj,hi]at h
 simp only[hd,Bool.and_eq_true]at h
 exact⟨by simpa using h.1,by simpa using h.2⟩
theorem jV.put{E':ax}(hnt:nt<=5000000)(hsel:Region.noSelect ops=true){j:Nat}{oj:Oper}(hj:ops[j]? = some oj){l:List (Nat × CR)}{pr:List Pr}(h:jV P nt ops E tm a l pr)(hclr:l.all (fun p=>lF ops j p.1)=true)
 (hE:E.le E') {a':Act} (ha:a'.tmps=a.tmps) {d:Option (List D)} (hd:(oj.dst=none/\d=none)∨∃kk:Nat,oj.dst=some kk/\kk<nt/\d=some (az kk)) (v:AV) (u:Value):jV P nt ops E' (dL d v tm) (a'.put oj.dst u) l pr:=by
 refine h.imp fun x hx p hp=>?_
 obtain⟨h1,o,ho,h2,h3,h4⟩:=hp
 refine⟨h1,o,ho,h2,h3,?_⟩
 rcases h4 with ⟨g0,g1,g2,g3⟩ | g
 ·left
  refine⟨g0,?_⟩
  have hcl:=rW hj ho (List.all_eq_true.1 hclr x hx)
  have hev:a'.eval=a.eval:=by funext y;cases y<;>simp[Act.eval,ha]
  refine⟨?_,?_,?_⟩
  ·rw[wanted_put o a' oj.dst u (fun d hd=>(hcl d hd).1),ha];exact g1
  ·rw[execOp_put (ops:=ops) o (fun cs b=>Region.noSelect_spec hsel _ o cs b ho) a' oj.dst u (fun d hd=>(hcl d hd).1),hev];exact g2
  ·have g3:=g3.mono hE
   rcases hd with ⟨_,rfl⟩ | ⟨kk,hk1,hk2,rfl⟩
   ·exact g3
   ·obtain⟨co,d',g',hc,_⟩:=yJ h3
    rw[hc]at g3 ⊢
    rw[hc]at h2
    rcases um h2.symm with ⟨_,e,_⟩ | ⟨_,_,hdd⟩
    ·cases e
    ·rcases hdd with ⟨_,e⟩ | ⟨k2,hk3,hk4,e⟩
     ·cases e
     ·cases e
      have hne:k2≠kk:=fun e=>(hcl kk hk1).2 (by rw[hk3,e])
      show ag E' (gv (T.get (az k2) (T.set (az kk) (some v) tm))) p.v
      rw[fu (by omega) (by omega),if_neg hne]
      exact g3
 ·exact .inr g
theorem BX{y:Out}(hat:At B aC E nt tm st a w):∀{l:List (Nat × CR)} {pr:List Pr},jV P nt ops E tm a l pr->jA (l.map (·.2)) aC call tm st y=some r->y=some r/\jh P pr w
 |[],pr,h,hc=>⟨hc,fun p hp=>by rw[h]at hp;cases hp⟩
 |x::l,_,⟨p,m,h1,h2,h3⟩,hc=>by
  subst h1
  obtain⟨_,o,ho,e,hrd,hal⟩:=h2
  obtain⟨co,d,g,hco,hcls⟩:=yJ hrd
  rw[List.map_cons]at hc
  have hc:PQ x.2 aC call tm st (jA (l.map (·.2)) aC call tm st y)=some r:=hc
  rw[hco]at hc e hal
  rcases um e.symm with ⟨_,e',_⟩ | ⟨ec,hg,_⟩
  ·cases e'
  ·have key:∀{rest:Out},rest=some r->rest=jA (l.map (·.2)) aC call tm st y->(p.s.run P w = .ok (.value p.v) w)->y=some r/\jh P (p::m) w:=by
    intro rest hr he hp
    rw[he]at hr
    obtain⟨i1,i2⟩:=BX hat h3 hr
    refine⟨i1,fun q hq=>?_⟩
    rcases List.mem_cons.1 hq with rfl | hq
    ·exact hp
    ·exact i2 q hq
   rcases iB (show iff (vU co) (jA (l.map (·.2)) aC call tm st y) (nT g tm (gF co aC call tm st (fun v _=>must (gW v (gv (T.get d tm))) (jA (l.map (·.2)) aC call tm st y))) (jA (l.map (·.2)) aC call tm st y))=some r from hc)with ⟨hpu,hc⟩ | ⟨_,hc⟩
   ·refine key hc rfl ?_
    rcases hal with ⟨q0,_⟩ | q
    ·have q0:vU co=false:=q0
     rw[hpu]at q0;cases q0
    ·exact q _
   rcases Bb hat.fD hg (show nT g tm (gF co aC call tm st (fun v _=>must (gW v (gv (T.get d tm))) (jA (l.map (·.2)) aC call tm st y))) (jA (l.map (·.2)) aC call tm st y)=some r from hc)with ⟨hw,hy⟩ | ⟨hw,hy⟩
   ·have hrd':=(BJ hat.iI hat.big hat.fD (o:=o) ec.symm hy).1 hcls
    obtain⟨v,u,g1,g2,g3⟩:=hrd'
    obtain⟨hsame,g3⟩:=aJ g3
    refine key g3 rfl ?_
    rcases hal with ⟨_,_,q2,q3⟩ | q
    ·rw[<-q2,g1,(Tp v).1 _ _ _ hsame g2 q3]
    ·exact q _
   ·refine key hy rfl ?_
    rcases hal with ⟨_,q1,_,_⟩ | q
    ·rw[hw]at q1;cases q1
    ·exact q _
theorem Ak{listed:Array Bool}:∀{rs:List Nat} {i:Nat} {c:CR},vz P nt ops listed rs=some (i,c)->i∈rs/\∃o,ops[i]? = some o/\c=fH P nt ops o/\vT c=true/\Dy ops o=true/\Region.free .any ops listed i=true
 |[],_,_,h=>by cases h
 |j::rs,i,c,h=>by
  unfold vz at h
  split at h
  ·rename_i o ho
   split at h
   ·rename_i hb
    rw[Bool.and_eq_true,Bool.and_eq_true]at hb
    cases h
    exact⟨List.mem_cons_self ..,o,ho,rfl,hb.1,hb.2.1,hb.2.2⟩
   ·obtain⟨h1,h2⟩:=Ak h
    exact⟨List.mem_cons_of_mem _ h1,h2⟩
  ·obtain⟨h1,h2⟩:=Ak h
   exact⟨List.mem_cons_of_mem _ h1,h2⟩
end
end Go.AM
