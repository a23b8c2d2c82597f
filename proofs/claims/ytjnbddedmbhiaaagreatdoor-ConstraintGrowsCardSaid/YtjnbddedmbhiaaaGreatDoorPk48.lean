/-
  A call that was run by itself, used where the counter of the state is another one: the numbers of its own objects are moved.
-/
import Derived.Test.YtjnbddedmbhiaaaGreatDoorPk47
import Derived.Lib.Bytealg
import Derived.ProofKit
import Derived.OpenShut
import Derived.Lib.SmallJoins
import Derived.Deep.Slices
import Derived.Deep.Fields
import Derived.ChangeSame
import Derived.SliceStrings
import Derived.Deep.DeepHandedRow
import Derived.Lib.LaidTab
import Derived.Recover
import Derived.Test.YtjnbddedmbhiaaaGreatDoorPk16
namespace Go.AM
open Go.RowKit
noncomputable def kV(g:Nat->Nat)(v:AV):AV:=AV.rec (motive:=fun _=>AV) .u (fun b=>.b b) (fun k n=>.i k n) (fun l=>.s l) .p0 (fun r o=>.p (g r) o) .l0 (fun r k n=>.l (g r) k n) .m0 (fun r=>.m (g r)) .f0 (fun fn _ _ ia ic=>.f fn ia ic) .x0 (fun t _ iw=>.x t iw) (fun _ ic=>.a ic) (fun _ ic=>.t ic) .nl (fun _ _ ix il=>.cn ix il) v
theorem TW(g:Nat->Nat)(v:AV):rG (kV g v)=rG v:=by cases v<;>rfl
theorem ve{E E2:ax}{g:Nat->Nat}(h:∀s l,E s=some l->E2 (g s)=some l)(a:AV):(∀v,ag E a v->ag E2 (kV g a) v)/\(∀l,au E a l->au E2 (kV g a) l):=by
 induction a with
 |p r o=>exact⟨fun v ⟨l,hl,hv⟩=>⟨l,h r l hl,hv⟩,fun l hl=>by simp only[au]at hl⟩
 |l r k n=>exact⟨fun v ⟨l,hl,hv⟩=>⟨l,h r l hl,hv⟩,fun l hl=>by simp only[au]at hl⟩
 |m r=>exact⟨fun v ⟨l,hl,hv⟩=>⟨l,h r l hl,hv⟩,fun l hl=>by simp only[au]at hl⟩
 |f fn a c iha ihc=>exact⟨fun v ⟨la,lc,hv,h1,h2⟩=>⟨la,lc,hv,iha.2 la h1,ihc.2 lc h2⟩,fun l hl=>by simp only[au]at hl⟩
 |x t w ih=>exact⟨fun v ⟨u,hv,h1⟩=>⟨u,hv,ih.1 u h1⟩,fun l hl=>by simp only[au]at hl⟩
 |a c ih=>exact⟨fun v ⟨l,hv,h1⟩=>⟨l,hv,ih.2 l h1⟩,fun l hl=>by simp only[au]at hl⟩
 |t c ih=>exact⟨fun v ⟨l,hv,h1⟩=>⟨l,hv,ih.2 l h1⟩,fun l hl=>by simp only[au]at hl⟩
 |cn x t ihx iht=>exact⟨fun v hv=>by simp only[ag]at hv,fun l ⟨y,m,hl,h1,h2⟩=>⟨y,m,hl,ihx.1 y h1,iht.2 m h2⟩⟩
 |_=>refine⟨fun v hv=>?_,fun l hl=>?_⟩<;>first | trivial | (simp only[ag]at hv ⊢;exact hv) | (simp only[au]at hl ⊢;exact hl) | (simp only[ag]at hv) | (simp only[au]at hl)
theorem TZ{E E2:ax}{g:Nat->Nat}(h:∀s l,E s=some l->E2 (g s)=some l){a:AV}{l:List Value}(hc:fo E a l):fo E2 (kV g a) l:=by
 rcases hc with ⟨c,rfl,hc⟩ | ⟨hi,v,rfl,hv⟩
 ·exact .inl ⟨kV g c,rfl,(ve h c).2 _ hc⟩
 ·exact .inr ⟨by rw[TW];exact hi,v,rfl,(ve h a).1 _ hv⟩
noncomputable def DC(g:Nat->Nat):ME->ME
 | .nil=>.nil
 | .cons k v n l=>.cons (kV g k) (kV g v) n (DC g l)
theorem KJ{E E2:ax}{g:Nat->Nat}(h:∀s l,E s=some l->E2 (g s)=some l):∀(es:ME) (l:List MapEntry),dI E es l->dI E2 (DC g es) l
 | .nil,_,hl=>hl
 | .cons k v n r,l,hl=>by
   obtain⟨e,m,rfl,h1,h2,h3,h4⟩:=hl
   exact⟨e,m,rfl,(ve h k).1 _ h1,(ve h v).1 _ h2,h3,KJ h r m h4⟩
noncomputable def xO(g:Nat->Nat):mV->mV
 | .c t n row=>.c t n (kV g row)
 | .v e sz n xs=>.v e sz n (xs.map (kV g))
 | .mp es k=>.mp (DC g es) k
 | .al r k=>.al (g r) k
theorem Dz(g:Nat->Nat)(o:mV):(xO g o).ob.dz=o.ob.dz:=by cases o<;>rfl
theorem TV{E E2:ax}{g:Nat->Nat}(h:∀s l,E s=some l->E2 (g s)=some l){ro:Bool}{l:Loc}{w:World}{o:mV}(hlen:∀e sz n xs,o = .v e sz n xs->xs.length<=5000000)(ho:dR E ro l w o.ob):dR E2 ro l w (xO g o).ob:=by
 cases o with
 |c t n row =>
  obtain⟨c,fr,lv,t',h1,h2,h3,h4,h5⟩:=ho
  exact⟨c,fr,lv,t',h1,h2,(ve h row).2 _ h3,h4,h5⟩
 |v e sz n xs =>
  obtain⟨c,fr,h1,h2,h3,h4,h5,h6⟩:=ho
  have hl:=hlen e sz n xs rfl
  refine⟨c,fr,h1,h2,h3,h4,h5,fun q hq v hv=>?_⟩
  have hq':q<lim:=by have:=h4.2;show q<22369621;omega
  change T.get (az q) (ofList (xs.map (kV g)) 0 .e)=some v at hv
  rw[yn _ 0 .e (by simp;omega) q hq',lh]at hv
  split at hv
  ·rename_i hb
   simp only[Nat.sub_zero,List.getElem?_map,Option.map_eq_some_iff]at hv
   obtain⟨x,hx,rfl⟩:=hv
   obtain⟨lv,i1,i2,i3⟩:=h6 q hq x (by
    show T.get (az q) (ofList xs 0 .e)=some x
    rw[yn xs 0 .e (by omega) q hq',if_pos (by simp at hb;omega)]
    simpa using hx)
   exact⟨lv,i1,TZ h i2,i3⟩
  ·cases hv
 |mp es c =>
  obtain⟨a,h1,h2⟩:=ho
  exact⟨a,h1,KJ h es _ h2⟩
 |al b q =>
  obtain⟨h1,l2,h2,h3⟩:=ho
  exact⟨h1,l2,h b l2 h2,h3⟩
noncomputable def jU(n:Nat)(v:AV):Bool:=AV.rec (motive:=fun _=>Bool) true (fun _=>true) (fun _ _=>true) (fun _=>true) true (fun r _=>Nat.blt r n) true (fun r _ _=>Nat.blt r n) true (fun r=>Nat.blt r n) true (fun _ _ _ ia ic=>and ia ic) true (fun _ _ iw=>iw) (fun _ ic=>ic) (fun _ ic=>ic) true (fun _ _ ix il=>and ix il) v
theorem wM{E E2:ax}{n:Nat}(h:∀s l,s<n->E s=some l->E2 s=some l)(a:AV)(hb:jU n a=true):(∀v,ag E a v->ag E2 a v)/\(∀l,au E a l->au E2 a l):=by
 induction a with
 |p r o=>exact⟨fun v ⟨l,hl,hv⟩=>⟨l,h r l (dn hb) hl,hv⟩,fun l hl=>by simp only[au]at hl⟩
 |l r k m=>exact⟨fun v ⟨l,hl,hv⟩=>⟨l,h r l (dn hb) hl,hv⟩,fun l hl=>by simp only[au]at hl⟩
 |m r=>exact⟨fun v ⟨l,hl,hv⟩=>⟨l,h r l (dn hb) hl,hv⟩,fun l hl=>by simp only[au]at hl⟩
 |f fn a c iha ihc =>
  have hb:(jU n a&&jU n c)=true:=hb
  rw[Bool.and_eq_true]at hb
  exact⟨fun v ⟨la,lc,hv,h1,h2⟩=>⟨la,lc,hv,(iha hb.1).2 la h1,(ihc hb.2).2 lc h2⟩,fun l hl=>by simp only[au]at hl⟩
 |x t w ih=>exact⟨fun v ⟨u,hv,h1⟩=>⟨u,hv,(ih hb).1 u h1⟩,fun l hl=>by simp only[au]at hl⟩
 |a c ih=>exact⟨fun v ⟨l,hv,h1⟩=>⟨l,hv,(ih hb).2 l h1⟩,fun l hl=>by simp only[au]at hl⟩
 |t c ih=>exact⟨fun v ⟨l,hv,h1⟩=>⟨l,hv,(ih hb).2 l h1⟩,fun l hl=>by simp only[au]at hl⟩
 |cn x t ihx iht =>
  have hb:(jU n x&&jU n t)=true:=hb
  rw[Bool.and_eq_true]at hb
  exact⟨fun v hv=>by simp only[ag]at hv,fun l ⟨y,m,hl,h1,h2⟩=>⟨y,m,hl,(ihx hb.1).1 y h1,(iht hb.2).2 m h2⟩⟩
 |_=>refine⟨fun v hv=>?_,fun l hl=>?_⟩<;>first | trivial | (simp only[ag]at hv ⊢;exact hv) | (simp only[au]at hl ⊢;exact hl) | (simp only[ag]at hv) | (simp only[au]at hl)
noncomputable def Cm(n:Nat):ME->Bool
 | .nil=>true
 | .cons k v _ l=>and (jU n k) (and (jU n v) (Cm n l))
theorem Ql{E E2:ax}{n:Nat}(h:∀s l,s<n->E s=some l->E2 s=some l):∀(es:ME) (l:List MapEntry),Cm n es=true->dI E es l->dI E2 es l
 | .nil,_,_,hl=>hl
 | .cons k v m r,l,hb,hl=>by
   have hb:(jU n k&&(jU n v&&Cm n r))=true:=hb
   simp only[Bool.and_eq_true]at hb
   obtain⟨e,m,rfl,h1,h2,h3,h4⟩:=hl
   exact⟨e,m,rfl,(wM h k hb.1).1 _ h1,(wM h v hb.2.1).1 _ h2,h3,Ql h r m hb.2.2 h4⟩
noncomputable def zn(n:Nat):mV->Bool
 | .c _ _ row=>jU n row
 | .v _ _ _ xs=>and (Nat.ble xs.length 5000000) (xs.all (jU n))
 | .mp es _=>Cm n es
 | .al r _=>Nat.blt r n
theorem y1t{E E2:ax}{n:Nat}(h:∀s l,s<n->E s=some l->E2 s=some l){ro:Bool}{l:Loc}{w:World}{o:mV}(hb:zn n o=true)(ho:dR E ro l w o.ob):dR E2 ro l w o.ob:=by
 cases o with
 |c t m row =>
  obtain⟨c,fr,lv,t',h1,h2,h3,h4,h5⟩:=ho
  exact⟨c,fr,lv,t',h1,h2,(wM h row hb).2 _ h3,h4,h5⟩
 |v e sz m xs =>
  obtain⟨c,fr,h1,h2,h3,h4,h5,h6⟩:=ho
  have hb:(Nat.ble xs.length 5000000&&xs.all (jU n))=true:=hb
  rw[Bool.and_eq_true]at hb
  have hl:xs.length<=5000000:=Nat.le_of_ble_eq_true hb.1
  refine⟨c,fr,h1,h2,h3,h4,h5,fun q hq v hv=>?_⟩
  have hq':q<lim:=by have:=h4.2;show q<22369621;omega
  obtain⟨lv,i1,i2,i3⟩:=h6 q hq v hv
  refine⟨lv,i1,?_,i3⟩
  change T.get (az q) (ofList xs 0 .e)=some v at hv
  rw[yn _ 0 .e (by omega) q hq',lh]at hv
  split at hv
  ·have hm:jU n v=true:=List.all_eq_true.1 hb.2 v (List.mem_of_getElem? hv)
   rcases i2 with ⟨c,rfl,hc⟩ | ⟨hi,x,rfl,hx⟩
   ·exact .inl ⟨c,rfl,(wM h c hm).2 _ hc⟩
   ·exact .inr ⟨hi,x,rfl,(wM h v hm).1 _ hx⟩
  ·cases hv
 |mp es c =>
  obtain⟨a,h1,h2⟩:=ho
  exact⟨a,h1,Ql h es _ hb h2⟩
 |al b q =>
  obtain⟨h1,l2,h2,h3⟩:=ho
  exact⟨h1,l2,h b l2 (dn hb) h2,h3⟩
def gM(a n r:Nat):Nat:=cond (Nat.blt r a) r (Nat.add (Nat.sub r a) n)
noncomputable def u7(g:Nat->Nat)(ls:dG):dG:=ls.map (fun p=>(g p.1,xO g p.2))
def Ay:dG->Bool
 |[]=>true
 |(i,_)::ls=>and (not (qw i ls)) (Ay ls)
theorem Km:∀{ls:dG} {h:T Ob},(∀i l,(i,l)∈ls->i<5000000)->Ay ls=true->∀s lo,(s,lo)∈ls->T.get (az s) (gK ls h)=some lo.ob
 |[],_,_,_,_,_,hm=>by cases hm
 |(i,l)::ls,h,hb,hnd,s,lo,hm=>by
  have hnd:(!qw i ls&&Ay ls)=true:=hnd
  rw[Bool.and_eq_true]at hnd
  have hb':∀i l,(i,l)∈ls->i<5000000:=fun i l hm=>hb i l (List.mem_cons_of_mem _ hm)
  show T.get (az s) (gK ls (T.set (az i) (some l.ob) h))=_
  rcases List.mem_cons.1 hm with e | hm
  ·cases e
   have hi:=hb _ _ (List.mem_cons_self ..)
   rw[zX hb' _ (show _<22369621 by omega) (fun l hl=>by
    have:=A9.2 ⟨l,hl⟩
    rw[this]at hnd
    exact absurd hnd.1 (by simp)),fu (by omega) (by omega),if_pos rfl]
  ·exact Km hb' hnd.2 s lo hm
noncomputable def Chunk.ym(c:Chunk):Bool:=and c.ok (and (Ay c.outs) (and (jU c.n c.xs) (and (Nat.ble lowN c.n) (and (Nat.ble c.n c.m) (and (c.ins.all (fun p=>and (Nat.blt p.1 c.n) (zn c.n p.2))) (c.outs.all (fun p=>and (Nat.blt p.1 c.m) (zn c.m p.2))))))))
noncomputable def Chunk.qY(c:Chunk)(xs:AV)(st:St):Out:=match st with
 | .mk h n=>must (and (eU xs c.xs) (and (Nat.ble c.n n) (and (Nat.ble (Nat.add (Nat.sub c.m c.n) n) 5000000) (pF h c.ins))))
   (some [(kV (gM c.n n) c.v,.mk (gK (u7 (gM c.n n) c.outs) (tV c.ins h)) (Nat.add (Nat.sub c.m c.n) n))])
theorem qj{a n r:Nat}(h:r<a):gM a n r=r:=by
 unfold gM
 rw[show Nat.blt r a=true from by rw[Nat.blt_eq];exact h];rfl
theorem tJ{a n r:Nat}(h:a<=r):gM a n r=r-a+n:=by
 unfold gM
 cases hb:Nat.blt r a with
 |true=>have:=dn hb;omega
 |false=>rfl
theorem Mw{g:Nat->Nat}{ls:dG}{r:Nat}{l:mV}(h:(r,l)∈u7 g ls):∃s lo,(s,lo)∈ls/\r=g s/\l=xO g lo:=by
 unfold u7 at h
 obtain⟨⟨s,lo⟩,hm,he⟩:=List.mem_map.1 h
 simp only[Prod.mk.injEq]at he
 exact⟨s,lo,hm,he.1.symm,he.2.symm⟩
section
variable {P:Program}{B:bB}{G:Env}
theorem Chunk.Ha(c:Chunk)(hok:c.ym=true){N:Nat}(hrun:uy ((recs P G N).call c.f c.xs (c.ins.st c.n)) c.v c.outs c.m=true)
 (hm:P.follows .mixedOrders=true) (hno:qM P G.aC) (hN:sw P) (hprim:∀B f g,G.kY f=some g->iR P B f g):iR P B c.f c.qY:=by
 intro xs st outs E w args h hs hB hl
 obtain⟨th,n⟩:=st
 unfold Chunk.qY at h
 obtain⟨hc,h'⟩:=aJ h
 clear h
 cases h'
 simp only[Bool.and_eq_true]at hc
 obtain⟨hx,hn,h5,hcs⟩:=hc
 have hx:=ui _ _ hx
 have hn:c.n<=n:=Nat.le_of_ble_eq_true hn
 have h5:c.m-c.n+n<=5000000:=Nat.le_of_ble_eq_true h5
 subst hx
 obtain⟨outs2,hr2,hall⟩:=PI hrun
 unfold Chunk.ym Chunk.ok at hok
 simp only[Bool.and_eq_true]at hok
 obtain⟨⟨hal,hlow1,hlow2⟩,hnd,hbx,hlown,hnm,hinsB,houtsB⟩:=hok
 have hlown:lowN<=c.n:=Nat.le_of_ble_eq_true hlown
 have hnm:c.n<=c.m:=Nat.le_of_ble_eq_true hnm
 have hinsB:∀i l,(i,l)∈c.ins->i<c.n/\zn c.n l=true:=fun i l hm=>by
  have:=List.all_eq_true.1 hinsB _ hm
  rw[Bool.and_eq_true]at this
  exact⟨dn this.1,this.2⟩
 have houtsB:∀i l,(i,l)∈c.outs->i<c.m/\zn c.m l=true:=fun i l hm=>by
  have:=List.all_eq_true.1 houtsB _ hm
  rw[Bool.and_eq_true]at this
  exact⟨dn this.1,this.2⟩
 have hbi:∀i l,(i,l)∈c.ins->i<5000000:=fun i l hm=>(om hcs i l hm).1
 have hhigh:n<=5000000:=hs.high
 have hfresh:∀r,n<=r->E r=none:=hs.fresh
 let E0:ax:=fun r=>if r<c.n then E r else none
 have hE0:∀s l,s<c.n->E s=some l->E0 s=some l:=fun s l hlt he=>by show(if s<c.n then E s else none)=_;rw[if_pos hlt];exact he
 have hE0':∀s l,E0 s=some l->s<c.n/\E s=some l:=fun s l he=>by
  have he:(if s<c.n then E s else none)=some l:=he
  split at he
  ·exact⟨‹_›,he⟩
  ·cases he
 -- the rest of the state is left as it is
 let B':bB:=fun k=>B k∨∃r o l,r<lim/\T.get (az r) th=some o/\o.dz=false/\(∀l,(r,l)∉c.ins)/\E r=some l/\l.blk=k
 have hs0:aB B E (c.ins.st n) w:=hs.words hcs
 have hsub:aB B' E0 (c.ins.st c.n) w:=by
  refine⟨fun r o hr hg=>?_,fun r r' o o' l l' hr hr' hne hg hg' ha ha' hE hE'=>hs0.apart r r' o o' l l' hr hr' hne hg hg' ha ha' (hE0' r l hE).2 (hE0' r' l' hE').2,fun r o l hr hlo hg hE hb=>?_,fun r hr=>?_,hlown,Nat.le_trans hn hhigh,fun g hg=>hE0 g _ (Nat.lt_of_lt_of_le hg hlown) (hs.kg g hg)⟩
  ·obtain⟨l,hl,ho⟩:=hs0.live r o hr hg
   rcases pW hbi r o hr hg with ⟨lo,hm1,rfl⟩ | ⟨_,hh⟩
   ·obtain⟨i1,i2⟩:=hinsB r lo hm1
    exact⟨l,hE0 r l i1 hl,y1t hE0 i2 ho⟩
   ·rw[lh]at hh;cases hh
  ·have hE:=(hE0' r l hE).2
   rcases hb with hb | ⟨r',o',l',h1,h2,h3,h4,h5,h6⟩
   ·exact hs0.own r o l hr hlo hg hE hb
   ·rcases pW hbi r o hr hg with ⟨lo,hm1,rfl⟩ | ⟨_,hh⟩
    ·obtain⟨_,o2,hg2,hck⟩:=om hcs r lo hm1
     obtain⟨hia,_⟩:=za hck
     exact hs.apart r r' o2 o' l l' hr h1 (fun e=>h4 lo (e▸hm1)) hg2 h2 (hia.trans (tC hal r lo hm1)) h3 hE h5 h6.symm
    ·rw[lh]at hh;cases hh
  ·have hr:c.n<=r:=hr
   show(if r<c.n then E r else none)=none
   rw[if_neg (Nat.not_lt.2 hr)]
 have hB':dJ B' w:=⟨hB.low,fun k hk=>by
  rcases hk with hk | ⟨r,o,l,h1,h2,h3,h4,h5,rfl⟩
  ·exact hB.lt k hk
  ·obtain⟨l',hl',ho⟩:=hs.live r o h1 h2
   rw[h5]at hl'
   cases hl'
   exact ho.there⟩
 have hcall:=(xP hm hno hN hprim N B').call B' c.f c.xs _ _ E0 w args hr2 hsub hB' ((wM hE0 c.xs hbx).2 _ hl)
 refine⟨hcall.1,hcall.2.mono ?_⟩
 rintro e w' ⟨u,v,st',E1,rfl,hmem,hle,hs2,hv,hbel⟩
 obtain⟨rfl,t2,rfl,hc2⟩:=hall v st' hmem
 have hbo:∀i l,(i,l)∈c.outs->i<5000000:=fun i l hm=>(om hc2 i l hm).1
 have hs3:aB B' E1 (c.outs.st c.m) w':=hs2.words hc2
 let E2:ax:=fun r=>if r<c.n then E1 r else if r<n then E r else E1 (r-n+c.n)
 have hgE:∀s,E2 (gM c.n n s)=E1 s:=fun s=>by
  by_cases hlt:s<c.n
  ·rw[qj hlt];show(if s<c.n then E1 s else _)=_;rw[if_pos hlt]
  ·rw[tJ (by omega)]
   show(if s-c.n+n<c.n then _ else if s-c.n+n<n then _ else E1 (s-c.n+n-n+c.n))=_
   rw[if_neg (by omega),if_neg (by omega)]
   congr 1;omega
 have hgE':∀s l,E1 s=some l->E2 (gM c.n n s)=some l:=fun s l h=>by rw[hgE];exact h
 have hleE:E.le E2:=fun r l hr=>by
  show(if r<c.n then E1 r else if r<n then E r else E1 (r-n+c.n))=some l
  by_cases h1:r<c.n
  ·rw[if_pos h1];exact hle r l (hE0 r l h1 hr)
  ·rw[if_neg h1]
   by_cases h2:r<n
   ·rw[if_pos h2];exact hr
   ·rw[hfresh r (by omega)]at hr;cases hr
 have hinj:∀s s',gM c.n n s=gM c.n n s'->s=s':=fun s s' he=>by
  by_cases h1:s<c.n<;>by_cases h2:s'<c.n
  ·rw[qj h1,qj h2]at he;exact he
  ·rw[qj h1,tJ (by omega)]at he;omega
  ·rw[tJ (by omega),qj h2]at he;omega
  ·rw[tJ (by omega),tJ (by omega)]at he;omega
 have hbo':∀i l,(i,l)∈u7 (gM c.n n) c.outs->i<5000000:=fun i l hm=>by
  obtain⟨s,lo,h1,rfl,_⟩:=Mw hm
  have:=(houtsB s lo h1).1
  by_cases h2:s<c.n
  ·rw[qj h2];omega
  ·rw[tJ (by omega)];omega
 refine⟨u,kV (gM c.n n) c.v,.mk (gK (u7 (gM c.n n) c.outs) (tV c.ins th)) (c.m-c.n+n),E2,rfl,List.mem_singleton.2 rfl,hleE,?_,(ve hgE' c.v).1 _ hv,⟨hbel.os,hbel.tape,hbel.output,hbel.size,fun k hk=>hbel.block k (.inl hk)⟩⟩
 -- what the state is then
 have was:∀r o,r<lim->T.get (az r) (gK (u7 (gM c.n n) c.outs) (tV c.ins th))=some o->(∃s lo,(s,lo)∈c.outs/\T.get (az s) (gK c.outs .e)=some lo.ob/\r=gM c.n n s/\o=(xO (gM c.n n) lo).ob/\s<lim)∨((∀l,(r,l)∉c.ins)/\T.get (az r) th=some o):=fun r o hr hg=>by
  rcases pW hbo' r o hr hg with ⟨l,h1,h2⟩ | ⟨h1,h2⟩
  ·left
   obtain⟨s,lo,h3,rfl,rfl⟩:=Mw h1
   exact⟨s,lo,h3,Km hbo hnd s lo h3,rfl,h2,by have:=hbo s lo h3;show s<22369621;omega⟩
  ·obtain⟨h3,h4⟩:=Fz hbi r o hr h2
   exact .inr ⟨h3,h4⟩
 have hrest:∀r o l,r<lim->(∀l,(r,l)∉c.ins)->T.get (az r) th=some o->o.dz=false->E r=some l->B' l.blk:=fun r o l h1 h2 h3 h4 h5=>.inr ⟨r,o,l,h1,h3,h4,h2,h5,rfl⟩
 have old:∀s q ls,s<lim->T.get (az s) th=some q->E2 s=some ls->E s=some ls:=fun s q ls h1 h2 h3=>by
  obtain⟨l0,hl0,_⟩:=hs.live s q h1 h2
  rw[hleE s l0 hl0]at h3
  rw[<-h3];exact hl0
 have mixed:∀s s' lo q' ls ls',s<lim->s'<lim->gM c.n n s≠s'->(s,lo)∈c.outs->T.get (az s) (gK c.outs .e)=some lo.ob->(∀l,(s',l)∉c.ins)->T.get (az s') th=some q'->lo.ob.dz=false->q'.dz=false->E1 s=some ls->E s' = some ls'->ls.blk≠ls'.blk:=by
  intro s s' lo q' ls ls' h1 h2 h3 hmo h4 h5 h6 h7 h8 h9 h10
  have hb:=hrest s' q' ls' h2 h5 h6 h8 h10
  by_cases hlo:lowN<=s
  ·exact fun e=>hs3.own s lo.ob ls h1 hlo h4 h9 (e▸hb)
  ·have hin:qw s c.ins=true:=by
    have:=List.all_eq_true.1 hlow2 _ hmo
    rw[Bool.or_eq_true]at this
    rcases this with h | h
    ·exact absurd (Nat.le_of_ble_eq_true h) hlo
    ·exact h
   obtain⟨li,hmi⟩:=A9.1 hin
   obtain⟨_,o2,hg2,hck⟩:=om hcs s li hmi
   obtain⟨hia,_⟩:=za hck
   have hsn:s<c.n:=by omega
   rw[qj hsn]at h3
   obtain⟨l0,hl0,_⟩:=hs.live s o2 h1 hg2
   have hEs:E s=some ls:=by
    have:=hle s l0 (hE0 s l0 hsn hl0)
    rw[this]at h9
    rw[<-h9];exact hl0
   exact hs.apart s s' o2 q' ls ls' h1 h2 h3 hg2 h6 (hia.trans (tC hal s li hmi)) h8 hEs h10
 refine⟨fun r o hr hg=>?_,fun r r' o o' l l' hr hr' hne hg hg' ha ha' hE hE'=>?_,fun r o l hr hlo hg hE hb=>?_,fun r hr=>?_,?_,h5,fun g hg=>?_⟩
 ·rcases was r o hr hg with ⟨s,lo,hmo,h1,rfl,rfl,hsl⟩ | ⟨h2,h3⟩
  ·obtain⟨l,hl,ho⟩:=hs3.live s lo.ob hsl h1
   refine⟨l,hgE' s l hl,?_⟩
   have hro:Nat.blt (gM c.n n s) lowN=Nat.blt s lowN:=by
    by_cases hlt:s<c.n
    ·rw[qj hlt]
    ·have e1:Nat.blt s lowN=false:=by
      cases hb:Nat.blt s lowN with
      |false=>rfl
      |true=>have:=dn hb;omega
     have e2:Nat.blt (gM c.n n s) lowN=false:=by
      cases hb:Nat.blt (gM c.n n s) lowN with
      |false=>rfl
      |true=>have:=dn hb;rw[tJ (by omega)]at this;omega
     rw[e1,e2]
   rw[hro]
   refine TV hgE' (fun e sz k xs he=>?_) ho
   have hbb:=(houtsB s lo hmo).2
   rw[he]at hbb
   have hbb:(Nat.ble xs.length 5000000&&xs.all (jU c.m))=true:=hbb
   rw[Bool.and_eq_true]at hbb
   exact Nat.le_of_ble_eq_true hbb.1
  ·obtain⟨l,hlE,ho⟩:=hs.live r o hr h3
   refine⟨l,hleE r l hlE,?_⟩
   cases hia:o.dz with
   |true=>exact ho.AU hleE hia (Nat.lt_of_lt_of_le ho.there hbel.size)
   |false=>exact ho.keep hleE (hbel.block l.blk (hrest r o l hr h2 h3 hia hlE))
 ·rcases was r o hr hg with ⟨s,lo,hmo,h1,rfl,rfl,hsl⟩ | ⟨h2,h3⟩
  ·rw[hgE]at hE
   rw[Dz]at ha
   rcases was r' o' hr' hg' with ⟨s',lo',hmo',h1',rfl,rfl,hsl'⟩ | ⟨h2',h3'⟩
   ·rw[hgE]at hE'
    rw[Dz]at ha'
    exact hs3.apart s s' lo.ob lo'.ob l l' hsl hsl' (fun e=>hne (by rw[e])) h1 h1' ha ha' hE hE'
   ·exact mixed s r' lo o' l l' hsl hr' hne hmo h1 h2' h3' ha ha' hE (old r' o' l' hr' h3' hE')
  ·rcases was r' o' hr' hg' with ⟨s',lo',hmo',h1',rfl,rfl,hsl'⟩ | ⟨h2',h3'⟩
   ·rw[hgE]at hE'
    rw[Dz]at ha'
    exact fun e=>mixed s' r lo' o l' l hsl' hr (Ne.symm hne) hmo' h1' h2 h3 ha' ha hE' (old r o l hr h3 hE) e.symm
   ·exact hs.apart r r' o o' l l' hr hr' hne h3 h3' ha ha' (old r o l hr h3 hE) (old r' o' l' hr' h3' hE')
 ·rcases was r o hr hg with ⟨s,lo,hmo,h1,rfl,rfl,hsl⟩ | ⟨h2,h3⟩
  ·rw[hgE]at hE
   refine hs3.own s lo.ob l hsl ?_ h1 hE (.inl hb)
   by_cases hlt:s<c.n
   ·rw[qj hlt]at hlo;exact hlo
   ·omega
  ·exact hs.own r o l hr hlo h3 (old r o l hr h3 hE) hb
 ·have hr:c.m-c.n+n<=r:=hr
  show(if r<c.n then E1 r else if r<n then E r else E1 (r-n+c.n))=none
  rw[if_neg (by omega),if_neg (by omega)]
  exact hs3.fresh _ (by show c.m<=_;omega)
 ·show lowN<=c.m-c.n+n
  have:lowN<=n:=hs.low
  omega
 ·show(if g<c.n then E1 g else _)=_
  rw[if_pos (by omega)]
  exact hs3.kg g hg
end
end Go.AM
namespace Go.AM
open Go.RowKit
section
variable {P:Program}{B:bB}{G:Env}
theorem Aj{f:Nat}{g:xu} (h:∀xs st outs,g xs st=some outs->∃v,outs=[(v,st)]/\∀(E:ax) (w:World) (args:List Value),au E xs args ->
 (callFunc f args.toArray).run P w = .ok (.enter f args.toArray) w/\Calls P f args.toArray w (fun e w'=>∃u,e = .returned u/\ag E v u/\Below w.heap.size w w')):iR P B f g:=by
 intro xs st outs E w args hg hs hB hl
 obtain⟨v,rfl,hc⟩:=h xs st outs hg
 obtain⟨h1,h2⟩:=hc E w args hl
 refine⟨h1,h2.mono ?_⟩
 rintro e w' ⟨u,rfl,hv,hb⟩
 exact⟨u,v,st,E,rfl,List.mem_singleton.2 rfl,ax.le_refl E,hs.below hb,hv,⟨hb.os,hb.tape,hb.output,hb.size,fun k hk=>hb.block k (hB.lt k hk)⟩⟩
theorem FJ{v:AV}(h:nP v=true):v = .nl:=by cases v<;>first | rfl | cases h

noncomputable def rH(c:Nat)(l:List Nat):Nat->Int:=List.rec (motive:=fun _=>Nat->Int) (fun _=>-1) (fun x _ ih n=>Bool.rec (motive:=fun _=>Int) (ih (Nat.succ n)) (.ofNat n) (Nat.beq x c)) l
noncomputable def F3(xs:AV)(st:St):Out:=jD xs (fun x l=>jD l (fun y m=>iF x (fun s=>iP y (fun q n=>must (and (lu q .u8) (nP m)) (Int.rec (motive:=fun _=>Out) (fun c=>must (Nat.blt c 256) (some [(.i .i64 (rH c s 0),st)])) (fun _=>none) n)))))
theorem Qr(x:UInt8){c:Nat}(hc:c<256):Nat.beq x.toNat c=(x==c.toUInt8):=by
 rw[Bool.eq_iff_iff]
 constructor
 ·intro h
  have h:=Nat.eq_of_beq_eq_true h
  rw[beq_iff_eq]
  apply UInt8.toNat_inj.1
  rw[h]
  show c=(UInt8.ofNat c).toNat
  rw[UInt8.toNat_ofNat'];omega
 ·intro h
  rw[beq_iff_eq]at h
  subst h
  have:(UInt8.ofNat c).toNat=c:=by rw[UInt8.toNat_ofNat'];omega
  show Nat.beq (UInt8.ofNat c).toNat c=true
  rw[this];exact Nat.beq_refl c
theorem NN:∀(l:List UInt8) (c:UInt8),-1<=Lib.indexByte l c
 |[],_=>by simp[Lib.indexByte]
 |b::l,c=>by
  have:=NN l c
  simp only[Lib.indexByte]
  split
  ·omega
  split
  ·omega
  ·omega
theorem NQ{c:Nat}(hc:c<256):∀(l:List UInt8) (n:Nat),rH c (l.map (·.toNat)) n=if Lib.indexByte l c.toUInt8 = -1 then -1 else Lib.indexByte l c.toUInt8+n
 |[],n=>by simp[rH,Lib.indexByte]
 |x::l,n=>by
  have e:rH c ((x::l).map (·.toNat)) n=Bool.rec (motive:=fun _=>Int) (rH c (l.map (·.toNat)) (Nat.succ n)) (.ofNat n) (Nat.beq x.toNat c):=rfl
  rw[e,Qr x hc,NQ hc l]
  have hlb:=NN l c.toUInt8
  by_cases hx:x=c.toUInt8
  ·have e1:Lib.indexByte (x::l) c.toUInt8=0:=by simp[Lib.indexByte,hx]
   have e2:(x==c.toUInt8)=true:=by simp[hx]
   rw[e1,e2]
   simp
  ·have e2:(x==c.toUInt8)=false:=by simpa using hx
   by_cases h1:Lib.indexByte l c.toUInt8 = -1
   ·have e1:Lib.indexByte (x::l) c.toUInt8 = -1:=by simp[Lib.indexByte,hx,h1]
    rw[e1,e2,h1]
    rfl
   ·have e1:Lib.indexByte (x::l) c.toUInt8=Lib.indexByte l c.toUInt8+1:=by simp[Lib.indexByte,hx,h1]
    rw[e1,e2,if_neg h1,if_neg (by omega)]
    show Lib.indexByte l c.toUInt8+((n+1:Nat):Int)=_
    omega
theorem NP{c:Nat}(hc:c<256)(l:List UInt8):rH c (l.map (·.toNat)) 0=Lib.indexByte l c.toUInt8:=by
 rw[NQ hc]
 split
 ·rename_i h;exact h.symm
 ·simp
def QG(P:Program)(f:Nat):Prop:=(∀(s:ByteArray) (c:Int) (w:World),Calls P f #[.string s,.int .u8 c] w fun e w'=>e = .returned (.int .i64 (Lib.indexByte s.data.toList c.toNat.toUInt8))/\w' = w)/\∀args w,(callFunc f args).run P w = .ok (.enter f args) w
theorem Yg{f:Nat}(hc:QG P f):iR P B f F3:=by
 refine Aj fun xs st outs h=>?_
 unfold F3 at h
 obtain⟨x,l,rfl,h⟩:=uC h
 obtain⟨y,m,rfl,h⟩:=uC (show jD l _=some outs from h)
 obtain⟨s,rfl,h⟩:=mQ h
 obtain⟨q,n,rfl,h⟩:=jC h
 obtain⟨hq,h⟩:=aJ h
 rw[Bool.and_eq_true]at hq
 obtain rfl:=uh hq.1
 obtain rfl:=FJ hq.2
 cases n with
 |negSucc a=>exact aS h
 |ofNat c =>
  obtain⟨hb,h⟩:=aJ h
  cases h
  refine⟨_,rfl,fun E w args hl=>⟨hc.2 _ _,?_⟩⟩
  simp only[au,ag]at hl
  obtain⟨_,_,rfl,⟨z,rfl,rfl⟩,_,_,rfl,rfl,rfl⟩:=hl
  refine(hc.1 z c w).mono ?_
  rintro e w' ⟨rfl,rfl⟩
  refine⟨_,rfl,?_,Below.refl _ _⟩
  simp only[ag]
  rw[NP (dn hb)]
  rfl
noncomputable def one(t:List Nat)(k:Nat->Out):Out:=List.rec (motive:=fun _=>Out) none (fun c r _=>List.rec (motive:=fun _=>Out) (must (Nat.blt c 256) (k c)) (fun _ _ _=>none) r) t
def E0:ax:=fun r=>if r<lowN then some ⟨r,0,0,0⟩else none
def xe(ls:dG)(w:World):Prop:=∀r l,(r,l)∈ls->r<lowN/\l.ob.dz=false/\dR E0 true ⟨r,0,0,0⟩ w l.ob
theorem MC:lowN<=5000000:=by decide
theorem WH{ls:dG}{w:World}(h:xe ls w):aB (fun k=>k<w.heap.size) E0 (ls.st lowN) w:=by
 have hb:∀i l,(i,l)∈ls->i<5000000:=fun i l hm=>Nat.lt_of_lt_of_le (h i l hm).1 MC
 have was:∀r o,r<lim->T.get (az r) (ls.st lowN).h=some o->∃l,(r,l)∈ls/\o=l.ob:=fun r o hr hg=>by
  rcases pW hb r o hr hg with h | ⟨_,h⟩
  ·exact h
  ·rw[lh]at h;cases h
 have e0:∀r,r<lowN->E0 r=some ⟨r,0,0,0⟩:=fun r hr=>by unfold E0;rw[if_pos hr]
 refine⟨fun r o hr hg=>?_,fun r r' o o' l l' hr hr' hne hg hg' ha ha' hE hE'=>?_,fun r o l hr hl hg hE=>?_,fun r hr=>?_,Nat.le_refl _,MC,e0⟩
 ·obtain⟨l,hm,rfl⟩:=was r o hr hg
  obtain⟨h1,_,h3⟩:=h r l hm
  refine⟨_,e0 r h1,?_⟩
  have:Nat.blt r lowN=true:=by rw[Nat.blt_eq];exact h1
  rw[this];exact h3
 ·obtain⟨m,hm,rfl⟩:=was r o hr hg
  obtain⟨m',hm',rfl⟩:=was r' o' hr' hg'
  rw[e0 r (h r m hm).1]at hE
  rw[e0 r' (h r' m' hm').1]at hE'
  cases hE
  cases hE'
  exact hne
 ·obtain⟨m,hm,rfl⟩:=was r o hr hg
  have:=(h r m hm).1
  omega
 ·have hr:lowN<=r:=hr
  unfold E0
  rw[if_neg (by omega)]
noncomputable def isTrue(v:AV):Bool:=AV.rec (motive:=fun _=>Bool) (false) (fun x=>x) (fun _ _=>false) (fun _=>false) (false) (fun _ _=>false) (false) (fun _ _ _=>false) (false) (fun _=>false) (false) (fun _ _ _ _ _=>false) (false) (fun _ _ _=>false) (fun _ _=>false) (fun _ _=>false) (false) (fun _ _ _ _=>false) v
noncomputable def Hy(o:Out):Bool:=match o with | some l=>l.all (fun p=>isTrue p.1) | none=>false
theorem XK{v:AV}(h:isTrue v=true):v = .b true:=by
 cases v<;>cases h<;>rfl
theorem y0j(hm:P.follows .mixedOrders=true)(hno:qM P G.aC)(hN:sw P)(hprim:∀B f g,G.kY f=some g->iR P B f g){n f:Nat}{ls:dG}(h:Hy ((recs P G n).call f .nl (ls.st lowN))=true)
 {w:World} (hl:xe ls w) (hz:lowN<=w.heap.size):Calls P f #[] w fun e w'=>e = .returned (.bool true)/\Below w.heap.size w w':=by
 unfold Hy at h
 split at h
 ·rename_i outs ho
  have hx:au E0 .nl ([]:List Value):=by simp only[au]
  refine(y0I hm hno hN hprim n ho (WH hl) ⟨hz,fun k hk=>hk⟩ hx).mono ?_
  rintro e w' ⟨u,v,st',E',rfl,hmem,_,_,hv,hb⟩
  obtain rfl:=XK (List.all_eq_true.1 h _ hmem)
  simp only[ag]at hv
  subst hv
  exact⟨rfl,⟨hb.os,hb.tape,hb.output,hb.size,fun k hk=>hb.block k hk⟩⟩
 ·cases h
def xM:List (List Nat)->AV
 |[]=>.nl
 |s::l=>.cn (.s s) (xM l)
theorem KG(E:ax):∀l:List ByteArray,au E (xM (l.map (fun s=>s.data.toList.map (·.toNat)))) (l.map Value.string)
 |[]=>by simp only[List.map_nil,xM,au]
 |s::l=>by
  simp only[List.map_cons,xM,au,ag]
  exact⟨_,_,rfl,⟨s,rfl,rfl⟩,KG E l⟩
theorem Fb{w:World}{g:Nat}{l:List ByteArray}{row:AV}{n:Nat}(hw:∃t fr,w.heap[g]? = some (.cells (l.map Value.string).toArray t fr))(hr:row=xM (l.map (fun s=>s.data.toList.map (·.toNat))))(hn:l.length=n):dR E0 true ⟨g,0,0,0⟩ w (.c 0 n row):=by
 obtain⟨t,fr,h⟩:=hw
 refine⟨_,fr,l.map Value.string,t,h,(fun h=>by cases h),by rw[hr];exact KG _ l,by rw[List.length_map,hn],fun i _=>by simp⟩
end
end Go.AM
namespace Go.Proofs.YtjnbddedmbhiaaaGreatDoor
open Go Go.AM
set_option maxRecDepth 100000
def TP:AV:=.cn (.s [99,108,97,115,115]) (.cn (.s [101,120,116,101,110,100,115]) (.cn (.s [118,97,114]) (.cn (.s [100,101,102]) (.cn (.s [115,116,97,116,105,99]) (.cn (.s [105,102]) (.cn (.s [101,108,115,101]) (.cn (.s [119,104,105,108,101]) (.cn (.s [116,114,121]) (.cn (.s [99,97,116,99,104]) (.cn (.s [116,104,114,111,119]) (.cn (.s [114,101,116,117,114,110]) (.cn (.s [110,101,119]) (.cn (.s [110,117,108,108]) (.cn (.s [116,104,105,115]) (.cn (.s [105,110,112,117,116]) (.cn (.s [105,110,116]) (AV.nl)))))))))))))))))
def TN:AV:=.cn (.s [58,58]) (.cn (.s [61,61]) (.cn (.s [58]) (.cn (.s [123]) (.cn (.s [125]) (.cn (.s [40]) (.cn (.s [41]) (.cn (.s [59]) (.cn (.s [44]) (.cn (.s [46]) (.cn (.s [61]) (.cn (.s [60]) (.cn (.s [43]) (.cn (.s [45]) (.cn (.s [42]) (AV.nl)))))))))))))))
def TQ:AV:=.cn (.s []) (.cn (.s [100,110]) (.cn (.s [100]) (.cn (.s [100,97]) (.cn (.s [100,97,111,98]) (.cn (.s [100]) (.cn (.s [100,99]) (.cn (.s [100,97,109]) (.cn (.s [97,109,98]) (.cn (.s [100,97,99,109,42]) (.cn (.s [100,99,109,42]) (.cn (.s [97,103]) (.cn (.s [103]) (.cn (.s [97]) (.cn (.s [97]) (.cn (.s [100,99]) (.cn (.s [100,97,110]) (AV.nl)))))))))))))))))
noncomputable def ql:dG:=[(0,.c 0 17 TQ),(2,.c 0 15 TN),(1,.c 0 17 TP)]
noncomputable def env:AM.Env:=⟨fun f=>cond (Nat.beq f 182) (some F3) none,fun f=>or (Nat.beq f 79) (Nat.beq f 200)⟩
set_option maxRecDepth 100000
noncomputable def oC:Chunk:=Chunk.mk 24 (aG [.s [99,108,97,115,115,32,65,32,123,32,118,97,114,32,102,58,32,65,59,32,100,101,102,32,109,40,41,58,32,65,32,123,32,114,101,116,117,114,110,32,116,104,105,115,59,32,125,32,125,32,99,108,97,115,115,32,66,32,101,120,116,101,110,100,115,32,65,32,123,32,100,101,102,32,109,40,41,58,32,65,32,123,32,114,101,116,117,114,110,32,110,101,119,32,66,40,41,59,32,125,32,125,32,99,108,97,115,115,32,77,97,105,110,32,123,32,115,116,97,116,105,99,32,100,101,102,32,109,97,105,110,40,41,32,123,32,118,97,114,32,97,58,32,65,32,61,32,110,101,119,32,66,40,41,59,32,118,97,114,32,114,58,32,65,32,61,32,97,46,109,40,41,59,32,125,32,125]]) (ql++[]) 10 (.t (aG [.a (aG [.l 689 0 3]),.i .i64 0,.i .i64 0])) (ql++[(437,.v 92 2 1 [.a (aG [.s [102],.s [65]])]),
 (484,.v 245 5 1 [.a (aG [.i .i64 4,.i .i64 0,.s [],.s [],.l0])]),
 (487,.v 236 6 1 [.a (aG [.i .i64 8,.s [],.s [],.l 484 0 1,.l0,.l0])]),
 (490,.v 141 5 1 [.a (aG [.s [109],.b false,.l0,.s [65],.l 487 0 1])]),
 (559,.v 245 5 1 [.a (aG [.i .i64 7,.i .i64 0,.s [],.s [66],.l0])]),
 (562,.v 236 6 1 [.a (aG [.i .i64 8,.s [],.s [],.l 559 0 1,.l0,.l0])]),
 (565,.v 141 5 1 [.a (aG [.s [109],.b false,.l0,.s [65],.l 562 0 1])]),
 (632,.v 245 5 1 [.a (aG [.i .i64 7,.i .i64 0,.s [],.s [66],.l0])]),
 (668,.v 245 5 1 [.a (aG [.i .i64 3,.i .i64 0,.s [],.s [97],.l0])]),
 (678,.v 245 5 1 [.a (aG [.i .i64 9,.i .i64 0,.s [],.s [109],.l 668 0 1])]),
 (681,.v 236 6 2 [.a (aG [.i .i64 1,.s [97],.s [65],.l 632 0 1,.l0,.l0]),.a (aG [.i .i64 1,.s [114],.s [65],.l 678 0 1,.l0,.l0])]),
 (684,.v 141 5 1 [.a (aG [.s [109,97,105,110],.b true,.l0,.s [],.l 681 0 2])]),
 (689,.v 138 4 3 [.a (aG [.s [65],.s [],.l 437 0 1,.l 490 0 1]),.a (aG [.s [66],.s [65],.l0,.l 565 0 1]),.a (aG [.s [77,97,105,110],.s [],.l0,.l 684 0 1])])]) 727
theorem y1j:oC.ym=true:=by kernel_rfl
theorem y1i:uy ((recs Tryz.prog env 100000).call oC.f oC.xs (oC.ins.st oC.n)) oC.v oC.outs oC.m=true:=by kernel_rfl
set_option maxRecDepth 100000
noncomputable def ou:Chunk:=Chunk.mk 25 (aG [.a (aG [.l 689 0 3])]) (ql++[(437,.v 92 2 1 [.a (aG [.s [102],.s [65]])]),
 (484,.v 245 5 1 [.a (aG [.i .i64 4,.i .i64 0,.s [],.s [],.l0])]),
 (487,.v 236 6 1 [.a (aG [.i .i64 8,.s [],.s [],.l 484 0 1,.l0,.l0])]),
 (490,.v 141 5 1 [.a (aG [.s [109],.b false,.l0,.s [65],.l 487 0 1])]),
 (559,.v 245 5 1 [.a (aG [.i .i64 7,.i .i64 0,.s [],.s [66],.l0])]),
 (562,.v 236 6 1 [.a (aG [.i .i64 8,.s [],.s [],.l 559 0 1,.l0,.l0])]),
 (565,.v 141 5 1 [.a (aG [.s [109],.b false,.l0,.s [65],.l 562 0 1])]),
 (632,.v 245 5 1 [.a (aG [.i .i64 7,.i .i64 0,.s [],.s [66],.l0])]),
 (668,.v 245 5 1 [.a (aG [.i .i64 3,.i .i64 0,.s [],.s [97],.l0])]),
 (678,.v 245 5 1 [.a (aG [.i .i64 9,.i .i64 0,.s [],.s [109],.l 668 0 1])]),
 (681,.v 236 6 2 [.a (aG [.i .i64 1,.s [97],.s [65],.l 632 0 1,.l0,.l0]),.a (aG [.i .i64 1,.s [114],.s [65],.l 678 0 1,.l0,.l0])]),
 (684,.v 141 5 1 [.a (aG [.s [109,97,105,110],.b true,.l0,.s [],.l 681 0 2])]),
 (689,.v 138 4 3 [.a (aG [.s [65],.s [],.l 437 0 1,.l 490 0 1]),.a (aG [.s [66],.s [65],.l0,.l 565 0 1]),.a (aG [.s [77,97,105,110],.s [],.l0,.l 684 0 1])])]) 728 (.t (aG [.a (aG [.l 1072 0 3,.l 1232 0 3,.i .i64 2]),.i .i64 0])) (ql++[(1049,.v 92 2 1 [.a (aG [.s [102],.s [65]])]),
 (1054,.v 48 4 1 [.a (aG [.s [109],.b false,.l0,.s [65]])]),
 (1062,.v 48 4 1 [.a (aG [.s [109],.b false,.l0,.s [65]])]),
 (1070,.v 48 4 1 [.a (aG [.s [109,97,105,110],.b true,.l0,.s []])]),
 (1072,.v 45 4 3 [.a (aG [.s [65],.s [],.l 1049 0 1,.l 1054 0 1]),.a (aG [.s [66],.s [65],.l0,.l 1062 0 1]),.a (aG [.s [77,97,105,110],.s [],.l0,.l 1070 0 1])]),
 (1094,.v 92 2 2 [.a (aG [.s [116,104,105,115],.s [65]]),.a (aG [.s [36,48],.s [110,117,108,108]])]),
 (1100,.v 53 10 3 [.a (aG [.i .i64 13,.i .i64 0,.i .i64 0,.i .i64 0,.i .i64 0,.s [],.s [],.l0,.i .i64 0,.i .i64 (-1)]),.a (aG [.i .i64 2,.i .i64 1,.i .i64 0,.i .i64 0,.i .i64 0,.s [],.s [],.l0,.i .i64 0,.i .i64 (-1)]),.a (aG [.i .i64 13,.i .i64 0,.i .i64 1,.i .i64 0,.i .i64 0,.s [],.s [],.l0,.i .i64 0,.i .i64 (-1)])]),
 (1136,.v 92 2 3 [.a (aG [.s [116,104,105,115],.s [66]]),.a (aG [.s [36,48],.s [66]]),.a (aG [.s [36,49],.s [110,117,108,108]])]),
 (1142,.v 53 10 4 [.a (aG [.i .i64 6,.i .i64 1,.i .i64 0,.i .i64 0,.i .i64 0,.s [66],.s [],.l0,.i .i64 0,.i .i64 (-1)]),.a (aG [.i .i64 13,.i .i64 0,.i .i64 1,.i .i64 0,.i .i64 0,.s [],.s [],.l0,.i .i64 0,.i .i64 (-1)]),.a (aG [.i .i64 2,.i .i64 2,.i .i64 0,.i .i64 0,.i .i64 0,.s [],.s [],.l0,.i .i64 0,.i .i64 (-1)]),.a (aG [.i .i64 13,.i .i64 0,.i .i64 2,.i .i64 0,.i .i64 0,.s [],.s [],.l0,.i .i64 0,.i .i64 (-1)])]),
 (1212,.v 92 2 4 [.a (aG [.s [97],.s [65]]),.a (aG [.s [114],.s [65]]),.a (aG [.s [36,48],.s [66]]),.a (aG [.s [36,49],.s [65]])]),
 (1223,.v 53 10 5 [.a (aG [.i .i64 6,.i .i64 2,.i .i64 0,.i .i64 0,.i .i64 0,.s [66],.s [],.l0,.i .i64 0,.i .i64 (-1)]),.a (aG [.i .i64 3,.i .i64 0,.i .i64 2,.i .i64 0,.i .i64 0,.s [],.s [],.l0,.i .i64 0,.i .i64 (-1)]),.a (aG [.i .i64 9,.i .i64 3,.i .i64 0,.i .i64 0,.i .i64 0,.s [65],.s [109],.l0,.i .i64 0,.i .i64 (-1)]),.a (aG [.i .i64 3,.i .i64 1,.i .i64 3,.i .i64 0,.i .i64 0,.s [],.s [],.l0,.i .i64 0,.i .i64 (-1)]),.a (aG [.i .i64 13,.i .i64 0,.i .i64 (-1),.i .i64 0,.i .i64 0,.s [],.s [],.l0,.i .i64 0,.i .i64 (-1)])]),
 (1232,.v 51 7 3 [.a (aG [.s [65],.s [109],.b false,.i .i64 1,.l 1094 0 2,.s [65],.l 1100 0 3]),.a (aG [.s [66],.s [109],.b false,.i .i64 1,.l 1136 0 3,.s [65],.l 1142 0 4]),.a (aG [.s [77,97,105,110],.s [109,97,105,110],.b true,.i .i64 0,.l 1212 0 4,.s [],.l 1223 0 5])])]) 1233
theorem y1d:ou.ym=true:=by kernel_rfl
theorem y1c:uy ((recs Tryz.prog env 100000).call ou.f ou.xs (ou.ins.st ou.n)) ou.v ou.outs ou.m=true:=by kernel_rfl
set_option maxRecDepth 100000
noncomputable def oq:Chunk:=Chunk.mk 14 (aG [.a (aG [.l 1072 0 3,.l 1232 0 3,.i .i64 2])]) (ql++[(1049,.v 92 2 1 [.a (aG [.s [102],.s [65]])]),
 (1054,.v 48 4 1 [.a (aG [.s [109],.b false,.l0,.s [65]])]),
 (1062,.v 48 4 1 [.a (aG [.s [109],.b false,.l0,.s [65]])]),
 (1070,.v 48 4 1 [.a (aG [.s [109,97,105,110],.b true,.l0,.s []])]),
 (1072,.v 45 4 3 [.a (aG [.s [65],.s [],.l 1049 0 1,.l 1054 0 1]),.a (aG [.s [66],.s [65],.l0,.l 1062 0 1]),.a (aG [.s [77,97,105,110],.s [],.l0,.l 1070 0 1])]),
 (1094,.v 92 2 2 [.a (aG [.s [116,104,105,115],.s [65]]),.a (aG [.s [36,48],.s [110,117,108,108]])]),
 (1100,.v 53 10 3 [.a (aG [.i .i64 13,.i .i64 0,.i .i64 0,.i .i64 0,.i .i64 0,.s [],.s [],.l0,.i .i64 0,.i .i64 (-1)]),.a (aG [.i .i64 2,.i .i64 1,.i .i64 0,.i .i64 0,.i .i64 0,.s [],.s [],.l0,.i .i64 0,.i .i64 (-1)]),.a (aG [.i .i64 13,.i .i64 0,.i .i64 1,.i .i64 0,.i .i64 0,.s [],.s [],.l0,.i .i64 0,.i .i64 (-1)])]),
 (1136,.v 92 2 3 [.a (aG [.s [116,104,105,115],.s [66]]),.a (aG [.s [36,48],.s [66]]),.a (aG [.s [36,49],.s [110,117,108,108]])]),
 (1142,.v 53 10 4 [.a (aG [.i .i64 6,.i .i64 1,.i .i64 0,.i .i64 0,.i .i64 0,.s [66],.s [],.l0,.i .i64 0,.i .i64 (-1)]),.a (aG [.i .i64 13,.i .i64 0,.i .i64 1,.i .i64 0,.i .i64 0,.s [],.s [],.l0,.i .i64 0,.i .i64 (-1)]),.a (aG [.i .i64 2,.i .i64 2,.i .i64 0,.i .i64 0,.i .i64 0,.s [],.s [],.l0,.i .i64 0,.i .i64 (-1)]),.a (aG [.i .i64 13,.i .i64 0,.i .i64 2,.i .i64 0,.i .i64 0,.s [],.s [],.l0,.i .i64 0,.i .i64 (-1)])]),
 (1212,.v 92 2 4 [.a (aG [.s [97],.s [65]]),.a (aG [.s [114],.s [65]]),.a (aG [.s [36,48],.s [66]]),.a (aG [.s [36,49],.s [65]])]),
 (1223,.v 53 10 5 [.a (aG [.i .i64 6,.i .i64 2,.i .i64 0,.i .i64 0,.i .i64 0,.s [66],.s [],.l0,.i .i64 0,.i .i64 (-1)]),.a (aG [.i .i64 3,.i .i64 0,.i .i64 2,.i .i64 0,.i .i64 0,.s [],.s [],.l0,.i .i64 0,.i .i64 (-1)]),.a (aG [.i .i64 9,.i .i64 3,.i .i64 0,.i .i64 0,.i .i64 0,.s [65],.s [109],.l0,.i .i64 0,.i .i64 (-1)]),.a (aG [.i .i64 3,.i .i64 1,.i .i64 3,.i .i64 0,.i .i64 0,.s [],.s [],.l0,.i .i64 0,.i .i64 (-1)]),.a (aG [.i .i64 13,.i .i64 0,.i .i64 (-1),.i .i64 0,.i .i64 0,.s [],.s [],.l0,.i .i64 0,.i .i64 (-1)])]),
 (1232,.v 51 7 3 [.a (aG [.s [65],.s [109],.b false,.i .i64 1,.l 1094 0 2,.s [65],.l 1100 0 3]),.a (aG [.s [66],.s [109],.b false,.i .i64 1,.l 1136 0 3,.s [65],.l 1142 0 4]),.a (aG [.s [77,97,105,110],.s [109,97,105,110],.b true,.i .i64 0,.l 1212 0 4,.s [],.l 1223 0 5])])]) 1234 (.t (aG [.i .i64 0,.i .i64 0,.i .i64 0])) (ql++[(1049,.v 92 2 1 [.a (aG [.s [102],.s [65]])]),
 (1054,.v 48 4 1 [.a (aG [.s [109],.b false,.l0,.s [65]])]),
 (1062,.v 48 4 1 [.a (aG [.s [109],.b false,.l0,.s [65]])]),
 (1070,.v 48 4 1 [.a (aG [.s [109,97,105,110],.b true,.l0,.s []])]),
 (1072,.v 45 4 3 [.a (aG [.s [65],.s [],.l 1049 0 1,.l 1054 0 1]),.a (aG [.s [66],.s [65],.l0,.l 1062 0 1]),.a (aG [.s [77,97,105,110],.s [],.l0,.l 1070 0 1])]),
 (1094,.v 92 2 2 [.a (aG [.s [116,104,105,115],.s [65]]),.a (aG [.s [36,48],.s [110,117,108,108]])]),
 (1100,.v 53 10 3 [.a (aG [.i .i64 13,.i .i64 0,.i .i64 0,.i .i64 0,.i .i64 0,.s [],.s [],.l0,.i .i64 0,.i .i64 (-1)]),.a (aG [.i .i64 2,.i .i64 1,.i .i64 0,.i .i64 0,.i .i64 0,.s [],.s [],.l0,.i .i64 0,.i .i64 (-1)]),.a (aG [.i .i64 13,.i .i64 0,.i .i64 1,.i .i64 0,.i .i64 0,.s [],.s [],.l0,.i .i64 0,.i .i64 (-1)])]),
 (1136,.v 92 2 3 [.a (aG [.s [116,104,105,115],.s [66]]),.a (aG [.s [36,48],.s [66]]),.a (aG [.s [36,49],.s [110,117,108,108]])]),
 (1142,.v 53 10 4 [.a (aG [.i .i64 6,.i .i64 1,.i .i64 0,.i .i64 0,.i .i64 0,.s [66],.s [],.l0,.i .i64 0,.i .i64 (-1)]),.a (aG [.i .i64 13,.i .i64 0,.i .i64 1,.i .i64 0,.i .i64 0,.s [],.s [],.l0,.i .i64 0,.i .i64 (-1)]),.a (aG [.i .i64 2,.i .i64 2,.i .i64 0,.i .i64 0,.i .i64 0,.s [],.s [],.l0,.i .i64 0,.i .i64 (-1)]),.a (aG [.i .i64 13,.i .i64 0,.i .i64 2,.i .i64 0,.i .i64 0,.s [],.s [],.l0,.i .i64 0,.i .i64 (-1)])]),
 (1212,.v 92 2 4 [.a (aG [.s [97],.s [65]]),.a (aG [.s [114],.s [65]]),.a (aG [.s [36,48],.s [66]]),.a (aG [.s [36,49],.s [65]])]),
 (1223,.v 53 10 5 [.a (aG [.i .i64 6,.i .i64 2,.i .i64 0,.i .i64 0,.i .i64 0,.s [66],.s [],.l0,.i .i64 0,.i .i64 (-1)]),.a (aG [.i .i64 3,.i .i64 0,.i .i64 2,.i .i64 0,.i .i64 0,.s [],.s [],.l0,.i .i64 0,.i .i64 (-1)]),.a (aG [.i .i64 9,.i .i64 3,.i .i64 0,.i .i64 0,.i .i64 0,.s [65],.s [109],.l0,.i .i64 0,.i .i64 (-1)]),.a (aG [.i .i64 3,.i .i64 1,.i .i64 3,.i .i64 0,.i .i64 0,.s [],.s [],.l0,.i .i64 0,.i .i64 (-1)]),.a (aG [.i .i64 13,.i .i64 0,.i .i64 (-1),.i .i64 0,.i .i64 0,.s [],.s [],.l0,.i .i64 0,.i .i64 (-1)])]),
 (1232,.v 51 7 3 [.a (aG [.s [65],.s [109],.b false,.i .i64 1,.l 1094 0 2,.s [65],.l 1100 0 3]),.a (aG [.s [66],.s [109],.b false,.i .i64 1,.l 1136 0 3,.s [65],.l 1142 0 4]),.a (aG [.s [77,97,105,110],.s [109,97,105,110],.b true,.i .i64 0,.l 1212 0 4,.s [],.l 1223 0 5])])]) 1629
theorem y0P:oq.ym=true:=by kernel_rfl
theorem y0O:uy ((recs Tryz.prog env 100000).call oq.f oq.xs (oq.ins.st oq.n)) oq.v oq.outs oq.m=true:=by kernel_rfl
set_option maxRecDepth 100000
noncomputable def Gt:AM.Env:=⟨fun f=>cond (Nat.beq f 24) (some oC.qY) (cond (Nat.beq f 25) (some ou.qY) (cond (Nat.beq f 14) (some oq.qY) (env.kY f))),env.aC⟩
theorem y1L:Hy ((recs Tryz.prog Gt 100000).call 5 .nl (ql.st lowN))=true:=by kernel_rfl
end Go.Proofs.YtjnbddedmbhiaaaGreatDoor
namespace Go.xg
open Go.Joins Go.ChangeShapes Go.WideShapes Go.ChangeAt Go.RowKit Go.Deep

section
variable {H:Type}{enc:TypeId × Value->H}{P:Program}
theorem JA(hl:laidOutB P=true){W W':World}(hb:Below W.heap.size W W') :
 ∀{ts:List TypeId} {vs:List Value} {ds:List (DataW H)} {ps:List MemPlace},(∀t∈ts,P.readableRec t=true/\t<P.types.size)->DataW.TrodAll enc P W 0 (fun _=>true) true ts vs ds ps ->
 DataW.TrodAll enc P W' 0 (fun b=>decide (b<W.heap.size)) true ts vs ds ps
 |[],[],[],_,_,h=>h
 |t::ts,v::vs,d::ds,ps,ht,h=>by
  obtain⟨p,q,h1,h2,rfl⟩:=h
  have hlt:∀x∈p++q,x.block<W.heap.size:=DataW.TrodAll.lt (ts:=t::ts) (vs:=v::vs) (ds:=d::ds) ⟨p,q,h1,h2,rfl⟩
  exact⟨p,q,Below.trod hl (ht t (by simp)).1 (ht t (by simp)).2 h1 hb (fun x hx=>hlt x (by simp[hx])),JA hl hb (fun t' ht'=>ht t' (by simp[ht'])) h2,rfl⟩
 |[],[],_::_,_,_,h=>h.elim
 |[],_::_,_,_,_,h=>h.elim
 |_::_,[],_,_,_,h=>h.elim
 |_::_,_::_,[],_,_,h=>h.elim

theorem Xq(hl:laidOutB P=true){f:Func}{s:ChangeSpec}{W W':World}{args:Array Value}{ds gs:List (DataW H)}{before:List MemPlace}{tb:TypeId}
 (hts:∀t∈f.params.toList,P.readableRec t=true/\t<P.types.size) (hrt:f.resultTypes=#[tb]) (htb:P.underlying tb=some .bool) (hsv:s.vars=[])
 (hs:s.fn H ds = { results:=[.lit (.bool true)],args:=ds }) (hW:DataW.Whole enc P f.params.toList s.vars false W args.toList ds gs before) (hb:Below W.heap.size W W') :
 s.post enc P f false true false false W args (.bool true) W':=by
 have hW':=hW
 obtain⟨p,q,hA,hV,rfl,_,_⟩:=hW
 rw[hsv]at hV
 obtain⟨rfl,rfl⟩:=trodVars_none hV
 refine⟨ds,[],p++[],[],p,[],hW',?_,?_,?_,hb.frame _,fun h=>by cases h⟩
 ·rw[hrt]
  simp only[List.append_nil,hs]
  exact trodAll_mk1 (shut_bool htb true)
 ·simp only[List.append_nil,hs]
  exact JA hl hb hts hA
 ·simp only[List.append_nil,hs,hsv]
  exact rfl
end

theorem qm{α:Type}{Q:Nat->α->Prop}:∀(n:Nat),(∀i,i<n->∃m,Q i m)->∃l:List α,l.length=n/\∀i (h:i<l.length),Q i l[i]
 |0,_=>⟨[],rfl,fun i h=>absurd h (by simp)⟩
 |n+1,h=>by
  obtain⟨l,hl,hq⟩:=qm n (fun i hi=>h i (by omega))
  obtain⟨m,hm⟩:=h n (by omega)
  refine⟨l++[m],by simp[hl],fun i hi=>?_⟩
  by_cases e:i<l.length
  ·rw[List.getElem_append_left e];exact hq i e
  ·have:i=n:=by simp at hi;omega
   subst this
   rw[List.getElem_append_right (by omega)]
   simpa[hl]using hm
theorem Sv{w:World}{a:Addr}{v:Value}(h:w.cell? a=some v):a.spot=none:=by
 unfold World.cell? at h
 split at h
 ·cases hs:a.spot with
  |none=>rfl
  |some x=>simp[hs]at h
 ·cases h
theorem Qw{w:World}{a:Addr}{v:Value}(h:w.cell? a=some v)(k:Nat):a=⟨a.block,a.off,none⟩/\a.add k=⟨a.block,a.off+k,none⟩:=by
 have hs:=Sv h
 obtain⟨b,off,sp⟩:=a
 subst hs
 refine⟨rfl,?_⟩
 unfold Addr.add
 split
 ·rename_i e;subst e;rfl
 ·rfl
section
variable {H:Type}{enc:TypeId × Value->H}{P:Program}{w:World}{base:Nat}{spare:Nat->Bool}{held:Bool}
theorem qi{t e:TypeId}{fs:Array Field}{fuel:Nat}{cs:List Value}{x:DataW H × List MemPlace}(ht:P.underlying t=some (.slice e))(he:P.underlying e=some (.struct fs))
 (hone:oneCellFields P fs=true) (hC:P.cellsOf e=fs.size) (h:DataW.trod enc P w base spare held fuel t cs=some x) :
 (cs=[.slice none 0 0]) ∨
 ∃(a:Addr) (len cap:Nat),cs=[.slice (some a) len cap]/\len<=cap/\cap<=maxLen /\
  ∀i,i<len->∃n,∀(j:Nat) (f:Field),fs[j]? = some f->∃(v:Value) (y:DataW H × List MemPlace),w.cell? (a.add (i*fs.size+j))=some v/\DataW.trod enc P w base spare held n f.type [v]=some y:=by
 rcases open_slice ht h with ⟨h0,_⟩ | ⟨a,len,cap,m,n,D,Pl,hcs,hb,hl,hm,hmm,hx,hi⟩
 ·exact .inl h0
 ·refine .inr ⟨a,len,cap,hcs,hl,hm,fun i him=>?_⟩
  obtain⟨cs',hc,ht'⟩:=hi i (by rw[hmm];split<;>omega)
  rw[hC]at hc
  obtain⟨ys,n',hn',hy,hlen,hyl,hf⟩:=DataW.trod_struct he ht'
  obtain⟨_,hcl,hat⟩:=World.cells?_some hc
  refine⟨n',fun j f hj=>?_⟩
  obtain⟨ho,hk⟩:=hone_of hone j f hj
  have hjl:j<fs.size:=(Array.getElem?_eq_some_iff.1 hj).1
  have hcell:=hat j hjl
  have hv:cs'[j]? = some (cs'[j]'(by omega)):=List.getElem?_eq_getElem (by omega)
  have h1:=hf j f hj
  rw[ho,hk]at h1
  have hone':(cs'.drop j).take 1=[cs'[j]'(by omega)]:=by
   rw[List.drop_eq_getElem_cons (by omega)]
   rfl
  rw[hone']at h1
  have hys:ys[j]? = some (ys[j]'(by omega)):=List.getElem?_eq_getElem (by omega)
  refine⟨_,_,?_,h1.trans hys⟩
  rw[<-Go.Deep.add_add,hcell,hv]
theorem y0A{fuel:Nat}{t e:TypeId}{n:Nat}{cs:List Value}{ss:List ByteArray}{p:List MemPlace}
 (ht:P.underlying t=some (.array n e)) (he:P.underlying e=some .string) (hce:P.cellsOf e=1) (hct:P.cellsOf t=n)
 (h:DataW.trod enc P w base spare held fuel t cs=some (.agg (ss.map fun s=>.lit (.string s.data.toList)),p)):cs=ss.map Value.string:=by
 cases fuel with
 |zero=>simp[DataW.trod]at h
 |succ fuel =>
  simp only[DataW.trod,ht,hce,hct,Nat.mul_one]at h
  split at h
  ·rename_i hl
   obtain⟨xs,hm,hx⟩:=Option.map_eq_some_iff.1 h
   have hxs:xs.map (·.1)=ss.map fun s=>(DataW.lit (.string s.data.toList):DataW H):=by
    have:=congrArg Prod.fst hx
    simpa using this
   have hxl:xs.length=n:=by simpa using Lib.mapM_length hm
   have hzl:ss.length=n:=by
    have:=congrArg List.length hxs
    simp at this
    omega
   apply List.ext_getElem?
   intro i
   by_cases hi:i<n
   ·obtain⟨b,hb,hf⟩:=Lib.mapM_at hm i i (by simp[hi])
    obtain⟨z,hc,rfl,_⟩:=DataW.trod_string he hf
    have h1:cs[i]? = some (.string z):=by
     have:=congrArg (·[0]?) hc
     simpa[List.getElem?_take,List.getElem?_drop]using this
    have h2:(xs.map (·.1))[i]? = some (DataW.lit (.string z.data.toList):DataW H):=by simp[hb]
    rw[hxs]at h2
    simp only[List.getElem?_map,Option.map_eq_some_iff,DataW.lit.injEq,Lit.string.injEq]at h2
    obtain⟨z',hz',hzz⟩:=h2
    rw[h1,List.getElem?_map,hz',Option.map_some,bytes_inj hzz]
   ·rw[List.getElem?_eq_none (by omega),List.getElem?_eq_none (by simp;omega)]
  ·cases h
end
end Go.xg
namespace Go.Proofs.YtjnbddedmbhiaaaGreatDoor
open Go Go.AM Go.RowKit
set_option maxRecDepth 100000
def Az:List ByteArray:=[⟨#[58,58]⟩,⟨#[61,61]⟩,⟨#[58]⟩,⟨#[123]⟩,⟨#[125]⟩,⟨#[40]⟩,⟨#[41]⟩,⟨#[59]⟩,⟨#[44]⟩,⟨#[46]⟩,⟨#[61]⟩,⟨#[60]⟩,⟨#[43]⟩,⟨#[45]⟩,⟨#[42]⟩]
def Bg:List ByteArray:=[⟨#[]⟩,⟨#[100,110]⟩,⟨#[100]⟩,⟨#[100,97]⟩,⟨#[100,97,111,98]⟩,⟨#[100]⟩,⟨#[100,99]⟩,⟨#[100,97,109]⟩,⟨#[97,109,98]⟩,⟨#[100,97,99,109,42]⟩,⟨#[100,99,109,42]⟩,⟨#[97,103]⟩,⟨#[103]⟩,⟨#[97]⟩,⟨#[97]⟩,⟨#[100,99]⟩,⟨#[100,97,110]⟩]
def AR:List ByteArray:=[⟨#[99,108,97,115,115]⟩,⟨#[101,120,116,101,110,100,115]⟩,⟨#[118,97,114]⟩,⟨#[100,101,102]⟩,⟨#[115,116,97,116,105,99]⟩,⟨#[105,102]⟩,⟨#[101,108,115,101]⟩,⟨#[119,104,105,108,101]⟩,⟨#[116,114,121]⟩,⟨#[99,97,116,99,104]⟩,⟨#[116,104,114,111,119]⟩,⟨#[114,101,116,117,114,110]⟩,⟨#[110,101,119]⟩,⟨#[110,117,108,108]⟩,⟨#[116,104,105,115]⟩,⟨#[105,110,112,117,116]⟩,⟨#[105,110,116]⟩]
structure AW(w:World):Prop where
 mr:∃t fr,w.heap[2]? = some (.cells (Az.map Value.string).toArray t fr)
 kw:∃t fr,w.heap[1]? = some (.cells (AR.map Value.string).toArray t fr)
 fm:∃t fr,w.heap[0]? = some (.cells (Bg.map Value.string).toArray t fr)
 z:lowN<=w.heap.size
theorem F7{w w':World}{g:Nat}{c:Array Value}(h:∃t fr,w.heap[g]? = some (.cells c t fr))(hb:Below w.heap.size w w'):∃t fr,w'.heap[g]? = some (.cells c t fr):=by
 obtain⟨t,fr,h⟩:=h
 exact⟨t,fr,by rw[hb.block g (Array.getElem?_eq_some_iff.1 h).1,h]⟩
theorem AW.below{w w':World}(h:AW w)(hb:Below w.heap.size w w'):AW w' :=
 ⟨F7 h.mr hb,F7 h.kw hb,F7 h.fm hb,Nat.le_trans h.z hb.size⟩
theorem AW.low{w:World}(h:AW w):xe ql w:=by
 intro r l hm
 unfold ql at hm
 simp only[List.mem_cons,List.mem_nil_iff,or_false,Prod.mk.injEq]at hm
 rcases hm with ⟨rfl,rfl⟩ | ⟨rfl,rfl⟩ | ⟨rfl,rfl⟩
 ·exact⟨by decide,rfl,Fb (l:=Bg) h.fm (by kernel_rfl) rfl⟩
 ·exact⟨by decide,rfl,Fb (l:=Az) h.mr (by kernel_rfl) rfl⟩
 ·exact⟨by decide,rfl,Fb (l:=AR) h.kw (by kernel_rfl) rfl⟩
theorem mixed:Tryz.prog.follows .mixedOrders=true:=by kernel_rfl
theorem VY : Tryz.prog.funcs.all (fun F => F.body.isNone || !(F.name == "runtime.NumGoroutine")) = true := by kernel_rfl
theorem named:sw Tryz.prog:=by
 intro f F c hf hb
 have h1:=Array.all_eq_true.1 VY f (Array.getElem?_eq_some_iff.1 hf).1
 rw[(Array.getElem?_eq_some_iff.1 hf).2,hb]at h1
 simpa using h1
theorem enters{f:Nat}{F:Func}{c:Code}(hf:Tryz.prog.funcs[f]? = some F)(hb:F.body=some c):∀args w,(callFunc f args).run Tryz.prog w = .ok (.enter f args) w:=fun args w=>Kz named hf hb args w
theorem Yx(w:World):(Instr.typeAssert .nilIface 20 171 true).run Tryz.prog w = .ok (.tuple #[.agg #[.int .i64 0],.bool false]) w:=by kernel_rfl
theorem XC(T:Array Value)(hT:T.size=12)(w:World)(c₀:Frame)(cs:List Frame)(hu:c₀.mode = .returning):(Tryz.f79.body.getD .skip).wpS Tryz.prog (bodyPostS Tryz.prog Tryz.f79 c₀ cs (fun e u' w'=>(∃v,e = .returned v)/\u' = .returning/\Below w.heap.size w w')) { tmps:=T,defers:=[] } (c₀::cs) w:=by
 obtain⟨l⟩:=T
 match l,hT with
 |[a0,a1,a2,a3,a4,a5,a6,a7,a8,a9,a10,a11],_ =>
 show Code.wpS _ _ _ _ _ _
 apply wpS_seq
 apply wpS_region
 simp[wpOpsS,go_sem,recoverD,hu,Exit.thenS,Yx]
 apply wpS_seq
 apply wpS_region
 simp[wpOpsS,go_sem,Exit.thenS]
 refine wpS_cond (t:=false) (by simp[Act.eval]) ?_
 simp only[Bool.false_eq_true,if_false]
 refine wpS_of_wp (wp_skip ?_)
 cases c₀
 simp_all [bodyPostS,results,Tryz.results79]
 exact(Below.refl _ _).alloc (Nat.le_refl _) _
theorem VJ(args:Array Value)(w:World)(hs:args.size<=2):CallsD Tryz.prog 79 args .returning w (fun e u' w'=>(∃v,e = .returned v)/\u' = .returning/\Below w.heap.size w w') :=
 callsD_of_wpS Tryz.func79 rfl fun c₀ cs hu=>XC _ (by rw[Tryz.ntmps79];simp;omega) w c₀ cs hu
theorem Yw(w:World):(Instr.typeAssert .nilIface 20 275 true).run Tryz.prog w = .ok (.tuple #[.agg #[.int .i64 0],.bool false]) w:=by kernel_rfl
theorem XD(T:Array Value)(hT:T.size=11)(w:World)(c₀:Frame)(cs:List Frame)(hu:c₀.mode = .returning):(Tryz.f200.body.getD .skip).wpS Tryz.prog (bodyPostS Tryz.prog Tryz.f200 c₀ cs (fun e u' w'=>(∃v,e = .returned v)/\u' = .returning/\Below w.heap.size w w')) { tmps:=T,defers:=[] } (c₀::cs) w:=by
 obtain⟨l⟩:=T
 match l,hT with
 |[a0,a1,a2,a3,a4,a5,a6,a7,a8,a9,a10],_ =>
 show Code.wpS _ _ _ _ _ _
 apply wpS_seq
 apply wpS_region
 simp[wpOpsS,go_sem,recoverD,hu,Exit.thenS,Yw]
 apply wpS_seq
 apply wpS_region
 simp[wpOpsS,go_sem,Exit.thenS]
 refine wpS_cond (t:=false) (by simp[Act.eval]) ?_
 simp only[Bool.false_eq_true,if_false]
 refine wpS_of_wp (wp_skip ?_)
 cases c₀
 simp_all [bodyPostS,results,Tryz.results200]
 exact(Below.refl _ _).alloc (Nat.le_refl _) _
theorem VK(args:Array Value)(w:World)(hs:args.size<=2):CallsD Tryz.prog 200 args .returning w (fun e u' w'=>(∃v,e = .returned v)/\u' = .returning/\Below w.heap.size w w') :=
 callsD_of_wpS Tryz.func200 rfl fun c₀ cs hu=>XD _ (by rw[Tryz.ntmps200];simp;omega) w c₀ cs hu
theorem Aw:qM Tryz.prog env.aC:=by
 intro f hf args w hs
 have hf:(Nat.beq f 79||Nat.beq f 200)=true:=hf
 rw[Bool.or_eq_true]at hf
 rcases hf with h | h
 ·obtain rfl:=Nat.eq_of_beq_eq_true h
  exact⟨enters Tryz.func79 rfl _ _,VJ args w hs⟩
 ·obtain rfl:=Nat.eq_of_beq_eq_true h
  exact⟨enters Tryz.func200 rfl _ _,VK args w hs⟩
theorem Yf:QG Tryz.prog 182:=⟨Tryz.strings_IndexByte,enters Tryz.func182 rfl⟩
theorem BH{f k:Nat}{x y:Option xu}{g:xu}(h:cond (Nat.beq f k) x y=some g):(f=k/\x=some g)∨y=some g:=by
 cases hb:Nat.beq f k with
 |true=>rw[hb]at h;exact .inl ⟨Nat.eq_of_beq_eq_true hb,h⟩
 |false=>rw[hb]at h;exact .inr h
theorem Bu:∀B f g,env.kY f=some g->iR Tryz.prog B f g:=by
 intro B f g h
 rcases BH h with ⟨rfl,h⟩ | h
 ·cases h;exact Yg Yf
 ·cases h
theorem y1k(B:bB):iR Tryz.prog B 24 oC.qY:=Chunk.Ha oC y1j y1i mixed Aw named Bu
theorem y1e(B:bB):iR Tryz.prog B 25 ou.qY:=Chunk.Ha ou y1d y1c mixed Aw named Bu
theorem y0Q(B:bB):iR Tryz.prog B 14 oq.qY:=Chunk.Ha oq y0P y0O mixed Aw named Bu
theorem Zw:∀B f g,Gt.kY f=some g->iR Tryz.prog B f g:=by
 intro B f g h
 rcases BH h with ⟨rfl,h⟩ | h
 ·cases h;exact y1k B
 rcases BH h with ⟨rfl,h⟩ | h
 ·cases h;exact y1e B
 rcases BH h with ⟨rfl,h⟩ | h
 ·cases h;exact y0Q B
 ·exact Bu B f g h
theorem y1J(w:World)(h:AW w):Calls Tryz.prog 5 #[] w (aj w (.bool true)):=y0j (G:=Gt) mixed Aw named Zw y1L h.low h.z
end Go.Proofs.YtjnbddedmbhiaaaGreatDoor
namespace Go.Proofs.YtjnbddedmbhiaaaGreatDoor
open Go.ChangeShapes Go.WideShapes Go.ChangeAt Go.RowKit Go.xg Go.Deep Go.ak
set_option maxRecDepth 100000

theorem jL:Tryz.prog.cellsOf 3=1:=by kernel_rfl
theorem Vr:Tryz.prog.cellsOf 2=1:=by kernel_rfl
theorem Lu:Tryz.prog.cellsOf 4=1:=by kernel_rfl
theorem lg:Tryz.prog.cellsOf 9=1:=by kernel_rfl
theorem Vm:Tryz.prog.cellsOf 46=1:=by kernel_rfl
theorem Au:Tryz.prog.cellsOf 28=1:=by kernel_rfl
theorem Lt:Tryz.prog.cellsOf 42=1:=by kernel_rfl
theorem Vn:Tryz.prog.cellsOf 43=1:=by kernel_rfl
theorem Vo:Tryz.prog.cellsOf 49=1:=by kernel_rfl
theorem Vq:Tryz.prog.cellsOf 22=1:=by kernel_rfl
theorem Vp:Tryz.prog.cellsOf 25=1:=by kernel_rfl
theorem Vu:Tryz.prog.cellsOf 24=1:=by kernel_rfl
theorem LB:Tryz.prog.cellsOf 92=2:=by kernel_rfl
theorem Lv:Tryz.prog.cellsOf 48=4:=by kernel_rfl
theorem LC:Tryz.prog.cellsOf 45=4:=by kernel_rfl
theorem Lx:Tryz.prog.cellsOf 53=10:=by kernel_rfl
theorem LA:Tryz.prog.cellsOf 51=7:=by kernel_rfl
theorem Vs:Tryz.prog.cellsOf 27=3:=by kernel_rfl
section
variable {H:Type}{enc:TypeId × Value->H}{w:World}{fuel:Nat}{v:Value}{cs:List Value}{x:DataW H × List MemPlace}
theorem qi{t e sz:Nat}(ht:Tryz.prog.underlying t=some (.slice e))(hc:Tryz.prog.cellsOf e=sz)(h0:0<sz)(h:DataW.trod enc Tryz.prog w 0 (fun _=>true) true fuel t [v]=some x) :
 ∃(a:Option Addr) (len cap:Nat),v = .slice a len cap/\len<=cap/\∀i,i<len->∃b off,a=some ⟨b,off,none⟩/\∃cs n y,DataW.trod enc Tryz.prog w 0 (fun _=>true) true n e cs=some y/\cs.length=sz/\∀j,j<sz->w.cell? ⟨b,off+i*sz+j,none⟩=cs[j]?:=by
 rcases open_slice ht h with ⟨hcs,_⟩ | ⟨a,len,cap,m,n,D,Pl',hcs,hb,hle,hmx,hmm,rfl,hi⟩
 ·exact⟨none,0,0,by simpa using hcs,Nat.le_refl _,fun i hi=>absurd hi (by omega)⟩
 ·refine⟨some a,len,cap,by simpa using hcs,hle,fun i hil=>?_⟩
  have each:∀i,i<len->∃cs y,DataW.trod enc Tryz.prog w 0 (fun _=>true) true n e cs=some y/\cs.length=sz/\∀j,j<sz->w.cell? (a.add (i*sz+j))=cs[j]?:=by
   intro i hil
   obtain⟨cs',hc',ht'⟩:=hi i (by rw[hmm];split<;>omega)
   rw[hc]at hc'
   obtain⟨_,hcl,hat⟩:=World.cells?_some hc'
   refine⟨cs',_,ht',hcl,fun j hj=>?_⟩
   have h1:=hat j hj
   rw[Go.Deep.add_add]at h1
   exact h1
  obtain⟨cs0,_,_,hl0,hat0⟩:=each 0 (by omega)
  have h00:=hat0 0 h0
  have ea:a.add 0=a:=by unfold Addr.add;simp
  rw[Nat.zero_mul,ea,List.getElem?_eq_getElem (by omega)]at h00
  obtain⟨cs',y,ht',hl',hat'⟩:=each i hil
  refine⟨a.block,a.off,by rw[<-(Qw h00 0).1],cs',n,y,ht',hl',fun j hj=>?_⟩
  rw[<-hat' j hj,(Qw h00 (i*sz+j)).2,Nat.add_assoc]
theorem open_strs(h:DataW.trod enc Tryz.prog w 0 (fun _=>true) true fuel 46 [v]=some x):∃a cap l,v = .slice a (List.length l) cap/\bF w a l/\l.length<=cap:=by
 obtain⟨a,len,cap,rfl,hle,hr⟩:=qi Tryz.underlying46 lg (by omega) h
 obtain⟨l,hl,hq⟩:=qm (Q:=fun i (s:Str)=>∃b off,a=some ⟨b,off,none⟩/\w.cell? ⟨b,off+i,none⟩=some (.string s)) len fun i hi=>by
  obtain⟨b,off,ha,cs,n,y,ht,hl,hat⟩:=hr i hi
  match cs,hl with
  |[c0],_ =>
   obtain⟨s,e,_⟩:=DataW.trod_string Tryz.underlying9 ht
   simp only[List.cons.injEq,and_true]at e
   subst e
   exact⟨s,b,off,ha,by simpa using hat 0 (by omega)⟩
 subst hl
 exact⟨a,cap,l,rfl,fun k hk=>hq k hk,hle⟩
theorem open_ints(h:DataW.trod enc Tryz.prog w 0 (fun _=>true) true fuel 28 [v]=some x):∃a cap l,v = .slice a (List.length l) cap/\aM w a l/\l.length<=cap:=by
 obtain⟨a,len,cap,rfl,hle,hr⟩:=qi Tryz.underlying28 jL (by omega) h
 obtain⟨l,hl,hq⟩:=qm (Q:=fun i (s:Int)=>∃b off,a=some ⟨b,off,none⟩/\w.cell? ⟨b,off+i,none⟩=some (.int .i64 s)) len fun i hi=>by
  obtain⟨b,off,ha,cs,n,y,ht,hl,hat⟩:=hr i hi
  match cs,hl with
  |[c0],_ =>
   obtain⟨s,e,_⟩:=DataW.trod_int Tryz.underlying3 ht
   simp only[List.cons.injEq,and_true]at e
   subst e
   exact⟨s,b,off,ha,by simpa using hat 0 (by omega)⟩
 subst hl
 exact⟨a,cap,l,rfl,fun k hk=>hq k hk,hle⟩
theorem Ve(h:DataW.trod enc Tryz.prog w 0 (fun _=>true) true fuel 92 cs=some x):∃(g:bQ),cs=[.string g.name,.string g.type]:=by
 obtain⟨xs,n,_,hx,hcl,hlen,hg⟩:=DataW.trod_struct Tryz.underlying92 h
 match cs,hcl.trans LB with
 |[q0,q1],_ =>
  match xs,hlen with
  |[y0,y1],_ =>
   have g0:DataW.trod enc Tryz.prog w 0 (fun _=>true) true n 9 [q0]=some y0:=by have:=hg 0 _ rfl;simpa[lg,Value.cells]using this
   have g1:DataW.trod enc Tryz.prog w 0 (fun _=>true) true n 9 [q1]=some y1:=by have:=hg 1 _ rfl;simpa[lg,Value.cells]using this
   obtain⟨v0,e0,_⟩:=DataW.trod_string Tryz.underlying9 g0
   obtain⟨v1,e1,_⟩:=DataW.trod_string Tryz.underlying9 g1
   simp only[List.cons.injEq,and_true]at e0 e1
   subst e0 e1
   exact⟨⟨v0,v1⟩,rfl⟩
theorem Lf(h:DataW.trod enc Tryz.prog w 0 (fun _=>true) true fuel 42 [v]=some x):∃a cap l,v = .slice a (List.length l) cap/\aK w a l/\l.length<=cap:=by
 obtain⟨a,len,cap,rfl,hle,hr⟩:=qi Tryz.underlying42 LB (by omega) h
 obtain⟨l,hl,hq⟩:=qm (Q:=fun i (g:bQ)=>∃b off,a=some ⟨b,off,none⟩/\w.cell? ⟨b,off+i*2,none⟩=some (.string g.name)/\w.cell? ⟨b,off+i*2+1,none⟩=some (.string g.type)) len fun i hi=>by
  obtain⟨b,off,ha,cs,n,y,ht,hl,hat⟩:=hr i hi
  obtain⟨g,rfl⟩:=Ve ht
  refine⟨g,b,off,ha,hat 0 (by omega),hat 1 (by omega)⟩
 subst hl
 exact⟨a,cap,l,rfl,fun k hk=>hq k hk,hle⟩
theorem UU(h:DataW.trod enc Tryz.prog w 0 (fun _=>true) true fuel 48 cs=some x):∃(g:aH) (a2:Option Addr) (c2:Nat),cs=[.string g.name,.bool g.stat,.slice a2 g.params.length c2,.string g.result]/\bF w a2 g.params:=by
 obtain⟨xs,n,_,hx,hcl,hlen,hg⟩:=DataW.trod_struct Tryz.underlying48 h
 match cs,hcl.trans Lv with
 |[q0,q1,q2,q3],_ =>
  match xs,hlen with
  |[y0,y1,y2,y3],_ =>
   have g0:DataW.trod enc Tryz.prog w 0 (fun _=>true) true n 9 [q0]=some y0:=by have:=hg 0 _ rfl;simpa[lg,Value.cells]using this
   have g1:DataW.trod enc Tryz.prog w 0 (fun _=>true) true n 4 [q1]=some y1:=by have:=hg 1 _ rfl;simpa[Lu,Value.cells]using this
   have g2:DataW.trod enc Tryz.prog w 0 (fun _=>true) true n 46 [q2]=some y2:=by have:=hg 2 _ rfl;simpa[Vm,Value.cells]using this
   have g3:DataW.trod enc Tryz.prog w 0 (fun _=>true) true n 9 [q3]=some y3:=by have:=hg 3 _ rfl;simpa[lg,Value.cells]using this
   obtain⟨v0,e0,_⟩:=DataW.trod_string Tryz.underlying9 g0
   obtain⟨v1,e1,_⟩:=DataW.trod_bool Tryz.underlying4 g1
   obtain⟨a2,c2,v2,e2,s2,_⟩:=open_strs g2
   obtain⟨v3,e3,_⟩:=DataW.trod_string Tryz.underlying9 g3
   simp only[List.cons.injEq,and_true]at e0 e1 e3
   subst e0 e1 e2 e3
   exact⟨⟨v0,v1,v2,v3⟩,a2,c2,rfl,s2⟩
theorem UX(h:DataW.trod enc Tryz.prog w 0 (fun _=>true) true fuel 43 [v]=some x):∃a cap l,v = .slice a (List.length l) cap/\kH w a l/\l.length<=cap:=by
 obtain⟨a,len,cap,rfl,hle,hr⟩:=qi Tryz.underlying43 Lv (by omega) h
 obtain⟨l,hl,hq⟩:=qm (Q:=fun i (g:aH)=>∃b off a2 c2,a=some ⟨b,off,none⟩/\w.cell? ⟨b,off+i*4,none⟩=some (.string g.name)/\w.cell? ⟨b,off+i*4+1,none⟩=some (.bool g.stat)/\w.cell? ⟨b,off+i*4+2,none⟩=some (.slice a2 g.params.length c2)/\w.cell? ⟨b,off+i*4+3,none⟩=some (.string g.result)/\bF w a2 g.params) len fun i hi=>by
  obtain⟨b,off,ha,cs,n,y,ht,hl,hat⟩:=hr i hi
  obtain⟨g,a2,c2,rfl,s2⟩:=UU ht
  refine⟨g,b,off,a2,c2,ha,hat 0 (by omega),hat 1 (by omega),hat 2 (by omega),hat 3 (by omega),s2⟩
 subst hl
 exact⟨a,cap,l,rfl,fun k hk=>hq k hk,hle⟩
theorem Vf(h:DataW.trod enc Tryz.prog w 0 (fun _=>true) true fuel 45 cs=some x):∃(g:ae) (a2:Option Addr) (c2:Nat) (a3:Option Addr) (c3:Nat),cs=[.string g.name,.string g.aO,.slice a2 g.fields.length c2,.slice a3 g.methods.length c3]/\aK w a2 g.fields/\kH w a3 g.methods:=by
 obtain⟨xs,n,_,hx,hcl,hlen,hg⟩:=DataW.trod_struct Tryz.underlying45 h
 match cs,hcl.trans LC with
 |[q0,q1,q2,q3],_ =>
  match xs,hlen with
  |[y0,y1,y2,y3],_ =>
   have g0:DataW.trod enc Tryz.prog w 0 (fun _=>true) true n 9 [q0]=some y0:=by have:=hg 0 _ rfl;simpa[lg,Value.cells]using this
   have g1:DataW.trod enc Tryz.prog w 0 (fun _=>true) true n 9 [q1]=some y1:=by have:=hg 1 _ rfl;simpa[lg,Value.cells]using this
   have g2:DataW.trod enc Tryz.prog w 0 (fun _=>true) true n 42 [q2]=some y2:=by have:=hg 2 _ rfl;simpa[Lt,Value.cells]using this
   have g3:DataW.trod enc Tryz.prog w 0 (fun _=>true) true n 43 [q3]=some y3:=by have:=hg 3 _ rfl;simpa[Vn,Value.cells]using this
   obtain⟨v0,e0,_⟩:=DataW.trod_string Tryz.underlying9 g0
   obtain⟨v1,e1,_⟩:=DataW.trod_string Tryz.underlying9 g1
   obtain⟨a2,c2,v2,e2,s2,_⟩:=Lf g2
   obtain⟨a3,c3,v3,e3,s3,_⟩:=UX g3
   simp only[List.cons.injEq,and_true]at e0 e1
   subst e0 e1 e2 e3
   exact⟨⟨v0,v1,v2,v3⟩,a2,c2,a3,c3,rfl,s2,s3⟩
theorem Vg(h:DataW.trod enc Tryz.prog w 0 (fun _=>true) true fuel 22 [v]=some x):∃a cap l,v = .slice a (List.length l) cap/\ay w a l/\l.length<=cap:=by
 obtain⟨a,len,cap,rfl,hle,hr⟩:=qi Tryz.underlying22 LC (by omega) h
 obtain⟨l,hl,hq⟩:=qm (Q:=fun i (g:ae)=>∃b off a2 c2 a3 c3,a=some ⟨b,off,none⟩/\w.cell? ⟨b,off+i*4,none⟩=some (.string g.name)/\w.cell? ⟨b,off+i*4+1,none⟩=some (.string g.aO)/\w.cell? ⟨b,off+i*4+2,none⟩=some (.slice a2 g.fields.length c2)/\w.cell? ⟨b,off+i*4+3,none⟩=some (.slice a3 g.methods.length c3)/\aK w a2 g.fields/\kH w a3 g.methods) len fun i hi=>by
  obtain⟨b,off,ha,cs,n,y,ht,hl,hat⟩:=hr i hi
  obtain⟨g,a2,c2,a3,c3,rfl,s2,s3⟩:=Vf ht
  refine⟨g,b,off,a2,c2,a3,c3,ha,hat 0 (by omega),hat 1 (by omega),hat 2 (by omega),hat 3 (by omega),s2,s3⟩
 subst hl
 exact⟨a,cap,l,rfl,fun k hk=>hq k hk,hle⟩
theorem UZ(h:DataW.trod enc Tryz.prog w 0 (fun _=>true) true fuel 53 cs=some x):∃(g:Ins) (a7:Option Addr) (c7:Nat),cs=[.int .i64 g.op,.int .i64 g.dst,.int .i64 g.a,.int .i64 g.b,.int .i64 g.n,.string g.cls,.string g.name,.slice a7 g.args.length c7,.int .i64 g.goto,.int .i64 g.aZ]/\aM w a7 g.args:=by
 obtain⟨xs,n,_,hx,hcl,hlen,hg⟩:=DataW.trod_struct Tryz.underlying53 h
 match cs,hcl.trans Lx with
 |[q0,q1,q2,q3,q4,q5,q6,q7,q8,q9],_ =>
  match xs,hlen with
  |[y0,y1,y2,y3,y4,y5,y6,y7,y8,y9],_ =>
   have g0:DataW.trod enc Tryz.prog w 0 (fun _=>true) true n 3 [q0]=some y0:=by have:=hg 0 _ rfl;simpa[jL,Value.cells]using this
   have g1:DataW.trod enc Tryz.prog w 0 (fun _=>true) true n 3 [q1]=some y1:=by have:=hg 1 _ rfl;simpa[jL,Value.cells]using this
   have g2:DataW.trod enc Tryz.prog w 0 (fun _=>true) true n 3 [q2]=some y2:=by have:=hg 2 _ rfl;simpa[jL,Value.cells]using this
   have g3:DataW.trod enc Tryz.prog w 0 (fun _=>true) true n 3 [q3]=some y3:=by have:=hg 3 _ rfl;simpa[jL,Value.cells]using this
   have g4:DataW.trod enc Tryz.prog w 0 (fun _=>true) true n 2 [q4]=some y4:=by have:=hg 4 _ rfl;simpa[Vr,Value.cells]using this
   have g5:DataW.trod enc Tryz.prog w 0 (fun _=>true) true n 9 [q5]=some y5:=by have:=hg 5 _ rfl;simpa[lg,Value.cells]using this
   have g6:DataW.trod enc Tryz.prog w 0 (fun _=>true) true n 9 [q6]=some y6:=by have:=hg 6 _ rfl;simpa[lg,Value.cells]using this
   have g7:DataW.trod enc Tryz.prog w 0 (fun _=>true) true n 28 [q7]=some y7:=by have:=hg 7 _ rfl;simpa[Au,Value.cells]using this
   have g8:DataW.trod enc Tryz.prog w 0 (fun _=>true) true n 3 [q8]=some y8:=by have:=hg 8 _ rfl;simpa[jL,Value.cells]using this
   have g9:DataW.trod enc Tryz.prog w 0 (fun _=>true) true n 3 [q9]=some y9:=by have:=hg 9 _ rfl;simpa[jL,Value.cells]using this
   obtain⟨v0,e0,_⟩:=DataW.trod_int Tryz.underlying3 g0
   obtain⟨v1,e1,_⟩:=DataW.trod_int Tryz.underlying3 g1
   obtain⟨v2,e2,_⟩:=DataW.trod_int Tryz.underlying3 g2
   obtain⟨v3,e3,_⟩:=DataW.trod_int Tryz.underlying3 g3
   obtain⟨v4,e4,_⟩:=DataW.trod_int Tryz.underlying2 g4
   obtain⟨v5,e5,_⟩:=DataW.trod_string Tryz.underlying9 g5
   obtain⟨v6,e6,_⟩:=DataW.trod_string Tryz.underlying9 g6
   obtain⟨a7,c7,v7,e7,s7,_⟩:=open_ints g7
   obtain⟨v8,e8,_⟩:=DataW.trod_int Tryz.underlying3 g8
   obtain⟨v9,e9,_⟩:=DataW.trod_int Tryz.underlying3 g9
   simp only[List.cons.injEq,and_true]at e0 e1 e2 e3 e4 e5 e6 e8 e9
   subst e0 e1 e2 e3 e4 e5 e6 e7 e8 e9
   exact⟨⟨v0,v1,v2,v3,v4,v5,v6,v7,v8,v9⟩,a7,c7,rfl,s7⟩
theorem Va(h:DataW.trod enc Tryz.prog w 0 (fun _=>true) true fuel 49 [v]=some x):∃a cap l,v = .slice a (List.length l) cap/\dw w a l/\l.length<=cap:=by
 obtain⟨a,len,cap,rfl,hle,hr⟩:=qi Tryz.underlying49 Lx (by omega) h
 obtain⟨l,hl,hq⟩:=qm (Q:=fun i (g:Ins)=>∃b off a7 c7,a=some ⟨b,off,none⟩/\w.cell? ⟨b,off+i*10,none⟩=some (.int .i64 g.op)/\w.cell? ⟨b,off+i*10+1,none⟩=some (.int .i64 g.dst)/\w.cell? ⟨b,off+i*10+2,none⟩=some (.int .i64 g.a)/\w.cell? ⟨b,off+i*10+3,none⟩=some (.int .i64 g.b)/\w.cell? ⟨b,off+i*10+4,none⟩=some (.int .i64 g.n)/\w.cell? ⟨b,off+i*10+5,none⟩=some (.string g.cls)/\w.cell? ⟨b,off+i*10+6,none⟩=some (.string g.name)/\w.cell? ⟨b,off+i*10+7,none⟩=some (.slice a7 g.args.length c7)/\w.cell? ⟨b,off+i*10+8,none⟩=some (.int .i64 g.goto)/\w.cell? ⟨b,off+i*10+9,none⟩=some (.int .i64 g.aZ)/\aM w a7 g.args) len fun i hi=>by
  obtain⟨b,off,ha,cs,n,y,ht,hl,hat⟩:=hr i hi
  obtain⟨g,a7,c7,rfl,s7⟩:=UZ ht
  refine⟨g,b,off,a7,c7,ha,hat 0 (by omega),hat 1 (by omega),hat 2 (by omega),hat 3 (by omega),hat 4 (by omega),hat 5 (by omega),hat 6 (by omega),hat 7 (by omega),hat 8 (by omega),hat 9 (by omega),s7⟩
 subst hl
 exact⟨a,cap,l,rfl,fun k hk=>hq k hk,hle⟩
theorem Vb(h:DataW.trod enc Tryz.prog w 0 (fun _=>true) true fuel 51 cs=some x):∃(g:aA) (a4:Option Addr) (c4:Nat) (a6:Option Addr) (c6:Nat),cs=[.string g.cls,.string g.name,.bool g.stat,.int .i64 g.params,.slice a4 g.vars.length c4,.string g.result,.slice a6 g.code.length c6]/\aK w a4 g.vars/\dw w a6 g.code:=by
 obtain⟨xs,n,_,hx,hcl,hlen,hg⟩:=DataW.trod_struct Tryz.underlying51 h
 match cs,hcl.trans LA with
 |[q0,q1,q2,q3,q4,q5,q6],_ =>
  match xs,hlen with
  |[y0,y1,y2,y3,y4,y5,y6],_ =>
   have g0:DataW.trod enc Tryz.prog w 0 (fun _=>true) true n 9 [q0]=some y0:=by have:=hg 0 _ rfl;simpa[lg,Value.cells]using this
   have g1:DataW.trod enc Tryz.prog w 0 (fun _=>true) true n 9 [q1]=some y1:=by have:=hg 1 _ rfl;simpa[lg,Value.cells]using this
   have g2:DataW.trod enc Tryz.prog w 0 (fun _=>true) true n 4 [q2]=some y2:=by have:=hg 2 _ rfl;simpa[Lu,Value.cells]using this
   have g3:DataW.trod enc Tryz.prog w 0 (fun _=>true) true n 3 [q3]=some y3:=by have:=hg 3 _ rfl;simpa[jL,Value.cells]using this
   have g4:DataW.trod enc Tryz.prog w 0 (fun _=>true) true n 42 [q4]=some y4:=by have:=hg 4 _ rfl;simpa[Lt,Value.cells]using this
   have g5:DataW.trod enc Tryz.prog w 0 (fun _=>true) true n 9 [q5]=some y5:=by have:=hg 5 _ rfl;simpa[lg,Value.cells]using this
   have g6:DataW.trod enc Tryz.prog w 0 (fun _=>true) true n 49 [q6]=some y6:=by have:=hg 6 _ rfl;simpa[Vo,Value.cells]using this
   obtain⟨v0,e0,_⟩:=DataW.trod_string Tryz.underlying9 g0
   obtain⟨v1,e1,_⟩:=DataW.trod_string Tryz.underlying9 g1
   obtain⟨v2,e2,_⟩:=DataW.trod_bool Tryz.underlying4 g2
   obtain⟨v3,e3,_⟩:=DataW.trod_int Tryz.underlying3 g3
   obtain⟨a4,c4,v4,e4,s4,_⟩:=Lf g4
   obtain⟨v5,e5,_⟩:=DataW.trod_string Tryz.underlying9 g5
   obtain⟨a6,c6,v6,e6,s6,_⟩:=Va g6
   simp only[List.cons.injEq,and_true]at e0 e1 e2 e3 e5
   subst e0 e1 e2 e3 e4 e5 e6
   exact⟨⟨v0,v1,v2,v3,v4,v5,v6⟩,a4,c4,a6,c6,rfl,s4,s6⟩
theorem Vd(h:DataW.trod enc Tryz.prog w 0 (fun _=>true) true fuel 25 [v]=some x):∃a cap l,v = .slice a (List.length l) cap/\bR w a l/\l.length<=cap:=by
 obtain⟨a,len,cap,rfl,hle,hr⟩:=qi Tryz.underlying25 LA (by omega) h
 obtain⟨l,hl,hq⟩:=qm (Q:=fun i (g:aA)=>∃b off a4 c4 a6 c6,a=some ⟨b,off,none⟩/\w.cell? ⟨b,off+i*7,none⟩=some (.string g.cls)/\w.cell? ⟨b,off+i*7+1,none⟩=some (.string g.name)/\w.cell? ⟨b,off+i*7+2,none⟩=some (.bool g.stat)/\w.cell? ⟨b,off+i*7+3,none⟩=some (.int .i64 g.params)/\w.cell? ⟨b,off+i*7+4,none⟩=some (.slice a4 g.vars.length c4)/\w.cell? ⟨b,off+i*7+5,none⟩=some (.string g.result)/\w.cell? ⟨b,off+i*7+6,none⟩=some (.slice a6 g.code.length c6)/\aK w a4 g.vars/\dw w a6 g.code) len fun i hi=>by
  obtain⟨b,off,ha,cs,n,y,ht,hl,hat⟩:=hr i hi
  obtain⟨g,a4,c4,a6,c6,rfl,s4,s6⟩:=Vb ht
  refine⟨g,b,off,a4,c4,a6,c6,ha,hat 0 (by omega),hat 1 (by omega),hat 2 (by omega),hat 3 (by omega),hat 4 (by omega),hat 5 (by omega),hat 6 (by omega),s4,s6⟩
 subst hl
 exact⟨a,cap,l,rfl,fun k hk=>hq k hk,hle⟩
end
theorem UT{H:Type}{enc:TypeId × Value->H}{w:World}{b0:Nat}{v:Value}{d:DataW H}{ps:List MemPlace}(hv:Value.okWide Tryz.prog w .any b0 27 v)(h:DataW.Trod enc Tryz.prog w 0 (fun _=>true) true 27 v d ps) :
 ∃u ha hc fa fc,v=bZ u ha hc fa fc/\ay w ha u.h/\bR w fa u.fs/\u.fs.length<=fc/\u.h.length<=hc:=by
 obtain⟨cs,rfl,hsz⟩:=okWide_struct Tryz.underlying27 hv
 obtain⟨l⟩:=cs
 match l,hsz.trans Vs with
 |[c0,c1,c2],_ =>
  obtain⟨fuel,hf⟩:=h
  obtain⟨xs,n,_,hx,_,hlen,hg⟩:=DataW.trod_struct Tryz.underlying27 hf
  match xs,hlen with
  |[y0,y1,y2],_ =>
   have g0:DataW.trod enc Tryz.prog w 0 (fun _=>true) true n 24 [c0]=some y0:=by have:=hg 0 _ rfl;simpa[Vu,Value.cells]using this
   have g1:DataW.trod enc Tryz.prog w 0 (fun _=>true) true n 25 [c1]=some y1:=by have:=hg 1 _ rfl;simpa[Vp,Value.cells]using this
   have g2:DataW.trod enc Tryz.prog w 0 (fun _=>true) true n 3 [c2]=some y2:=by have:=hg 2 _ rfl;simpa[jL,Value.cells]using this
   obtain⟨xs1,n1,_,hx1,_,hlen1,hg1⟩:=DataW.trod_struct Tryz.underlying24 g0
   match xs1,hlen1 with
   |[z0],_ =>
    have k0:DataW.trod enc Tryz.prog w 0 (fun _=>true) true n1 22 [c0]=some z0:=by have:=hg1 0 _ rfl;simpa[Vq,Value.cells]using this
    obtain⟨ha,hc,hl,rfl,h1,h2⟩:=Vg k0
    obtain⟨fa,fc,fl,rfl,h3,h4⟩:=Vd g1
    obtain⟨m,e,_⟩:=DataW.trod_int Tryz.underlying3 g2
    simp only[List.cons.injEq,and_true]at e
    subst e
    exact⟨⟨hl,fl,m⟩,ha,hc,fa,fc,rfl,h1,h3,h4,h2⟩
set_option maxRecDepth 100000

theorem LD:Tryz.prog.cellsOf 56=3:=by kernel_rfl
theorem EK:Tryz.prog.cellsOf 29=1:=by kernel_rfl
section
variable {H:Type}{enc:TypeId × Value->H}{w:World}{fuel:Nat}{v:Value}{cs:List Value}{x:DataW H × List MemPlace}
theorem Vh(h:DataW.trod enc Tryz.prog w 0 (fun _=>true) true fuel 56 cs=some x):∃(g:bA),cs=[.int .i64 g.f,.int .i64 g.i,.int .i64 g.c]:=by
 obtain⟨xs,n,_,hx,hcl,hlen,hg⟩:=DataW.trod_struct Tryz.underlying56 h
 match cs,hcl.trans LD with
 |[q0,q1,q2],_ =>
  match xs,hlen with
  |[y0,y1,y2],_ =>
   have g0:DataW.trod enc Tryz.prog w 0 (fun _=>true) true n 3 [q0]=some y0:=by have:=hg 0 _ rfl;simpa[jL,Value.cells]using this
   have g1:DataW.trod enc Tryz.prog w 0 (fun _=>true) true n 3 [q1]=some y1:=by have:=hg 1 _ rfl;simpa[jL,Value.cells]using this
   have g2:DataW.trod enc Tryz.prog w 0 (fun _=>true) true n 3 [q2]=some y2:=by have:=hg 2 _ rfl;simpa[jL,Value.cells]using this
   obtain⟨v0,e0,_⟩:=DataW.trod_int Tryz.underlying3 g0
   obtain⟨v1,e1,_⟩:=DataW.trod_int Tryz.underlying3 g1
   obtain⟨v2,e2,_⟩:=DataW.trod_int Tryz.underlying3 g2
   simp only[List.cons.injEq,and_true]at e0 e1 e2
   subst e0 e1 e2
   exact⟨⟨v0,v1,v2⟩,rfl⟩
theorem Lg(h:DataW.trod enc Tryz.prog w 0 (fun _=>true) true fuel 29 [v]=some x):∃a cap l,v = .slice a (List.length l) cap/\mZ w a l/\l.length<=cap:=by
 obtain⟨a,len,cap,rfl,hle,hr⟩:=qi Tryz.underlying29 LD (by omega) h
 obtain⟨l,hl,hq⟩:=qm (Q:=fun i (g:bA)=>∃b off,a=some ⟨b,off,none⟩/\w.cell? ⟨b,off+i*3,none⟩=some (.int .i64 g.f)/\w.cell? ⟨b,off+i*3+1,none⟩=some (.int .i64 g.i)/\w.cell? ⟨b,off+i*3+2,none⟩=some (.int .i64 g.c)) len fun i hi=>by
  obtain⟨b,off,ha,cs,n,y,ht,hl,hat⟩:=hr i hi
  obtain⟨g,rfl⟩:=Vh ht
  exact⟨g,b,off,ha,by first | exact hat 0 (by omega) | simp,by first | exact hat 1 (by omega) | simp,by first | exact hat 2 (by omega) | simp⟩
 subst hl
 exact⟨a,cap,l,rfl,fun k hk=>hq k hk,hle⟩
end
set_option maxRecDepth 100000

theorem Vt:Tryz.prog.cellsOf 31=3:=by kernel_rfl
theorem UY{H:Type}{enc:TypeId × Value->H}{w:World}{b0:Nat}{v:Value}{d:DataW H}{ps:List MemPlace}(hv:Value.okWide Tryz.prog w .any b0 31 v)(h:DataW.Trod enc Tryz.prog w 0 (fun _=>true) true 31 v d ps) :
 ∃(funcs:List Int) (na:Option Addr) (nc:Nat) (calls:List bA) (la:Option Addr) (lc:Nat) (from_:Int),v = .agg #[.slice na funcs.length nc,.slice la calls.length lc,.int .i64 from_]/\aM w na funcs/\mZ w la calls/\funcs.length<=nc:=by
 obtain⟨cs,rfl,hsz⟩:=okWide_struct Tryz.underlying31 hv
 obtain⟨l⟩:=cs
 match l,hsz.trans Vt with
 |[c0,c1,c2],_ =>
  obtain⟨fuel,hf⟩:=h
  obtain⟨xs,n,_,hx,_,hlen,hg⟩:=DataW.trod_struct Tryz.underlying31 hf
  match xs,hlen with
  |[y0,y1,y2],_ =>
   have g0:DataW.trod enc Tryz.prog w 0 (fun _=>true) true n 28 [c0]=some y0:=by have:=hg 0 _ rfl;simpa[Au,EK,jL,Value.cells]using this
   have g1:DataW.trod enc Tryz.prog w 0 (fun _=>true) true n 29 [c1]=some y1:=by have:=hg 1 _ rfl;simpa[Au,EK,jL,Value.cells]using this
   have g2:DataW.trod enc Tryz.prog w 0 (fun _=>true) true n 3 [c2]=some y2:=by have:=hg 2 _ rfl;simpa[Au,EK,jL,Value.cells]using this
   obtain⟨na,nc,funcs,rfl,hfs,hnc⟩:=open_ints g0
   obtain⟨la,lc,calls,rfl,hcs,_⟩:=Lg g1
   obtain⟨f,e2,_⟩:=DataW.trod_int Tryz.underlying3 g2
   simp only[List.cons.injEq,and_true]at e2
   subst e2
   exact⟨funcs,na,nc,calls,la,lc,f,rfl,hfs,hcs,hnc⟩
end Go.Proofs.YtjnbddedmbhiaaaGreatDoor
