/-
  Rows that may be stored: each value is one cell.
-/
import Derived.Test.YtjnbddedmbhiaaaGreatDoorPk06
namespace Go.AM
open Go.RowKit
theorem NC{E:ax}{x:AV}{v:Value}(hc:vW x=true)(h:ag E x v):v.oneCell' = true:=by
 cases x with
 |u=>exact absurd hc (by decide)
 |a c=>exact absurd (show false=true from hc) (by decide)
 |t c=>exact absurd (show false=true from hc) (by decide)
 |nl=>exact absurd hc (by decide)
 |cn _ _=>exact absurd (show false=true from hc) (by decide)
 |_ =>
  simp only[ag]at h
  first
  |(subst h;rfl)
  |(obtain⟨_,rfl,_⟩:=h;rfl)
  |(obtain⟨_,_,rfl⟩:=h;rfl)
  |(obtain⟨_,_,rfl,_⟩:=h;rfl)
  |(obtain⟨_,_,_,_,_,rfl⟩:=h;rfl)
theorem KH{E:ax}:∀{row:AV} {l:List Value},rowOk row=true->au E row l->∀v∈l,v.oneCell' = true:=by
 intro row
 induction row with
 |nl=>intro l _ h;simp only[au]at h;subst h;intro v hv;cases hv
 |cn x t _ ih =>
  intro l hr h
  have hr:(vW x&&rowOk t)=true:=hr
  rw[Bool.and_eq_true]at hr
  simp only[au]at h
  obtain⟨y,m,rfl,h1,h2⟩:=h
  intro v hv
  rcases List.mem_cons.1 hv with rfl | hv
  ·exact NC hr.1 h1
  ·exact ih hr.2 h2 v hv
 |_=>intro l _ h;simp only[au]at h
theorem au.vD{E:ax}:∀{xs:AV} {m:List Value} {row:AV} {l:List Value},au E xs m->au E row l->m.length<=l.length->au E (vD xs row) (m++l.drop m.length):=by
 intro xs
 induction xs with
 |nl=>intro m row l h h2 _;simp only[au]at h;subst h;exact h2
 |cn x t _ ih =>
  intro m row l h h2 hle
  simp only[au]at h
  obtain⟨y,m,rfl,g1,g2⟩:=h
  cases row with
  |cn x' t' =>
   simp only[au]at h2
   obtain⟨y',l,rfl,_,g3⟩:=h2
   show au E (.cn x (AM.vD t t')) _
   simp only[au,List.length_cons,List.drop_succ_cons,List.cons_append]
   exact⟨y,_,rfl,g1,ih g2 g3 (by simpa using hle)⟩
  |nl=>simp only[au]at h2;subst h2;simp at hle
  |_=>simp only[au]at h2
 |_=>intro m row l h;simp only[au]at h
theorem au.set{E:ax}{xs:AV}{m:List Value}(hx:au E xs m):∀(o:Nat) {row:AV} {l:List Value},au E row l->o+m.length<=l.length->au E (qR o xs row) (l.take o++(m++l.drop (o+m.length)))
 |0,row,l,h,hle=>by
  have:=au.vD hx h (by omega)
  show au E (AM.vD xs row) _
  simpa using this
 |o+1,row,l,h,hle=>by
  cases row with
  |cn x t =>
   simp only[au]at h
   obtain⟨y,l,rfl,g1,g2⟩:=h
   have:=au.set hx o g2 (by simp only[List.length_cons]at hle;omega)
   show au E (.cn x (qR o xs t)) _
   rw[show o+1+m.length=o+m.length+1 by omega]
   simp only[au,List.take_succ_cons,List.drop_succ_cons,List.cons_append]
   exact⟨y,_,rfl,g1,this⟩
  |nl=>simp only[au]at h;subst h;simp at hle
  |_=>simp only[au]at h
end Go.AM
namespace Go.AM
open Go.RowKit
theorem getElem?_mid{α:Type}(l xs:List α)(p i:Nat)(hp:p+xs.length<=l.length) :
 (l.take p++xs++l.drop (p+xs.length))[i]? = if i<p then l[i]? else if i<p+xs.length then xs[i-p]? else l[i]?:=by
 have h1:(l.take p).length=p:=by rw[List.length_take];omega
 rw[List.append_assoc]
 by_cases hi:i<p
 ·rw[if_pos hi,List.getElem?_append_left (by omega),List.getElem?_take_of_lt hi]
 ·rw[if_neg hi,List.getElem?_append_right (by omega),h1]
  by_cases h2:i<p+xs.length
  ·rw[if_pos h2,List.getElem?_append_left (by omega)]
  ·rw[if_neg h2,List.getElem?_append_right (by omega),List.getElem?_drop]
   congr 1;omega
theorem GY{r:List (AV × St)}{v:AV}{f:Nat->AV->Out}(h:cellsOf v f=some r) :
 ∃n row,f n row=some r/\v ≠ .u/\rowOk row=true/\∀(E:ax) (l:List Value),fo E v l->au E row l/\n=l.length:=by
 have key:∀v:AV,rG v=false->∀(E:ax) (l:List Value),fo E v l->au E (.cn v .nl) l/\1=l.length:=by
  intro v hv E l hc
  rcases hc with ⟨c,rfl,_⟩ | ⟨_,x,rfl,hx⟩
  ·cases hv
  ·exact⟨by simp only[au];exact⟨x,[],rfl,hx,rfl⟩,rfl⟩
 cases v with
 |a c =>
  obtain⟨hr,h⟩:=aJ (show must (rowOk c) (f (eu c) c)=some r from h)
  refine⟨eu c,c,h,by simp,hr,fun E l hc=>?_⟩
  rcases hc with ⟨c',hc,hl⟩ | ⟨hc,_⟩
  ·cases hc;exact⟨hl,hl.len⟩
  ·cases hc
 |u=>exact aS h
 |t c=>exact aS h
 |nl=>exact aS h
 |cn x y=>exact aS h
 |_=>exact⟨1,_,h,by simp,rfl,key _ rfl⟩
theorem Tx{P:Program}{w:World}{t n b o:Nat}{c:Array Value}{e:TypeId}(hb:w.heap[b]? = some (.cells c e (0,0))){v:Value}(hn:cB P t=some n)(hv:v.cells.toList.length=n)
 (hfit:o+n<=c.size) (h1:∀u∈v.cells.toList,u.oneCell' = true) :
 (Instr.storeAt t (.pointer (some ⟨b,o,none⟩)) v).run P w = .ok () (w.setRow b (c.toList.take o++v.cells.toList++c.toList.drop (o+v.cells.toList.length)).toArray):=by
 have hst:=run_storeCells_at P b o e v.cells.toList 0 c w hb (by rw[hv];omega) h1
 have hs:v.cells.size=n:=by rw[<-hv];simp
 simp only[Instr.storeAt,Instr.sureAddr,Sem.run_bind,Sem.run_pure,Result.andThen_ok,storeVar,run_sizeOf hn,hs,ne_eq,not_true_eq_false,if_false]
 simpa using hst
section
variable {P:Program}{B:bB}{E:ax}{st:St}{w:World}{nt:Nat}{tm:Tm}{a:Act}{k:K}{r:List (AV × St)}{o:Oper}
theorem Ye{e xs:AV}{q n:Nat}{f:AV->Out}(h:FZ e q n xs f=some r)(hok:rowOk xs=true) :
 ∃e',f e' = some r/\∀{E:ax} {l m:List Value},fo E e l->au E xs m->m.length=n->q+n<=l.length/\fo E e' (l.take q++m++l.drop (q+m.length)):=by
 unfold FZ at h
 cases ha:rG e with
 |false =>
  rw[ha]at h
  have h:must (Nat.beq q 0) (must (Nat.beq n 1) (f (hd xs)))=some r:=h
  obtain⟨h0,h⟩:=aJ h
  obtain⟨h1,h⟩:=aJ h
  have h0:=Nat.eq_of_beq_eq_true h0
  have h1:=Nat.eq_of_beq_eq_true h1
  subst h0;subst h1
  refine⟨_,h,fun {E l m} hc hx hm=>?_⟩
  rcases hc with ⟨c,rfl,_⟩ | ⟨_,v,rfl,_⟩
  ·cases ha
  ·cases xs with
   |cn x t =>
    simp only[au]at hx
    obtain⟨y,m',rfl,hy,_⟩:=hx
    have:m'=[]:=List.eq_nil_of_length_eq_zero (by simpa using hm)
    subst this
    have hok:(vW x&&rowOk t)=true:=hok
    rw[Bool.and_eq_true]at hok
    refine⟨by simp,.inr ⟨?_,y,by simp,hy⟩⟩
    show rG x=false
    cases x<;>first | rfl | exact absurd (show false=true from hok.1) (by decide)
   |nl=>simp only[au]at hx;subst hx;simp at hm
   |_=>simp only[au]at hx
 |true =>
  rw[ha]at h
  have h:kE e (fun c=>must (Nat.ble (Nat.add q n) (eu c)) (f (.a (qR q xs c))))=some r:=h
  obtain⟨c,rfl,h⟩:=qI h
  obtain⟨hb,h⟩:=aJ h
  have hb:q+n<=eu c:=Nat.le_of_ble_eq_true hb
  refine⟨_,h,fun {E l m} hc hx hm=>?_⟩
  rcases hc with ⟨c',hc,hl⟩ | ⟨hc,_⟩
  ·cases hc
   rw[hl.len]at hb
   refine⟨hb,.inl ⟨_,rfl,?_⟩⟩
   have:=au.set hx q hl (by rw[hm];exact hb)
   rwa [List.append_assoc]
  ·cases hc
theorem Sr(hs:aB B E st w)(ht:aU E nt tm a){t n:Nat}{x y:Operand}(ho:o.op = .store t x y)(hn:cB P t=some (n+1))(h:DX (n+1) (co x) (co y) tm st k=some r):Does P B E w a o k r:=by
 unfold DX at h
 obtain⟨b,p,he,h⟩:=pG h
 obtain⟨h64,h⟩:=aJ h
 have h64:lowN<=b:=Nat.le_of_ble_eq_true h64
 obtain⟨m,xs,h,hu,hok,hrow⟩:=GY h
 obtain⟨hmn,h⟩:=aJ h
 have hmn:=Nat.eq_of_beq_eq_true hmn
 obtain⟨q,hq,h⟩:=jM h
 have hx:=aT hs ht x
 rw[he]at hx
 obtain⟨l,hl,hv,hr⟩:=hs.at hx hq
 obtain⟨hxs,hlen⟩:=hrow E _ ((aT hs ht y).cells hu)
 rw[hmn]at hlen
 have h1:=KH hok hxs
 have hro:Nat.blt b lowN=false:=by
  cases hb:Nat.blt b lowN with
  |false=>rfl
  |true=>have:=dn hb;omega
 rw[hro]at hr
 have hlt:=hs.lt hl
 have hown:=hs.own b q l hlt h64 hq hl
 generalize hL:(a.eval y).cells.toList=L at *
 have hal:q.dz=false:=by
  rcases vH h with ⟨_,_,_,e,_⟩ | ⟨_,_,_,_,e,_⟩<;>(rw[e];rfl)
 have fin:∀{c:Array Value} {e:TypeId},w.heap[l.blk]? = some (.cells c e (0,0))->l.base+p+(n+1)<=c.size->∀{o':Ob},
  (dR E false l (w.setRow l.blk (c.toList.take (l.base+p)++L++c.toList.drop (l.base+p+L.length)).toArray) o') ->
  ∀r',k (.t .nl) (gz st b (some o'))=some r'->(∀z∈r',z∈r)->Does P B E w a o k r:=by
  intro c e hc hfit o' ho' r' hk hsub
  refine⟨.t .nl,undef,w.setRow l.blk (c.toList.take (l.base+p)++L++c.toList.drop (l.base+p+L.length)).toArray,E,_,r',.inr ⟨?_,rfl⟩,ax.le_refl E,?_,?_,?_,hsub,hk⟩
  ·unfold execOp
   rw[ho,Sem.run_bind,hv]
   have:=Tx (P:=P) (w:=w) (t:=t) (v:=a.eval y) (o:=l.base+p) hc hn (by rw[hL];exact hlen.symm) hfit (by rw[hL];exact h1)
   rw[hL]at this
   rw[this]
   rfl
  ·cases st with
   |mk tr nn=>exact aB.put hs hlt h64 hl hq hal (fun j hj=>setRow_other w l.blk j _ hj) ho'
  ·exact⟨rfl,rfl,rfl,by simp,fun j hj=>setRow_other w l.blk j _ (fun e=>hown (e▸hj))⟩
  ·simp only[ag];exact⟨[],rfl,by simp only[au]⟩
 rcases vH h with ⟨t',len,row,rfl,h'⟩ | ⟨e,sz,len,els,rfl,h'⟩
 ·obtain⟨hb',h'⟩:=aJ h'
  have hb:p+(n+1)<=len:=Nat.le_of_ble_eq_true hb'
  obtain⟨c,fr,lv,t2,hc,hfr,hrow',hlen',hcell⟩:=hr
  obtain⟨hfr,ht2⟩:=hfr rfl
  subst hfr
  subst ht2
  have hsz:l.base+len<=c.size:=by
   have h2:=hcell (len-1) (by omega)
   rw[List.getElem?_eq_getElem (by omega)]at h2
   have:=(Array.getElem?_eq_some_iff.1 h2).1
   omega
  refine fin hc (by omega) (o':=.c t2 len (qR p xs row)) ?_ r h' (fun _ h=>h)
  refine⟨_,(0,0),_,_,setRow_heap w l.blk c _ _ (0,0) hc,fun _=>⟨rfl,rfl⟩,au.set hxs p hrow' (by omega),?_,fun i hi=>?_⟩
  ·simp only[List.length_append,List.length_take,List.length_drop];omega
  ·have e1:=getElem?_mid c.toList L (l.base+p) (l.base+i) (by have:=@Array.length_toList _ c;omega)
   have e2:=getElem?_mid lv L p i (by omega)
   rw[List.append_assoc]at e2
   simp only[List.getElem?_toArray]
   rw[e1,e2,Array.getElem?_toList,hcell i hi]
   by_cases g1:i<p
   ·rw[if_pos (by omega),if_pos g1]
   ·rw[if_neg (by omega),if_neg g1]
    by_cases g2:i<p+L.length
    ·rw[if_pos (by omega),if_pos g2];congr 1;omega
    ·rw[if_neg (by omega),if_neg g2]
 ·rw[gV]at h'
  obtain⟨hb',h'⟩:=aJ h'
  have hb:=dn hb'
  obtain⟨v,hv',h'⟩:=Gx h'
  obtain⟨v2,h',hel⟩:=Ye h' hok
  obtain⟨c,fr,hc,hfr,hsz,hcap,hsize,hels⟩:=hr
  have hfr:=hfr rfl
  subst hfr
  have e3:Nat.mod p sz=p % sz:=rfl
  have e4:Nat.div p sz=p / sz:=rfl
  rw[e3]at hel
  rw[e4]at hb hv' h'
  obtain⟨lv,hlv,hcr,hcell⟩:=hels _ hb v hv'
  obtain⟨hfit,hcr'⟩:=hel hcr hxs hlen.symm
  rw[hlv]at hfit
  have e1:p / sz*sz+p % sz=p:=by rw[Nat.mul_comm];exact Nat.div_add_mod p sz
  have hq1:p / sz*sz+sz<=l.cap*sz:=by
   have:(p / sz+1)*sz<=l.cap*sz:=Nat.mul_le_mul_right _ (by omega)
   rwa [Nat.add_mul,Nat.one_mul]at this
  refine fin hc (by omega) (o':=.v e sz len (T.set (az (p / sz)) (some v2) els)) ?_ r h' (fun _ h=>h)
  have hql:p / sz<lim:=by unfold lim;omega
  refine⟨_,(0,0),setRow_heap w l.blk c _ e (0,0) hc,fun _=>rfl,hsz,hcap,?_,fun q hq uu hu=>?_⟩
  ·simp only[List.size_toArray,List.length_append,List.length_take,List.length_drop,Array.length_toList];omega
  ·have e5:∀j:Nat,((c.toList.take (l.base+p)++L++c.toList.drop (l.base+p+L.length)).toArray)[j]? = if j<l.base+p then c[j]? else if j<l.base+p+L.length then L[j-(l.base+p)]? else c[j]?:=fun j=>by
    rw[List.getElem?_toArray,getElem?_mid _ _ _ _ (by have:=@Array.length_toList _ c;omega),Array.getElem?_toList]
   have hqlim:q<lim:=by unfold lim;omega
   rw[fu hqlim hql]at hu
   by_cases eq:q=p / sz
   ·subst eq
    rw[if_pos rfl]at hu
    cases hu
    refine⟨_,?_,hcr',fun i hi=>?_⟩
    ·simp only[List.length_append,List.length_take,List.length_drop];omega
    ·rw[e5,getElem?_mid lv L (p % sz) i (by omega),hcell i hi]
     by_cases g1:i<p % sz
     ·rw[if_pos (by omega),if_pos g1]
     ·rw[if_neg (by omega),if_neg g1]
      by_cases g2:i<p % sz+L.length
      ·rw[if_pos (by omega),if_pos g2];congr 1;omega
      ·rw[if_neg (by omega),if_neg g2]
   ·rw[if_neg eq]at hu
    obtain⟨lw,g1,g2,g3⟩:=hels q hq uu hu
    refine⟨lw,g1,g2,fun i hi=>?_⟩
    rw[e5,<-g3 i hi]
    rcases Nat.lt_or_gt_of_ne eq with h3 | h3
    ·have:(q+1)*sz<=p / sz*sz:=Nat.mul_le_mul_right _ h3
     rw[Nat.add_mul,Nat.one_mul]at this
     rw[if_pos (by omega)]
    ·have:(p / sz+1)*sz<=q*sz:=Nat.mul_le_mul_right _ h3
     rw[Nat.add_mul,Nat.one_mul]at this
     rw[if_neg (by omega),if_neg (by omega)]
end
end Go.AM
namespace Go.AM
open Go.RowKit
theorem Pb:∀(n:Nat) (l:List Nat),Pf n l=l.drop n
 |0,_=>rfl
 |_+1,[]=>rfl
 |n+1,_::t=>Pb n t
theorem JF:∀(n:Nat) (l:List Nat),takeN n l=l.take n
 |0,_=>rfl
 |_+1,[]=>rfl
 |n+1,x::t=>congrArg (x :: ·) (JF n t)
theorem LV{r:List (AV × St)}{f:Nat->Out}:∀(n:Nat) (l:List Nat),LX n l f=some r->∃c,l[n]? = some c/\f c=some r
 |0,[],h=>aS h
 |0,x::t,h=>⟨x,rfl,h⟩
 |n+1,[],h=>aS h
 |n+1,x::t,h=>by
  obtain⟨c,h1,h2⟩:=LV n t h
  exact⟨c,by simpa using h1,h2⟩
theorem y1l(s:ByteArray)(a b:Nat):(s.extract a b).data.toList.map (·.toNat)=((s.data.toList.map (·.toNat)).drop a).take (b-a):=by
 rw[<-List.map_drop,<-List.map_take]
 congr 1
 simp[ByteArray.data_extract,Array.toList_extract,List.extract_eq_take_drop]
section
variable {P:Program}{B:bB}{E:ax}{st:St}{w:World}{nt:Nat}{tm:Tm}{a:Act}{k:K}{r:List (AV × St)}{o:Oper}
theorem mO(hs:aB B E st w)(ht:aU E nt tm a){lo:Option Operand}{d:Nat}{f:Nat->Out}(h:bnd (lo.map co) d tm f=some r) :
 ∃n:Nat,f n=some r/\((lo.map a.eval=none/\n=d)∨∃q,lo.map a.eval=some (.int q n)):=by
 cases lo with
 |none=>exact⟨d,h,.inl ⟨rfl,rfl⟩⟩
 |some x =>
  obtain⟨q,n,hn,h⟩:=iG (show kD (aN (co x) tm) f=some r from h)
  have hx:=aT hs ht x
  rw[hn]at hx
  simp only[ag]at hx
  exact⟨n,h,.inr ⟨q,by simp[hx]⟩⟩
theorem run_sliceBound{v:Value}{q:IntKind}{n y:Nat}(hv:v = .int q n)(h:n<=y)(c:BoundsCode):(Instr.sliceBound v y c).run P w = .ok n w:=by
 subst hv
 simp[Instr.sliceBound,asIntOf,h]
theorem xI{lo hi:Option Value}{la ha len cap:Nat}(b:Bool)(hlo:(lo=none/\la=0)∨∃q,lo=some (.int q la))(hhi:(hi=none/\ha=len)∨∃q,hi=some (.int q ha))
 (h1:la<=ha) (h2:ha<=cap):(Instr.sliceBounds b len cap lo hi none).run P w = .ok (la,ha,cap) w:=by
 rcases hlo with ⟨rfl,rfl⟩ | ⟨q,rfl⟩<;>rcases hhi with ⟨rfl,rfl⟩ | ⟨q',rfl⟩ <;>
  simp[Instr.sliceBounds,run_sliceBound rfl h1,run_sliceBound rfl h2]
theorem VP(hs:aB B E st w)(ht:aU E nt tm a){x:Operand}(ho:o.op = .nilCheck x)(h:Ec (co x) tm st k=some r):Reads P E st w a o k r:=by
 unfold Ec at h
 obtain⟨hn,h⟩:=aJ h
 have hx:=aT hs ht x
 refine⟨_,a.eval x,?_,hx,h⟩
 unfold execOp
 rw[ho]
 generalize hv:aN (co x) tm=v at *
 cases v with
 |p r o=>simp only[ag]at hx;obtain⟨l,_,hx⟩:=hx;simp[hx]
 |f fn fs cs =>
  simp only[ag]at hx
  obtain⟨la,lc,hx,_,_⟩:=hx
  cases fn with
  |method n=>exact absurd (show false=true from hn) (by decide)
  |_=>simp[hx]
 |_=>exact absurd (show false=true from hn) (by decide)
theorem VG(hs:aB B E st w)(ht:aU E nt tm a){t:TypeId}{x:Operand}(ho:o.op = .unOp .not t x)(h:D8 (co x) tm st k=some r):Reads P E st w a o k r:=by
 unfold D8 at h
 obtain⟨b,hb,h⟩:=uD h
 have hx:=aT hs ht x
 rw[hb]at hx
 simp only[ag]at hx
 refine dW (s:=Op.unary .not (a.eval x)) (u:=.bool (!b)) (by unfold execOp;rw[ho]) (by simp[hx,Op.unary]) (by simp only[ag]) h
theorem VN(hs:aB B E st w)(ht:aU E nt tm a){t:TypeId}{x:Operand}(ho:o.op = .unOp .neg t x)(h:Eb (co x) tm st k=some r):Reads P E st w a o k r:=by
 unfold Eb at h
 obtain⟨q,n,hb,h⟩:=jC h
 obtain⟨v,hv,h⟩:=nN (E:=E) h
 have hx:=aT hs ht x
 rw[hb]at hx
 simp only[ag]at hx
 exact dW (s:=Op.unary .neg (a.eval x)) (by unfold execOp;rw[ho]) (by simp[hx,Op.unary,Op.intArith]) hv h
theorem ZO(hs:aB B E st w)(ht:aU E nt tm a){s t:TypeId}{q q':IntKind}{x:Operand}(ho:o.op = .convert s t x)(h1:P.underlying s=some (.int q'))(h2:P.underlying t=some (.int q))(h:Ew q (co x) tm st k=some r):Reads P E st w a o k r:=by
 unfold Ew at h
 obtain⟨q'',n,hb,h⟩:=jC h
 obtain⟨v,hv,h⟩:=nN (E:=E) h
 have hx:=aT hs ht x
 rw[hb]at hx
 simp only[ag]at hx
 exact dW (s:=convert s t (a.eval x)) (by unfold execOp;rw[ho]) (by simp[hx,convert,run_underlying h1,run_underlying h2,Conv.intToInt]) hv h
theorem ZT(hs:aB B E st w)(ht:aU E nt tm a){s t:TypeId}{x:Operand}(ho:o.op = .convert s t x)(h1:P.underlying s=some .string)(h2:P.underlying t=some .string)(h:Ey (co x) tm st k=some r):Reads P E st w a o k r:=by
 unfold Ey at h
 obtain⟨l,hb,h⟩:=mQ h
 have hx:=aT hs ht x
 have hx':=hx
 rw[hb]at hx'
 simp only[ag]at hx'
 obtain⟨b,hx',_⟩:=hx'
 exact dW (s:=convert s t (a.eval x)) (u:=a.eval x) (by unfold execOp;rw[ho]) (by simp[hx',convert,run_underlying h1,run_underlying h2]) hx h
theorem Wq(hs:aB B E st w)(ht:aU E nt tm a){t:TypeId}{d:TypeDesc}{x:Operand}(ho:o.op = .makeInterface t x)(h1:P.underlying t=some d)(h2:∀ms,d ≠ .interface ms)(h:Eh t (co x) tm st k=some r):Reads P E st w a o k r:=by
 unfold Eh at h
 refine dW (s:=Instr.makeInterface t (a.eval x)) (u:=.iface t (a.eval x)) (by unfold execOp;rw[ho]) ?_ (by simp only[ag];exact⟨_,rfl,aT hs ht x⟩) h
 unfold Instr.makeInterface
 rw[Sem.run_bind,run_underlying h1 w]
 simp only[Result.andThen_ok]
 cases d<;>first | rfl | exact absurd rfl (h2 _)
theorem Br(hs:aB B E st w)(ht:aU E nt tm a):∀l:List Operand,au E (yQ (l.map co) tm) (l.map a.eval)
 |[]=>by show au E .nl [];simp only[au]
 |x::l=>by
  show au E (.cn (aN (co x) tm) (yQ (l.map co) tm)) (a.eval x::l.map a.eval)
  simp only[au]
  exact⟨_,_,rfl,aT hs ht x,Br hs ht l⟩
theorem Ws(hs:aB B E st w)(ht:aU E nt tm a){fn:Fn}{f c:Array Operand}(ho:o.op = .makeFunc fn f c)(h:Ei fn (f.toList.map co) (c.toList.map co) tm st k=some r):Reads P E st w a o k r:=by
 unfold Ei at h
 refine dW (s:=Instr.makeFunc fn (f.map a.eval) (c.map a.eval)) (u:=.func fn (f.map a.eval) (c.map a.eval)) (by unfold execOp;rw[ho]) (by simp[Instr.makeFunc]) ?_ h
 simp only[ag]
 exact⟨f.toList.map a.eval,c.toList.map a.eval,by rw[<-Array.toList_map,<-Array.toList_map],Br hs ht _,Br hs ht _⟩
theorem Su(hs:aB B E st w)(ht:aU E nt tm a){t:TypeId}{x:Operand}{lo hi:Option Operand}(ho:o.op = .slice t x lo hi none)(hu:P.underlying t=some .string)(h:DY (co x) (lo.map co) (hi.map co) tm st k=some r):Reads P E st w a o k r:=by
 unfold DY at h
 obtain⟨l,hl,h⟩:=mQ h
 obtain⟨la,h,hlo⟩:=mO hs ht h
 obtain⟨ha,h,hhi⟩:=mO hs ht h
 obtain⟨h1,h⟩:=aJ h
 obtain⟨h2,h⟩:=aJ h
 have h1:la<=ha:=Nat.le_of_ble_eq_true h1
 have h2:ha<=l.length:=Nat.le_of_ble_eq_true h2
 have hx:=aT hs ht x
 rw[hl]at hx
 simp only[ag]at hx
 obtain⟨s,hx,rfl⟩:=hx
 have hsz:(s.data.toList.map (·.toNat)).length=s.size:=by rw[List.length_map];rfl
 rw[hsz]at h2 hhi
 refine dW (s:=Instr.sliceAt t (a.eval x) (lo.map a.eval) (hi.map a.eval) none) (u:=.string (s.extract la ha)) (by unfold execOp;rw[ho];rfl) ?_ ?_ h
 ·simp[Instr.sliceAt,run_underlying hu,Instr.slice,hx,xI false hlo hhi h1 h2]
 ·simp only[ag]
  exact⟨_,rfl,by rw[y1l,JF,Pb];rfl⟩
theorem SC(hs:aB B E st w)(ht:aU E nt tm a){t e sz:Nat}{x:Operand}{lo hi:Option Operand}(ho:o.op = .slice t x lo hi none)(hu:P.underlying t=some (.slice e))(hz:cB P e=some sz)(h:xU sz (co x) (lo.map co) (hi.map co) tm st k=some r):Reads P E st w a o k r:=by
 unfold xU at h
 have hx:=aT hs ht x
 rcases lJ h with ⟨he,h⟩ | ⟨b,q,n,he,h⟩
 ·obtain⟨la,h,hlo⟩:=mO hs ht h
  obtain⟨ha,h,hhi⟩:=mO hs ht h
  obtain⟨h1,h⟩:=aJ h
  obtain⟨h2,h⟩:=aJ h
  have h1:=Nat.eq_of_beq_eq_true h1
  have h2:=Nat.eq_of_beq_eq_true h2
  subst h1;subst h2
  rw[he]at hx
  simp only[ag]at hx
  refine dW (s:=Instr.sliceAt t (a.eval x) (lo.map a.eval) (hi.map a.eval) none) (u:=.slice none 0 0) (by unfold execOp;rw[ho];rfl) ?_ (by simp only[ag]) h
  simp[Instr.sliceAt,run_underlying hu,Instr.slice,hx,xI true hlo hhi (Nat.le_refl 0) (Nat.le_refl 0),run_sizeOf hz]
 ·obtain⟨la,h,hlo⟩:=mO hs ht h
  obtain⟨ha,h,hhi⟩:=mO hs ht h
  obtain⟨h1,h⟩:=aJ h
  obtain⟨h2,h⟩:=aJ h
  have h1:la<=ha:=Nat.le_of_ble_eq_true h1
  have h2:ha<=n:=Nat.le_of_ble_eq_true h2
  rw[he]at hx
  simp only[ag]at hx
  obtain⟨l,hl,hcap,off,hoff,hv⟩:=hx
  have hb:=xI (P:=P) (w:=w) (cap:=l.cap-q) true hlo hhi h1 (by omega)
  have hrun:∀u,u = .slice (some (if l.cap-q=la then(⟨l.blk,off,none⟩:Addr)else(⟨l.blk,off,none⟩:Addr).add (la*sz))) (ha-la) (l.cap-q-la) ->
   (Instr.sliceAt t (a.eval x) (lo.map a.eval) (hi.map a.eval) none).run P w = .ok u w:=fun u hu'=>by
   subst hu'
   simp only[Instr.sliceAt,run_underlying hu,Instr.slice,hv,Sem.run_bind,Result.andThen_ok,hb,run_sizeOf hz,Sem.run_pure]
   split<;>simp
  rcases iB h with ⟨h0,h⟩ | ⟨h0,h⟩
  ·have h0:=Nat.eq_of_beq_eq_true h0
   subst h0
   refine dW (by unfold execOp;rw[ho];rfl) (hrun _ rfl) ?_ h
   simp only[ag]
   refine⟨l,hl,by omega,off,hoff,?_⟩
   simp[Addr.add]
  ·obtain⟨b2,k2,e',szx,m,els,h,hq',hvia⟩:=vG h
   obtain⟨hszx,h⟩:=aJ h
   have hszx:=Nat.eq_of_beq_eq_true hszx
   have hs0:l.sz=sz:=(hs.Q4 hl hvia hq').trans hszx
   have h0:la≠0:=fun e=>by subst e;cases h0
   refine dW (by unfold execOp;rw[ho];rfl) (hrun _ rfl) ?_ h
   have e1:Nat.add q la=q+la:=rfl
   have e2:Nat.sub ha la=ha-la:=rfl
   rw[e1,e2]
   simp only[ag]
   by_cases hc:l.cap-q=la
   ·rw[if_pos hc]
    exact⟨l,hl,by omega,off,fun h=>by omega,by rw[show l.cap-q-la=l.cap-(q+la) by omega]⟩
   ·rw[if_neg hc,Addr.add_mid,hoff (.inl (by omega))]
    exact⟨l,hl,by omega,l.base+q*l.sz+la*sz,fun _=>by rw[hs0,Nat.add_mul,Nat.add_assoc],by rw[show l.cap-q-la=l.cap-(q+la) by omega]⟩
theorem y1X(hs:aB B E st w)(ht:aU E nt tm a){t e sz n:Nat}{x j:Operand}(ho:o.op = .indexAddr t x j)(hu:P.underlying t=some (.array n e))(hz:cB P e=some sz)(h:EG n sz (co x) (co j) tm st k=some r):Reads P E st w a o k r:=by
 unfold EG at h
 obtain⟨b,q,he,h⟩:=pG h
 obtain⟨kd,i,hj,h⟩:=iG h
 obtain⟨hb,h⟩:=aJ h
 have hb:=dn hb
 rw[gV]at h
 have hjv:=aT hs ht j
 rw[hj]at hjv
 simp only[ag]at hjv
 have hxv:=aT hs ht x
 rw[he]at hxv
 simp only[ag]at hxv
 obtain⟨l,hl,hv⟩:=hxv
 refine dW (s:=Instr.indexAt t (a.eval x) (a.eval j)) (u:=.pointer (some ⟨l.blk,l.base+(q+i*sz),none⟩)) (by unfold execOp;rw[ho]) ?_ (by simp only[ag];exact⟨l,hl,rfl⟩) h
 simp[Instr.indexAt,hjv,hv,asIntOf,underlying,hu,hb,run_sizeOf hz,Addr.add_mid,Instr.sureAddr,Nat.add_assoc]
theorem XJ(hs:aB B E st w)(ht:aU E nt tm a){t:Nat}{x j:Operand}(ho:o.op = .index t x j)(hu:P.underlying t=some .string)(h:Eo (co x) (co j) tm st k=some r):Reads P E st w a o k r:=by
 unfold Eo at h
 obtain⟨l,hl,h⟩:=mQ h
 obtain⟨kd,i,hj,h⟩:=iG h
 obtain⟨c,hc,h⟩:=LV _ _ h
 have hjv:=aT hs ht j
 rw[hj]at hjv
 simp only[ag]at hjv
 have hx:=aT hs ht x
 rw[hl]at hx
 simp only[ag]at hx
 obtain⟨s,hx,rfl⟩:=hx
 rw[List.getElem?_map]at hc
 cases hg:s.data.toList[i]? with
 |none=>rw[hg]at hc;cases hc
 |some b =>
  rw[hg]at hc
  have hc:b.toNat=c:=by simpa using hc
  subst hc
  have hlt:i<s.size:=(List.getElem?_eq_some_iff.1 hg).1
  have hsb:s[i]? = some b:=by
   rw[getElem?_pos s i hlt]
   congr 1
   exact(List.getElem?_eq_some_iff.1 hg).2
  refine dW (s:=Instr.index t (a.eval x) (a.eval j)) (u:=.int .u8 b.toNat) (by unfold execOp;rw[ho]) ?_ (by simp only[ag];rfl) h
  simp[Instr.index,hjv,hx,asIntOf,run_underlying hu,hsb]
theorem Yp(hs:aB B E st w)(ht:aU E nt tm a){t e n:Nat}{x j:Operand}(ho:o.op = .index t x j)(hu:P.underlying t=some (.array n e))(hg:dQ P e=some false)(hz:cB P e=some 1)(h:Er n (co x) (co j) tm st k=some r):Reads P E st w a o k r:=by
 unfold Er at h
 obtain⟨c,hc,h⟩:=qI h
 obtain⟨kd,i,hj,h⟩:=iG h
 obtain⟨hb,h⟩:=aJ h
 have hb:=dn hb
 have hjv:=aT hs ht j
 rw[hj]at hjv
 simp only[ag]at hjv
 have hx:=aT hs ht x
 rw[hc]at hx
 simp only[ag]at hx
 obtain⟨l,hl,hrow⟩:=hx
 obtain⟨y,u,hu',hy,hk⟩:=au.nth _ hrow h (by simp)
 refine dW (s:=Instr.index t (a.eval x) (a.eval j)) (u:=u) (by unfold execOp;rw[ho]) ?_ hy hk
 simp[Instr.index,hjv,hl,asIntOf,run_underlying hu,hb,run_sizeOf hz,part,gX hg,hu']
end
end Go.AM
