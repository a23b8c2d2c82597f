/-
  Append.
-/
import Derived.Test.YtjnbddedmbhiaaaGreatDoorPk09
import Derived.Laws.AppendOwn
namespace Go.AM
open Go.RowKit
theorem Bd{src dst:T AV}{q z:Nat}:∀(m:Nat),z+m<=5000000->∀j,j<5000000->T.get (az j) (eZ m src q dst z)=if z<=j/\j<z+m then T.get (az (q+(j-z))) src else T.get (az j) dst
 |0,_,j,_=>by
  rw[if_neg (by omega)]
  rfl
 |m+1,hm,j,hj=>by
  have e:eZ (m+1) src q dst z=T.set (az (z+m)) (T.get (az (q+m)) src) (eZ m src q dst z):=rfl
  rw[e,fu (by omega) (by omega)]
  by_cases h:j=z+m
  ·rw[if_pos h,if_pos (by omega)]
   have:j-z=m:=by omega
   rw[this]
  ·rw[if_neg h,Bd m (by omega) j hj]
   by_cases h2:z<=j/\j<z+m
   ·rw[if_pos h2,if_pos (by omega)]
   ·rw[if_neg h2,if_neg (by omega)]
theorem Gy{E:ax}{x:AV}{l:List Value}(hc:yU x=true)(h:fo E x l):∀v∈l,v.oneCell' = true:=by
 rcases h with ⟨c,rfl,hl⟩ | ⟨hag,y,rfl,hy⟩
 ·exact KH (show rowOk c=true from hc) hl
 ·intro v hv
  rw[List.mem_singleton]at hv
  subst hv
  refine NC ?_ hy
  cases x<;>first | rfl | exact absurd (show false=true from hc) (by decide) | exact absurd (show true=false from hag) (by decide)
theorem Lr{els:T AV}{q:Nat}:∀(m:Nat),Ap m els q=true->∀j,j<m->∃v,T.get (az (q+j)) els=some v/\yU v=true
 |0,_,j,hj=>absurd hj (by omega)
 |m+1,h,j,hj=>by
  have h:(O7 (T.get (az (q+m)) els)&&Ap m els q)=true:=h
  rw[Bool.and_eq_true]at h
  by_cases e:j=m
  ·subst e
   cases hv:T.get (az (q+j)) els with
   |none=>rw[hv]at h;exact absurd (show false=true from h.1) (by decide)
   |some v=>rw[hv]at h;exact⟨v,rfl,h.1⟩
  ·exact Lr m h.2 j (by omega)
def cut(c:Array Value)(base sz q m:Nat):List Value:=(c.toList.drop (base+q*sz)).take (m*sz)
theorem yZ(c:Array Value){base sz q m j:Nat}(hj:j<m*sz):(cut c base sz q m)[j]? = c[base+q*sz+j]?:=by
 unfold cut
 rw[List.getElem?_take_of_lt hj,List.getElem?_drop,Array.getElem?_toList]
theorem GD{c:Array Value}{base sz q m cap:Nat}(hs:base+cap*sz<=c.size)(hq:q+m<=cap):(cut c base sz q m).length=m*sz:=by
 have h1:(q+m)*sz<=cap*sz:=Nat.mul_le_mul_right _ hq
 rw[Nat.add_mul]at h1
 unfold cut
 simp only[List.length_take,List.length_drop,Array.length_toList]
 omega
theorem GG{w:World}{b:Nat}{c:Array Value}{e:TypeId}{fr:Nat × Nat}(hb:w.heap[b]? = some (.cells c e fr)){base sz q m:Nat}:∀j v,(cut c base sz q m)[j]? = some v->w.cell? ((⟨b,base+q*sz,none⟩:Addr).add j)=some v:=by
 intro j v hv
 have hj:j<m*sz:=by
  have h1:=(List.getElem?_eq_some_iff.1 hv).1
  unfold cut at h1
  rw[List.length_take]at h1
  omega
 rw[yZ c hj]at hv
 rw[Addr.add_mid]
 exact cell_of hb hv
theorem ZP{E:ax}{c:Array Value}{base sz q m n:Nat}{els:T AV}(hel:ji E sz n els c base)(hq:q+m<=n)(hok:Ap m els q=true):∀v∈cut c base sz q m,v.oneCell' = true:=by
 intro v hv
 obtain⟨j,hj,hv⟩:=List.mem_iff_getElem.1 hv
 have hj':j<m*sz:=by
  unfold cut at hj
  rw[List.length_take]at hj
  omega
 have hsz:0<sz:=Nat.pos_of_ne_zero (fun e=>by subst e;omega)
 have hd:j / sz<m:=(Nat.div_lt_iff_lt_mul hsz).2 hj'
 have hm:j % sz<sz:=Nat.mod_lt _ hsz
 have ej:j / sz*sz+j % sz=j:=by rw[Nat.mul_comm];exact Nat.div_add_mod j sz
 obtain⟨x,hx,hxo⟩:=Lr m hok _ hd
 obtain⟨lv,h1,h2,h3⟩:=hel (q+j / sz) (by omega) x hx
 have h4:=h3 _ hm
 rw[Nat.add_mul,show base+(q*sz+j / sz*sz)+j % sz=base+q*sz+j by omega]at h4
 have h5:=yZ c (base:=base) (q:=q) hj'
 rw[List.getElem?_eq_getElem hj,hv,h4,List.getElem?_eq_getElem (by omega)]at h5
 have h6:v=lv[j % sz]:=by simpa using h5
 rw[h6]
 exact Gy hxo h2 _ (List.getElem_mem _)
theorem join_one{l:List Value}{Z:Array Value}{j:Nat}(h:j<l.length):(l.toArray++Z)[j]? = l[j]?:=by
 rw[Array.getElem?_append_left (by simpa using h),List.getElem?_toArray]
theorem Np{l m:List Value}{Z:Array Value}{j:Nat}(h:j<l.length):(l.toArray++m.toArray++Z)[j]? = l[j]?:=by
 rw[Array.getElem?_append_left (by rw[Array.size_append,List.size_toArray];omega),join_one h]
theorem Nn{l m:List Value}{Z:Array Value}{j:Nat}(h:j<m.length):(l.toArray++m.toArray++Z)[l.length+j]? = m[j]?:=by
 rw[Array.getElem?_append_left (by rw[Array.size_append,List.size_toArray,List.size_toArray];omega),Array.getElem?_append_right (by rw[List.size_toArray];omega),List.getElem?_toArray,List.size_toArray]
 congr 1;omega
theorem wD{E:ax}{sz n m o oy b:Nat}{els els' elsy:T AV}{N:Array Value}(hn:n+m<=5000000)(he:∀j,j<n->T.get (az j) els' = T.get (az (o+j)) els)
 (hx:∀q,q<n->∀v,T.get (az (o+q)) els=some v->∃lv:List Value,lv.length=sz/\fo E v lv/\∀i,i<sz->N[b+q*sz+i]? = lv[i]?)
 (hy:∀q,q<m->∀v,T.get (az (oy+q)) elsy=some v->∃lv:List Value,lv.length=sz/\fo E v lv/\∀i,i<sz->N[b+(n+q)*sz+i]? = lv[i]?) :
 ji E sz (n+m) (eZ m elsy oy els' n) N b:=by
 intro q hq v hv
 rw[Bd m hn q (by omega)]at hv
 split at hv
 ·rename_i h2
  obtain⟨lv,g1,g2,g3⟩:=hy (q-n) (by omega) v hv
  rw[show n+(q-n)=q by omega]at g3
  exact⟨lv,g1,g2,g3⟩
 ·rename_i h2
  rw[he q (by omega)]at hv
  exact hx q (by omega) v hv
section
variable {P:Program}{B:bB}{E:ax}{st:St}{w:World}{nt:Nat}{tm:Tm}{a:Act}{k:K}{r:List (AV × St)}{o:Oper}
theorem Reads.does(h:Reads P E st w a o k r)(hs:aB B E st w):Does P B E w a o k r:=by
 obtain⟨v,u,h1,h2,h3⟩:=h
 exact⟨v,u,w,E,st,r,.inl h1,ax.le_refl E,hs,bM.refl B w,h2,fun _ h=>h,h3⟩
theorem KA{c:Call}(ho:o.op = .call c)(hc:c.callee = .builtin .append){u:Value}{w':World}(hr:(Builtin.append_ c.argTypes o.type (c.args.map a.eval)).run P w = .ok u w') :
 (execOp a.eval o).run P w = .ok (.value u) w':=by
 obtain⟨cs,he⟩:=Gp (a:=a) ho hc
 rw[he]
 show(Builtin.append_ c.argTypes o.type (c.args.map a.eval) >>= fun u=>pure (Next.value u)).run P w=_
 rw[Sem.run_bind,hr]
 rfl
theorem TJ{t ty e:TypeId}{i:TypeInfo}(ht:P.underlying t=some (.slice e))(hi:P.info? e=some i)(base:Option Addr){n cap:Nat}(hn:n<=cap)(b:Option Addr)(c:Nat) :
 (Builtin.append_ #[t,t] ty #[.slice base n cap,.slice b 0 c]).run P w = .ok (.slice base n cap) w:=by
 have hf:(Builtin.firstCells i.size 0 (.slice b 0 c)).run P w = .ok #[] w:=by
  cases b with
  |none=>exact run_firstCells_none w i.size 0 0 c
  |some b=>exact run_firstCells_some w i.size 0 b 0 c [] (by simp) (by simp)
 cases base with
 |none=>simp[Builtin.append_,run_underlying ht,sizeOf,typeInfo,hi,Builtin.lenOf,hn,hf]
 |some q=>simp[Builtin.append_,run_underlying ht,sizeOf,typeInfo,hi,Builtin.lenOf,hn,hf,storeCells]
theorem TH{t ty e:TypeId}{i:TypeInfo}(ht:P.underlying t=some (.slice e))(hi:P.info? e=some i){g off sLen sCap:Nat}{cur:Array Value}(hg:w.heap[g]? = some (.cells cur e (0,0)))
 (b:Addr) {m c:Nat} {news:List Value} (hl:news.length=m*i.size) (hnews:∀j u,news[j]? = some u->w.cell? (b.add j)=some u) (h1:∀u∈news,u.oneCell' = true)
 (hroom:sLen+m<=sCap) (hfit:off+sLen*i.size+news.length<=cur.size) :
 (Builtin.append_ #[t,t] ty #[.slice (some ⟨g,off,none⟩) sLen sCap,.slice (some b) m c]).run P w =
   .ok (.slice (some ⟨g,off,none⟩) (sLen+m) sCap) (w.setRow g (cur.toList.take (off+sLen*i.size)++news++cur.toList.drop (off+sLen*i.size+news.length)).toArray):=by
 have hf:=run_firstCells_some (P:=P) w i.size m b m c news hl hnews
 have hst:=run_storeCells_at P g (off+sLen*i.size) e news 0 cur w hg (by simpa using hfit) h1
 simp only[Nat.add_zero]at hst
 simp[Builtin.append_,run_underlying ht,sizeOf,typeInfo,hi,Builtin.lenOf,hroom,hf,Addr.add_mid,hst]
theorem Ti{c:Call}(h2:c.argTypes.size=2)(h:Aa c=true){t:TypeId}(ht:c.argTypes[0]? = some t):c.argTypes=#[t,t]:=by
 unfold Aa at h
 rw[ht]at h
 split at h
 ·rename_i s s' e1 e2
  cases e1
  have e3:=Nat.eq_of_beq_eq_true h
  subst e3
  apply Array.ext (by simp[h2])
  intro i h3 h4
  have h5:i<2:=by omega
  have:i=0∨i=1:=by omega
  rcases this with rfl | rfl
  ·rw[Array.getElem?_eq_getElem (by omega)]at ht
   simpa using ht
  ·rw[Array.getElem?_eq_getElem (by omega)]at e2
   simpa using e2
 ·cases h
theorem EM{b:Nat}{f:Nat->Nat->Nat->T AV->Out}(h:Av st b f=some r):∃e sz n els,T.get (az b) st.h=some (.v e sz n els)/\f e sz n els=some r:=by
 obtain⟨q,hq,h⟩:=jM h
 rcases vH h with ⟨_,_,_,rfl,h⟩ | ⟨e,sz,n,els,rfl,h⟩
 ·exact aS h
 ·exact⟨e,sz,n,els,hq,h⟩
theorem O6(n o:Nat)(els:T AV)(hn:n<=5000000):∀j,j<n->T.get (az j) (Bool.rec (motive:=fun _=>Nat->T AV->Nat->T AV) (fun n els o=>eZ n els o .e 0) (fun _ els _=>els) (Nat.beq o 0) n els o)=T.get (az (o+j)) els:=by
 intro j hj
 cases hb:Nat.beq o 0 with
 |true =>
  have:=Nat.eq_of_beq_eq_true hb
  subst this
  rw[Nat.zero_add]
 |false =>
  show T.get (az j) (eZ n els o .e 0)=_
  rw[Bd n (by omega) j (by omega),if_pos (by omega),Nat.sub_zero]
theorem y2g(hs:aB B E st w)(hB:dJ B w)(ht:aU E nt tm a){c:Call}{x y:Operand}{e e' sz:Nat}{z:AV}(ho:o.op = .call c)(hc:c.callee = .builtin .append)(hx:c.args.toList=[x,y])(hu:und P c 0=some (.slice e))(_hu':und P c 1=some (.slice e'))
 (hz:ku P e=some (sz,z)) (h2:Nat.beq c.argTypes.size 2=true) (hT:Aa c=true) (h:EI e sz (co x) (co y) tm st k=some r):Does P B E w a o k r:=by
 obtain⟨tr0,n0⟩:=st
 obtain⟨t,ht0,htu⟩:=sI hu
 have hat:=Ti (Nat.eq_of_beq_eq_true h2) hT ht0
 obtain⟨i,v,hi,hv,hsz,hby,hvl,hc0⟩:=uj hz
 have hvx:=aT hs ht x
 have hvy:=aT hs ht y
 have goX:∀{u:Value} {w':World},(Builtin.append_ #[t,t] o.type #[a.eval x,a.eval y]).run P w = .ok u w'->(execOp a.eval o).run P w = .ok (.value u) w':=fun hr=>KA ho hc (by rw[hat,Cy hx];exact hr)
 have emp:∀(b:Option Addr) (q:Nat),a.eval y = .slice b 0 q->wT (aN (co x) tm) (.mk tr0 n0) k=some r->Does P B E w a o k r:=by
  intro b q hy0 h'
  have key:∀base n cap,a.eval x = .slice base n cap->n<=cap->k (aN (co x) tm) (.mk tr0 n0)=some r->Does P B E w a o k r:=fun base n cap hxe hle hk =>
   Reads.does ⟨_,_,goX (by rw[hxe,hy0];exact TJ htu hi base hle b q),by rw[<-hxe];exact hvx,hk⟩ hs
  unfold wT at h'
  rcases lJ h' with ⟨hx0,h'⟩ | ⟨rr,oo,nn,hx0,h'⟩
  ·have hx1:=hvx
   rw[hx0]at hx1
   simp only[ag]at hx1
   exact key _ _ _ hx1 (Nat.le_refl 0) h'
  ·have hx1:=hvx
   rw[hx0]at hx1
   simp only[ag]at hx1
   obtain⟨l,hl,hle,p,_,hx1⟩:=hx1
   exact key _ _ _ hx1 (by omega) h'
 unfold EI at h
 rcases lJ h with ⟨hy0,h⟩ | ⟨ry0,oy0,m,hy0,h⟩
 ·rw[hy0]at hvy
  simp only[ag]at hvy
  exact emp _ _ hvy h
 rw[hy0]at hvy
 rcases iB h with ⟨hm0,h⟩ | ⟨hm0,h⟩
 ·have:=Nat.eq_of_beq_eq_true hm0
  subst this
  simp only[ag]at hvy
  obtain⟨ly,hly,hcapy,oy',hoy,hye⟩:=hvy
  exact emp _ _ hye h
 have hm:0<m:=Nat.pos_of_ne_zero (fun e=>by subst e;cases hm0)
 obtain⟨ry,ky,ey,szy,leny,elsy,h,hqy,hviay⟩:=vG h
 rw[gV]at h
 obtain⟨ly,oy',cy0,hly,hry,_,hcapy,hoy,hye,_⟩:=hs.view hvy hviay hqy
 have hoy:=hoy hm
 subst hoy
 generalize hoyd:ky+oy0=oy at *
 have hoyd':Nat.add ky oy0=oy:=hoyd
 rw[hoyd']at h
 obtain⟨e1,h⟩:=aJ h
 have e1:=Nat.eq_of_beq_eq_true e1
 subst e1
 obtain⟨e2,h⟩:=aJ h
 have hleny:oy+m<=leny:=Nat.le_of_ble_eq_true e2
 obtain⟨hok,h⟩:=aJ h
 obtain⟨cy,fry,hcy,_,hszy,hcapy',hsizey,hely⟩:=hry
 have hely:ji E szy leny elsy cy ly.base:=hely
 have hlnews:=GD hsizey hcapy
 have hnews:=GG hcy (base:=ly.base) (sz:=szy) (q:=oy) (m:=m)
 have hone:=ZP hely hleny hok
 have hgetnews:∀j,j<m*szy->(cut cy ly.base szy oy m)[j]? = cy[ly.base+oy*szy+j]?:=fun j hj=>yZ cy hj
 generalize hN:cut cy ly.base szy oy m=news at *
 have hvs:v.cells.size=szy:=by rw[<-hvl];simp
 have hyel:∀{N:Array Value} {b n:Nat},(∀j,j<m*szy->N[b+n*szy+j]? = news[j]?)->∀q,q<m->∀v,T.get (az (oy+q)) elsy=some v->∃lv:List Value,lv.length=szy/\fo E v lv/\∀i,i<szy->N[b+(n+q)*szy+i]? = lv[i]?:=by
  intro N b n hN' q hq v' hv'
  obtain⟨lv,g1,g2,g3⟩:=hely (oy+q) (by omega) v' hv'
  refine⟨lv,g1,g2,fun i hi=>?_⟩
  have h3:(q+1)*szy<=m*szy:=Nat.mul_le_mul_right _ hq
  rw[Nat.add_mul,Nat.one_mul]at h3
  have g4:=g3 i hi
  rw[Nat.add_mul,show ly.base+(oy*szy+q*szy)+i=ly.base+oy*szy+(q*szy+i) by omega,<-hgetnews _ (by omega),<-hN' _ (by omega)]at g4
  rw[Nat.add_mul,show b+(n*szy+q*szy)+i=b+n*szy+(q*szy+i) by omega]
  exact g4
 rcases lJ h with ⟨hx0,h⟩ | ⟨rx,ox,n,hx0,h⟩
 ·obtain⟨hm5,h⟩:=aJ h
  have hm5:m<=5000000:=Nat.le_of_ble_eq_true hm5
  rw[hx0]at hvx
  simp only[ag]at hvx
  obtain⟨tr,nn,he,hnn,h⟩:=fP h
  cases he
  have hby2:m*i.bytes<=5000000*16777216:=Nat.mul_le_mul hm5 hby
  have hrun:=run_append_nil (P:=P) w t o.type e i v htu hi hv ⟨ly.blk,ly.base+oy*szy,none⟩ m cy0 news (by rw[hsz];exact hlnews) hnews hm (by omega) (by omega)
  have hge:=grownCap_ge w m 0 e
  generalize grownCap w m 0 e=cap at *
  obtain⟨hle,hs'⟩:=aB.vK hs hB hnn (e:=e) (sz:=szy) (len:=m) (cap:=cap) (els:=eZ m elsy oy .e 0) (c:=news.toArray++Builtin.zeroCells v.cells (cap-m)) hge hm5
   (by
     have:(m+(cap-m))*szy=cap*szy:=by rw[show m+(cap-m)=cap by omega]
     rw[Nat.add_mul]at this
     simp only[Array.size_append,List.size_toArray,size_zeroCells,hvs,hlnews]
     omega)
   (by
     have:=wD (E:=E) (sz:=szy) (n:=0) (m:=m) (o:=0) (oy:=oy) (b:=0) (els:=.e) (els':=.e) (elsy:=elsy) (N:=news.toArray++Builtin.zeroCells v.cells (cap-m)) (by omega) (fun j hj=>absurd hj (by omega)) (fun j hj=>absurd hj (by omega))
      (hyel (fun j hj=>by
        rw[Nat.zero_mul,Nat.zero_add,join_one (by omega)]))
     rwa [Nat.zero_add]at this) (w':=w.drew) rfl
  exact⟨_,_,_,_,_,_,.inl (goX (by rw[hvx,hye];exact hrun)),hle,hs',((bM.refl B w).drew).alloc (hB.mono (Nat.le_refl _)) _,uS hge,fun _ h=>h,h⟩
 ·obtain⟨h64,h⟩:=aJ h
  have h64:lowN<=rx:=Nat.le_of_ble_eq_true h64
  obtain⟨ex,szx,lenx,els,hqx,h⟩:=EM h
  obtain⟨e1,h⟩:=aJ h
  have e1:=Nat.eq_of_beq_eq_true e1
  subst e1
  obtain⟨e2,h⟩:=aJ h
  have e2:=Nat.eq_of_beq_eq_true e2
  subst e2
  obtain⟨e3,h⟩:=aJ h
  have hlenx:ox+n<=lenx:=Nat.le_of_ble_eq_true e3
  rw[gV]at h
  obtain⟨e4,h⟩:=aJ h
  have hnm:n+m<=5000000:=Nat.le_of_ble_eq_true e4
  rw[hx0]at hvx
  simp only[ag]at hvx
  obtain⟨l,hl,hcapx,ox',hox,hxe⟩:=hvx
  have hlt:=hs.lt hl
  obtain⟨l',hl',hrx⟩:=hs.live rx _ hlt hqx
  rw[hl]at hl'
  cases hl'
  have hro:Nat.blt rx lowN=false:=by
   cases hb:Nat.blt rx lowN with
   |false=>rfl
   |true=>have:=dn hb;omega
  rw[hro]at hrx
  obtain⟨cx,frx,hcx,hfr,hszx,hcapx',hsizex,helx⟩:=hrx
  have hfr:=hfr rfl
  subst hfr
  have helx:ji E szx lenx els cx l.base:=helx
  have hown:=hs.own rx _ l hlt h64 hqx hl
  have hkill:=aB.kill (r:=rx) hs hlt
  rw[Ah]at h hkill
  obtain⟨tr,nn,he,hnn,h⟩:=fP h
  cases he
  have hels':=O6 n ox els (by omega)
  generalize hE:(Bool.rec (motive:=fun _=>Nat->T AV->Nat->T AV) (fun n els o=>eZ n els o .e 0) (fun _ els _=>els) (Nat.beq ox 0) n els ox)=els' at *
  have ha:Nat.add n m=n+m:=rfl
  rw[ha]at h
  rw[hszx]at hox
  by_cases hroom:n+m<=l.cap-ox
  ·have hox:=hox (.inl (by omega))
   subst hox
   have hb1:(ox+(n+m))*szx<=l.cap*szx:=Nat.mul_le_mul_right _ (by omega)
   rw[Nat.add_mul,Nat.add_mul]at hb1
   have hfit:l.base+ox*szx+n*szx+news.length<=cx.size:=by omega
   have hrun:=TH (P:=P) (w:=w) (ty:=o.type) (off:=l.base+ox*szx) (sLen:=n) (sCap:=l.cap-ox) (c:=cy0) htu hi hcx ⟨ly.blk,ly.base+oy*szx,none⟩ (by rw[hsz];exact hlnews) hnews hone hroom (by rw[hsz];exact hfit)
   rw[hsz]at hrun
   have e5:∀j:Nat,((cx.toList.take (l.base+ox*szx+n*szx)++news++cx.toList.drop (l.base+ox*szx+n*szx+news.length)).toArray)[j]? = if j<l.base+ox*szx+n*szx then cx[j]? else if j<l.base+ox*szx+n*szx+news.length then news[j-(l.base+ox*szx+n*szx)]? else cx[j]?:=fun j=>by
    rw[List.getElem?_toArray,getElem?_mid _ _ _ _ (by have:=@Array.length_toList _ cx;omega),Array.getElem?_toList]
   generalize hC:(cx.toList.take (l.base+ox*szx+n*szx)++news++cx.toList.drop (l.base+ox*szx+n*szx+news.length)).toArray=C at *
   have hCs:C.size=cx.size:=by
    rw[<-hC]
    simp only[List.size_toArray,List.length_append,List.length_take,List.length_drop,Array.length_toList]
    omega
   have hdead:∀s q,s<lim->T.get (az s) (T.set (az rx) none tr0)=some q->s≠rx/\T.get (az s) tr0=some q:=fun s q h1 h2=>by
    rw[fu h1 hlt]at h2
    split at h2
    ·cases h2
    ·exact⟨‹_›,h2⟩
   have hel:ji E szx (n+m) (eZ m elsy oy els' n) C (l.base+ox*szx):=wD hnm hels' (fun q hq v' hv'=>by
    obtain⟨lv,g1,g2,g3⟩:=helx (ox+q) (by omega) v' hv'
    refine⟨lv,g1,g2,fun i hi=>?_⟩
    have h3:(q+1)*szx<=n*szx:=Nat.mul_le_mul_right _ hq
    rw[Nat.add_mul,Nat.one_mul]at h3
    have g4:=g3 i hi
    rw[Nat.add_mul,show l.base+(ox*szx+q*szx)+i=l.base+ox*szx+q*szx+i by omega]at g4
    rw[e5,if_pos (by omega)]
    exact g4)
    (hyel (fun j hj=>by
      rw[e5,if_neg (by omega),if_pos (by omega)]
      congr 1;omega))
   have hh:∀s q l',s<lim->T.get (az s) (T.set (az rx) none tr0)=some q->q.dz=false->E s=some l'->l'.blk≠l.blk:=fun s q l' h1 h2 ha3 h3=>by
    obtain⟨h4,h5⟩:=hdead s q h1 h2
    exact hs.apart s rx q _ l' l h1 hlt h4 h5 hqx ha3 rfl h3 hl
   obtain⟨hle,hs'⟩:=aB.new (w':=w.setRow l.blk C) (l:=⟨l.blk,l.base+ox*szx,l.cap-ox,szx⟩) (o:=.v ex szx (n+m) (eZ m elsy oy els' n)) hkill hnn hown (by simp) (fun _=>hh)
    (fun s q l' h1 h2 ha3 h3=>setRow_other w l.blk l'.blk C (hh s q l' h1 h2 ha3 h3))
    ⟨C,(0,0),setRow_heap w l.blk cx C ex (0,0) hcx,fun _=>rfl,rfl,⟨hroom,hnm⟩,by
      have:(ox+(l.cap-ox))*szx=l.cap*szx:=by rw[show ox+(l.cap-ox)=l.cap by omega]
      rw[Nat.add_mul]at this
      show l.base+ox*szx+(l.cap-ox)*szx<=C.size
      omega,hel.mono (ax.qo (hkill.fresh n0 (Nat.le_refl _)))⟩
   have hbel:bM B w (w.setRow l.blk C):=⟨rfl,rfl,rfl,by simp,fun j hj=>setRow_other w l.blk j C (fun e=>hown (e▸hj))⟩
   refine⟨_,_,_,_,_,_,.inl (goX (by rw[hxe,hye];exact hrun)),hle,hs',hbel,?_,fun _ h=>h,h⟩
   simp only[ag]
   exact⟨_,ax.jl _ _ _,by simpa using hroom,l.base+ox*szx,fun _=>by simp,by simp⟩
  ·have hlolds:=GD hsizex hcapx
   have hby2:(n+m)*i.bytes<=5000000*16777216:=Nat.mul_le_mul hnm hby
   have holds:∀j u,(cut cx l.base szx ox n)[j]? = some u->w.cell? ((⟨l.blk,ox',none⟩:Addr).add j)=some u:=by
    intro j u hju
    by_cases hn0:n=0
    ·subst hn0
     have h1:=(List.getElem?_eq_some_iff.1 hju).1
     rw[hlolds]at h1
     omega
    ·rw[hox (.inl (by omega))]
     exact GG hcx j u hju
   have hgetolds:∀j,j<n*szx->(cut cx l.base szx ox n)[j]? = cx[l.base+ox*szx+j]?:=fun j hj=>yZ cx hj
   generalize cut cx l.base szx ox n=olds at *
   have hrun:=run_append_grow (P:=P) w t o.type ex i v htu hi hv ⟨l.blk,ox',none⟩ n (l.cap-ox) olds (by rw[hsz];exact hlolds) holds ⟨ly.blk,ly.base+oy*szx,none⟩ m cy0 news (by rw[hsz];exact hlnews) hnews (by omega) (by omega)
    (growslice_fits (by omega) (by omega))
   have hge:=grownCap_ge w (n+m) (l.cap-ox) ex
   generalize grownCap w (n+m) (l.cap-ox) ex=cap at *
   obtain⟨hle,hs'⟩:=aB.vK hkill hB hnn (e:=ex) (sz:=szx) (len:=n+m) (cap:=cap) (els:=eZ m elsy oy els' n) (c:=olds.toArray++news.toArray++Builtin.zeroCells v.cells (cap-(n+m))) hge hnm
    (by
      have:(n+m+(cap-(n+m)))*szx=cap*szx:=by rw[show n+m+(cap-(n+m))=cap by omega]
      rw[Nat.add_mul,Nat.add_mul]at this
      simp only[Array.size_append,List.size_toArray,size_zeroCells,hvs,hlnews,hlolds]
      omega)
    (wD hnm hels' (fun q hq v' hv'=>by
      obtain⟨lv,g1,g2,g3⟩:=helx (ox+q) (by omega) v' hv'
      refine⟨lv,g1,g2,fun i hi=>?_⟩
      have h3:(q+1)*szx<=n*szx:=Nat.mul_le_mul_right _ hq
      rw[Nat.add_mul,Nat.one_mul]at h3
      have g4:=g3 i hi
      rw[Nat.add_mul,show l.base+(ox*szx+q*szx)+i=l.base+ox*szx+(q*szx+i) by omega,<-hgetolds _ (by omega)]at g4
      rw[Nat.zero_add,Np (by omega)]
      exact g4)
      (hyel (fun j hj=>by
        rw[Nat.zero_add,<-hlolds,Nn (by omega)]))) (w':=w.drew) rfl
   exact⟨_,_,_,_,_,_,.inl (goX (by rw[hxe,hye];exact hrun)),hle,hs',((bM.refl B w).drew).alloc (hB.mono (Nat.le_refl _)) _,uS hge,fun _ h=>h,h⟩
end
end Go.AM
