/-
  Append of zeros; the elements of a slice made zeros.
-/
import Derived.Test.YtjnbddedmbhiaaaGreatDoorPk40
import Derived.IntWalk
namespace Go.AM
open Go.RowKit
theorem CY(zc:Array Value)(n:Nat){j:Nat}(hj:j<n*zc.size):(Builtin.zeroCells zc n)[j]? = zc[j % zc.size]?:=by
 have hp:0<zc.size:=Nat.pos_of_ne_zero (fun e=>by rw[e]at hj;omega)
 unfold Builtin.zeroCells
 rw[Array.getElem?_map,Array.getElem?_range,if_pos hj]
 simp[Nat.mod_lt j hp]
theorem IA{zc:Array Value}{n:Nat}(h:∀v∈zc.toList,v.oneCell' = true):∀u∈(Builtin.zeroCells zc n).toList,u.oneCell' = true:=by
 intro u hu
 obtain⟨j,hj,hv⟩:=List.mem_iff_getElem.1 hu
 have hj':j<n*zc.size:=by simpa[size_zeroCells]using hj
 have hp:0<zc.size:=Nat.pos_of_ne_zero (fun e=>by rw[e]at hj';omega)
 have g:=CY zc n hj'
 rw[<-Array.getElem?_toList,List.getElem?_eq_getElem hj,hv,Array.getElem?_eq_getElem (Nat.mod_lt j hp)]at g
 have g:u=zc[j % zc.size]'(Nat.mod_lt j hp):=by simpa using g
 rw[g]
 exact h _ (by simp)
section
variable {P:Program}{B:bB}{E:ax}{st:St}{w:World}{nt:Nat}{tm:Tm}{a:Act}{k:K}{r:List (AV × St)}{o:Oper}
theorem zJ(m:Nat)(h:m<=5000000):IntKind.i64.wrap (m:Int)=m:=by
 have:=IntWalk.i64_in (m:Int) (by omega)
 exact this
theorem sN(q:IntKind)(n:Int):(asInt (.int q n)).run P w = .ok n w:=by simp[asInt,asIntOf]
theorem TF{t u ty e:TypeId}{i:TypeInfo}{q q':IntKind}(ht:P.underlying t=some (.slice e))(hu:P.underlying u=some (.int q))(hi:P.info? e=some i)(base:Option Addr){n cap:Nat}(hn:n<=cap) :
 (Builtin.append_ #[t,u] ty #[.slice base n cap,.int q' 0]).run P w = .ok (.slice base n cap) w:=by
 have h0:IntKind.i64.wrap 0=0:=zJ 0 (by omega)
 cases base with
 |none=>simp[Builtin.append_,run_underlying ht,run_underlying hu,sizeOf,typeInfo,hi,hn,sN,h0]
 |some q=>simp[Builtin.append_,run_underlying ht,run_underlying hu,sizeOf,typeInfo,hi,hn,sN,h0,storeCells]
theorem CV{z:Value}{s m:Nat}(hs:z.cells.size=s)(h:m*s=0):Builtin.zeroCells z.cells m=#[]:=by
 apply Array.eq_empty_of_size_eq_zero
 rw[size_zeroCells,hs];exact h
theorem TC{t u ty e:TypeId}{i:TypeInfo}{z:Value}{q q':IntKind}(ht:P.underlying t=some (.slice e))(hu:P.underlying u=some (.int q))(hi:P.info? e=some i)(hz:i.zero=some z)(hs:z.cells.size=i.size){m:Nat}(h0:0<m)(hm:m<=5000000)(hb:i.bytes<=16777216) :
 (Builtin.append_ #[t,u] ty #[.slice none 0 0,.int q' (m:Int)]).run P w =
   .ok (.slice (some ⟨w.heap.size,0,none⟩) m (grownCap w m 0 e)) (w.drew.alloc (.cells (Builtin.zeroCells z.cells m++Builtin.zeroCells z.cells (grownCap w m 0 e-m)) e)):=by
 have hw:=zJ m hm
 have hmb:m*i.bytes<=5000000*16777216:=Nat.mul_le_mul hm hb
 have h48:¬ (281474976710656<(m:Int)*(i.bytes:Int)):=by
  have:((m*i.bytes:Nat):Int)<=5000000*16777216:=by omega
  rw[Int.natCast_mul]at this
  omega
 have hn:m≠0:=by omega
 have hneg:¬ ((m:Int)<0):=by omega
 have h63':¬ (9223372036854775807<(m:Int)):=by omega
 have h48':¬ (281474976710656<Builtin.nextslicecap m 0*i.bytes):=by rw[nextslicecap_zero h0];omega
 simp[Builtin.append_,run_underlying ht,run_underlying hu,sizeOf,typeInfo,zeroValue,hi,hz,hn,hw,hneg,h48,h63',h48',Question.forced,run_firstCells_none,newRow,grownCap,sN]
 intro h
 rw[CV hs h]
 simp
theorem TD{t u ty e:TypeId}{i:TypeInfo}{z:Value}{q q':IntKind}(ht:P.underlying t=some (.slice e))(hu:P.underlying u=some (.int q))(hi:P.info? e=some i)(hz:i.zero=some z)(hs:z.cells.size=i.size){m:Nat}(hm:m<=5000000)(hb:i.bytes<=16777216)
 {g off sLen sCap:Nat} {cur:Array Value} (hg:w.heap[g]? = some (.cells cur e (0,0))) (h1:∀u∈(Builtin.zeroCells z.cells m).toList,u.oneCell' = true)
 (hroom:sLen+m<=sCap) (hfit:off+sLen*i.size+(Builtin.zeroCells z.cells m).toList.length<=cur.size) :
 (Builtin.append_ #[t,u] ty #[.slice (some ⟨g,off,none⟩) sLen sCap,.int q' (m:Int)]).run P w =
   .ok (.slice (some ⟨g,off,none⟩) (sLen+m) sCap) (w.setRow g (cur.toList.take (off+sLen*i.size)++(Builtin.zeroCells z.cells m).toList++cur.toList.drop (off+sLen*i.size+(Builtin.zeroCells z.cells m).toList.length)).toArray):=by
 have hw:=zJ m hm
 have hmb:m*i.bytes<=5000000*16777216:=Nat.mul_le_mul hm hb
 have h48:¬ (281474976710656<(m:Int)*(i.bytes:Int)):=by
  have:((m*i.bytes:Nat):Int)<=5000000*16777216:=by omega
  rw[Int.natCast_mul]at this
  omega
 have hneg:¬ ((m:Int)<0):=by omega
 have hst:=run_storeCells_at P g (off+sLen*i.size) e (Builtin.zeroCells z.cells m).toList 0 cur w hg (by simpa using hfit) h1
 simp only[Nat.add_zero]at hst
 by_cases h:m*i.size=0
 ·have hz0:=CV hs h
  rw[hz0]at hst ⊢
  simp[Builtin.append_,run_underlying ht,run_underlying hu,sizeOf,typeInfo,zeroValue,hi,hw,hneg,h48,hroom,sN,h,Addr.add_mid]
  simp at hst
  simp[hst]
 ·have hd:¬ (m*i.size=0):=h
  simp only[Nat.mul_eq_zero,not_or]at h
  simp[Builtin.append_,run_underlying ht,run_underlying hu,sizeOf,typeInfo,zeroValue,hi,hz,hw,hneg,h48,hroom,sN,Addr.add_mid,hst]
  exact fun e=>absurd e hd
theorem TE{t u ty e:TypeId}{i:TypeInfo}{z:Value}{q q':IntKind}(ht:P.underlying t=some (.slice e))(hu:P.underlying u=some (.int q))(hi:P.info? e=some i)(hz:i.zero=some z)(hs:z.cells.size=i.size){m:Nat}(hm:m<=5000000)(hb:i.bytes<=16777216)
 (b:Addr) (sLen sCap:Nat) (olds:List Value) (hlo:olds.length=sLen*i.size) (holds:∀j v,olds[j]? = some v->w.cell? (b.add j)=some v)
 (hg:sCap<sLen+m) (hsm:sLen+m<=5000000) :
 (Builtin.append_ #[t,u] ty #[.slice (some b) sLen sCap,.int q' (m:Int)]).run P w =
   .ok (.slice (some ⟨w.heap.size,0,none⟩) (sLen+m) (grownCap w (sLen+m) sCap e))
    (w.drew.alloc (.cells (olds.toArray++(Builtin.zeroCells z.cells m).toList.toArray++Builtin.zeroCells z.cells (grownCap w (sLen+m) sCap e-(sLen+m))) e)):=by
 have hw:=zJ m hm
 have hmb:m*i.bytes<=5000000*16777216:=Nat.mul_le_mul hm hb
 have hmb2:(sLen+m)*i.bytes<=5000000*16777216:=Nat.mul_le_mul hsm hb
 have h48:¬ (281474976710656<(m:Int)*(i.bytes:Int)):=by
  have:((m*i.bytes:Nat):Int)<=5000000*16777216:=by omega
  rw[Int.natCast_mul]at this
  omega
 have hneg:¬ ((m:Int)<0):=by omega
 have hn:¬ (sLen+m<=sCap):=by omega
 have h63':¬ (9223372036854775807<((sLen:Int)+(m:Int))):=by omega
 have hfit:=growslice_fits hg (show(sLen+m)*i.bytes<=140737488355328 by omega)
 have h48':¬ (281474976710656<Builtin.nextslicecap (sLen+m) sCap*i.bytes):=by omega
 have hfo:=run_firstCells_some (P:=P) w.drew i.size sLen b sLen sCap olds hlo (by simpa using holds)
 by_cases h:m*i.size=0
 ·have hz0:=CV hs h
  rw[hz0]
  simp[Builtin.append_,run_underlying ht,run_underlying hu,sizeOf,typeInfo,zeroValue,hi,hz,hn,hw,hneg,h48,h63',h48',Question.forced,hfo,newRow,grownCap,sN,h]
 ·have hd:¬ (m*i.size=0):=h
  simp only[Nat.mul_eq_zero,not_or]at h
  simp[Builtin.append_,run_underlying ht,run_underlying hu,sizeOf,typeInfo,zeroValue,hi,hz,hn,hw,hneg,h48,h63',h48',Question.forced,hfo,newRow,grownCap,sN]
  exact fun e=>absurd e hd
theorem y2c(hs:aB B E st w)(hB:dJ B w)(ht:aU E nt tm a){c:Call}{x y:Operand}{e sz:Nat}{q:IntKind}{z:AV}(ho:o.op = .call c)(hc:c.callee = .builtin .append)(hx:c.args.toList=[x,y])(hu:und P c 0=some (.slice e))(hu':und P c 1=some (.int q))
 (hz:ku P e=some (sz,z)) (h2:Nat.beq c.argTypes.size 2=true) (h:EH e sz z (co x) (co y) tm st k=some r):Does P B E w a o k r:=by
 obtain⟨tr0,n0⟩:=st
 obtain⟨t,ht0,htu⟩:=sI hu
 obtain⟨t',ht1,htu'⟩:=sI hu'
 have hat:c.argTypes=#[t,t']:=by
  have h2:=Nat.eq_of_beq_eq_true h2
  apply Array.ext (by simp[h2])
  intro i h3 h4
  have h5:i<2:=by omega
  have:i=0∨i=1:=by omega
  rcases this with rfl | rfl
  ·rw[Array.getElem?_eq_getElem (by omega)]at ht0
   simpa using ht0
  ·rw[Array.getElem?_eq_getElem (by omega)]at ht1
   simpa using ht1
 obtain⟨i,v,hi,hv,hsz,hby,hvl,hc0⟩:=uj hz
 have hvx:=aT hs ht x
 have hvy:=aT hs ht y
 have goX:∀{u:Value} {w':World},(Builtin.append_ #[t,t'] o.type #[a.eval x,a.eval y]).run P w = .ok u w'->(execOp a.eval o).run P w = .ok (.value u) w':=fun hr=>KA ho hc (by rw[hat,Cy hx];exact hr)
 unfold EH at h
 obtain⟨q',m,hy0,h⟩:=iG h
 rw[hy0]at hvy
 have hye:a.eval y = .int q' (m:Int):=by simpa only[ag]using hvy
 rcases iB h with ⟨hm0,h⟩ | ⟨hm0,h⟩
 ·have:=Nat.eq_of_beq_eq_true hm0
  subst this
  have key:∀base n cap,a.eval x = .slice base n cap->n<=cap->k (aN (co x) tm) (.mk tr0 n0)=some r->Does P B E w a o k r:=fun base n cap hxe hle hk =>
   Reads.does ⟨_,_,goX (by rw[hxe,hye];exact TF htu htu' hi base hle),by rw[<-hxe];exact hvx,hk⟩ hs
  unfold wT at h
  rcases lJ h with ⟨hx0,h'⟩ | ⟨rr,oo,nn,hx0,h'⟩
  ·have hx1:=hvx
   rw[hx0]at hx1
   simp only[ag]at hx1
   exact key _ _ _ hx1 (Nat.le_refl 0) h'
  ·have hx1:=hvx
   rw[hx0]at hx1
   simp only[ag]at hx1
   obtain⟨l,hl,hle,p,_,hx1⟩:=hx1
   exact key _ _ _ hx1 (by omega) h'
 have hm:0<m:=Nat.pos_of_ne_zero (fun e=>by subst e;cases hm0)
 obtain⟨hmz,h⟩:=aJ h
 rw[Bool.and_eq_true]at hmz
 have hm5:m<=5000000:=Nat.le_of_ble_eq_true hmz.1
 have hvs:v.cells.size=sz:=by rw[<-hvl];simp
 have hvsi:v.cells.size=i.size:=by rw[hvs,hsz]
 have hlnews:(Builtin.zeroCells v.cells m).toList.length=m*sz:=by
  rw[Array.length_toList,size_zeroCells,hvs]
 have hlnews2:(Builtin.zeroCells v.cells m).size=m*sz:=by
  rw[size_zeroCells,hvs]
 have hone:∀u∈(Builtin.zeroCells v.cells m).toList,u.oneCell' = true:=IA (Gy hmz.2 (hc0 E))
 have hyel:∀{N:Array Value} {b n:Nat},(∀j,j<m*sz->N[b+n*sz+j]? = (Builtin.zeroCells v.cells m).toList[j]?)->∀q,q<m->∀v,T.get (az (0+q)) (zeros z m)=some v->∃lv:List Value,lv.length=sz/\fo E v lv/\∀i,i<sz->N[b+(n+q)*sz+i]? = lv[i]?:=by
  intro N b n hN' q hq v' hv'
  rw[Nat.zero_add,Bc z m hm5 q hq]at hv'
  cases hv'
  refine⟨v.cells.toList,hvl,hc0 E,fun i hi=>?_⟩
  have h3:(q+1)*sz<=m*sz:=Nat.mul_le_mul_right _ hq
  rw[Nat.add_mul,Nat.one_mul]at h3
  rw[Nat.add_mul,show b+(n*sz+q*sz)+i=b+n*sz+(q*sz+i) by omega,hN' _ (by omega),Array.getElem?_toList,CY _ _ (by rw[hvs];omega),hvs]
  rw[show(q*sz+i) % sz=i by rw[Nat.mul_comm,Nat.mul_add_mod,Nat.mod_eq_of_lt hi]]
  simp
 rcases lJ h with ⟨hx0,h⟩ | ⟨rx,ox,n,hx0,h⟩
 ·rw[hx0]at hvx
  simp only[ag]at hvx
  obtain⟨tr,nn,he,hnn,h⟩:=fP h
  cases he
  have hrun:=TC (P:=P) (w:=w) (ty:=o.type) (q':=q') htu htu' hi hv hvsi hm hm5 hby
  have hge:=grownCap_ge w m 0 e
  generalize grownCap w m 0 e=cap at *
  obtain⟨hle,hs'⟩:=aB.vK hs hB hnn (e:=e) (sz:=sz) (len:=m) (cap:=cap) (els:=eZ m (zeros z m) 0 .e 0) (c:=(Builtin.zeroCells v.cells m).toList.toArray++Builtin.zeroCells v.cells (cap-m)) hge hm5
   (by
     have:(m+(cap-m))*sz=cap*sz:=by rw[show m+(cap-m)=cap by omega]
     rw[Nat.add_mul]at this
     simp only[Array.size_append,List.size_toArray,size_zeroCells,hvs,hlnews]
     omega)
   (by
     have:=wD (E:=E) (sz:=sz) (n:=0) (m:=m) (o:=0) (oy:=0) (b:=0) (els:=.e) (els':=.e) (elsy:=zeros z m) (N:=(Builtin.zeroCells v.cells m).toList.toArray++Builtin.zeroCells v.cells (cap-m)) (by omega) (fun j hj=>absurd hj (by omega)) (fun j hj=>absurd hj (by omega))
      (hyel (fun j hj=>by
        rw[Nat.zero_mul,Nat.zero_add,join_one (by omega)]))
     rwa [Nat.zero_add]at this) (w':=w.drew) rfl
  exact⟨_,_,_,_,_,_,.inl (goX (by rw[hvx,hye];exact hrun)),hle,hs',((bM.refl B w).drew).alloc (hB.mono (Nat.le_refl _)) _,uS hge,fun _ h=>h,h⟩
 ·obtain⟨h64,h⟩:=aJ h
  have h64:lowN<=rx:=Nat.le_of_ble_eq_true h64
  obtain⟨ex,szx,lenx,els,hqx,h⟩:=EM h
  obtain⟨e1,h⟩:=aJ h
  have e1:=Nat.eq_of_beq_eq_true e1
  subst e1
  obtain⟨e2,h⟩:=aJ h
  have e2:=Nat.eq_of_beq_eq_true e2
  subst e2
  obtain⟨e3,h⟩:=aJ h
  have hlenx:ox+n<=lenx:=Nat.le_of_ble_eq_true e3
  rw[gV]at h
  obtain⟨e4,h⟩:=aJ h
  have hnm:n+m<=5000000:=Nat.le_of_ble_eq_true e4
  rw[hx0]at hvx
  simp only[ag]at hvx
  obtain⟨l,hl,hcapx,ox',hox,hxe⟩:=hvx
  have hlt:=hs.lt hl
  obtain⟨l',hl',hrx⟩:=hs.live rx _ hlt hqx
  rw[hl]at hl'
  cases hl'
  have hro:Nat.blt rx lowN=false:=by
   cases hb:Nat.blt rx lowN with
   |false=>rfl
   |true=>have:=dn hb;omega
  rw[hro]at hrx
  obtain⟨cx,frx,hcx,hfr,hszx,hcapx',hsizex,helx⟩:=hrx
  have hfr:=hfr rfl
  subst hfr
  have helx:ji E szx lenx els cx l.base:=helx
  have hown:=hs.own rx _ l hlt h64 hqx hl
  have hkill:=aB.kill (r:=rx) hs hlt
  rw[Ah]at h hkill
  obtain⟨tr,nn,he,hnn,h⟩:=fP h
  cases he
  have hels':=O6 n ox els (by omega)
  generalize hE:(Bool.rec (motive:=fun _=>Nat->T AV->Nat->T AV) (fun n els o=>eZ n els o .e 0) (fun _ els _=>els) (Nat.beq ox 0) n els ox)=els' at *
  have ha:Nat.add n m=n+m:=rfl
  rw[ha]at h
  rw[hszx]at hox
  by_cases hroom:n+m<=l.cap-ox
  ·have hox:=hox (.inl (by omega))
   subst hox
   have hb1:(ox+(n+m))*szx<=l.cap*szx:=Nat.mul_le_mul_right _ (by omega)
   rw[Nat.add_mul,Nat.add_mul]at hb1
   have hfit:l.base+ox*szx+n*szx+(Builtin.zeroCells v.cells m).toList.length<=cx.size:=by omega
   have hrun:=TD (P:=P) (w:=w) (ty:=o.type) (q':=q') (off:=l.base+ox*szx) (sLen:=n) (sCap:=l.cap-ox) htu htu' hi hv hvsi hm5 hby hcx hone hroom (by rw[hsz];exact hfit)
   rw[hsz]at hrun
   have e5:∀j:Nat,((cx.toList.take (l.base+ox*szx+n*szx)++(Builtin.zeroCells v.cells m).toList++cx.toList.drop (l.base+ox*szx+n*szx+(Builtin.zeroCells v.cells m).toList.length)).toArray)[j]? = if j<l.base+ox*szx+n*szx then cx[j]? else if j<l.base+ox*szx+n*szx+(Builtin.zeroCells v.cells m).toList.length then(Builtin.zeroCells v.cells m).toList[j-(l.base+ox*szx+n*szx)]? else cx[j]?:=fun j=>by
    rw[List.getElem?_toArray,getElem?_mid _ _ _ _ (by have:=@Array.length_toList _ cx;omega),Array.getElem?_toList]
   generalize hC:(cx.toList.take (l.base+ox*szx+n*szx)++(Builtin.zeroCells v.cells m).toList++cx.toList.drop (l.base+ox*szx+n*szx+(Builtin.zeroCells v.cells m).toList.length)).toArray=C at *
   have hCs:C.size=cx.size:=by
    rw[<-hC]
    simp only[List.size_toArray,List.length_append,List.length_take,List.length_drop,Array.length_toList]
    omega
   have hdead:∀s q,s<lim->T.get (az s) (T.set (az rx) none tr0)=some q->s≠rx/\T.get (az s) tr0=some q:=fun s q h1 h2=>by
    rw[fu h1 hlt]at h2
    split at h2
    ·cases h2
    ·exact⟨‹_›,h2⟩
   have hel:ji E szx (n+m) (eZ m (zeros z m) 0 els' n) C (l.base+ox*szx):=wD hnm hels' (fun q hq v' hv'=>by
    obtain⟨lv,g1,g2,g3⟩:=helx (ox+q) (by omega) v' hv'
    refine⟨lv,g1,g2,fun i hi=>?_⟩
    have h3:(q+1)*szx<=n*szx:=Nat.mul_le_mul_right _ hq
    rw[Nat.add_mul,Nat.one_mul]at h3
    have g4:=g3 i hi
    rw[Nat.add_mul,show l.base+(ox*szx+q*szx)+i=l.base+ox*szx+q*szx+i by omega]at g4
    rw[e5,if_pos (by omega)]
    exact g4)
    (hyel (fun j hj=>by
      rw[e5,if_neg (by omega),if_pos (by omega)]
      congr 1;omega))
   have hh:∀s q l',s<lim->T.get (az s) (T.set (az rx) none tr0)=some q->q.dz=false->E s=some l'->l'.blk≠l.blk:=fun s q l' h1 h2 ha3 h3=>by
    obtain⟨h4,h5⟩:=hdead s q h1 h2
    exact hs.apart s rx q _ l' l h1 hlt h4 h5 hqx ha3 rfl h3 hl
   obtain⟨hle,hs'⟩:=aB.new (w':=w.setRow l.blk C) (l:=⟨l.blk,l.base+ox*szx,l.cap-ox,szx⟩) (o:=.v ex szx (n+m) (eZ m (zeros z m) 0 els' n)) hkill hnn hown (by simp) (fun _=>hh)
    (fun s q l' h1 h2 ha3 h3=>setRow_other w l.blk l'.blk C (hh s q l' h1 h2 ha3 h3))
    ⟨C,(0,0),setRow_heap w l.blk cx C ex (0,0) hcx,fun _=>rfl,rfl,⟨hroom,hnm⟩,by
      have:(ox+(l.cap-ox))*szx=l.cap*szx:=by rw[show ox+(l.cap-ox)=l.cap by omega]
      rw[Nat.add_mul]at this
      show l.base+ox*szx+(l.cap-ox)*szx<=C.size
      omega,hel.mono (ax.qo (hkill.fresh n0 (Nat.le_refl _)))⟩
   have hbel:bM B w (w.setRow l.blk C):=⟨rfl,rfl,rfl,by simp,fun j hj=>setRow_other w l.blk j C (fun e=>hown (e▸hj))⟩
   refine⟨_,_,_,_,_,_,.inl (goX (by rw[hxe,hye];exact hrun)),hle,hs',hbel,?_,fun _ h=>h,h⟩
   simp only[ag]
   exact⟨_,ax.jl _ _ _,by simpa using hroom,l.base+ox*szx,fun _=>by simp,by simp⟩
  ·have hlolds:=GD hsizex hcapx
   have hby2:(n+m)*i.bytes<=5000000*16777216:=Nat.mul_le_mul hnm hby
   have holds:∀j u,(cut cx l.base szx ox n)[j]? = some u->w.cell? ((⟨l.blk,ox',none⟩:Addr).add j)=some u:=by
    intro j u hju
    by_cases hn0:n=0
    ·subst hn0
     have h1:=(List.getElem?_eq_some_iff.1 hju).1
     rw[hlolds]at h1
     omega
    ·rw[hox (.inl (by omega))]
     exact GG hcx j u hju
   have hgetolds:∀j,j<n*szx->(cut cx l.base szx ox n)[j]? = cx[l.base+ox*szx+j]?:=fun j hj=>yZ cx hj
   generalize cut cx l.base szx ox n=olds at *
   have hrun:=TE (P:=P) (w:=w) (ty:=o.type) (q':=q') htu htu' hi hv hvsi hm5 hby ⟨l.blk,ox',none⟩ n (l.cap-ox) olds (by rw[hsz];exact hlolds) holds (by omega) hnm
   have hge:=grownCap_ge w (n+m) (l.cap-ox) ex
   generalize grownCap w (n+m) (l.cap-ox) ex=cap at *
   obtain⟨hle,hs'⟩:=aB.vK hkill hB hnn (e:=ex) (sz:=szx) (len:=n+m) (cap:=cap) (els:=eZ m (zeros z m) 0 els' n) (c:=olds.toArray++(Builtin.zeroCells v.cells m).toList.toArray++Builtin.zeroCells v.cells (cap-(n+m))) hge hnm
    (by
      have:(n+m+(cap-(n+m)))*szx=cap*szx:=by rw[show n+m+(cap-(n+m))=cap by omega]
      rw[Nat.add_mul,Nat.add_mul]at this
      simp only[Array.size_append,List.size_toArray,size_zeroCells,hvs,hlnews,hlolds]
      omega)
    (wD hnm hels' (fun q hq v' hv'=>by
      obtain⟨lv,g1,g2,g3⟩:=helx (ox+q) (by omega) v' hv'
      refine⟨lv,g1,g2,fun i hi=>?_⟩
      have h3:(q+1)*szx<=n*szx:=Nat.mul_le_mul_right _ hq
      rw[Nat.add_mul,Nat.one_mul]at h3
      have g4:=g3 i hi
      rw[Nat.add_mul,show l.base+(ox*szx+q*szx)+i=l.base+ox*szx+(q*szx+i) by omega,<-hgetolds _ (by omega)]at g4
      rw[Nat.zero_add,Np (by omega)]
      exact g4)
      (hyel (fun j hj=>by
        rw[Nat.zero_add,<-hlolds,Nn (by omega)]))) (w':=w.drew) rfl
   exact⟨_,_,_,_,_,_,.inl (goX (by rw[hxe,hye];exact hrun)),hle,hs',((bM.refl B w).drew).alloc (hB.mono (Nat.le_refl _)) _,uS hge,fun _ h=>h,h⟩
theorem ZW(hs:aB B E st w)(ht:aU E nt tm a){c:Call}{x:Operand}{e sz:Nat}{z:AV}(ho:o.op = .call c)(hc:c.callee = .builtin .clear)(hx:c.args.toList=[x])(hu:und P c 0=some (.slice e))
 (hz:ku P e=some (sz,z)) (h:Ez e sz z (co x) tm st k=some r):Does P B E w a o k r:=by
 obtain⟨t,ht0,htu⟩:=sI hu
 obtain⟨i,v,hi,hv,hsz,hby,hvl,hc0⟩:=uj hz
 have hvx:=aT hs ht x
 have goX:∀{w':World},(Builtin.clear_ c.argTypes o.type #[a.eval x]).run P w = .ok (.tuple #[]) w'->(execOp a.eval o).run P w = .ok (.value (.tuple #[])) w':=fun {w'} hr=>by
  obtain⟨cs,he⟩:=Gp (a:=a) ho hc
  rw[he,wS hx]
  show(Builtin.clear_ c.argTypes o.type #[a.eval x] >>= fun u=>pure (Next.value u)).run P w=_
  rw[Sem.run_bind,hr]
  rfl
 have nothing:∀b q cap,(a.eval x = .slice b q cap)->(b=none∨q=0)->k (.t .nl) st=some r->Does P B E w a o k r:=fun b q cap he hq hk =>
  Reads.does ⟨.t .nl,.tuple #[],goX (by
   rw[he]
   rcases hq with rfl | rfl
   ·cases q<;>simp[Builtin.clear_,ht0,run_underlying htu]
   ·cases b<;>simp[Builtin.clear_,ht0,run_underlying htu]),Dc E _ rfl,hk⟩ hs
 unfold Ez at h
 rcases lJ h with ⟨hx0,h⟩ | ⟨rx,ox,n,hx0,h⟩
 ·rw[hx0]at hvx
  simp only[ag]at hvx
  exact nothing _ _ _ hvx (.inl rfl) h
 rw[hx0]at hvx
 simp only[ag]at hvx
 obtain⟨l,hl,hcapx,ox',hox,hxe⟩:=hvx
 rcases iB h with ⟨hn0,h⟩ | ⟨hn0,h⟩
 ·exact nothing _ _ _ hxe (.inr (Nat.eq_of_beq_eq_true hn0)) h
 have hn:0<n:=Nat.pos_of_ne_zero (fun e=>by subst e;cases hn0)
 obtain⟨hmz,hA⟩:=aJ h
 clear h
 rw[Bool.and_eq_true]at hmz
 have h64:lowN<=rx:=Nat.le_of_ble_eq_true hmz.1
 obtain⟨ex,szx,lenx,els,hqx,hB⟩:=EM hA
 clear hA
 obtain⟨e1,hC⟩:=aJ hB
 clear hB
 obtain rfl:ex=e:=Nat.eq_of_beq_eq_true e1
 obtain⟨e2,hD⟩:=aJ hC
 clear hC
 obtain rfl:szx=sz:=Nat.eq_of_beq_eq_true e2
 obtain⟨e3,h⟩:=aJ hD
 clear hD
 have hlenx:ox+n<=lenx:=Nat.le_of_ble_eq_true e3
 have hlt:=hs.lt hl
 obtain⟨l',hl',hrx⟩:=hs.live rx _ hlt hqx
 rw[hl]at hl'
 cases hl'
 have hro:Nat.blt rx lowN=false:=by
  cases hb:Nat.blt rx lowN with
  |false=>rfl
  |true=>have:=dn hb;omega
 rw[hro]at hrx
 obtain⟨cx,frx,hcx,hfr,hszx,hcapx',hsizex,helx⟩:=hrx
 have hfr:=hfr rfl
 subst hfr
 have helx:ji E szx lenx els cx l.base:=helx
 have hown:=hs.own rx _ l hlt h64 hqx hl
 rw[hszx]at hox
 have hox:=hox (.inl (by omega))
 subst hox
 have hvs:v.cells.size=szx:=by rw[<-hvl];simp
 have hzl:(Builtin.zeroCells v.cells n).toList.length=n*szx:=by
  rw[Array.length_toList,size_zeroCells,hvs]
 have hzl2:(Builtin.zeroCells v.cells n).size=n*szx:=by
  rw[size_zeroCells,hvs]
 have hone:∀u∈(Builtin.zeroCells v.cells n).toList,u.oneCell' = true:=IA (Gy hmz.2 (hc0 E))
 have hb1:(ox+n)*szx<=l.cap*szx:=Nat.mul_le_mul_right _ (by omega)
 rw[Nat.add_mul]at hb1
 have hst:=run_storeCells_at P l.blk (l.base+ox*szx) ex (Builtin.zeroCells v.cells n).toList 0 cx w hcx (by omega) hone
 simp only[Nat.add_zero]at hst
 have e5:∀j:Nat,((cx.toList.take (l.base+ox*szx)++(Builtin.zeroCells v.cells n).toList++cx.toList.drop (l.base+ox*szx+(Builtin.zeroCells v.cells n).toList.length)).toArray)[j]? = if j<l.base+ox*szx then cx[j]? else if j<l.base+ox*szx+(Builtin.zeroCells v.cells n).toList.length then(Builtin.zeroCells v.cells n).toList[j-(l.base+ox*szx)]? else cx[j]?:=fun j=>by
  rw[List.getElem?_toArray,getElem?_mid _ _ _ _ (by have:=@Array.length_toList _ cx;omega),Array.getElem?_toList]
 have hCs0:((cx.toList.take (l.base+ox*szx)++(Builtin.zeroCells v.cells n).toList++cx.toList.drop (l.base+ox*szx+(Builtin.zeroCells v.cells n).toList.length)).toArray).size=cx.size:=by
  simp only[List.size_toArray,List.length_append,List.length_take,List.length_drop,Array.length_toList]
  omega
 generalize (cx.toList.take (l.base+ox*szx)++(Builtin.zeroCells v.cells n).toList++cx.toList.drop (l.base+ox*szx+(Builtin.zeroCells v.cells n).toList.length)).toArray=C at *
 rw[hzl]at e5
 have hel:ji E szx lenx (eZ n (zeros z n) 0 els ox) C l.base:=by
  intro q hq v' hv'
  have hq3:(q+1)*szx<=lenx*szx:=Nat.mul_le_mul_right _ hq
  rw[Nat.add_mul,Nat.one_mul]at hq3
  have hlen5:lenx<=5000000:=hcapx'.2
  rw[Bd n (by omega) q (by omega)]at hv'
  split at hv'
  ·rename_i h2
   rw[Nat.zero_add,Bc z n (by omega) (q-ox) (by omega)]at hv'
   cases hv'
   refine⟨v.cells.toList,hvl,hc0 E,fun i hi=>?_⟩
   have h4:(q-ox+1)*szx<=n*szx:=Nat.mul_le_mul_right _ (by omega)
   rw[Nat.add_mul,Nat.one_mul]at h4
   have h6:q*szx=ox*szx+(q-ox)*szx:=by rw[<-Nat.add_mul];congr 1;omega
   rw[e5,if_neg (by omega),if_pos (by omega),show l.base+q*szx+i-(l.base+ox*szx)=(q-ox)*szx+i by omega,Array.getElem?_toList,CY _ _ (by rw[hvs];omega),hvs,
    show((q-ox)*szx+i) % szx=i by rw[Nat.mul_comm,Nat.mul_add_mod,Nat.mod_eq_of_lt hi]]
   simp
  ·rename_i h2
   obtain⟨lv,g1,g2,g3⟩:=helx q hq v' hv'
   refine⟨lv,g1,g2,fun i hi=>?_⟩
   rw[e5]
   by_cases h7:q<ox
   ·have h8:(q+1)*szx<=ox*szx:=Nat.mul_le_mul_right _ h7
    rw[Nat.add_mul,Nat.one_mul]at h8
    rw[if_pos (by omega)]
    exact g3 i hi
   ·have h8:(ox+n)*szx<=q*szx:=Nat.mul_le_mul_right _ (by omega)
    rw[Nat.add_mul]at h8
    rw[if_neg (by omega),if_neg (by omega)]
    exact g3 i hi
 have hbel:bM B w (w.setRow l.blk C):=⟨rfl,rfl,rfl,by simp,fun j hj=>setRow_other w l.blk j C (fun e=>hown (e▸hj))⟩
 refine⟨.t .nl,.tuple #[],w.setRow l.blk C,E,_,r,.inl (goX ?_),ax.le_refl E,aB.put' (q':=.v ex szx lenx (eZ n (zeros z n) 0 els ox)) hs hlt h64 hl hqx rfl (fun j hj=>setRow_other w l.blk j C hj) ⟨C,(0,0),setRow_heap w l.blk cx C ex (0,0) hcx,fun _=>rfl,hszx,hcapx',by omega,hel⟩,hbel,Dc E _ rfl,fun _ h=>h,h⟩
 rw[hxe]
 cases n with
 |zero=>omega
 |succ n=>simp[Builtin.clear_,ht0,run_underlying htu,zeroValue,typeInfo,hi,hv,hst]
end
end Go.AM
