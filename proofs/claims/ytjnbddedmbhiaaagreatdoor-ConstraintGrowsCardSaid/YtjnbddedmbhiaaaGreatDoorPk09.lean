/-
  Structs and slices built; slices and maps made.
-/
import Derived.Test.YtjnbddedmbhiaaaGreatDoorPk08
import Derived.Laws.Tables
import Derived.Laws.MakeOwn
namespace Go.AM
open Go.RowKit
theorem foldl_set(vs:List Value):∀(j off:Nat) (cs:Array Value),off+j+vs.length<=cs.size ->
 (vs.zipIdx j).foldl (fun cs (c,i)=>cs.setIfInBounds (off+i) c) cs=(cs.toList.take (off+j)++vs++cs.toList.drop (off+j+vs.length)).toArray:=by
 induction vs with
 |nil=>intro j off cs h;simp
 |cons v vs ih =>
  intro j off cs h
  simp only[List.length_cons]at h
  rw[List.zipIdx_cons,List.foldl_cons,ih (j+1) off _ (by simp;omega)]
  apply congrArg List.toArray
  apply List.ext_getElem?
  intro i
  rw[show off+(j+1)=off+j+1 by omega]
  have hl:(cs.setIfInBounds (off+j) v).toList=cs.toList.set (off+j) v:=by simp
  rw[hl,getElem?_mid _ _ _ _ (by simp;omega),getElem?_mid _ (v::vs) _ _ (by simp;omega)]
  simp only[List.length_cons,List.getElem?_set]
  by_cases h1:i<off+j
  ·rw[if_pos (by omega),if_pos h1,if_neg (by omega)]
  ·rw[if_neg h1]
   by_cases h2:i=off+j
   ·subst h2
    rw[if_pos (by omega),if_pos rfl,if_pos (by simp;omega),if_pos (by omega)]
    simp
   ·by_cases h3:i<off+j+(vs.length+1)
    ·rw[if_neg (by omega),if_pos (by omega),if_pos h3]
     rw[show i-(off+j)=(i-(off+j+1))+1 by omega,List.getElem?_cons_succ]
    ·rw[if_neg (by omega),if_neg (by omega),if_neg h3,if_neg (by omega)]
theorem OI{place:Nat->Option (Nat × Nat)}{zs:List Value}{i off n:Nat}{v:Value}{rest:List (Nat × Value)}(hp:place i=some (off,n))(hn:v.cells.toList.length=n)(hfit:off+n<=zs.length) :
 Instr.fill place zs.toArray ((i,v)::rest)=Instr.fill place (zs.take off++(v.cells.toList++zs.drop (off+v.cells.toList.length))).toArray rest:=by
 have hs:v.cells.size=n:=by rw[<-hn];simp
 have:=foldl_set v.cells.toList 0 off zs.toArray (by simp only[List.size_toArray];omega)
 simp only[Nat.add_zero,List.append_assoc]at this
 simp only[Instr.fill,hp,hs]
 rw[if_neg (by simp;omega),<-this]
 congr 1
 rw[<-Array.foldl_toList]
 congr 1
 simp
section
variable {P:Program}{B:bB}{E:ax}{st:St}{w:World}{nt:Nat}{tm:Tm}{a:Act}{k:K}{r:List (AV × St)}{o:Oper}
theorem OJ(hs:aB B E st w)(ht:aU E nt tm a){place:Nat->Option (Nat × Nat)}{len:Nat}{f:AV->Out}:∀(ps:List (Nat × Operand)) (l:List (Nat × Nat × CO)),vo place len ps=some l->∀{z:AV} {zs:List Value},au E z zs->zs.length=len ->
 Gm l z tm f=some r->∃c cs,f c=some r/\Instr.fill place zs.toArray (ps.map fun p=>(p.1,a.eval p.2))=some cs/\au E c cs.toList
 |[],l,hl,z,zs,hz,hlen,h=>by
  cases hl
  exact⟨z,zs.toArray,h,rfl,hz⟩
 |(j,x)::ps,l,hl,z,zs,hz,hlen,h=>by
  simp only[vo]at hl
  split at hl
  ·rename_i off n l' hp hps
   split at hl
   ·rename_i hb
    cases hl
    have hb:off+n<=len:=Nat.le_of_ble_eq_true hb
    have h:cellsOf (aN (co x) tm) (fun m xs=>must (Nat.beq m n) (Gm l' (qR off xs z) tm f))=some r:=h
    obtain⟨m,xs,h,hu,_,hrow⟩:=GY h
    obtain⟨hm,h⟩:=aJ h
    have hm:=Nat.eq_of_beq_eq_true hm
    obtain⟨hxs,hlx⟩:=hrow E _ ((aT hs ht x).cells hu)
    have hlx:(a.eval x).cells.toList.length=n:=hlx.symm.trans hm
    have hset:=au.set hxs off hz (by omega)
    obtain⟨c,cs,h1,h2,h3⟩:=OJ hs ht ps l' hps hset (by simp only[List.length_append,List.length_take,List.length_drop];omega) h
    refine⟨c,cs,h1,?_,h3⟩
    rw[List.map_cons,OI hp hlx (by omega)]
    exact h2
   ·cases hl
  ·cases hl
theorem IB{t:TypeId}{z:AV}(h:oJ P t=some z):∃i v,P.info? t=some i/\i.zero=some v/\z=sZ v:=by
 unfold oJ at h
 split at h
 ·rename_i i hi
  split at h
  ·rename_i v hv
   cases h
   exact⟨i,v,hi,hv,rfl⟩
  ·cases h
 ·cases h
theorem EJ(E:ax)(v:Value):ag E (sZ v) v:=Aq E 6 v
theorem Qm(hs:aB B E st w)(ht:aU E nt tm a){t:TypeId}{ps:Array (Nat × Operand)}{z:AV}{l:List (Nat × Nat × CO)}{place:Nat->Option (Nat × Nat)}(ho:o.op = .build t ps)(hz:oJ P t=some (.a z))
 (hb:∀i v,P.info? t=some i->i.zero=some v->∀q,P.built t q=Instr.fill place v.cells q) (hps:vo place (eu z) ps.toList=some l) (h:ED z l tm st k=some r):Reads P E st w a o k r:=by
 unfold ED at h
 obtain⟨i,v,hi,hv,hzv⟩:=IB hz
 have hr:=EJ E v
 rw[<-hzv]at hr
 simp only[ag]at hr
 obtain⟨zs,rfl,hzs⟩:=hr
 obtain⟨c,cs,h1,h2,h3⟩:=OJ hs ht ps.toList l hps hzs hzs.len.symm h
 refine dW (s:=Instr.build t (ps.map fun(i,x)=>(i,a.eval x))) (u:=.agg cs) (by unfold execOp;rw[ho]) ?_ ?_ h1
 ·refine run_build w t _ cs ?_
  rw[hb i _ hi hv]
  simpa[Value.cells]using h2
 ·simp only[ag]
  exact⟨cs.toList,by simp,h3⟩
theorem uj{e sz:Nat}{z:AV}(h:ku P e=some (sz,z)):∃i v,P.info? e=some i/\i.zero=some v/\i.size=sz/\i.bytes<=16777216/\v.cells.toList.length=sz/\∀E,fo E z v.cells.toList:=by
 unfold ku at h
 split at h
 ·rename_i i hi
  split at h
  ·rename_i v hv hb
   have hb:i.bytes<=16777216:=Nat.le_of_ble_eq_true hb
   have key:∀E,sZ v ≠ .u->fo E (sZ v) v.cells.toList:=fun E hu=>(EJ E v).cells hu
   split at h
   ·cases h
   ·rename_i c hc
    split at h
    ·rename_i hn
     cases h
     have hn:=Nat.eq_of_beq_eq_true hn
     rw[hc]at key
     refine⟨i,v,hi,hv,rfl,hb,?_,fun E=>key E (by simp)⟩
     rcases key (fun _=>none) (by simp)with ⟨c',hc',hl⟩ | ⟨hc',_⟩
     ·cases hc';rw[<-hl.len,hn]
     ·cases hc'
    ·cases h
   ·rename_i hu ha
    split at h
    ·rename_i hn
     cases h
     have hn:=Nat.eq_of_beq_eq_true hn
     refine⟨i,v,hi,hv,hn,hb,?_,fun E=>key E (fun e=>hu e)⟩
     rcases key (fun _=>none) (fun e=>hu e)with ⟨c',hc',hl⟩ | ⟨_,y,hy,_⟩
     ·exact absurd hc' (ha c')
     ·rw[hy];rfl
    ·cases h
  ·cases h
 ·cases h
theorem Bc(z:AV):∀(n:Nat),n<=5000000->∀q,q<n->T.get (az q) (zeros z n)=some z
 |0,_,q,hq=>absurd hq (by omega)
 |n+1,hn,q,hq=>by
  have e:zeros z (n+1)=T.set (az n) (some z) (zeros z n):=rfl
  rw[e,fu (by omega) (by omega)]
  split
  ·rfl
  ·exact Bc z n (by omega) q (by omega)
theorem Wx{zs:Array Value}{sz m:Nat}(hz:zs.size=sz){q i:Nat}(hq:q<m)(hi:i<sz):(madeCells zs (m*sz))[q*sz+i]? = zs[i]?:=by
 have h1:(q+1)*sz<=m*sz:=Nat.mul_le_mul_right _ hq
 rw[Nat.add_mul,Nat.one_mul]at h1
 have h2:(q*sz+i) % sz=i:=by rw[Nat.mul_comm,Nat.mul_add_mod,Nat.mod_eq_of_lt hi]
 unfold madeCells
 rw[Array.getElem?_map,Array.getElem?_range,if_pos (by omega)]
 simp only[Option.map_some,hz,h2]
 rw[Array.getElem?_eq_getElem (by omega),getElem!_pos zs i (by omega)]
def ji(E:ax)(sz n:Nat)(els:T AV)(c:Array Value)(base:Nat):Prop :=
 ∀q,q<n->∀v,T.get (az q) els=some v->∃lv:List Value,lv.length=sz/\fo E v lv/\∀i,i<sz->c[base+q*sz+i]? = lv[i]?
theorem ji.mono{E E':ax}{sz n:Nat}{els:T AV}{c:Array Value}{base:Nat}(h:ji E sz n els c base)(he:E.le E'):ji E' sz n els c base:=fun q hq v hv=>by
 obtain⟨lv,h1,h2,h3⟩:=h q hq v hv
 exact⟨lv,h1,h2.mono he,h3⟩
theorem zH{E:ax}{z:AV}{zs:Array Value}{sz n m:Nat}(hz:fo E z zs.toList)(hl:zs.toList.length=sz)(hn:n<=5000000)(hm:n<=m):ji E sz n (zeros z n) (madeCells zs (m*sz)) 0:=fun q hq v hv=>by
 rw[Bc z n hn q hq]at hv
 cases hv
 have hs:zs.size=sz:=by rw[<-hl];simp
 refine⟨zs.toList,hl,hz,fun i hi=>?_⟩
 rw[Nat.zero_add,Wx hs (by omega) hi]
 simp
theorem aB.vK{t:T Ob}{n:Nat}(hs:aB B E (.mk t n) w)(hB:dJ B w)(hn:n<5000000){e sz len cap:Nat}{els:T AV}{c:Array Value}(hc:len<=cap)(hlen:len<=5000000)(hsz:cap*sz<=c.size)(hel:ji E sz len els c 0)
 {w':World} (hh:w'.heap=w.heap) :
 E.le (E.with n ⟨w.heap.size,0,cap,sz⟩)/\aB B (E.with n ⟨w.heap.size,0,cap,sz⟩) (.mk (T.set (az n) (some (.v e sz len els)) t) (Nat.succ n)) (w'.alloc (.cells c e)):=by
 have hlt:∀s q l',s<lim->T.get (az s) t=some q->E s=some l'->l'.blk<w.heap.size:=fun s q l' h1 h2 h3=>by
  obtain⟨l2,hl2,ho⟩:=hs.live s q h1 h2
  rw[h3]at hl2
  cases hl2
  exact ho.there
 refine aB.new hs hn hB.out ?_ (fun _ s q l' h1 h2 _ h3=>?_) (fun s q l' h1 h2 _ h3=>?_) ?_
 ·show w.heap.size<=(w'.heap.push _).size;rw[hh];simp
 ·have:=hlt s q l' h1 h2 h3
  show l'.blk≠w.heap.size
  omega
 ·rw[Below.heap_alloc _ _ _ (by rw[hh];exact hlt s q l' h1 h2 h3),hh]
 ·refine⟨c,(0,0),?_,fun _=>rfl,rfl,⟨hc,hlen⟩,by simpa using hsz,hel.mono (ax.qo (hs.fresh n (Nat.le_refl n)))⟩
  show(w'.heap.push _)[w.heap.size]? = _
  rw[hh]
  simp
theorem uS{E:ax}{n h cap sz len:Nat}(hc:len<=cap):ag (E.with n ⟨h,0,cap,sz⟩) (.l n 0 len) (.slice (some ⟨h,0,none⟩) len cap):=by
 simp only[ag]
 exact⟨_,ax.jl _ _ _,by simpa using hc,0,fun _=>by simp,by simp⟩
theorem Wl(hs:aB B E st w)(hB:dJ B w)(ht:aU E nt tm a){t e sz:Nat}{z:AV}{x y:Operand}(ho:o.op = .makeSlice t x y)(hu:P.underlying t=some (.slice e))(hz:ku P e=some (sz,z))
 (h:xX e sz z (co x) (co y) tm st k=some r):Does P B E w a o k r:=by
 unfold xX at h
 obtain⟨kn,n,hn,h⟩:=iG h
 obtain⟨km,m,hm,h⟩:=iG h
 obtain⟨h1,h⟩:=aJ h
 obtain⟨h2,h⟩:=aJ h
 have h1:n<=m:=Nat.le_of_ble_eq_true h1
 have h2:m<=100000:=Nat.le_of_ble_eq_true h2
 obtain⟨tr,nn,rfl,hnn,h⟩:=fP h
 have hx:=aT hs ht x
 have hy:=aT hs ht y
 rw[hn]at hx
 rw[hm]at hy
 simp only[ag]at hx hy
 obtain⟨i,v,hi,hv,hsz,hby,hlen,hc⟩:=uj hz
 have hrun:=run_make (P:=P) w t e i v hu hi hv kn km n m (by omega) (by omega) (by
  have:(i.bytes:Int)*(m:Int)<=16777216*100000:=Int.mul_le_mul (by omega) (by omega) (by omega) (by omega)
  omega) (by omega)
 simp only[Int.toNat_natCast]at hrun
 obtain⟨hle,hs'⟩:=aB.vK hs hB hnn (e:=e) (sz:=sz) (len:=n) (cap:=m) (els:=zeros z n) (c:=madeCells v.cells (m*i.size)) h1 (by omega) (by rw[size_madeCells,hsz];omega) (by rw[hsz];exact zH (hc E) hlen (by omega) h1) (w':=w) rfl
 refine⟨_,_,_,_,_,_,.inl ?_,hle,hs',(bM.refl B w).alloc hB _,uS h1,fun _ h=>h,h⟩
 unfold execOp
 rw[ho,Sem.run_bind,hx,hy,hrun]
 rfl
theorem Gl(hs:aB B E st w)(ht:aU E nt tm a){n sz:Nat}(hn:n<=5000000){f:T AV->Out}:∀(ps:List (Nat × Operand)) (l:List (Nat × CO)),vk n ps=some l->∀{z:T AV} {cs:List Value},cs.length=n*sz->ji E sz n z cs.toArray 0 ->
 wy l sz z tm f=some r->∃z' cs',f z' = some r/\Instr.fill (fun i=>some (i*sz,sz)) cs.toArray (ps.map fun p=>(p.1,a.eval p.2))=some cs'/\cs'.size=n*sz/\ji E sz n z' cs' 0
 |[],l,hl,z,cs,hlen,hz,h=>by
  cases hl
  exact⟨z,cs.toArray,h,rfl,by simpa using hlen,hz⟩
 |(j,x)::ps,l,hl,z,cs,hlen,hz,h=>by
  simp only[vk]at hl
  split at hl
  ·rename_i l' hj hps
   cases hl
   have hj:=dn hj
   have h:cellsOf (aN (co x) tm) (fun m _=>must (Nat.beq m sz) (wy l' sz (T.set (az j) (some (aN (co x) tm)) z) tm f))=some r:=h
   obtain⟨m,xs,h,hu,_,hrow⟩:=GY h
   obtain⟨hm,h⟩:=aJ h
   have hm:=Nat.eq_of_beq_eq_true hm
   have hcr:=(aT hs ht x).cells hu
   obtain⟨hxs,hlx⟩:=hrow E _ hcr
   have hlx:(a.eval x).cells.toList.length=sz:=hlx.symm.trans hm
   generalize hL:(a.eval x).cells.toList=L at *
   have h1:(j+1)*sz<=n*sz:=Nat.mul_le_mul_right _ hj
   rw[Nat.add_mul,Nat.one_mul]at h1
   have hel:ji E sz n (T.set (az j) (some (aN (co x) tm)) z) (cs.take (j*sz)++(L++cs.drop (j*sz+L.length))).toArray 0:=fun q hq v hv=>by
    have e5:∀p:Nat,((cs.take (j*sz)++(L++cs.drop (j*sz+L.length))).toArray)[p]? = if p<j*sz then cs[p]? else if p<j*sz+L.length then L[p-j*sz]? else cs[p]?:=fun p=>by
     rw[List.getElem?_toArray,<-List.append_assoc,getElem?_mid _ _ _ _ (by omega)]
    rw[fu (by omega) (by omega)]at hv
    split at hv
    ·rename_i eq
     subst eq
     cases hv
     refine⟨L,hlx,hcr,fun i hi=>?_⟩
     rw[e5,Nat.zero_add,if_neg (by omega),if_pos (by omega)]
     congr 1;omega
    ·rename_i hne
     obtain⟨lv,g1,g2,g3⟩:=hz q hq v hv
     refine⟨lv,g1,g2,fun i hi=>?_⟩
     have g3:=g3 i hi
     rw[List.getElem?_toArray]at g3
     rw[e5,<-g3,Nat.zero_add]
     rcases Nat.lt_or_gt_of_ne hne with h3 | h3
     ·have:(q+1)*sz<=j*sz:=Nat.mul_le_mul_right _ h3
      rw[Nat.add_mul,Nat.one_mul]at this
      rw[if_pos (by omega)]
     ·have:(j+1)*sz<=q*sz:=Nat.mul_le_mul_right _ h3
      rw[Nat.add_mul,Nat.one_mul]at this
      rw[if_neg (by omega),if_neg (by omega)]
   obtain⟨z',cs',k1,k2,k3,k4⟩:=Gl hs ht hn ps l' hps (by simp only[List.length_append,List.length_take,List.length_drop];omega) hel h
   refine⟨z',cs',k1,?_,k3,k4⟩
   rw[List.map_cons,OI (off:=j*sz) (n:=sz) rfl (by rw[hL];exact hlx) (by omega),hL]
   exact k2
  ·cases hl
theorem y1r(hs:aB B E st w)(hB:dJ B w)(ht:aU E nt tm a){t e sz n:Nat}{z:AV}{ps:Array (Nat × Operand)}{l:List (Nat × CO)}(ho:o.op = .buildSlice t n ps)(hu:P.underlying t=some (.slice e))(hz:ku P e=some (sz,z))
 (hps:vk n ps.toList=some l) (hn:n<=100000) (hnz:n*sz<=16777216) (h:yh e sz n (zeros z n) l tm st k=some r):Does P B E w a o k r:=by
 unfold yh at h
 obtain⟨i,v,hi,hv,hsz,hby,hlen,hc⟩:=uj hz
 have hvs:v.cells.size=sz:=by rw[<-hlen];simp
 obtain⟨els,cs,h,hfill,hsize,hel⟩:=Gl hs ht (sz:=sz) (by omega) ps.toList l hps (cs:=(madeCells v.cells (n*sz)).toList) (by simp[size_madeCells]) (by simpa using zH (m:=n) (hc E) hlen (by omega) (Nat.le_refl n)) h
 obtain⟨tr,nn,rfl,hnn,h⟩:=fP h
 obtain⟨hle,hs'⟩:=aB.vK hs hB hnn (e:=e) (sz:=sz) (len:=n) (cap:=n) (els:=els) (c:=cs) (Nat.le_refl n) (by omega) (by omega) hel (w':=w) rfl
 refine⟨_,_,_,_,_,_,.inl ?_,hle,hs',(bM.refl B w).alloc hB _,uS (Nat.le_refl n),fun _ h=>h,h⟩
 have hfill':Instr.fill (fun i=>some (i*sz,sz)) (madeCells v.cells (n*sz)) (ps.map fun(i,x)=>(i,a.eval x)).toList=some cs:=by
  simpa using hfill
 have hrun:(Instr.buildSlice t n (ps.map fun(i,x)=>(i,a.eval x))).run P w = .ok (.slice (some ⟨w.heap.size,0,none⟩) n n) (w.alloc (.cells cs e)):=by
  have hm0:∀z:Array Value,madeCells z 0=#[]:=fun z=>by simp[madeCells]
  by_cases h0:n*sz=0
  ·rw[h0,hm0]at hfill'
   simp only[Array.toList_map]at hfill'
   have e0:Array.map (fun _:Nat=>(default:Value)) (Array.range 0)=#[]:=Array.eq_empty_of_size_eq_zero (by simp)
   simp[Instr.buildSlice,run_underlying hu,sizeOf,typeInfo,hi,hsz,h0,newRow,e0,hfill']
  ·have hle:¬ 16777216<n*sz:=by omega
   unfold madeCells at hfill'
   simp only[Array.toList_map]at hfill'
   simp[Instr.buildSlice,run_underlying hu,sizeOf,typeInfo,hi,hsz,h0,hle,newRow,zeroValue,hv,hfill']
 unfold execOp
 rw[ho,Sem.run_bind,hrun]
 rfl
theorem Ms(hs:aB B E st w)(hB:dJ B w){t:TypeId}{hint:Option Operand}(ho:o.op = .makeMap t hint)(hh:hint=none∨∃x q n,hint=some x/\a.eval x = .int q n/\∃k e,P.underlying t=some (.map k e))
 (h:xY tm st k=some r):Does P B E w a o k r:=by
 unfold xY at h
 obtain⟨tr,nn,rfl,hnn,h⟩:=fP h
 have hlt:∀s q l',s<lim->T.get (az s) tr=some q->E s=some l'->l'.blk<w.heap.size:=fun s q l' h1 h2 h3=>by
  obtain⟨l2,hl2,ho⟩:=hs.live s q h1 h2
  rw[h3]at hl2
  cases hl2
  exact ho.there
 obtain⟨hle,hs'⟩:=aB.new (w':=w.alloc (.map #[] 0)) (l:=⟨w.heap.size,0,0,0⟩) (o:=.mp .nil 0) hs hnn hB.out (by show w.heap.size<=(w.heap.push _).size;simp) (fun _ s q l' h1 h2 _ h3=>by have:=hlt s q l' h1 h2 h3;show l'.blk≠w.heap.size;omega)
  (fun s q l' h1 h2 _ h3=>Below.heap_alloc _ _ _ (hlt s q l' h1 h2 h3)) ⟨#[],by show(w.heap.push _)[w.heap.size]? = _;simp,by simp only[dI]⟩
 refine⟨_,.map (some w.heap.size),_,_,_,_,.inl ?_,hle,hs',(bM.refl B w).alloc hB _,?_,fun _ h=>h,h⟩
 ·unfold execOp
  rw[ho]
  rcases hh with rfl | ⟨x,q,n,rfl,hx,kt,e,hu⟩
  ·simp[Instr.makeMap,newObj,Sem.run]
  ·simp[Instr.makeMap,newObj,Sem.run,hx,asInt,asIntOf,run_underlying hu]
 ·simp only[ag]
  exact⟨_,ax.jl _ _ _,rfl⟩
end
end Go.AM
