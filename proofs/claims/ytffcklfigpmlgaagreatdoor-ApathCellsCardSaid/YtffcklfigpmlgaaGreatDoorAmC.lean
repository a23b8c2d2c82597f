/-
  Append.
  Maps: looked into, written; iterators over strings and maps.
  Iterators: steps over strings and maps, entries.
  Append of zeros; the elements of a slice made zeros.
  The operations, all of them but calls and what is deferred.
  Operations that make a block and look at no other: they may be taken up later than they were done.
  A region that draws its order, walked in one order of one's own choice, with promises: an operation that only reads may be taken at once, if it yields the same after each of the operations that come up before it is asked for.
  Regions in their order or in one of their orders; codes; calls.
-/
import Derived.Test.YtffcklfigpmlgaaGreatDoorAmB
import Derived.Laws.AppendOwn
import Derived.Laws.RangeString
import Derived.Laws.StructEq
import Derived.IntWalk
import Derived.Orders
namespace Go.AM
open Go.RowKit
theorem get_copyT {src dst:T AV} {q z:Nat}:∀ (m:Nat),z + m≤5000000→∀ j,j < 5000000→T.get (pth j) (copyT m src q dst z)=if z≤j∧j < z + m then T.get (pth (q + (j - z))) src else T.get (pth j) dst
 | 0,_,j,_=>by
   rw [if_neg (by omega)]
   rfl
 | m + 1,hm,j,hj=>by
   have e:copyT (m + 1) src q dst z=T.set (pth (z + m)) (T.get (pth (q + m)) src) (copyT m src q dst z):=rfl
   rw [e,get_set_pth (by omega) (by omega)]
   by_cases h:j=z + m
   ·rw [if_pos h,if_pos (by omega)]
    have:j - z=m:=by omega
    rw [this]
   ·rw [if_neg h,get_copyT m (by omega) j hj]
    by_cases h2:z≤j∧j < z + m
    ·rw [if_pos h2,if_pos (by omega)]
    ·rw [if_neg h2,if_neg (by omega)]
theorem elOk_one {E:Env'} {x:AV} {l:List Value} (hc:elOk x=true) (h:CRel E x l):∀ v ∈ l,v.oneCell' = true:=by
 rcases h with ⟨c,rfl,hl⟩ | ⟨hag,y,rfl,hy⟩
 ·exact rowOk_one (show rowOk c=true from hc) hl
 ·intro v hv
  rw [List.mem_singleton] at hv
  subst hv
  refine isCell_one ?_ hy
  cases x <;> first | rfl | exact absurd (show false=true from hc) (by decide) | exact absurd (show true=false from hag) (by decide)
theorem okN_inv {els:T AV} {q:Nat}:∀ (m:Nat),okN m els q=true→∀ j,j < m→∃ v,T.get (pth (q + j)) els=some v∧elOk v=true
 | 0,_,j,hj=>absurd hj (by omega)
 | m + 1,h,j,hj=>by
   have h:(elOkO (T.get (pth (q + m)) els) && okN m els q)=true:=h
   rw [Bool.and_eq_true] at h
   by_cases e:j=m
   ·subst e
    cases hv:T.get (pth (q + j)) els with
    | none=>rw [hv] at h;exact absurd (show false=true from h.1) (by decide)
    | some v=>rw [hv] at h;exact ⟨v,rfl,h.1⟩
   ·exact okN_inv m h.2 j (by omega)
def cut (c:Array Value) (base sz q m:Nat):List Value:=(c.toList.drop (base + q * sz)).take (m * sz)
theorem cut_get (c:Array Value) {base sz q m j:Nat} (hj:j < m * sz):(cut c base sz q m)[j]? = c[base + q * sz + j]?:=by
 unfold cut
 rw [List.getElem?_take_of_lt hj,List.getElem?_drop,Array.getElem?_toList]
theorem cut_len {c:Array Value} {base sz q m cap:Nat} (hs:base + cap * sz≤c.size) (hq:q + m≤cap):(cut c base sz q m).length=m * sz:=by
 have h1:(q + m) * sz≤cap * sz:=Nat.mul_le_mul_right _ hq
 rw [Nat.add_mul] at h1
 unfold cut
 simp only [List.length_take,List.length_drop,Array.length_toList]
 omega
theorem cut_cell {w:World} {b:Nat} {c:Array Value} {e:TypeId} {fr:Nat × Nat} (hb:w.heap[b]? = some (.cells c e fr)) {base sz q m:Nat}:∀ j v,(cut c base sz q m)[j]? = some v→w.cell? ((⟨b,base + q * sz,none⟩:Addr).add j)=some v:=by
 intro j v hv
 have hj:j < m * sz:=by
  have h1:=(List.getElem?_eq_some_iff.1 hv).1
  unfold cut at h1
  rw [List.length_take] at h1
  omega
 rw [cut_get c hj] at hv
 rw [Addr.add_mid]
 exact cell_of hb hv
theorem cut_one {E:Env'} {c:Array Value} {base sz q m n:Nat} {els:T AV} (hel:Elems E sz n els c base) (hq:q + m≤n) (hok:okN m els q=true):∀ v ∈ cut c base sz q m,v.oneCell' = true:=by
 intro v hv
 obtain ⟨j,hj,hv⟩:=List.mem_iff_getElem.1 hv
 have hj':j < m * sz:=by
  unfold cut at hj
  rw [List.length_take] at hj
  omega
 have hsz:0 < sz:=Nat.pos_of_ne_zero (fun e=>by subst e;omega)
 have hd:j / sz < m:=(Nat.div_lt_iff_lt_mul hsz).2 hj'
 have hm:j % sz < sz:=Nat.mod_lt _ hsz
 have ej:j / sz * sz + j % sz=j:=by rw [Nat.mul_comm];exact Nat.div_add_mod j sz
 obtain ⟨x,hx,hxo⟩:=okN_inv m hok _ hd
 obtain ⟨lv,h1,h2,h3⟩:=hel (q + j / sz) (by omega) x hx
 have h4:=h3 _ hm
 rw [Nat.add_mul,show base + (q * sz + j / sz * sz) + j % sz=base + q * sz + j by omega] at h4
 have h5:=cut_get c (base:=base) (q:=q) hj'
 rw [List.getElem?_eq_getElem hj,hv,h4,List.getElem?_eq_getElem (by omega)] at h5
 have h6:v=lv[j % sz]:=by simpa using h5
 rw [h6]
 exact elOk_one hxo h2 _ (List.getElem_mem _)
theorem join_one {l:List Value} {Z:Array Value} {j:Nat} (h:j < l.length):(l.toArray ++ Z)[j]? = l[j]?:=by
 rw [Array.getElem?_append_left (by simpa using h),List.getElem?_toArray]
theorem join_left {l m:List Value} {Z:Array Value} {j:Nat} (h:j < l.length):(l.toArray ++ m.toArray ++ Z)[j]? = l[j]?:=by
 rw [Array.getElem?_append_left (by rw [Array.size_append,List.size_toArray];omega),join_one h]
theorem join_right {l m:List Value} {Z:Array Value} {j:Nat} (h:j < m.length):(l.toArray ++ m.toArray ++ Z)[l.length + j]? = m[j]?:=by
 rw [Array.getElem?_append_left (by rw [Array.size_append,List.size_toArray,List.size_toArray];omega),Array.getElem?_append_right (by rw [List.size_toArray];omega),List.getElem?_toArray,List.size_toArray]
 congr 1;omega
theorem elems_join {E:Env'} {sz n m o oy b:Nat} {els els' elsy:T AV} {N:Array Value} (hn:n + m≤5000000) (he:∀ j,j < n→T.get (pth j) els' = T.get (pth (o + j)) els)
 (hx:∀ q,q < n→∀ v,T.get (pth (o + q)) els=some v→∃ lv:List Value,lv.length=sz∧CRel E v lv∧∀ i,i < sz→N[b + q * sz + i]? = lv[i]?)
 (hy:∀ q,q < m→∀ v,T.get (pth (oy + q)) elsy=some v→∃ lv:List Value,lv.length=sz∧CRel E v lv∧∀ i,i < sz→N[b + (n + q) * sz + i]? = lv[i]?) :
 Elems E sz (n + m) (copyT m elsy oy els' n) N b:=by
 intro q hq v hv
 rw [get_copyT m hn q (by omega)] at hv
 split at hv
 ·rename_i h2
  obtain ⟨lv,g1,g2,g3⟩:=hy (q - n) (by omega) v hv
  rw [show n + (q - n)=q by omega] at g3
  exact ⟨lv,g1,g2,g3⟩
 ·rename_i h2
  rw [he q (by omega)] at hv
  exact hx q (by omega) v hv
section
variable {P:Program} {B:Bds} {E:Env'} {st:St} {w:World} {nt:Nat} {tm:Tm} {a:Act} {k:K} {r:List (AV × St)} {o:Oper}
theorem Reads.does (h:Reads P E st w a o k r) (hs:Sim B E st w):Does P B E w a o k r:=by
 obtain ⟨v,u,h1,h2,h3⟩:=h
 exact ⟨v,u,w,E,st,r,.inl h1,Env'.le_refl E,hs,Bel.refl B w,h2,fun _ h=>h,h3⟩
theorem run_builtin_append {c:Call} (ho:o.op = .call c) (hc:c.callee = .builtin .append) {u:Value} {w':World} (hr:(Builtin.append_ c.argTypes o.type (c.args.map a.eval)).run P w = .ok u w') :
 (execOp a.eval o).run P w = .ok (.value u) w':=by
 obtain ⟨cs,he⟩:=exec_builtin (a:=a) ho hc
 rw [he]
 show (Builtin.append_ c.argTypes o.type (c.args.map a.eval) >>= fun u=>pure (Next.value u)).run P w=_
 rw [Sem.run_bind,hr]
 rfl
theorem run_append_empty {t ty e:TypeId} {i:TypeInfo} (ht:P.underlying t=some (.slice e)) (hi:P.info? e=some i) (base:Option Addr) {n cap:Nat} (hn:n≤cap) (b:Option Addr) (c:Nat) :
 (Builtin.append_ #[t,t] ty #[.slice base n cap,.slice b 0 c]).run P w = .ok (.slice base n cap) w:=by
 have hf:(Builtin.firstCells i.size 0 (.slice b 0 c)).run P w = .ok #[] w:=by
  cases b with
  | none=>exact run_firstCells_none w i.size 0 0 c
  | some b=>exact run_firstCells_some w i.size 0 b 0 c [] (by simp) (by simp)
 cases base with
 | none=>simp [Builtin.append_,run_underlying ht,sizeOf,typeInfo,hi,Builtin.lenOf,hn,hf]
 | some q=>simp [Builtin.append_,run_underlying ht,sizeOf,typeInfo,hi,Builtin.lenOf,hn,hf,storeCells]
theorem run_append_mid {t ty e:TypeId} {i:TypeInfo} (ht:P.underlying t=some (.slice e)) (hi:P.info? e=some i) {g off sLen sCap:Nat} {cur:Array Value} (hg:w.heap[g]? = some (.cells cur e (0,0)))
 (b:Addr) {m c:Nat} {news:List Value} (hl:news.length=m * i.size) (hnews:∀ j u,news[j]? = some u→w.cell? (b.add j)=some u) (h1:∀ u ∈ news,u.oneCell' = true)
 (hroom:sLen + m≤sCap) (hfit:off + sLen * i.size + news.length≤cur.size) :
 (Builtin.append_ #[t,t] ty #[.slice (some ⟨g,off,none⟩) sLen sCap,.slice (some b) m c]).run P w =
   .ok (.slice (some ⟨g,off,none⟩) (sLen + m) sCap) (w.setRow g (cur.toList.take (off + sLen * i.size) ++ news ++ cur.toList.drop (off + sLen * i.size + news.length)).toArray):=by
 have hf:=run_firstCells_some (P:=P) w i.size m b m c news hl hnews
 have hst:=run_storeCells_at P g (off + sLen * i.size) e news 0 cur w hg (by simpa using hfit) h1
 simp only [Nat.add_zero] at hst
 simp [Builtin.append_,run_underlying ht,sizeOf,typeInfo,hi,Builtin.lenOf,hroom,hf,Addr.add_mid,hst]
theorem sameT_inv {c:Call} (h2:c.argTypes.size=2) (h:sameT c=true) {t:TypeId} (ht:c.argTypes[0]? = some t):c.argTypes = #[t,t]:=by
 unfold sameT at h
 rw [ht] at h
 split at h
 ·rename_i s s' e1 e2
  cases e1
  have e3:=Nat.eq_of_beq_eq_true h
  subst e3
  apply Array.ext (by simp [h2])
  intro i h3 h4
  have h5:i < 2:=by omega
  have:i=0 ∨ i=1:=by omega
  rcases this with rfl | rfl
  ·rw [Array.getElem?_eq_getElem (by omega)] at ht
   simpa using ht
  ·rw [Array.getElem?_eq_getElem (by omega)] at e2
   simpa using e2
 ·cases h
theorem obE_inv {b:Nat} {f:Nat→Nat→Nat→T AV→Out} (h:obE st b f=some r):∃ e sz n els,T.get (pth b) st.h=some (.v e sz n els)∧f e sz n els=some r:=by
 obtain ⟨q,hq,h⟩:=ob_inv h
 rcases obR_inv h with ⟨_,_,_,rfl,h⟩ | ⟨e,sz,n,els,rfl,h⟩
 ·exact no_out h
 ·exact ⟨e,sz,n,els,hq,h⟩
theorem els'_get (n o:Nat) (els:T AV) (hn:n≤5000000):∀ j,j < n→T.get (pth j) (Bool.rec (motive:=fun _=>Nat→T AV→Nat→T AV) (fun n els o=>copyT n els o .e 0) (fun _ els _=>els) (Nat.beq o 0) n els o)=T.get (pth (o + j)) els:=by
 intro j hj
 cases hb:Nat.beq o 0 with
 | true =>
   have:=Nat.eq_of_beq_eq_true hb
   subst this
   rw [Nat.zero_add]
 | false =>
   show T.get (pth j) (copyT n els o .e 0)=_
   rw [get_copyT n (by omega) j (by omega),if_pos (by omega),Nat.sub_zero]
theorem aa_does (hs:Sim B E st w) (hB:BIn B w) (ht:TmRel E nt tm a) {c:Call} {x y:Operand} {e e' sz:Nat} {z:AV} (ho:o.op = .call c) (hc:c.callee = .builtin .append) (hx:c.args.toList = [x,y]) (hu:und P c 0=some (.slice e)) (_hu':und P c 1=some (.slice e'))
 (hz:elZ P e=some (sz,z)) (h2:Nat.beq c.argTypes.size 2=true) (hT:sameT c=true) (h:opAa e sz (co x) (co y) tm st k=some r):Does P B E w a o k r:=by
 obtain ⟨tr0,n0⟩:=st
 obtain ⟨t,ht0,htu⟩:=und_inv hu
 have hat:=sameT_inv (Nat.eq_of_beq_eq_true h2) hT ht0
 obtain ⟨i,v,hi,hv,hsz,hby,hvl,hc0⟩:=elZ_inv hz
 have hvx:=co_rel hs ht x
 have hvy:=co_rel hs ht y
 have goX:∀ {u:Value} {w':World},(Builtin.append_ #[t,t] o.type #[a.eval x,a.eval y]).run P w = .ok u w'→(execOp a.eval o).run P w = .ok (.value u) w':=fun hr=>run_builtin_append ho hc (by rw [hat,args2 hx];exact hr)
 have emp:∀ (b:Option Addr) (q:Nat),a.eval y = .slice b 0 q→apS (evc (co x) tm) (.mk tr0 n0) k=some r→Does P B E w a o k r:=by
  intro b q hy0 h'
  have key:∀ base n cap,a.eval x = .slice base n cap→n≤cap→k (evc (co x) tm) (.mk tr0 n0)=some r→Does P B E w a o k r:=fun base n cap hxe hle hk =>
   Reads.does ⟨_,_,goX (by rw [hxe,hy0];exact run_append_empty htu hi base hle b q),by rw [← hxe];exact hvx,hk⟩ hs
  unfold apS at h'
  rcases asL_inv h' with ⟨hx0,h'⟩ | ⟨rr,oo,nn,hx0,h'⟩
  ·have hx1:=hvx
   rw [hx0] at hx1
   simp only [VRel] at hx1
   exact key _ _ _ hx1 (Nat.le_refl 0) h'
  ·have hx1:=hvx
   rw [hx0] at hx1
   simp only [VRel] at hx1
   obtain ⟨l,hl,hle,p,_,hx1⟩:=hx1
   exact key _ _ _ hx1 (by omega) h'
 unfold opAa at h
 rcases asL_inv h with ⟨hy0,h⟩ | ⟨ry0,oy0,m,hy0,h⟩
 ·rw [hy0] at hvy
  simp only [VRel] at hvy
  exact emp _ _ hvy h
 rw [hy0] at hvy
 rcases iff_inv h with ⟨hm0,h⟩ | ⟨hm0,h⟩
 ·have:=Nat.eq_of_beq_eq_true hm0
  subst this
  simp only [VRel] at hvy
  obtain ⟨ly,hly,hcapy,oy',hoy,hye⟩:=hvy
  exact emp _ _ hye h
 have hm:0 < m:=Nat.pos_of_ne_zero (fun e=>by subst e;cases hm0)
 obtain ⟨ry,ky,ey,szy,leny,elsy,h,hqy,hviay⟩:=obW_inv h
 rw [seqN_eq] at h
 obtain ⟨ly,oy',cy0,hly,hry,_,hcapy,hoy,hye,_⟩:=hs.view hvy hviay hqy
 have hoy:=hoy hm
 subst hoy
 generalize hoyd:ky + oy0=oy at *
 have hoyd':Nat.add ky oy0=oy:=hoyd
 rw [hoyd'] at h
 obtain ⟨e1,h⟩:=must_inv h
 have e1:=Nat.eq_of_beq_eq_true e1
 subst e1
 obtain ⟨e2,h⟩:=must_inv h
 have hleny:oy + m≤leny:=Nat.le_of_ble_eq_true e2
 obtain ⟨hok,h⟩:=must_inv h
 obtain ⟨cy,fry,hcy,_,hszy,hcapy',hsizey,hely⟩:=hry
 have hely:Elems E szy leny elsy cy ly.base:=hely
 have hlnews:=cut_len hsizey hcapy
 have hnews:=cut_cell hcy (base:=ly.base) (sz:=szy) (q:=oy) (m:=m)
 have hone:=cut_one hely hleny hok
 have hgetnews:∀ j,j < m * szy→(cut cy ly.base szy oy m)[j]? = cy[ly.base + oy * szy + j]?:=fun j hj=>cut_get cy hj
 generalize hN:cut cy ly.base szy oy m=news at *
 have hvs:v.cells.size=szy:=by rw [← hvl];simp
 have hyel:∀ {N:Array Value} {b n:Nat},(∀ j,j < m * szy→N[b + n * szy + j]? = news[j]?)→∀ q,q < m→∀ v,T.get (pth (oy + q)) elsy=some v→∃ lv:List Value,lv.length=szy∧CRel E v lv∧∀ i,i < szy→N[b + (n + q) * szy + i]? = lv[i]?:=by
  intro N b n hN' q hq v' hv'
  obtain ⟨lv,g1,g2,g3⟩:=hely (oy + q) (by omega) v' hv'
  refine ⟨lv,g1,g2,fun i hi=>?_⟩
  have h3:(q + 1) * szy≤m * szy:=Nat.mul_le_mul_right _ hq
  rw [Nat.add_mul,Nat.one_mul] at h3
  have g4:=g3 i hi
  rw [Nat.add_mul,show ly.base + (oy * szy + q * szy) + i=ly.base + oy * szy + (q * szy + i) by omega,← hgetnews _ (by omega),← hN' _ (by omega)] at g4
  rw [Nat.add_mul,show b + (n * szy + q * szy) + i=b + n * szy + (q * szy + i) by omega]
  exact g4
 rcases asL_inv h with ⟨hx0,h⟩ | ⟨rx,ox,n,hx0,h⟩
 ·obtain ⟨hm5,h⟩:=must_inv h
  have hm5:m≤5000000:=Nat.le_of_ble_eq_true hm5
  rw [hx0] at hvx
  simp only [VRel] at hvx
  obtain ⟨tr,nn,he,hnn,h⟩:=newO_inv h
  cases he
  have hby2:m * i.bytes≤5000000 * 16777216:=Nat.mul_le_mul hm5 hby
  have hrun:=run_append_nil (P:=P) w t o.type e i v htu hi hv ⟨ly.blk,ly.base + oy * szy,none⟩ m cy0 news (by rw [hsz];exact hlnews) hnews hm (by omega) (by omega)
  have hge:=grownCap_ge w m 0 e
  generalize grownCap w m 0 e=cap at *
  obtain ⟨hle,hs'⟩:=Sim.newEls hs hB hnn (e:=e) (sz:=szy) (len:=m) (cap:=cap) (els:=copyT m elsy oy .e 0) (c:=news.toArray ++ Builtin.zeroCells v.cells (cap - m)) hge hm5
   (by
     have:(m + (cap - m)) * szy=cap * szy:=by rw [show m + (cap - m)=cap by omega]
     rw [Nat.add_mul] at this
     simp only [Array.size_append,List.size_toArray,size_zeroCells,hvs,hlnews]
     omega)
   (by
     have:=elems_join (E:=E) (sz:=szy) (n:=0) (m:=m) (o:=0) (oy:=oy) (b:=0) (els:=.e) (els':=.e) (elsy:=elsy) (N:=news.toArray ++ Builtin.zeroCells v.cells (cap - m)) (by omega) (fun j hj=>absurd hj (by omega)) (fun j hj=>absurd hj (by omega))
      (hyel (fun j hj=>by
        rw [Nat.zero_mul,Nat.zero_add,join_one (by omega)]))
     rwa [Nat.zero_add] at this) (w':=w.drew) rfl
  exact ⟨_,_,_,_,_,_,.inl (goX (by rw [hvx,hye];exact hrun)),hle,hs',((Bel.refl B w).drew).alloc (hB.mono (Nat.le_refl _)) _,vrel_new hge,fun _ h=>h,h⟩
 ·obtain ⟨h64,h⟩:=must_inv h
  have h64:lowN≤rx:=Nat.le_of_ble_eq_true h64
  obtain ⟨ex,szx,lenx,els,hqx,h⟩:=obE_inv h
  obtain ⟨e1,h⟩:=must_inv h
  have e1:=Nat.eq_of_beq_eq_true e1
  subst e1
  obtain ⟨e2,h⟩:=must_inv h
  have e2:=Nat.eq_of_beq_eq_true e2
  subst e2
  obtain ⟨e3,h⟩:=must_inv h
  have hlenx:ox + n≤lenx:=Nat.le_of_ble_eq_true e3
  rw [seqN_eq] at h
  obtain ⟨e4,h⟩:=must_inv h
  have hnm:n + m≤5000000:=Nat.le_of_ble_eq_true e4
  rw [hx0] at hvx
  simp only [VRel] at hvx
  obtain ⟨l,hl,hcapx,ox',hox,hxe⟩:=hvx
  have hlt:=hs.lt hl
  obtain ⟨l',hl',hrx⟩:=hs.live rx _ hlt hqx
  rw [hl] at hl'
  cases hl'
  have hro:Nat.blt rx lowN=false:=by
   cases hb:Nat.blt rx lowN with
   | false=>rfl
   | true=>have:=blt_lt hb;omega
  rw [hro] at hrx
  obtain ⟨cx,frx,hcx,hfr,hszx,hcapx',hsizex,helx⟩:=hrx
  have hfr:=hfr rfl
  subst hfr
  have helx:Elems E szx lenx els cx l.base:=helx
  have hown:=hs.own rx _ l hlt h64 hqx hl
  have hkill:=Sim.kill (r:=rx) hs hlt
  rw [putO_eq] at h hkill
  obtain ⟨tr,nn,he,hnn,h⟩:=newO_inv h
  cases he
  have hels':=els'_get n ox els (by omega)
  generalize hE:(Bool.rec (motive:=fun _=>Nat→T AV→Nat→T AV) (fun n els o=>copyT n els o .e 0) (fun _ els _=>els) (Nat.beq ox 0) n els ox)=els' at *
  have ha:Nat.add n m=n + m:=rfl
  rw [ha] at h
  rw [hszx] at hox
  by_cases hroom:n + m≤l.cap - ox
  ·have hox:=hox (.inl (by omega))
   subst hox
   have hb1:(ox + (n + m)) * szx≤l.cap * szx:=Nat.mul_le_mul_right _ (by omega)
   rw [Nat.add_mul,Nat.add_mul] at hb1
   have hfit:l.base + ox * szx + n * szx + news.length≤cx.size:=by omega
   have hrun:=run_append_mid (P:=P) (w:=w) (ty:=o.type) (off:=l.base + ox * szx) (sLen:=n) (sCap:=l.cap - ox) (c:=cy0) htu hi hcx ⟨ly.blk,ly.base + oy * szx,none⟩ (by rw [hsz];exact hlnews) hnews hone hroom (by rw [hsz];exact hfit)
   rw [hsz] at hrun
   have e5:∀ j:Nat,((cx.toList.take (l.base + ox * szx + n * szx) ++ news ++ cx.toList.drop (l.base + ox * szx + n * szx + news.length)).toArray)[j]? = if j < l.base + ox * szx + n * szx then cx[j]? else if j < l.base + ox * szx + n * szx + news.length then news[j - (l.base + ox * szx + n * szx)]? else cx[j]?:=fun j=>by
    rw [List.getElem?_toArray,getElem?_mid _ _ _ _ (by have:=@Array.length_toList _ cx;omega),Array.getElem?_toList]
   generalize hC:(cx.toList.take (l.base + ox * szx + n * szx) ++ news ++ cx.toList.drop (l.base + ox * szx + n * szx + news.length)).toArray=C at *
   have hCs:C.size=cx.size:=by
    rw [← hC]
    simp only [List.size_toArray,List.length_append,List.length_take,List.length_drop,Array.length_toList]
    omega
   have hdead:∀ s q,s < lim→T.get (pth s) (T.set (pth rx) none tr0)=some q→s ≠ rx∧T.get (pth s) tr0=some q:=fun s q h1 h2=>by
    rw [get_set_pth h1 hlt] at h2
    split at h2
    ·cases h2
    ·exact ⟨‹_›,h2⟩
   have hel:Elems E szx (n + m) (copyT m elsy oy els' n) C (l.base + ox * szx):=elems_join hnm hels' (fun q hq v' hv'=>by
    obtain ⟨lv,g1,g2,g3⟩:=helx (ox + q) (by omega) v' hv'
    refine ⟨lv,g1,g2,fun i hi=>?_⟩
    have h3:(q + 1) * szx≤n * szx:=Nat.mul_le_mul_right _ hq
    rw [Nat.add_mul,Nat.one_mul] at h3
    have g4:=g3 i hi
    rw [Nat.add_mul,show l.base + (ox * szx + q * szx) + i=l.base + ox * szx + q * szx + i by omega] at g4
    rw [e5,if_pos (by omega)]
    exact g4)
    (hyel (fun j hj=>by
      rw [e5,if_neg (by omega),if_pos (by omega)]
      congr 1;omega))
   have hh:∀ s q l',s < lim→T.get (pth s) (T.set (pth rx) none tr0)=some q→q.isAl=false→E s=some l'→l'.blk ≠ l.blk:=fun s q l' h1 h2 ha3 h3=>by
    obtain ⟨h4,h5⟩:=hdead s q h1 h2
    exact hs.apart s rx q _ l' l h1 hlt h4 h5 hqx ha3 rfl h3 hl
   obtain ⟨hle,hs'⟩:=Sim.new (w':=w.setRow l.blk C) (l:=⟨l.blk,l.base + ox * szx,l.cap - ox,szx⟩) (o:=.v ex szx (n + m) (copyT m elsy oy els' n)) hkill hnn hown (by simp) (fun _=>hh)
    (fun s q l' h1 h2 ha3 h3=>setRow_other w l.blk l'.blk C (hh s q l' h1 h2 ha3 h3))
    ⟨C,(0,0),setRow_heap w l.blk cx C ex (0,0) hcx,fun _=>rfl,rfl,⟨hroom,hnm⟩,by
      have:(ox + (l.cap - ox)) * szx=l.cap * szx:=by rw [show ox + (l.cap - ox)=l.cap by omega]
      rw [Nat.add_mul] at this
      show l.base + ox * szx + (l.cap - ox) * szx≤C.size
      omega,hel.mono (Env'.le_with (hkill.fresh n0 (Nat.le_refl _)))⟩
   have hbel:Bel B w (w.setRow l.blk C):=⟨rfl,rfl,rfl,by simp,fun j hj=>setRow_other w l.blk j C (fun e=>hown (e ▸ hj))⟩
   refine ⟨_,_,_,_,_,_,.inl (goX (by rw [hxe,hye];exact hrun)),hle,hs',hbel,?_,fun _ h=>h,h⟩
   simp only [VRel]
   exact ⟨_,Env'.with_self _ _ _,by simpa using hroom,l.base + ox * szx,fun _=>by simp,by simp⟩
  ·have hlolds:=cut_len hsizex hcapx
   have hby2:(n + m) * i.bytes≤5000000 * 16777216:=Nat.mul_le_mul hnm hby
   have holds:∀ j u,(cut cx l.base szx ox n)[j]? = some u→w.cell? ((⟨l.blk,ox',none⟩:Addr).add j)=some u:=by
    intro j u hju
    by_cases hn0:n=0
    ·subst hn0
     have h1:=(List.getElem?_eq_some_iff.1 hju).1
     rw [hlolds] at h1
     omega
    ·rw [hox (.inl (by omega))]
     exact cut_cell hcx j u hju
   have hgetolds:∀ j,j < n * szx→(cut cx l.base szx ox n)[j]? = cx[l.base + ox * szx + j]?:=fun j hj=>cut_get cx hj
   generalize cut cx l.base szx ox n=olds at *
   have hrun:=run_append_grow (P:=P) w t o.type ex i v htu hi hv ⟨l.blk,ox',none⟩ n (l.cap - ox) olds (by rw [hsz];exact hlolds) holds ⟨ly.blk,ly.base + oy * szx,none⟩ m cy0 news (by rw [hsz];exact hlnews) hnews (by omega) (by omega)
    (growslice_fits (by omega) (by omega))
   have hge:=grownCap_ge w (n + m) (l.cap - ox) ex
   generalize grownCap w (n + m) (l.cap - ox) ex=cap at *
   obtain ⟨hle,hs'⟩:=Sim.newEls hkill hB hnn (e:=ex) (sz:=szx) (len:=n + m) (cap:=cap) (els:=copyT m elsy oy els' n) (c:=olds.toArray ++ news.toArray ++ Builtin.zeroCells v.cells (cap - (n + m))) hge hnm
    (by
      have:(n + m + (cap - (n + m))) * szx=cap * szx:=by rw [show n + m + (cap - (n + m))=cap by omega]
      rw [Nat.add_mul,Nat.add_mul] at this
      simp only [Array.size_append,List.size_toArray,size_zeroCells,hvs,hlnews,hlolds]
      omega)
    (elems_join hnm hels' (fun q hq v' hv'=>by
      obtain ⟨lv,g1,g2,g3⟩:=helx (ox + q) (by omega) v' hv'
      refine ⟨lv,g1,g2,fun i hi=>?_⟩
      have h3:(q + 1) * szx≤n * szx:=Nat.mul_le_mul_right _ hq
      rw [Nat.add_mul,Nat.one_mul] at h3
      have g4:=g3 i hi
      rw [Nat.add_mul,show l.base + (ox * szx + q * szx) + i=l.base + ox * szx + (q * szx + i) by omega,← hgetolds _ (by omega)] at g4
      rw [Nat.zero_add,join_left (by omega)]
      exact g4)
      (hyel (fun j hj=>by
        rw [Nat.zero_add,← hlolds,join_right (by omega)]))) (w':=w.drew) rfl
   exact ⟨_,_,_,_,_,_,.inl (goX (by rw [hxe,hye];exact hrun)),hle,hs',((Bel.refl B w).drew).alloc (hB.mono (Nat.le_refl _)) _,vrel_new hge,fun _ h=>h,h⟩
end
end Go.AM
namespace Go.AM
open Go.RowKit
theorem bytes_same {s s':ByteArray} (h:(s.toList == s'.toList)=true):s=s':=by
 rw [beq_iff_eq,ByteArray.toList_eq,ByteArray.toList_eq] at h
 cases s;cases s';simp at h;simp [h]
theorem sameNow_key {q:KK} {d:TypeDesc} {b:Bool} {u v:Value} (hd:KKType q d) (he:KKEq q b u v):Instr.sameNow d u v=some b:=by
 cases q with
 | b=>cases hd;obtain ⟨x,y,rfl,rfl,rfl⟩:=he;rfl
 | i=>obtain ⟨k',rfl⟩:=hd;obtain ⟨k,x,y,rfl,rfl,rfl⟩:=he;simp [Instr.sameNow]
 | s=>cases hd;obtain ⟨x,y,rfl,rfl,rfl⟩:=he;rw [← beq_toListBytes];rfl
theorem sameBits_key {q:KK} {u v:Value} (he:KKEq q true u v) (n:Nat):Instr.sameBits n v u=true:=by
 cases q with
 | b=>obtain ⟨x,y,rfl,rfl,h⟩:=he;have h:=beq_iff_eq.1 h.symm;subst h;cases n <;> simp [Instr.sameBits]
 | i=>obtain ⟨k,x,y,rfl,rfl,h⟩:=he;have h:=beq_iff_eq.1 h.symm;subst h;cases n <;> simp [Instr.sameBits]
 | s=>obtain ⟨x,y,rfl,rfl,h⟩:=he;have h:=bytes_same h.symm;subst h;cases n <;> simp [Instr.sameBits,beq_toListBytes]
section
variable {P:Program} {B:Bds} {E:Env'} {st:St} {w:World} {nt:Nat} {tm:Tm} {a:Act} {k:K} {r:List (AV × St)} {o:Oper}
theorem run_forIn_unit {α:Type} {step:α→PUnit→Sem (ForInStep PUnit)}:∀ {l:List α},(∀ x ∈ l,(step x PUnit.unit).run P w = .ok (.yield PUnit.unit) w)→(forIn l PUnit.unit step).run P w = .ok PUnit.unit w
 | [],_=>by simp
 | x :: l,h=>by
   rw [List.forIn_cons,Sem.run_bind,h x (List.mem_cons_self ..)]
   simp only [Result.andThen_ok]
   exact run_forIn_unit (fun y hy=>h y (List.mem_cons_of_mem _ hy))
theorem run_checkKeyK {t:TypeId} {q:KK} (h:keyK P t=some q) (em:Bool) (n:Nat) (v:Value):(Instr.checkKey em (n + 1) t v).run P w = .ok () w:=by
 obtain ⟨d,hu,hd⟩:=keyK_inv h
 unfold Instr.checkKey
 rw [Sem.run_bind,run_underlying hu]
 cases q with
 | b=>cases hd;rfl
 | i=>obtain ⟨_,rfl⟩:=hd;rfl
 | s=>cases hd;rfl
theorem lenK_eq:∀ ks:List KK,lenK ks=ks.length
 | []=>rfl
 | _ :: ks=>by
   show Nat.succ (lenK ks)=_
   rw [lenK_eq ks];rfl
theorem flatK_mem:∀ {fs:List Field} {j:Nat} {ks:List KK},flatK P fs j=some ks→∀ f ∈ fs,∃ qs,fldK P f.type=some qs∧f.offset + qs.length≤j + ks.length
 | [],_,_,_,f,hf=>by cases hf
 | fd :: fs,j,ks,h,f,hf=>by
   simp only [flatK] at h
   split at h
   ·rename_i qs hn hq
    split at h
    ·rename_i ks' hks
     cases h
     rw [Bool.and_eq_true] at hn
     rcases List.mem_cons.1 hf with rfl | hf
     ·exact ⟨qs,hq,by rw [Nat.eq_of_beq_eq_true hn.2,List.length_append];omega⟩
     ·obtain ⟨q',h1,h2⟩:=flatK_mem hks f hf
      refine ⟨q',h1,?_⟩
      have:Nat.add j qs.length=j + qs.length:=rfl
      rw [this] at h2
      rw [List.length_append];omega
    ·cases h
   ·cases h
theorem run_forIn_range {step:Nat→PUnit→Sem (ForInStep PUnit)} {n:Nat} (h:∀ i,i < n→(step i PUnit.unit).run P w = .ok (.yield PUnit.unit) w):(forIn [0:n] PUnit.unit step).run P w = .ok PUnit.unit w:=by
 rw [Std.Legacy.Range.forIn_eq_forIn_range']
 refine run_forIn_unit (fun x hx=>h x ?_)
 simp [Std.Legacy.Range.size,List.mem_range'] at hx
 omega
theorem flat1_mem:∀ {fs:List Field} {j:Nat} {ks:List KK},flat1 P fs j=some ks→∀ f ∈ fs,∃ q,keyK P f.type=some q∧f.offset < j + ks.length
 | [],_,_,_,f,hf=>by cases hf
 | g :: fs,j,ks,h,f,hf=>by
   obtain ⟨q,ks',_,hoff,hq,hks,rfl⟩:=flat1_inv h
   rcases List.mem_cons.1 hf with rfl | hf
   ·exact ⟨q,hq,by simp;omega⟩
   ·obtain ⟨q2,h1,h2⟩:=flat1_mem hks f hf
    exact ⟨q2,h1,by simp;omega⟩
theorem run_checkKeyS {t:TypeId} {fs:Array Field} {ks:List KK} (hu:P.underlying t=some (.struct fs)) (hk:flatS P t fs=some ks) (em:Bool) (n:Nat) {xs:List Value} (hl:xs.length=ks.length):(Instr.checkKey em (n + 3) t (.agg xs.toArray)).run P w = .ok () w:=by
 unfold flatS at hk
 split at hk
 ·rename_i ks' h1 h2 h3
  cases hk
  unfold Instr.checkKey
  rw [Sem.run_bind,run_underlying hu]
  simp only [Result.andThen_ok]
  rw [← Array.forIn_toList]
  rw [Sem.run_bind,run_forIn_unit (w:=w) (fun f hf=>?_)]
  ·rfl
  obtain ⟨qs,hq,ho⟩:=flatK_mem h1 f hf
  have fin : ∀ u, (part f.type xs.toArray f.offset).run P w = .ok u w → (Instr.checkKey em (n + 2) f.type u).run P w = .ok () w → ((if f.name ≠ "_" then do Instr.checkKey em (n + 2) f.type (← part f.type xs.toArray f.offset); pure (ForInStep.yield PUnit.unit) else pure (ForInStep.yield PUnit.unit) : Sem (ForInStep PUnit))).run P w = .ok (.yield PUnit.unit) w := fun u hp hc => by
   split <;> simp only [Sem.run_bind,hp,hc,Result.andThen_ok,Sem.run_pure]
  rcases fldK_inv hq with ⟨q,hkq,rfl⟩ | ⟨m,e,q,i,hu2,hkq,hi,hc1,hz,rfl⟩ | ⟨fs2,hu2,hk1,hz,_⟩
  ·simp only [List.length_cons,List.length_nil] at ho
   have hlt:f.offset < xs.length:=by omega
   exact fin xs[f.offset] (by simp [part,run_isAgg_false (keyK_agT hkq),hlt]) (run_checkKeyK (w:=w) hkq em (n + 1) _)
  ·rw [List.length_replicate] at ho
   have ha:agT P f.type=some true:=by unfold agT;rw [hu2]
   refine fin (.agg (xs.toArray.extract f.offset (f.offset + m))) (by simp [part,run_isAgg_true ha,run_sizeOf hz]) ?_
   unfold Instr.checkKey
   rw [Sem.run_bind,run_underlying hu2]
   simp only [Result.andThen_ok]
   have hze:szOf P e=some 1:=by
    unfold szOf
    unfold Program.cellsOf at hc1
    rw [hi] at hc1 ⊢
    simpa using hc1
   rw [Sem.run_bind,run_forIn_range (w:=w) (fun j hj=>?_)]
   ·rfl
   have hlt:f.offset + j < xs.length:=by omega
   have hp:(part e (xs.toArray.extract f.offset (f.offset + m)) j).run P w = .ok xs[f.offset + j] w:=by
    have:(xs.toArray.extract f.offset (f.offset + m))[j]? = some xs[f.offset + j]:=by
     rw [Array.getElem?_extract_of_lt (by simp;omega)]
     simp
    unfold part
    rw [Sem.run_bind,run_isAgg_false (keyK_agT hkq)]
    simp only [Result.andThen_ok,Bool.false_eq_true,if_false,this,Sem.run_pure]
   have hc:=run_checkKeyK (w:=w) hkq em n xs[f.offset + j]
   simp only [Sem.run_bind,run_sizeOf hze,Result.andThen_ok,Nat.mul_one,hp,hc,Sem.run_pure]
  ·have ha:agT P f.type=some true:=by unfold agT;rw [hu2]
   refine fin (.agg (xs.toArray.extract f.offset (f.offset + qs.length))) (by simp [part,run_isAgg_true ha,run_sizeOf hz]) ?_
   unfold Instr.checkKey
   rw [Sem.run_bind,run_underlying hu2]
   simp only [Result.andThen_ok]
   rw [← Array.forIn_toList]
   rw [Sem.run_bind,run_forIn_unit (w:=w) (fun f2 hf2=>?_)]
   ·rfl
   obtain ⟨q2,hq2,ho2⟩:=flat1_mem hk1 f2 hf2
   have hlt:f.offset + f2.offset < xs.length:=by omega
   have hp:(part f2.type (xs.toArray.extract f.offset (f.offset + qs.length)) f2.offset).run P w = .ok xs[f.offset + f2.offset] w:=by
    have:(xs.toArray.extract f.offset (f.offset + qs.length))[f2.offset]? = some xs[f.offset + f2.offset]:=by
     rw [Array.getElem?_extract_of_lt (by simp;omega)]
     simp
    unfold part
    rw [Sem.run_bind,run_isAgg_false (keyK_agT hq2)]
    simp only [Result.andThen_ok,Bool.false_eq_true,if_false,this,Sem.run_pure]
   have hc:=run_checkKeyK (w:=w) hq2 em n xs[f.offset + f2.offset]
   split <;> simp only [Sem.run_bind,hp,hc,Result.andThen_ok,Sem.run_pure]
 ·cases hk
def KTEq (P:Program) (t:TypeId) (q:KT) (b:Bool) (u v:Value):Prop:=match q with
 | .k q=>KKEq q b u v
 | .r _=>(∀ w,(Op.equal t u v).run P w = .ok b w)∧(∃ xs ys,u = .agg xs∧v = .agg ys)∧(b=true→Instr.sameBits 10000 v u=true)
def KTOk (P:Program) (t:TypeId) (q:KT):Prop:=match q with
 | .k q=>keyK P t=some q
 | .r ks=>∃ fs,P.underlying t=some (.struct fs)∧flatS P t fs=some ks
def ShA (q:KT) (v:AV):Prop:=match q with
 | .k _=>True
 | .r ks=>∃ c,v = .a c∧lenA c=ks.length
def ShV (q:KT) (v:Value):Prop:=match q with
 | .k _=>True
 | .r _=>∃ c,v = .agg c
theorem keyT_inv {t:TypeId} {q:KT} (h:keyT P t=some q):KTOk P t q:=by
 unfold keyT at h
 split at h
 ·rename_i q' hq;cases h;exact hq
 ·split at h
  ·rename_i fs hu
   split at h
   ·rename_i ks hk;cases h;exact ⟨fs,hu,hk⟩
   ·cases h
  ·cases h
theorem ktOk_inv {q:KT} {v:AV} {x:Out} (h:ktOk q v x=some r):x=some r∧ShA q v:=by
 cases q with
 | k q=>exact ⟨h,trivial⟩
 | r ks =>
   obtain ⟨c,rfl,h⟩:=asA_inv (show asA v (fun c=>must (Nat.beq (lenA c) (lenK ks)) x)=some r from h)
   obtain ⟨hb,h⟩:=must_inv h
   exact ⟨h,c,rfl,by rw [← lenK_eq];exact Nat.eq_of_beq_eq_true hb⟩
theorem sameBits_all:∀ {ks:List KK} {l m:List Value},AllEq ks l m→l.length=m.length∧∀ n,(m.zip l).all (fun p=>Instr.sameBits n p.1 p.2)=true
 | [],l,m,h=>by obtain ⟨rfl,rfl⟩:=h;exact ⟨rfl,fun _=>rfl⟩
 | q :: ks,l,m,h=>by
   obtain ⟨u,l',v,m',rfl,rfl,h1,h2⟩:=h
   obtain ⟨i1,i2⟩:=sameBits_all h2
   refine ⟨by simp [i1],fun n=>?_⟩
   rw [List.zip_cons_cons,List.all_cons,i2 n,sameBits_key h1 n]
   rfl
theorem keqT_inv {t:TypeId} {q:KT} (hq:KTOk P t q) {x y:AV} {f:Bool→Out} (h:keqT q x y f=some r) {u v:Value} (hu:VRel E x u) (hv:VRel E y v):∃ b,f b=some r∧KTEq P t q b u v:=by
 cases q with
 | k q =>
   obtain ⟨b,h1,h2⟩:=keq_inv (show keq q x y f=some r from h)
   exact ⟨b,h1,h2 E u v hu hv⟩
 | r ks =>
   obtain ⟨fs,hun,hk⟩:=hq
   obtain ⟨a,rfl,h⟩:=asA_inv (show asA x (fun a=>asA y (fun c=>eqR ks a c f))=some r from h)
   obtain ⟨c,rfl,h⟩:=asA_inv h
   simp only [VRel] at hu hv
   obtain ⟨xs,rfl,hrx⟩:=hu
   obtain ⟨ys,rfl,hry⟩:=hv
   unfold flatS at hk
   split at hk
   ·rename_i ks' h1 h2 h3
    cases hk
    have hfs:P.fieldsOf t=fs:=by simp [Program.fieldsOf,hun]
    obtain ⟨b,h,hb,hall⟩:=eqR_inv (P:=P) (d:=9997) fs.toList [] [] xs ys ks rfl h1 hrx hry h
    refine ⟨b,h,fun w=>?_,⟨_,_,rfl,rfl⟩,fun e=>?_⟩
    ·show (Op.equalIn 10000 t (.agg xs.toArray) (.agg ys.toArray)).run P w = .ok b w
     rw [show (10000:Nat)=9999 + 1 from rfl,run_equalIn_struct w 9999 t _ _ (by rw [hfs];exact hun) h2,hfs]
     exact hb w
    ·obtain ⟨g1,g2⟩:=sameBits_all (hall e)
     show (ys.toArray.size == xs.toArray.size && (ys.toArray.toList.zip xs.toArray.toList).all fun (x,y)=>Instr.sameBits 9999 x y)=true
     simp only [List.size_toArray,g1,beq_self_eq_true,Bool.true_and]
     exact g2 9999
   ·cases hk
def Finds (P:Program) (t:TypeId) (q:KT) (kv:Value) (l:List MapEntry) (i:Nat) (x:Option (Nat × Value)):Prop:=match q with
 | .k _=>∃ d,P.underlying t=some d∧Instr.findNow d kv l i=some x
 | .r _=>(∃ c,kv = .agg c)∧∀ w,(Instr.findAsking t kv l i).run P w = .ok x w
theorem run_findKey {t:TypeId} {q:KT} (hq:KTOk P t q) {kv:Value} {l:List MapEntry} {x:Option (Nat × Value)} (h:Finds P t q kv l 0 x):(Instr.findKey t kv l).run P w = .ok x w:=by
 cases q with
 | k q =>
   obtain ⟨d,hu,h⟩:=h
   unfold Instr.findKey
   rw [Sem.run_bind,run_underlying hu]
   simp only [Result.andThen_ok,h]
   rfl
 | r ks =>
   obtain ⟨fs,hu,_⟩:=hq
   obtain ⟨⟨c,rfl⟩,h⟩:=h
   unfold Instr.findKey
   rw [Sem.run_bind,run_underlying hu]
   simp only [Result.andThen_ok]
   cases l with
   | nil=>exact h w
   | cons e l =>
     have:Instr.findNow (.struct fs) (.agg c) (e :: l) 0=none:=by simp [Instr.findNow,Instr.sameNow]
     rw [this]
     exact h w
theorem finds_nil {t:TypeId} {q:KT} (hq:KTOk P t q) {kv:Value} (hs:ShV q kv) (i:Nat):Finds P t q kv [] i none:=by
 cases q with
 | k q=>obtain ⟨d,hu,_⟩:=keyK_inv hq;exact ⟨d,hu,rfl⟩
 | r ks=>exact ⟨hs,fun w=>rfl⟩
theorem finds_hit {t:TypeId} {q:KT} (hq:KTOk P t q) {kv:Value} {e:MapEntry} (he:KTEq P t q true kv e.key) (l:List MapEntry) (i:Nat):Finds P t q kv (e :: l) i (some (i,e.val)):=by
 cases q with
 | k q =>
   obtain ⟨d,hu,hd⟩:=keyK_inv hq
   exact ⟨d,hu,by simp only [Instr.findNow,sameNow_key hd he]⟩
 | r ks =>
   obtain ⟨h1,⟨xs,ys,rfl,_⟩,_⟩:=he
   refine ⟨⟨xs,rfl⟩,fun w=>?_⟩
   simp [Instr.findAsking,h1 w]
theorem finds_miss {t:TypeId} {q:KT} (hq:KTOk P t q) {kv:Value} {e:MapEntry} (he:KTEq P t q false kv e.key) {l:List MapEntry} {i:Nat} {x:Option (Nat × Value)} (h:Finds P t q kv l (i + 1) x):Finds P t q kv (e :: l) i x:=by
 cases q with
 | k q =>
   obtain ⟨d,hu,hd⟩:=keyK_inv hq
   obtain ⟨d',hu',h⟩:=h
   rw [hu] at hu'
   cases hu'
   exact ⟨d,hu,by simp only [Instr.findNow,sameNow_key hd he];exact h⟩
 | r ks =>
   obtain ⟨h1,⟨xs,ys,rfl,_⟩,_⟩:=he
   refine ⟨⟨xs,rfl⟩,fun w=>?_⟩
   have:=h.2 w
   simp [Instr.findAsking,h1 w,this]
theorem sameBits_keyT {t:TypeId} {q:KT} {u v:Value} (he:KTEq P t q true u v):Instr.sameBits 10000 v u=true:=by
 cases q with
 | k q=>exact sameBits_key he 10000
 | r ks=>exact he.2.2 rfl
theorem run_checkKey {t:TypeId} {q:KT} (hq:KTOk P t q) (em:Bool) {key:AV} {v:Value} (hv:VRel E key v) (hs:ShA q key):(Instr.checkKey em 10000 t v).run P w = .ok () w:=by
 cases q with
 | k q=>exact run_checkKeyK hq em 9999 v
 | r ks =>
   obtain ⟨fs,hu,hk⟩:=hq
   obtain ⟨c,rfl,hl⟩:=hs
   simp only [VRel] at hv
   obtain ⟨xs,rfl,hr⟩:=hv
   exact run_checkKeyS hu hk em 9997 (by rw [← hr.len,hl])
theorem key_agg {q:KT} {key:AV} {v:Value} (hv:VRel E key v) (hs:ShA q key):ShV q v:=by
 cases q with
 | k q=>trivial
 | r ks =>
   obtain ⟨c,rfl,_⟩:=hs
   simp only [VRel] at hv
   obtain ⟨xs,rfl,_⟩:=hv
   exact ⟨_,rfl⟩
theorem mlook_inv {t:TypeId} {q:KT} (hq:KTOk P t q) {key:AV} {kv:Value} (hk:VRel E key kv) (ha:ShV q kv) {z:Out} {f:AV→Out}:∀ (es:ME) {l:List MapEntry} (i:Nat),MERel E es l→mlook es q key z f=some r →
 (Finds P t q kv l i none∧z=some r) ∨ ∃ j v x,Finds P t q kv l i (some (j,x))∧VRel E v x∧f v=some r:=by
 intro es
 induction es with
 | nil =>
   intro l i hl h
   simp only [MERel] at hl
   subst hl
   exact .inl ⟨finds_nil hq ha i,h⟩
 | cons k1 v1 n rest ih =>
   intro l i hl h
   obtain ⟨e,m,rfl,h1,h2,_,h4⟩:=hl
   obtain ⟨b,h,hkey⟩:=keqT_inv hq (show keqT q key k1 (fun b=>iff b (f v1) (mlook rest q key z f))=some r from h) hk h1
   rcases iff_inv h with ⟨rfl,h⟩ | ⟨rfl,h⟩
   ·exact .inr ⟨i,v1,e.val,finds_hit hq hkey m i,h2,h⟩
   ·rcases ih (i + 1) h4 h with ⟨g1,g2⟩ | ⟨j,v,x,g1,g2,g3⟩
    ·exact .inl ⟨finds_miss hq hkey g1,g2⟩
    ·exact .inr ⟨j,v,x,finds_miss hq hkey g1,g2,g3⟩
theorem mupd_inv {t:TypeId} {q:KT} (hq:KTOk P t q) {key v:AV} {kv x:Value} (hk:VRel E key kv) (ha:ShV q kv) (hv:VRel E v x) {c:Nat}:∀ (es:ME) {l:List MapEntry} (i:Nat) {f:ME→Nat→Out},MERel E es l→mupd es q key v c f=some r →
 (Finds P t q kv l i none∧∃ es',f es' (c + 1)=some r∧MERel E es' (l ++ [⟨kv,x,c⟩])) ∨
 ∃ j y,Finds P t q kv l i (some (i + j,y))∧(∃ e,l[j]? = some e∧Instr.sameBits 10000 e.key kv=true)∧∃ es',f es' c=some r∧MERel E es' (l.modify j fun e=>{ e with key:=kv,val:=x }):=by
 intro es
 induction es with
 | nil =>
   intro l i f hl h
   simp only [MERel] at hl
   subst hl
   exact .inl ⟨finds_nil hq ha i,_,h,⟨_,[],rfl,hk,hv,rfl,rfl⟩⟩
 | cons k1 v1 n rest ih =>
   intro l i f hl h
   obtain ⟨e,m,rfl,h1,h2,h3,h4⟩:=hl
   obtain ⟨b,h,hke⟩:=keqT_inv hq (show keqT q key k1 (fun b=>iff b (f (.cons key v n rest) c) (mupd rest q key v c (fun l' c'=>f (.cons k1 v1 n l') c')))=some r from h) hk h1
   rcases iff_inv h with ⟨rfl,h⟩ | ⟨rfl,h⟩
   ·refine .inr ⟨0,e.val,finds_hit hq hke m i,⟨e,rfl,sameBits_keyT hke⟩,_,h,?_⟩
    rw [List.modify_zero_cons]
    exact ⟨_,m,rfl,hk,hv,h3,h4⟩
   ·rcases ih (i + 1) h4 h with ⟨g1,es',g2,g3⟩ | ⟨j,y,g1,g2,es',g3,g4⟩
    ·refine .inl ⟨finds_miss hq hke g1,_,g2,?_⟩
     exact ⟨e,_,rfl,h1,h2,h3,g3⟩
    ·refine .inr ⟨j + 1,y,by rw [show i + (j + 1)=i + 1 + j by omega];exact finds_miss hq hke g1,by simpa using g2,_,g3,?_⟩
     rw [List.modify_succ_cons]
     exact ⟨e,_,rfl,h1,h2,h3,g4⟩
theorem run_zeroValue {t:TypeId} {z:AV} (h:zer P t=some z):∃ v,VRel E z v∧(zeroValue t).run P w = .ok v w:=by
 obtain ⟨i,v,hi,hv,rfl⟩:=zer_inv h
 exact ⟨v,ofV_rel E v,by simp [zeroValue,typeInfo,hi,hv]⟩
theorem lkR_rel {ok b:Bool} {v:AV} {x:Value} (h:VRel E v x):VRel E (lkR ok v b) (if ok=true then .tuple #[x,.bool b] else x):=by
 cases ok with
 | false=>exact h
 | true =>
   show VRel E (.t (.cn v (.cn (.b b) .nl))) (.tuple #[x,.bool b])
   simp only [VRel]
   exact ⟨[x,.bool b],rfl,by simp only [LRel,VRel];exact ⟨x,_,rfl,h,.bool b,[],rfl,rfl,rfl⟩⟩
theorem lk_reads (hs:Sim B E st w) (ht:TmRel E nt tm a) {t kt e:TypeId} {x y:Operand} {ok:Bool} {q:KT} {z:AV} (ho:o.op = .lookup t x y ok) (hu:P.underlying t=some (.map kt e)) (hq:keyT P kt=some q) (hz:zer P e=some z)
 (h:opLk z ok q (co x) (co y) tm st k=some r):Reads P E st w a o k r:=by
 unfold opLk at h
 have hx:=co_rel hs ht x
 have hy:=co_rel hs ht y
 have hq:=keyT_inv hq
 obtain ⟨h,hsh⟩:=ktOk_inv h
 have hag:=key_agg hy hsh
 obtain ⟨zv,hzv,hzr⟩:=run_zeroValue (E:=E) (w:=w) hz
 rcases asM_inv h with ⟨hm,h⟩ | ⟨b,hm,h⟩
 ·rw [hm] at hx
  simp only [VRel] at hx
  refine reads_of (s:=Instr.lookup t (a.eval x) (a.eval y) ok) (by unfold execOp;rw [ho]) ?_ (lkR_rel hzv) h
  have h1:=run_findKey (P:=P) (w:=w) hq (finds_nil hq hag 0)
  have h2:=run_checkKey (w:=w) hq true hy hsh
  simp [Instr.lookup,run_underlying hu,hx,h1,h2,hzr]
 ·obtain ⟨ob,hob,h⟩:=ob_inv h
  obtain ⟨es,cl,rfl,h⟩:=obM_inv h
  rw [hm] at hx
  obtain ⟨l,ar,_,hx,hb,hme⟩:=hs.map hx hob
  have h2:=run_checkKey (w:=w) hq ar.isEmpty hy hsh
  rcases mlook_inv hq hy hag es 0 hme h with ⟨h1,h⟩ | ⟨j,v,xv,h1,hv,h⟩
  ·refine reads_of (s:=Instr.lookup t (a.eval x) (a.eval y) ok) (by unfold execOp;rw [ho]) ?_ (lkR_rel hzv) h
   have h1:=run_findKey (P:=P) (w:=w) hq h1
   simp [Instr.lookup,run_underlying hu,hx,run_getObj_map hb,h1,h2,hzr]
  ·refine reads_of (s:=Instr.lookup t (a.eval x) (a.eval y) ok) (by unfold execOp;rw [ho]) ?_ (lkR_rel hv) h
   have h1:=run_findKey (P:=P) (w:=w) hq h1
   simp [Instr.lookup,run_underlying hu,hx,run_getObj_map hb,h1,h2]
def putW (w:World) (g:Nat) (ob:Obj):World:={ w with heap:=w.heap.setIfInBounds g ob }
theorem putW_self {g:Nat} (ob:Obj) (h:g < w.heap.size):(putW w g ob).heap[g]? = some ob:=by
 show (w.heap.setIfInBounds g ob)[g]? = _
 rw [Array.getElem?_setIfInBounds_self,if_pos h]
theorem putW_ne {g j:Nat} (ob:Obj) (h:j ≠ g):(putW w g ob).heap[j]? = w.heap[j]?:=by
 show (w.heap.setIfInBounds g ob)[j]? = _
 exact Array.getElem?_setIfInBounds_ne (fun e=>h e.symm)
theorem putW_below {g:Nat} (ob:Obj) (h:¬ B g):Bel B w (putW w g ob):=⟨rfl,rfl,rfl,by show w.heap.size≤(w.heap.setIfInBounds g ob).size;simp,fun j hj=>putW_ne ob (fun e=>h (e ▸ hj))⟩
theorem run_setObj {g:Nat} {x y:Obj} (h:w.heap[g]? = some y) (hy:∀ c e f,y ≠ .cells c e f):(setObj g x).run P w = .ok () (putW w g x):=by
 cases y with
 | cells c e f=>exact absurd rfl (hy c e f)
 | _=>simp [setObj,Sem.run,h,putW]
theorem run_store_skip {s:Sem Unit} {w':World} (he:execOp a.eval o=(do s;pure .skip)) (hr:s.run P w = .ok () w'):(execOp a.eval o).run P w = .ok .skip w':=by
 rw [he,Sem.run_bind,hr];rfl
theorem vrel_unit (E:Env') (v:Value) (h:v=undef):VRel E (.t .nl) v:=by
 subst h
 simp only [VRel];exact ⟨[],rfl,by simp only [LRel]⟩
theorem mu_does (hs:Sim B E st w) (ht:TmRel E nt tm a) {t kt e:TypeId} {x y v:Operand} {q:KT} (ho:o.op = .mapUpdate t x y v ∨ o.op = .insert t x y v) (hu:P.underlying t=some (.map kt e)) (hq:keyT P kt=some q)
 (h:opMu q (co x) (co y) (co v) tm st k=some r):Does P B E w a o k r:=by
 unfold opMu at h
 have hx:=co_rel hs ht x
 have hy:=co_rel hs ht y
 have hv:=co_rel hs ht v
 have hq:=keyT_inv hq
 obtain ⟨h,hsh⟩:=ktOk_inv h
 have hag:=key_agg hy hsh
 rcases asM_inv h with ⟨hm,h⟩ | ⟨b,hm,h⟩
 ·exact no_out h
 ·obtain ⟨h64,h⟩:=must_inv h
  have h64:lowN≤b:=Nat.le_of_ble_eq_true h64
  obtain ⟨ob,hob,h⟩:=ob_inv h
  obtain ⟨es,cl,rfl,h⟩:=obM_inv h
  rw [hm] at hx
  obtain ⟨l,ar,hl,hx,hb,hme⟩:=hs.map hx hob
  have hlt:=hs.lt hl
  have hown:=hs.own b _ l hlt h64 hob hl
  have hbs:l.blk < w.heap.size:=(Array.getElem?_eq_some_iff.1 hb).1
  have h2:=run_checkKey (w:=w) hq false hy hsh
  have fin:∀ (es':ME) (ar':Array MapEntry) (c':Nat),(Instr.mapUpdate t (a.eval x) (a.eval y) (a.eval v)).run P w = .ok () (putW w l.blk (.map ar' c'))→MERel E es' ar'.toList→k (.t .nl) (putO st b (some (.mp es' c')))=some r→Does P B E w a o k r:=by
   intro es' ar' c' hrun hme' hk
   refine ⟨.t .nl,undef,putW w l.blk (.map ar' c'),E,putO st b (some (.mp es' c')),r,.inr ⟨?_,rfl⟩,Env'.le_refl E,?_,putW_below _ hown,vrel_unit E _ rfl,fun _ h=>h,hk⟩
   ·refine run_store_skip ?_ hrun
    unfold execOp
    rcases ho with ho | ho <;> rw [ho]
   ·cases st with
    | mk tr nn=>exact Sim.put hs hlt h64 hl hob rfl (fun j hj=>putW_ne _ hj) ⟨ar',putW_self _ hbs,hme'⟩
  rcases mupd_inv hq hy hag hv es 0 hme h with ⟨h1,es',h,hme'⟩ | ⟨j,y',h1,⟨e',hj,hke⟩,es',h,hme'⟩
  ·have h1:=run_findKey (P:=P) (w:=w) hq h1
   refine fin es' (ar.push ⟨a.eval y,a.eval v,cl⟩) (cl + 1) ?_ (by simpa using hme') h
   simp [Instr.mapUpdate,run_underlying hu,hx,run_getObj_map hb,h1,h2,run_setObj hb (by simp)]
  ·rw [Nat.zero_add] at h1
   have h1:=run_findKey (P:=P) (w:=w) hq h1
   have hj':ar[j]? = some e':=by rw [← Array.getElem?_toList];exact hj
   refine fin es' (ar.modify j fun e=>{ e with key:=a.eval y,val:=a.eval v }) cl ?_ (by simpa using hme') h
   have h3:(Instr.keyThatStays e'.key (a.eval y)).run P w = .ok (a.eval y) w:=by
    unfold Instr.keyThatStays
    rw [if_pos hke]
    rfl
   simp [Instr.mapUpdate,run_underlying hu,hx,run_getObj_map hb,h1,h2,hj',h3,run_setObj hb (by simp)]
theorem Sim.newAt {t:T Ob} {n:Nat} (hs:Sim B E (.mk t n) w) (hB:BIn B w) (hn:n < 5000000) {x:Obj} {q:Ob} (hq:ObRel (E.with n ⟨w.heap.size,0,0,0⟩) false ⟨w.heap.size,0,0,0⟩ (w.alloc x) q) :
 E.le (E.with n ⟨w.heap.size,0,0,0⟩)∧Sim B (E.with n ⟨w.heap.size,0,0,0⟩) (.mk (T.set (pth n) (some q) t) (Nat.succ n)) (w.alloc x):=by
 have hlt:∀ s q l',s < lim→T.get (pth s) t=some q→E s=some l'→l'.blk < w.heap.size:=fun s q l' h1 h2 h3=>by
  obtain ⟨l2,hl2,ho⟩:=hs.live s q h1 h2
  rw [h3] at hl2
  cases hl2
  exact ho.there
 exact Sim.new hs hn hB.out (by show w.heap.size≤(w.heap.push _).size;simp) (fun _ s q l' h1 h2 _ h3=>by have:=hlt s q l' h1 h2 h3;show l'.blk ≠ w.heap.size;omega) (fun s q l' h1 h2 _ h3=>Below.heap_alloc _ _ _ (hlt s q l' h1 h2 h3)) hq
theorem alloc_new (w:World) (x:Obj):(w.alloc x).heap[w.heap.size]? = some x:=by
 show (w.heap.push x)[w.heap.size]? = _
 simp
theorem rs_does (hs:Sim B E st w) (hB:BIn B w) (ht:TmRel E nt tm a) {t:TypeId} {x:Operand} (ho:o.op = .range t x) (hu:P.underlying t=some .string) (h:opRs (co x) tm st k=some r):Does P B E w a o k r:=by
 unfold opRs at h
 obtain ⟨l,hl,h⟩:=asS_inv h
 have hx:=co_rel hs ht x
 rw [hl] at hx
 simp only [VRel] at hx
 obtain ⟨s,hx,hsl⟩:=hx
 obtain ⟨tr,nn,rfl,hnn,h⟩:=newO_inv h
 obtain ⟨hle,hs'⟩:=Sim.newAt hs hB hnn (x:=.stringIter s 0) (q:=.si 0 l) ⟨rfl,s,alloc_new w _,by simpa using hsl⟩
 refine ⟨_,.pointer (some ⟨w.heap.size,0,none⟩),_,_,_,_,.inl ?_,hle,hs',(Bel.refl B w).alloc hB _,?_,fun _ h=>h,h⟩
 ·unfold execOp
  rw [ho]
  simp [Instr.range,run_underlying hu,hx,newObj,Sem.run]
 ·simp only [VRel]
  exact ⟨_,Env'.with_self _ _ _,rfl⟩
theorem rm_does (hs:Sim B E st w) (hB:BIn B w) (ht:TmRel E nt tm a) {t kt e:TypeId} {x:Operand} (ho:o.op = .range t x) (hu:P.underlying t=some (.map kt e)) (h:opRm (co x) tm st k=some r):Does P B E w a o k r:=by
 unfold opRm at h
 have hx:=co_rel hs ht x
 rcases asM_inv h with ⟨hm,h⟩ | ⟨b,hm,h⟩
 ·rw [hm] at hx
  simp only [VRel] at hx
  obtain ⟨tr,nn,rfl,hnn,h⟩:=newO_inv h
  obtain ⟨hle,hs'⟩:=Sim.newAt hs hB hnn (x:=.mapIter none 0 #[] 0) (q:=.m0i) ⟨rfl,alloc_new w _⟩
  refine ⟨_,.pointer (some ⟨w.heap.size,0,none⟩),_,_,_,_,.inl ?_,hle,hs',(Bel.refl B w).alloc hB _,?_,fun _ h=>h,h⟩
  ·unfold execOp
   rw [ho]
   simp [Instr.range,run_underlying hu,hx,newObj,Sem.run]
  ·simp only [VRel]
   exact ⟨_,Env'.with_self _ _ _,rfl⟩
 ·obtain ⟨ob,hob,h⟩:=ob_inv h
  obtain ⟨es,cl,rfl,h⟩:=obM_inv h
  rw [hm] at hx
  obtain ⟨l,ar,hl,hx,hb,hme⟩:=hs.map hx hob
  obtain ⟨tr,nn,rfl,hnn,h⟩:=newO_inv h
  have hle':=Env'.le_with (l:=⟨w.heap.size,0,0,0⟩) (hs.fresh nn (Nat.le_refl nn))
  obtain ⟨hle,hs'⟩:=Sim.newAt hs hB hnn (x:=.mapIter (some l.blk) cl #[] cl) (q:=.mi b cl [] cl) ⟨rfl,l,hle' b l hl,alloc_new w _⟩
  refine ⟨_,.pointer (some ⟨w.heap.size,0,none⟩),_,_,_,_,.inl ?_,hle,hs',(Bel.refl B w).alloc hB _,?_,fun _ h=>h,h⟩
  ·unfold execOp
   rw [ho]
   have hg:=run_getObj_map (P:=P) hb
   simp [Instr.range,run_underlying hu,hx,hg,newObj,Sem.run]
  ·simp only [VRel]
   exact ⟨_,Env'.with_self _ _ _,rfl⟩
end
end Go.AM
namespace Go.AM
open Go.RowKit
section
variable {P:Program} {B:Bds} {E:Env'} {st:St} {w:World} {nt:Nat} {tm:Tm} {a:Act} {k:K} {r:List (AV × St)} {o:Oper}
theorem vrel_over:VRel E (.t (.cn (.b false) .nl)) (.tuple #[.bool false]):=by
 simp only [VRel]
 exact ⟨[.bool false],rfl,by simp only [LRel,VRel];exact ⟨_,[],rfl,rfl,rfl⟩⟩
theorem vrel_step {x y:AV} {u v:Value} (h1:VRel E x u) (h2:VRel E y v):VRel E (.t (.cn (.b true) (.cn x (.cn y .nl)))) (.tuple #[.bool true,u,v]):=by
 simp only [VRel]
 refine ⟨[.bool true,u,v],rfl,?_⟩
 simp only [LRel,VRel]
 exact ⟨_,_,rfl,rfl,u,_,rfl,h1,v,[],rfl,h2,rfl⟩
theorem getObj_run {g:Nat} {x:Obj} (h:w.heap[g]? = some x) (hx:∀ c e f,x ≠ .cells c e f):(getObj g).run P w = .ok x w:=by
 cases x with
 | cells c e f=>exact absurd rfl (hx c e f)
 | _=>simp [getObj,Sem.run,h]
theorem Sim.kill' (hs:Sim B E st w) {b:Nat} (h:b < lim):Sim B E (putO st b none) w:=by
 cases st;exact Sim.kill hs h
theorem Sim.put' (hs:Sim B E st w) {b:Nat} {w':World} (hr:b < lim) (h64:lowN≤b) {l:Loc} {q q':Ob} (hl:E b=some l) (hq:T.get (pth b) st.h=some q) (hal:q.isAl=false)
 (hkeep:∀ k,k ≠ l.blk→w'.heap[k]? = w.heap[k]?) (ho:ObRel E false l w' q'):Sim B E (putO st b (some q')) w':=by
 cases st;exact Sim.put hs hr h64 hl hq hal hkeep ho
theorem Sim.iter (hs:Sim B E st w) {b:Nat} {v:Value} (hv:VRel E (.p b 0) v) {q:Ob} (hq:T.get (pth b) st.h=some q) (hz:∀ l,ObRel E (Nat.blt b lowN) l w q→l.base=0) :
 ∃ l,E b=some l∧v = .pointer (some ⟨l.blk,0,none⟩)∧ObRel E (Nat.blt b lowN) l w q:=by
 obtain ⟨l,hl,hv,hr⟩:=hs.at hv hq
 refine ⟨l,hl,?_,hr⟩
 rw [hv,hz l hr]
theorem exec_next {x:Operand} {s:Bool} (ho:o.op = .next x s):execOp a.eval o=(do pure (.value (← Instr.next (a.eval x) s o.type))):=by
 unfold execOp;rw [ho]
theorem beq_nat (n m:Nat):Nat.beq n m=(n == m):=by
 rw [Bool.eq_iff_iff];simp
theorem ns_does (hs:Sim B E st w) (ht:TmRel E nt tm a) {x:Operand} (ho:o.op = .next x true) (h:opNs (co x) tm st k=some r):Does P B E w a o k r:=by
 unfold opNs at h
 obtain ⟨b,p,he,h⟩:=asP_inv h
 obtain ⟨h0,h1⟩:=must_inv h
 obtain ⟨h64,h2⟩:=must_inv h1
 clear h h1
 have h64:lowN≤b:=Nat.le_of_ble_eq_true h64
 have h0:=Nat.eq_of_beq_eq_true h0
 subst h0
 obtain ⟨q,hq,h3⟩:=ob_inv h2
 clear h2
 obtain ⟨pos,rest,rfl,h⟩:=obS_inv h3
 have hx:=co_rel hs ht x
 rw [he] at hx
 obtain ⟨l,hl,hv,hr⟩:=hs.iter hx hq (fun l h=>h.1)
 obtain ⟨hbase,s,hb,hrest⟩:=hr
 have hlt:=hs.lt hl
 have hown:=hs.own b _ l hlt h64 hq hl
 have hbs:l.blk < w.heap.size:=(Array.getElem?_eq_some_iff.1 hb).1
 have hg:=getObj_run (P:=P) hb (fun _ _ _ h=>by cases h)
 have hsz:s.data.toList.length=s.size:=Array.length_toList
 cases rest with
 | nil =>
   have h:k (.t (.cn (.b false) .nl)) st=some r:=h
   have hpos:¬ pos < s.size:=by
    have:=congrArg List.length hrest
    simp only [List.length_map,List.length_drop,List.length_nil] at this
    omega
   refine Reads.does (reads_of (s:=Instr.next (a.eval x) true o.type) (by unfold execOp;rw [ho]) ?_ vrel_over h) hs
   rw [hv]
   simp [Instr.next,hg,hpos]
 | cons c rest =>
   obtain ⟨hc,h⟩:=must_inv (show must (Nat.blt c 128) (k (.t (.cn (.b true) (.cn (.i .i64 (.ofNat pos)) (.cn (.i .i32 (.ofNat c)) .nl)))) (putO st b (some (.si (Nat.succ pos) rest))))=some r from h)
   have hc:=blt_lt hc
   have hpos:pos < s.size:=by
    have:=congrArg List.length hrest
    simp only [List.length_map,List.length_drop,List.length_cons] at this
    omega
   have hd:s.data.toList.drop pos=s.data.toList[pos] :: s.data.toList.drop (pos + 1):=List.drop_eq_getElem_cons (by omega)
   rw [hd,List.map_cons] at hrest
   have hc1:(s.data.toList[pos]'(by omega)).toNat=c:=(List.cons.inj hrest).1
   have hr1:=(List.cons.inj hrest).2
   have hsp:(s[pos]'hpos).toNat=c:=by rw [← hc1];rfl
   have hdec:=decode_ascii s pos hpos (by omega)
   rw [hsp] at hdec
   refine ⟨_,.tuple #[.bool true,goInt pos,.int .i32 c],putW w l.blk (.stringIter s (pos + 1)),E,putO st b (some (.si (Nat.succ pos) rest)),r,.inl ?_,Env'.le_refl E,hs.put' (q':=.si (Nat.succ pos) rest) hlt h64 hl hq rfl (fun j hj=>putW_ne _ hj) ⟨hbase,s,putW_self _ hbs,hr1⟩,putW_below _ hown,?_,fun _ h=>h,h⟩
   ·rw [exec_next ho,hv]
    have hset:=run_setObj (P:=P) (x:=.stringIter s (pos + 1)) hb (fun _ _ _ h=>by cases h)
    simp [Instr.next,hg,hpos,hdec,hset]
   ·exact vrel_step (by simp only [VRel,goInt];rfl) (by simp only [VRel];rfl)
theorem memb_eq (n:Nat):∀ l:List Nat,memb n l=l.contains n
 | []=>rfl
 | m :: l=>by
   have:memb n (m :: l)=(Nat.beq n m || memb n l):=rfl
   rw [this,memb_eq n l,List.contains_cons,beq_nat]
theorem isE_eq (l:List Nat):isE l=l.isEmpty:=by cases l <;> rfl
theorem isME_eq {es:ME} {l:List MapEntry} (h:MERel E es l):isME es=l.isEmpty:=by
 cases es with
 | nil=>simp only [MERel] at h;subst h;rfl
 | cons=>obtain ⟨e,m,rfl,_⟩:=h;rfl
theorem blt_eq (a b:Nat):Nat.blt a b=decide (a < b):=by
 rw [Bool.eq_iff_iff,Nat.blt_eq,decide_eq_true_iff]
theorem anyOld_eq:∀ {es:ME} {l:List MapEntry} (n:Nat),MERel E es l→anyOld es n=l.any (fun e=>decide (e.born < n)):=by
 intro es
 induction es with
 | nil=>intro l n h;simp only [MERel] at h;subst h;rfl
 | cons k v m rest ih =>
   intro l n h
   obtain ⟨e,t,rfl,_,_,h3,h4⟩:=h
   have:anyOld (.cons k v m rest) n=(Nat.blt m n || anyOld rest n):=rfl
   rw [this,ih n h4,List.any_cons,blt_eq,h3]
theorem oldLeft_eq:∀ {es:ME} {l:List MapEntry} (seen:List Nat) (n:Nat),MERel E es l→oldLeft es seen n=l.any (fun e=>!seen.contains e.born && decide (e.born < n)):=by
 intro es
 induction es with
 | nil=>intro l seen n h;simp only [MERel] at h;subst h;rfl
 | cons k v m rest ih =>
   intro l seen n h
   obtain ⟨e,t,rfl,_,_,h3,h4⟩:=h
   have:oldLeft (.cons k v m rest) seen n=((!memb m seen && Nat.blt m n) || oldLeft rest seen n):=rfl
   rw [this,ih seen n h4,List.any_cons,blt_eq,h3,memb_eq]
theorem eachL_inv {f:AV→AV→Nat→Out} {z:Out} {seen:List Nat}:∀ {es:ME} {l:List MapEntry} {r:List (AV × St)},MERel E es l→eachL es seen f z=some r →
 (∃ r',z=some r'∧∀ x ∈ r',x ∈ r)∧∀ e ∈ l,seen.contains e.born=false→∃ k v r',VRel E k e.key∧VRel E v e.val∧f k v e.born=some r'∧∀ x ∈ r',x ∈ r:=by
 intro es
 induction es with
 | nil =>
   intro l r h h1
   simp only [MERel] at h
   subst h
   exact ⟨⟨r,h1,fun _ h=>h⟩,fun e he=>by cases he⟩
 | cons k v m rest ih =>
   intro l r h h1
   obtain ⟨e,t,rfl,g1,g2,g3,g4⟩:=h
   rcases iff_inv (show iff (memb m seen) (eachL rest seen f z) (both (f k v m) (eachL rest seen f z))=some r from h1) with ⟨hm,h1⟩ | ⟨hm,h1⟩
   ·obtain ⟨h2,h3⟩:=ih g4 h1
    refine ⟨h2,fun e' he' hs'=>?_⟩
    rcases List.mem_cons.1 he' with rfl | he'
    ·rw [memb_eq,← g3,hs'] at hm;cases hm
    ·exact h3 e' he' hs'
   ·obtain ⟨ra,rb,ha,hb,rfl⟩:=both_inv h1
    obtain ⟨⟨rz,hz,hzs⟩,h3⟩:=ih g4 hb
    refine ⟨⟨rz,hz,fun x hx=>List.mem_append_right _ (hzs x hx)⟩,fun e' he' hs'=>?_⟩
    rcases List.mem_cons.1 he' with rfl | he'
    ·exact ⟨k,v,ra,g1,g2,by rw [g3];exact ha,fun x hx=>List.mem_append_left _ hx⟩
    ·obtain ⟨k',v',r',i1,i2,i3,i4⟩:=h3 e' he' hs'
     exact ⟨k',v',r',i1,i2,i3,fun x hx=>List.mem_append_right _ (i4 x hx)⟩
theorem run_choose_some {α:Type} (c:Array α) (hc:0 < c.size):∃ j w1,j < c.size∧(w1=w ∨ w1=w.drew)∧(choose (.mapNext c.size)).run P w = .ok j w1:=by
 by_cases hf:c.size≤1
 ·exact ⟨0,w,hc,.inl rfl,by simp [choose,Sem.run,Question.forced,hf]⟩
 ·exact ⟨_,w.drew,Nat.mod_lt _ hc,.inr rfl,by
   simp only [choose,Sem.run,Question.forced,decide_eq_true_eq,hf,if_false,Question.cut]
   rfl⟩
theorem nm_does (hs:Sim B E st w) (ht:TmRel E nt tm a) {x:Operand} (ho:o.op = .next x false) (h:opNm (co x) tm st k=some r):Does P B E w a o k r:=by
 unfold opNm at h
 obtain ⟨b,p,he,h⟩:=asP_inv h
 obtain ⟨h0,h1⟩:=must_inv h
 obtain ⟨h64,h2⟩:=must_inv h1
 clear h h1
 have h64:lowN≤b:=Nat.le_of_ble_eq_true h64
 have h0:=Nat.eq_of_beq_eq_true h0
 subst h0
 obtain ⟨q,hq,h3⟩:=ob_inv h2
 clear h2
 have hx:=co_rel hs ht x
 rw [he] at hx
 rcases obI_inv h3 with ⟨rfl,h⟩ | ⟨m,since,seen,last,rfl,h⟩
 ·obtain ⟨l,hl,hv,hr⟩:=hs.iter hx hq (fun l h=>h.1)
  have hg:=getObj_run (P:=P) hr.2 (fun _ _ _ h=>by cases h)
  refine ⟨_,.tuple #[.bool false],w,E,_,r,.inl ?_,Env'.le_refl E,hs.kill' (hs.lt hl),Bel.refl B w,vrel_over,fun _ h=>h,h⟩
  rw [exec_next ho,hv]
  simp [Instr.next,hg]
 ·obtain ⟨l,hl,hv,hr⟩:=hs.iter hx hq (fun l h=>h.1)
  obtain ⟨hbase,lm,hlm,hb⟩:=hr
  have hlt:=hs.lt hl
  have hown:=hs.own b _ l hlt h64 hq hl
  have hbs:l.blk < w.heap.size:=(Array.getElem?_eq_some_iff.1 hb).1
  obtain ⟨q2,hq2,h⟩:=ob_inv h
  obtain ⟨es,c,rfl,h⟩:=obM_inv h
  obtain ⟨hold,h⟩:=must_inv h
  obtain ⟨lm',hlm',ar,hm,hme⟩:=hs.live m _ (hs.lt hlm) hq2
  rw [hlm] at hlm'
  cases hlm'
  have hg:=getObj_run (P:=P) hb (fun _ _ _ h=>by cases h)
  have hg2:=run_getObj_map (P:=P) hm
  obtain ⟨⟨rz,hz,hzs⟩,heach⟩:=eachL_inv hme h
  have htest:(!seen.toArray.isEmpty && !ar.isEmpty && ar.all (fun e=>decide (e.born ≥ last)))=false:=by
   rw [isE_eq,isME_eq hme,anyOld_eq last hme] at hold
   cases h1:seen.isEmpty with
   | true=>simp [h1]
   | false =>
     cases h2:ar.toList.isEmpty with
     | true=>simp [Array.isEmpty_toList] at h2;simp [h2]
     | false =>
       rw [h1,h2] at hold
       have hold:ar.toList.any (fun e=>decide (e.born < last))=true:=hold
       obtain ⟨e,he1,he2⟩:=List.any_eq_true.1 hold
       have he2:e.born < last:=by simpa using he2
       have:ar.all (fun e=>decide (e.born ≥ last))=false:=by
        rw [Bool.eq_false_iff]
        intro hall
        rw [Array.all_eq_true_iff_forall_mem] at hall
        have:=hall e (by simpa using he1)
        simp at this
        omega
       simp [this]
  generalize hcand:((if ((ar.filter fun e=>!seen.toArray.contains e.born).filter (fun x=>decide (x.born < since))).isEmpty=true then #[none] else #[]) ++ (((ar.filter fun e=>!seen.toArray.contains e.born).filter (fun x=>decide (x.born < since))) ++ ((ar.filter fun e=>!seen.toArray.contains e.born).filter (fun x=>decide (x.born ≥ since)))).map some:Array (Option MapEntry))=cand
  have hpos:0 < cand.size:=by
   rw [← hcand]
   split
   ·simp;omega
   ·rename_i hne
    simp only [Array.isEmpty_iff] at hne
    have:0 < ((ar.filter fun e=>!seen.toArray.contains e.born).filter (fun x=>decide (x.born < since))).size:=Array.size_pos_iff.2 hne
    simp only [Array.size_append,Array.size_map]
    omega
  obtain ⟨j,w1,hj,hw1,hch⟩:=run_choose_some (P:=P) (w:=w) cand hpos
  have hheap:w1.heap=w.heap:=by rcases hw1 with rfl | rfl <;> rfl
  have hbel:Bel B w w1:=by
   rcases hw1 with rfl | rfl
   ·exact Bel.refl B _
   ·exact (Bel.refl B w).drew
  have hs1:=hs.same hheap
  have hrun:∀ y,cand[j]=y→(execOp a.eval o).run P w=(match y with
   | some e=>(do setObj l.blk (.mapIter (some lm.blk) since (seen.toArray.push e.born) c);pure (Next.value (.tuple #[.bool true,e.key,e.val])):Sem Next)
   | none=>pure (Next.value (.tuple #[.bool false]))).run P w1:=by
   intro y hy
   rw [exec_next ho,hv]
   simp only [Instr.next,Sem.run_bind,hg,hg2,Result.andThen_ok,htest,Bool.false_eq_true,if_false,hcand,hch,Array.getElem?_eq_getElem hj,hy]
   cases y with
   | none=>simp
   | some e =>
     simp only [List.push_toArray,Sem.run_bind]
     generalize Sem.run P (setObj l.blk (Obj.mapIter (some lm.blk) since (seen ++ [e.born]).toArray c)) w1=z
     cases z <;> simp
  cases hy:cand[j] with
  | none =>
    have hmem:none ∈ cand:=hy ▸ Array.getElem_mem hj
    have hemp:((ar.filter fun e=>!seen.toArray.contains e.born).filter (fun x=>decide (x.born < since))).isEmpty=true:=by
     rw [← hcand] at hmem
     split at hmem
     ·assumption
     ·simp at hmem
    have hol:oldLeft es seen since=false:=by
     rw [oldLeft_eq seen since hme,List.any_eq_false]
     intro e he hp
     rw [Bool.and_eq_true] at hp
     have hin:e ∈ (ar.filter fun e=>!seen.toArray.contains e.born).filter (fun x=>decide (x.born < since)):=by
      rw [Array.mem_filter,Array.mem_filter]
      exact ⟨⟨by simpa using he,by simpa using hp.1⟩,hp.2⟩
     rw [Array.isEmpty_iff] at hemp
     rw [hemp] at hin
     simp at hin
    rw [hol] at hz
    have hz:k (.t (.cn (.b false) .nl)) (putO st b none)=some rz:=hz
    exact ⟨_,.tuple #[.bool false],w1,E,_,rz,.inl (by rw [hrun none hy];rfl),Env'.le_refl E,hs1.kill' hlt,hbel,vrel_over,hzs,hz⟩
  | some e =>
    have hmem:some e ∈ cand:=hy ▸ Array.getElem_mem hj
    have he:e ∈ ar∧seen.contains e.born=false:=by
     rw [← hcand] at hmem
     rcases Array.mem_append.1 hmem with h1 | h1
     ·split at h1
      ·simp at h1
      ·simp at h1
     ·obtain ⟨x,hx,hxe⟩:=Array.mem_map.1 h1
      cases hxe
      rcases Array.mem_append.1 hx with h2 | h2
      ·have h3:=(Array.mem_filter.1 (Array.mem_filter.1 h2).1)
       exact ⟨h3.1,by simpa using h3.2⟩
      ·have h3:=(Array.mem_filter.1 (Array.mem_filter.1 h2).1)
       exact ⟨h3.1,by simpa using h3.2⟩
    obtain ⟨kk,vv,r',h1,h2,h3,h4⟩:=heach e (by simpa using he.1) he.2
    have hb1:w1.heap[l.blk]? = some (.mapIter (some lm.blk) since seen.toArray last):=by rw [hheap];exact hb
    refine ⟨_,.tuple #[.bool true,e.key,e.val],putW w1 l.blk (.mapIter (some lm.blk) since (seen.toArray.push e.born) c),E,_,r',.inl ?_,Env'.le_refl E,hs1.put' (q':=.mi m since (seen ++ [e.born]) c) hlt h64 hl hq rfl (fun j hj=>putW_ne _ hj) ⟨hbase,lm,hlm,?_⟩,hbel.trans (putW_below _ hown),vrel_step h1 h2,h4,h3⟩
    ·rw [hrun (some e) hy]
     have hset:=run_setObj (P:=P) (x:=.mapIter (some lm.blk) since (seen ++ [e.born]).toArray c) hb1 (fun _ _ _ h=>by cases h)
     simp [hset]
    ·rw [putW_self _ (by rw [hheap];exact hbs)]
     simp
theorem lastN_eq:∀ l:List Nat,isE l=false→l.getLast? = some (lastN l)
 | [],h=>by cases h
 | [x],_=>rfl
 | x :: y :: l,_=>by
   have:=lastN_eq (y :: l) rfl
   rw [List.getLast?_cons_cons,this]
   rfl
theorem bornM_inv {f:AV→AV→Out}:∀ {es:ME} {l:List MapEntry} {n:Nat},MERel E es l→bornM es n f=some r→∃ e k v,l.find? (fun e=>e.born == n)=some e∧VRel E k e.key∧VRel E v e.val∧f k v=some r:=by
 intro es
 induction es with
 | nil=>intro l n _ h;exact no_out h
 | cons k v m rest ih =>
   intro l n h h1
   obtain ⟨e,t,rfl,g1,g2,g3,g4⟩:=h
   rcases iff_inv (show iff (Nat.beq m n) (f k v) (bornM rest n f)=some r from h1) with ⟨hm,h1⟩ | ⟨hm,h1⟩
   ·exact ⟨e,k,v,by rw [List.find?_cons];simp [g3,Nat.eq_of_beq_eq_true hm],g1,g2,h1⟩
   ·obtain ⟨e',k',v',i1,i2,i3,i4⟩:=ih g4 h1
    refine ⟨e',k',v',?_,i2,i3,i4⟩
    rw [List.find?_cons]
    have:(e.born == n)=false:=by rw [g3,← beq_nat];exact hm
    rw [this]
    exact i1
theorem vrel_pair {x y:AV} {u v:Value} (h1:VRel E x u) (h2:VRel E y v):VRel E (.t (.cn x (.cn y .nl))) (.tuple #[u,v]):=by
 simp only [VRel]
 refine ⟨[u,v],rfl,?_⟩
 simp only [LRel]
 exact ⟨u,_,rfl,h1,v,[],rfl,h2,rfl⟩
theorem en_reads (hs:Sim B E st w) (ht:TmRel E nt tm a) {x:Operand} (ho:o.op = .entry x) (h:opEn (co x) tm st k=some r):Reads P E st w a o k r:=by
 unfold opEn at h
 obtain ⟨b,p,he,h⟩:=asP_inv h
 obtain ⟨h0,h1⟩:=must_inv h
 clear h
 have h0:=Nat.eq_of_beq_eq_true h0
 subst h0
 obtain ⟨q,hq,h3⟩:=ob_inv h1
 clear h1
 have hx:=co_rel hs ht x
 rw [he] at hx
 rcases obI_inv h3 with ⟨rfl,h⟩ | ⟨m,since,seen,last,rfl,h⟩
 ·exact no_out h
 ·obtain ⟨l,hl,hv,hr⟩:=hs.iter hx hq (fun l h=>h.1)
  obtain ⟨hbase,lm,hlm,hb⟩:=hr
  obtain ⟨hne,h⟩:=must_inv h
  obtain ⟨q2,hq2,h⟩:=ob_inv h
  obtain ⟨es,c,rfl,h4⟩:=obM_inv h
  obtain ⟨hc,h5⟩:=must_inv h4
  have hc:=Nat.eq_of_beq_eq_true hc
  clear h h4
  subst hc
  obtain ⟨lm',hlm',ar,hm,hme⟩:=hs.live m _ (hs.lt hlm) hq2
  rw [hlm] at hlm'
  cases hlm'
  have hg:=getObj_run (P:=P) hb (fun _ _ _ h=>by cases h)
  have hg2:=run_getObj_map (P:=P) hm
  obtain ⟨e,kk,vv,i1,i2,i3,i4⟩:=bornM_inv hme h5
  have hne:isE seen=false:=by cases hE:isE seen with
   | false=>rfl
   | true=>rw [hE] at hne;cases hne
  have hlast:=lastN_eq seen hne
  refine reads_of (s:=Instr.entry (a.eval x)) (u:=.tuple #[e.key,e.val]) (by unfold execOp;rw [ho]) ?_ (vrel_pair i2 i3) i4
  have hback:seen.toArray.back? = some (lastN seen):=by rw [List.back?_toArray];exact hlast
  have hfind:ar.find? (fun e=>e.born == lastN seen)=some e:=by rw [← Array.find?_toList];exact i1
  rw [hv]
  simp [Instr.entry,hg,hg2,hback,hfind]
end
end Go.AM
namespace Go.AM
open Go.RowKit
theorem zeroCells_get (zc:Array Value) (n:Nat) {j:Nat} (hj:j < n * zc.size):(Builtin.zeroCells zc n)[j]? = zc[j % zc.size]?:=by
 have hp:0 < zc.size:=Nat.pos_of_ne_zero (fun e=>by rw [e] at hj;omega)
 unfold Builtin.zeroCells
 rw [Array.getElem?_map,Array.getElem?_range,if_pos hj]
 simp [Nat.mod_lt j hp]
theorem zeroCells_one {zc:Array Value} {n:Nat} (h:∀ v ∈ zc.toList,v.oneCell' = true):∀ u ∈ (Builtin.zeroCells zc n).toList,u.oneCell' = true:=by
 intro u hu
 obtain ⟨j,hj,hv⟩:=List.mem_iff_getElem.1 hu
 have hj':j < n * zc.size:=by simpa [size_zeroCells] using hj
 have hp:0 < zc.size:=Nat.pos_of_ne_zero (fun e=>by rw [e] at hj';omega)
 have g:=zeroCells_get zc n hj'
 rw [← Array.getElem?_toList,List.getElem?_eq_getElem hj,hv,Array.getElem?_eq_getElem (Nat.mod_lt j hp)] at g
 have g:u=zc[j % zc.size]'(Nat.mod_lt j hp):=by simpa using g
 rw [g]
 exact h _ (by simp)
section
variable {P:Program} {B:Bds} {E:Env'} {st:St} {w:World} {nt:Nat} {tm:Tm} {a:Act} {k:K} {r:List (AV × St)} {o:Oper}
theorem wrap64_small (m:Nat) (h:m≤5000000):IntKind.i64.wrap (m:Int)=m:=by
 have:=IntWalk.i64_in (m:Int) (by omega)
 exact this
theorem run_asInt (q:IntKind) (n:Int):(asInt (.int q n)).run P w = .ok n w:=by simp [asInt,asIntOf]
theorem run_append_zero {t u ty e:TypeId} {i:TypeInfo} {q q':IntKind} (ht:P.underlying t=some (.slice e)) (hu:P.underlying u=some (.int q)) (hi:P.info? e=some i) (base:Option Addr) {n cap:Nat} (hn:n≤cap) :
 (Builtin.append_ #[t,u] ty #[.slice base n cap,.int q' 0]).run P w = .ok (.slice base n cap) w:=by
 have h0:IntKind.i64.wrap 0=0:=wrap64_small 0 (by omega)
 cases base with
 | none=>simp [Builtin.append_,run_underlying ht,run_underlying hu,sizeOf,typeInfo,hi,hn,run_asInt,h0]
 | some q=>simp [Builtin.append_,run_underlying ht,run_underlying hu,sizeOf,typeInfo,hi,hn,run_asInt,h0,storeCells]
theorem zeroCells_nil {z:Value} {s m:Nat} (hs:z.cells.size=s) (h:m * s=0):Builtin.zeroCells z.cells m = #[]:=by
 apply Array.eq_empty_of_size_eq_zero
 rw [size_zeroCells,hs];exact h
theorem run_append_zeros_nil {t u ty e:TypeId} {i:TypeInfo} {z:Value} {q q':IntKind} (ht:P.underlying t=some (.slice e)) (hu:P.underlying u=some (.int q)) (hi:P.info? e=some i) (hz:i.zero=some z) (hs:z.cells.size=i.size) {m:Nat} (h0:0 < m) (hm:m≤5000000) (hb:i.bytes≤16777216) :
 (Builtin.append_ #[t,u] ty #[.slice none 0 0,.int q' (m:Int)]).run P w =
   .ok (.slice (some ⟨w.heap.size,0,none⟩) m (grownCap w m 0 e)) (w.drew.alloc (.cells (Builtin.zeroCells z.cells m ++ Builtin.zeroCells z.cells (grownCap w m 0 e - m)) e)):=by
 have hw:=wrap64_small m hm
 have hmb:m * i.bytes≤5000000 * 16777216:=Nat.mul_le_mul hm hb
 have h48:¬ (281474976710656 < (m:Int) * (i.bytes:Int)):=by
  have:((m * i.bytes:Nat):Int)≤5000000 * 16777216:=by omega
  rw [Int.natCast_mul] at this
  omega
 have hn:m ≠ 0:=by omega
 have hneg:¬ ((m:Int) < 0):=by omega
 have h63':¬ (9223372036854775807 < (m:Int)):=by omega
 have h48':¬ (281474976710656 < Builtin.nextslicecap m 0 * i.bytes):=by rw [nextslicecap_zero h0];omega
 simp [Builtin.append_,run_underlying ht,run_underlying hu,sizeOf,typeInfo,zeroValue,hi,hz,hn,hw,hneg,h48,h63',h48',Question.forced,run_firstCells_none,newRow,grownCap,run_asInt]
 intro h
 rw [zeroCells_nil hs h]
 simp
theorem run_append_zeros_mid {t u ty e:TypeId} {i:TypeInfo} {z:Value} {q q':IntKind} (ht:P.underlying t=some (.slice e)) (hu:P.underlying u=some (.int q)) (hi:P.info? e=some i) (hz:i.zero=some z) (hs:z.cells.size=i.size) {m:Nat} (hm:m≤5000000) (hb:i.bytes≤16777216)
 {g off sLen sCap:Nat} {cur:Array Value} (hg:w.heap[g]? = some (.cells cur e (0,0))) (h1:∀ u ∈ (Builtin.zeroCells z.cells m).toList,u.oneCell' = true)
 (hroom:sLen + m≤sCap) (hfit:off + sLen * i.size + (Builtin.zeroCells z.cells m).toList.length≤cur.size) :
 (Builtin.append_ #[t,u] ty #[.slice (some ⟨g,off,none⟩) sLen sCap,.int q' (m:Int)]).run P w =
   .ok (.slice (some ⟨g,off,none⟩) (sLen + m) sCap) (w.setRow g (cur.toList.take (off + sLen * i.size) ++ (Builtin.zeroCells z.cells m).toList ++ cur.toList.drop (off + sLen * i.size + (Builtin.zeroCells z.cells m).toList.length)).toArray):=by
 have hw:=wrap64_small m hm
 have hmb:m * i.bytes≤5000000 * 16777216:=Nat.mul_le_mul hm hb
 have h48:¬ (281474976710656 < (m:Int) * (i.bytes:Int)):=by
  have:((m * i.bytes:Nat):Int)≤5000000 * 16777216:=by omega
  rw [Int.natCast_mul] at this
  omega
 have hneg:¬ ((m:Int) < 0):=by omega
 have hst:=run_storeCells_at P g (off + sLen * i.size) e (Builtin.zeroCells z.cells m).toList 0 cur w hg (by simpa using hfit) h1
 simp only [Nat.add_zero] at hst
 by_cases h:m * i.size=0
 ·have hz0:=zeroCells_nil hs h
  rw [hz0] at hst ⊢
  simp [Builtin.append_,run_underlying ht,run_underlying hu,sizeOf,typeInfo,zeroValue,hi,hw,hneg,h48,hroom,run_asInt,h,Addr.add_mid]
  simp at hst
  simp [hst]
 ·have hd:¬ (m * i.size=0):=h
  simp only [Nat.mul_eq_zero,not_or] at h
  simp [Builtin.append_,run_underlying ht,run_underlying hu,sizeOf,typeInfo,zeroValue,hi,hz,hw,hneg,h48,hroom,run_asInt,Addr.add_mid,hst]
  exact fun e=>absurd e hd
theorem run_append_zeros_grow {t u ty e:TypeId} {i:TypeInfo} {z:Value} {q q':IntKind} (ht:P.underlying t=some (.slice e)) (hu:P.underlying u=some (.int q)) (hi:P.info? e=some i) (hz:i.zero=some z) (hs:z.cells.size=i.size) {m:Nat} (hm:m≤5000000) (hb:i.bytes≤16777216)
 (b:Addr) (sLen sCap:Nat) (olds:List Value) (hlo:olds.length=sLen * i.size) (holds:∀ j v,olds[j]? = some v→w.cell? (b.add j)=some v)
 (hg:sCap < sLen + m) (hsm:sLen + m≤5000000) :
 (Builtin.append_ #[t,u] ty #[.slice (some b) sLen sCap,.int q' (m:Int)]).run P w =
   .ok (.slice (some ⟨w.heap.size,0,none⟩) (sLen + m) (grownCap w (sLen + m) sCap e))
    (w.drew.alloc (.cells (olds.toArray ++ (Builtin.zeroCells z.cells m).toList.toArray ++ Builtin.zeroCells z.cells (grownCap w (sLen + m) sCap e - (sLen + m))) e)):=by
 have hw:=wrap64_small m hm
 have hmb:m * i.bytes≤5000000 * 16777216:=Nat.mul_le_mul hm hb
 have hmb2:(sLen + m) * i.bytes≤5000000 * 16777216:=Nat.mul_le_mul hsm hb
 have h48:¬ (281474976710656 < (m:Int) * (i.bytes:Int)):=by
  have:((m * i.bytes:Nat):Int)≤5000000 * 16777216:=by omega
  rw [Int.natCast_mul] at this
  omega
 have hneg:¬ ((m:Int) < 0):=by omega
 have hn:¬ (sLen + m≤sCap):=by omega
 have h63':¬ (9223372036854775807 < ((sLen:Int) + (m:Int))):=by omega
 have hfit:=growslice_fits hg (show (sLen + m) * i.bytes≤140737488355328 by omega)
 have h48':¬ (281474976710656 < Builtin.nextslicecap (sLen + m) sCap * i.bytes):=by omega
 have hfo:=run_firstCells_some (P:=P) w.drew i.size sLen b sLen sCap olds hlo (by simpa using holds)
 by_cases h:m * i.size=0
 ·have hz0:=zeroCells_nil hs h
  rw [hz0]
  simp [Builtin.append_,run_underlying ht,run_underlying hu,sizeOf,typeInfo,zeroValue,hi,hz,hn,hw,hneg,h48,h63',h48',Question.forced,hfo,newRow,grownCap,run_asInt,h]
 ·have hd:¬ (m * i.size=0):=h
  simp only [Nat.mul_eq_zero,not_or] at h
  simp [Builtin.append_,run_underlying ht,run_underlying hu,sizeOf,typeInfo,zeroValue,hi,hz,hn,hw,hneg,h48,h63',h48',Question.forced,hfo,newRow,grownCap,run_asInt]
  exact fun e=>absurd e hd
theorem ai_does (hs:Sim B E st w) (hB:BIn B w) (ht:TmRel E nt tm a) {c:Call} {x y:Operand} {e sz:Nat} {q:IntKind} {z:AV} (ho:o.op = .call c) (hc:c.callee = .builtin .append) (hx:c.args.toList = [x,y]) (hu:und P c 0=some (.slice e)) (hu':und P c 1=some (.int q))
 (hz:elZ P e=some (sz,z)) (h2:Nat.beq c.argTypes.size 2=true) (h:opAi e sz z (co x) (co y) tm st k=some r):Does P B E w a o k r:=by
 obtain ⟨tr0,n0⟩:=st
 obtain ⟨t,ht0,htu⟩:=und_inv hu
 obtain ⟨t',ht1,htu'⟩:=und_inv hu'
 have hat:c.argTypes = #[t,t']:=by
  have h2:=Nat.eq_of_beq_eq_true h2
  apply Array.ext (by simp [h2])
  intro i h3 h4
  have h5:i < 2:=by omega
  have:i=0 ∨ i=1:=by omega
  rcases this with rfl | rfl
  ·rw [Array.getElem?_eq_getElem (by omega)] at ht0
   simpa using ht0
  ·rw [Array.getElem?_eq_getElem (by omega)] at ht1
   simpa using ht1
 obtain ⟨i,v,hi,hv,hsz,hby,hvl,hc0⟩:=elZ_inv hz
 have hvx:=co_rel hs ht x
 have hvy:=co_rel hs ht y
 have goX:∀ {u:Value} {w':World},(Builtin.append_ #[t,t'] o.type #[a.eval x,a.eval y]).run P w = .ok u w'→(execOp a.eval o).run P w = .ok (.value u) w':=fun hr=>run_builtin_append ho hc (by rw [hat,args2 hx];exact hr)
 unfold opAi at h
 obtain ⟨q',m,hy0,h⟩:=asN_inv h
 rw [hy0] at hvy
 have hye:a.eval y = .int q' (m:Int):=by simpa only [VRel] using hvy
 rcases iff_inv h with ⟨hm0,h⟩ | ⟨hm0,h⟩
 ·have:=Nat.eq_of_beq_eq_true hm0
  subst this
  have key:∀ base n cap,a.eval x = .slice base n cap→n≤cap→k (evc (co x) tm) (.mk tr0 n0)=some r→Does P B E w a o k r:=fun base n cap hxe hle hk =>
   Reads.does ⟨_,_,goX (by rw [hxe,hye];exact run_append_zero htu htu' hi base hle),by rw [← hxe];exact hvx,hk⟩ hs
  unfold apS at h
  rcases asL_inv h with ⟨hx0,h'⟩ | ⟨rr,oo,nn,hx0,h'⟩
  ·have hx1:=hvx
   rw [hx0] at hx1
   simp only [VRel] at hx1
   exact key _ _ _ hx1 (Nat.le_refl 0) h'
  ·have hx1:=hvx
   rw [hx0] at hx1
   simp only [VRel] at hx1
   obtain ⟨l,hl,hle,p,_,hx1⟩:=hx1
   exact key _ _ _ hx1 (by omega) h'
 have hm:0 < m:=Nat.pos_of_ne_zero (fun e=>by subst e;cases hm0)
 obtain ⟨hmz,h⟩:=must_inv h
 rw [Bool.and_eq_true] at hmz
 have hm5:m≤5000000:=Nat.le_of_ble_eq_true hmz.1
 have hvs:v.cells.size=sz:=by rw [← hvl];simp
 have hvsi:v.cells.size=i.size:=by rw [hvs,hsz]
 have hlnews:(Builtin.zeroCells v.cells m).toList.length=m * sz:=by
  rw [Array.length_toList,size_zeroCells,hvs]
 have hlnews2:(Builtin.zeroCells v.cells m).size=m * sz:=by
  rw [size_zeroCells,hvs]
 have hone:∀ u ∈ (Builtin.zeroCells v.cells m).toList,u.oneCell' = true:=zeroCells_one (elOk_one hmz.2 (hc0 E))
 have hyel:∀ {N:Array Value} {b n:Nat},(∀ j,j < m * sz→N[b + n * sz + j]? = (Builtin.zeroCells v.cells m).toList[j]?)→∀ q,q < m→∀ v,T.get (pth (0 + q)) (zeros z m)=some v→∃ lv:List Value,lv.length=sz∧CRel E v lv∧∀ i,i < sz→N[b + (n + q) * sz + i]? = lv[i]?:=by
  intro N b n hN' q hq v' hv'
  rw [Nat.zero_add,get_zeros z m hm5 q hq] at hv'
  cases hv'
  refine ⟨v.cells.toList,hvl,hc0 E,fun i hi=>?_⟩
  have h3:(q + 1) * sz≤m * sz:=Nat.mul_le_mul_right _ hq
  rw [Nat.add_mul,Nat.one_mul] at h3
  rw [Nat.add_mul,show b + (n * sz + q * sz) + i=b + n * sz + (q * sz + i) by omega,hN' _ (by omega),Array.getElem?_toList,zeroCells_get _ _ (by rw [hvs];omega),hvs]
  rw [show (q * sz + i) % sz=i by rw [Nat.mul_comm,Nat.mul_add_mod,Nat.mod_eq_of_lt hi]]
  simp
 rcases asL_inv h with ⟨hx0,h⟩ | ⟨rx,ox,n,hx0,h⟩
 ·rw [hx0] at hvx
  simp only [VRel] at hvx
  obtain ⟨tr,nn,he,hnn,h⟩:=newO_inv h
  cases he
  have hrun:=run_append_zeros_nil (P:=P) (w:=w) (ty:=o.type) (q':=q') htu htu' hi hv hvsi hm hm5 hby
  have hge:=grownCap_ge w m 0 e
  generalize grownCap w m 0 e=cap at *
  obtain ⟨hle,hs'⟩:=Sim.newEls hs hB hnn (e:=e) (sz:=sz) (len:=m) (cap:=cap) (els:=copyT m (zeros z m) 0 .e 0) (c:=(Builtin.zeroCells v.cells m).toList.toArray ++ Builtin.zeroCells v.cells (cap - m)) hge hm5
   (by
     have:(m + (cap - m)) * sz=cap * sz:=by rw [show m + (cap - m)=cap by omega]
     rw [Nat.add_mul] at this
     simp only [Array.size_append,List.size_toArray,size_zeroCells,hvs,hlnews]
     omega)
   (by
     have:=elems_join (E:=E) (sz:=sz) (n:=0) (m:=m) (o:=0) (oy:=0) (b:=0) (els:=.e) (els':=.e) (elsy:=zeros z m) (N:=(Builtin.zeroCells v.cells m).toList.toArray ++ Builtin.zeroCells v.cells (cap - m)) (by omega) (fun j hj=>absurd hj (by omega)) (fun j hj=>absurd hj (by omega))
      (hyel (fun j hj=>by
        rw [Nat.zero_mul,Nat.zero_add,join_one (by omega)]))
     rwa [Nat.zero_add] at this) (w':=w.drew) rfl
  exact ⟨_,_,_,_,_,_,.inl (goX (by rw [hvx,hye];exact hrun)),hle,hs',((Bel.refl B w).drew).alloc (hB.mono (Nat.le_refl _)) _,vrel_new hge,fun _ h=>h,h⟩
 ·obtain ⟨h64,h⟩:=must_inv h
  have h64:lowN≤rx:=Nat.le_of_ble_eq_true h64
  obtain ⟨ex,szx,lenx,els,hqx,h⟩:=obE_inv h
  obtain ⟨e1,h⟩:=must_inv h
  have e1:=Nat.eq_of_beq_eq_true e1
  subst e1
  obtain ⟨e2,h⟩:=must_inv h
  have e2:=Nat.eq_of_beq_eq_true e2
  subst e2
  obtain ⟨e3,h⟩:=must_inv h
  have hlenx:ox + n≤lenx:=Nat.le_of_ble_eq_true e3
  rw [seqN_eq] at h
  obtain ⟨e4,h⟩:=must_inv h
  have hnm:n + m≤5000000:=Nat.le_of_ble_eq_true e4
  rw [hx0] at hvx
  simp only [VRel] at hvx
  obtain ⟨l,hl,hcapx,ox',hox,hxe⟩:=hvx
  have hlt:=hs.lt hl
  obtain ⟨l',hl',hrx⟩:=hs.live rx _ hlt hqx
  rw [hl] at hl'
  cases hl'
  have hro:Nat.blt rx lowN=false:=by
   cases hb:Nat.blt rx lowN with
   | false=>rfl
   | true=>have:=blt_lt hb;omega
  rw [hro] at hrx
  obtain ⟨cx,frx,hcx,hfr,hszx,hcapx',hsizex,helx⟩:=hrx
  have hfr:=hfr rfl
  subst hfr
  have helx:Elems E szx lenx els cx l.base:=helx
  have hown:=hs.own rx _ l hlt h64 hqx hl
  have hkill:=Sim.kill (r:=rx) hs hlt
  rw [putO_eq] at h hkill
  obtain ⟨tr,nn,he,hnn,h⟩:=newO_inv h
  cases he
  have hels':=els'_get n ox els (by omega)
  generalize hE:(Bool.rec (motive:=fun _=>Nat→T AV→Nat→T AV) (fun n els o=>copyT n els o .e 0) (fun _ els _=>els) (Nat.beq ox 0) n els ox)=els' at *
  have ha:Nat.add n m=n + m:=rfl
  rw [ha] at h
  rw [hszx] at hox
  by_cases hroom:n + m≤l.cap - ox
  ·have hox:=hox (.inl (by omega))
   subst hox
   have hb1:(ox + (n + m)) * szx≤l.cap * szx:=Nat.mul_le_mul_right _ (by omega)
   rw [Nat.add_mul,Nat.add_mul] at hb1
   have hfit:l.base + ox * szx + n * szx + (Builtin.zeroCells v.cells m).toList.length≤cx.size:=by omega
   have hrun:=run_append_zeros_mid (P:=P) (w:=w) (ty:=o.type) (q':=q') (off:=l.base + ox * szx) (sLen:=n) (sCap:=l.cap - ox) htu htu' hi hv hvsi hm5 hby hcx hone hroom (by rw [hsz];exact hfit)
   rw [hsz] at hrun
   have e5:∀ j:Nat,((cx.toList.take (l.base + ox * szx + n * szx) ++ (Builtin.zeroCells v.cells m).toList ++ cx.toList.drop (l.base + ox * szx + n * szx + (Builtin.zeroCells v.cells m).toList.length)).toArray)[j]? = if j < l.base + ox * szx + n * szx then cx[j]? else if j < l.base + ox * szx + n * szx + (Builtin.zeroCells v.cells m).toList.length then (Builtin.zeroCells v.cells m).toList[j - (l.base + ox * szx + n * szx)]? else cx[j]?:=fun j=>by
    rw [List.getElem?_toArray,getElem?_mid _ _ _ _ (by have:=@Array.length_toList _ cx;omega),Array.getElem?_toList]
   generalize hC:(cx.toList.take (l.base + ox * szx + n * szx) ++ (Builtin.zeroCells v.cells m).toList ++ cx.toList.drop (l.base + ox * szx + n * szx + (Builtin.zeroCells v.cells m).toList.length)).toArray=C at *
   have hCs:C.size=cx.size:=by
    rw [← hC]
    simp only [List.size_toArray,List.length_append,List.length_take,List.length_drop,Array.length_toList]
    omega
   have hdead:∀ s q,s < lim→T.get (pth s) (T.set (pth rx) none tr0)=some q→s ≠ rx∧T.get (pth s) tr0=some q:=fun s q h1 h2=>by
    rw [get_set_pth h1 hlt] at h2
    split at h2
    ·cases h2
    ·exact ⟨‹_›,h2⟩
   have hel:Elems E szx (n + m) (copyT m (zeros z m) 0 els' n) C (l.base + ox * szx):=elems_join hnm hels' (fun q hq v' hv'=>by
    obtain ⟨lv,g1,g2,g3⟩:=helx (ox + q) (by omega) v' hv'
    refine ⟨lv,g1,g2,fun i hi=>?_⟩
    have h3:(q + 1) * szx≤n * szx:=Nat.mul_le_mul_right _ hq
    rw [Nat.add_mul,Nat.one_mul] at h3
    have g4:=g3 i hi
    rw [Nat.add_mul,show l.base + (ox * szx + q * szx) + i=l.base + ox * szx + q * szx + i by omega] at g4
    rw [e5,if_pos (by omega)]
    exact g4)
    (hyel (fun j hj=>by
      rw [e5,if_neg (by omega),if_pos (by omega)]
      congr 1;omega))
   have hh:∀ s q l',s < lim→T.get (pth s) (T.set (pth rx) none tr0)=some q→q.isAl=false→E s=some l'→l'.blk ≠ l.blk:=fun s q l' h1 h2 ha3 h3=>by
    obtain ⟨h4,h5⟩:=hdead s q h1 h2
    exact hs.apart s rx q _ l' l h1 hlt h4 h5 hqx ha3 rfl h3 hl
   obtain ⟨hle,hs'⟩:=Sim.new (w':=w.setRow l.blk C) (l:=⟨l.blk,l.base + ox * szx,l.cap - ox,szx⟩) (o:=.v ex szx (n + m) (copyT m (zeros z m) 0 els' n)) hkill hnn hown (by simp) (fun _=>hh)
    (fun s q l' h1 h2 ha3 h3=>setRow_other w l.blk l'.blk C (hh s q l' h1 h2 ha3 h3))
    ⟨C,(0,0),setRow_heap w l.blk cx C ex (0,0) hcx,fun _=>rfl,rfl,⟨hroom,hnm⟩,by
      have:(ox + (l.cap - ox)) * szx=l.cap * szx:=by rw [show ox + (l.cap - ox)=l.cap by omega]
      rw [Nat.add_mul] at this
      show l.base + ox * szx + (l.cap - ox) * szx≤C.size
      omega,hel.mono (Env'.le_with (hkill.fresh n0 (Nat.le_refl _)))⟩
   have hbel:Bel B w (w.setRow l.blk C):=⟨rfl,rfl,rfl,by simp,fun j hj=>setRow_other w l.blk j C (fun e=>hown (e ▸ hj))⟩
   refine ⟨_,_,_,_,_,_,.inl (goX (by rw [hxe,hye];exact hrun)),hle,hs',hbel,?_,fun _ h=>h,h⟩
   simp only [VRel]
   exact ⟨_,Env'.with_self _ _ _,by simpa using hroom,l.base + ox * szx,fun _=>by simp,by simp⟩
  ·have hlolds:=cut_len hsizex hcapx
   have hby2:(n + m) * i.bytes≤5000000 * 16777216:=Nat.mul_le_mul hnm hby
   have holds:∀ j u,(cut cx l.base szx ox n)[j]? = some u→w.cell? ((⟨l.blk,ox',none⟩:Addr).add j)=some u:=by
    intro j u hju
    by_cases hn0:n=0
    ·subst hn0
     have h1:=(List.getElem?_eq_some_iff.1 hju).1
     rw [hlolds] at h1
     omega
    ·rw [hox (.inl (by omega))]
     exact cut_cell hcx j u hju
   have hgetolds:∀ j,j < n * szx→(cut cx l.base szx ox n)[j]? = cx[l.base + ox * szx + j]?:=fun j hj=>cut_get cx hj
   generalize cut cx l.base szx ox n=olds at *
   have hrun:=run_append_zeros_grow (P:=P) (w:=w) (ty:=o.type) (q':=q') htu htu' hi hv hvsi hm5 hby ⟨l.blk,ox',none⟩ n (l.cap - ox) olds (by rw [hsz];exact hlolds) holds (by omega) hnm
   have hge:=grownCap_ge w (n + m) (l.cap - ox) ex
   generalize grownCap w (n + m) (l.cap - ox) ex=cap at *
   obtain ⟨hle,hs'⟩:=Sim.newEls hkill hB hnn (e:=ex) (sz:=szx) (len:=n + m) (cap:=cap) (els:=copyT m (zeros z m) 0 els' n) (c:=olds.toArray ++ (Builtin.zeroCells v.cells m).toList.toArray ++ Builtin.zeroCells v.cells (cap - (n + m))) hge hnm
    (by
      have:(n + m + (cap - (n + m))) * szx=cap * szx:=by rw [show n + m + (cap - (n + m))=cap by omega]
      rw [Nat.add_mul,Nat.add_mul] at this
      simp only [Array.size_append,List.size_toArray,size_zeroCells,hvs,hlnews,hlolds]
      omega)
    (elems_join hnm hels' (fun q hq v' hv'=>by
      obtain ⟨lv,g1,g2,g3⟩:=helx (ox + q) (by omega) v' hv'
      refine ⟨lv,g1,g2,fun i hi=>?_⟩
      have h3:(q + 1) * szx≤n * szx:=Nat.mul_le_mul_right _ hq
      rw [Nat.add_mul,Nat.one_mul] at h3
      have g4:=g3 i hi
      rw [Nat.add_mul,show l.base + (ox * szx + q * szx) + i=l.base + ox * szx + (q * szx + i) by omega,← hgetolds _ (by omega)] at g4
      rw [Nat.zero_add,join_left (by omega)]
      exact g4)
      (hyel (fun j hj=>by
        rw [Nat.zero_add,← hlolds,join_right (by omega)]))) (w':=w.drew) rfl
   exact ⟨_,_,_,_,_,_,.inl (goX (by rw [hxe,hye];exact hrun)),hle,hs',((Bel.refl B w).drew).alloc (hB.mono (Nat.le_refl _)) _,vrel_new hge,fun _ h=>h,h⟩
theorem cr_does (hs:Sim B E st w) (ht:TmRel E nt tm a) {c:Call} {x:Operand} {e sz:Nat} {z:AV} (ho:o.op = .call c) (hc:c.callee = .builtin .clear) (hx:c.args.toList = [x]) (hu:und P c 0=some (.slice e))
 (hz:elZ P e=some (sz,z)) (h:opCr e sz z (co x) tm st k=some r):Does P B E w a o k r:=by
 obtain ⟨t,ht0,htu⟩:=und_inv hu
 obtain ⟨i,v,hi,hv,hsz,hby,hvl,hc0⟩:=elZ_inv hz
 have hvx:=co_rel hs ht x
 have goX:∀ {w':World},(Builtin.clear_ c.argTypes o.type #[a.eval x]).run P w = .ok (.tuple #[]) w'→(execOp a.eval o).run P w = .ok (.value (.tuple #[])) w':=fun {w'} hr=>by
  obtain ⟨cs,he⟩:=exec_builtin (a:=a) ho hc
  rw [he,args1 hx]
  show (Builtin.clear_ c.argTypes o.type #[a.eval x] >>= fun u=>pure (Next.value u)).run P w=_
  rw [Sem.run_bind,hr]
  rfl
 have nothing:∀ b q cap,(a.eval x = .slice b q cap)→(b=none ∨ q=0)→k (.t .nl) st=some r→Does P B E w a o k r:=fun b q cap he hq hk =>
  Reads.does ⟨.t .nl,.tuple #[],goX (by
   rw [he]
   rcases hq with rfl | rfl
   ·cases q <;> simp [Builtin.clear_,ht0,run_underlying htu]
   ·cases b <;> simp [Builtin.clear_,ht0,run_underlying htu]),vrel_unit E _ rfl,hk⟩ hs
 unfold opCr at h
 rcases asL_inv h with ⟨hx0,h⟩ | ⟨rx,ox,n,hx0,h⟩
 ·rw [hx0] at hvx
  simp only [VRel] at hvx
  exact nothing _ _ _ hvx (.inl rfl) h
 rw [hx0] at hvx
 simp only [VRel] at hvx
 obtain ⟨l,hl,hcapx,ox',hox,hxe⟩:=hvx
 rcases iff_inv h with ⟨hn0,h⟩ | ⟨hn0,h⟩
 ·exact nothing _ _ _ hxe (.inr (Nat.eq_of_beq_eq_true hn0)) h
 have hn:0 < n:=Nat.pos_of_ne_zero (fun e=>by subst e;cases hn0)
 obtain ⟨hmz,hA⟩:=must_inv h
 clear h
 rw [Bool.and_eq_true] at hmz
 have h64:lowN≤rx:=Nat.le_of_ble_eq_true hmz.1
 obtain ⟨ex,szx,lenx,els,hqx,hB⟩:=obE_inv hA
 clear hA
 obtain ⟨e1,hC⟩:=must_inv hB
 clear hB
 obtain rfl:ex=e:=Nat.eq_of_beq_eq_true e1
 obtain ⟨e2,hD⟩:=must_inv hC
 clear hC
 obtain rfl:szx=sz:=Nat.eq_of_beq_eq_true e2
 obtain ⟨e3,h⟩:=must_inv hD
 clear hD
 have hlenx:ox + n≤lenx:=Nat.le_of_ble_eq_true e3
 have hlt:=hs.lt hl
 obtain ⟨l',hl',hrx⟩:=hs.live rx _ hlt hqx
 rw [hl] at hl'
 cases hl'
 have hro:Nat.blt rx lowN=false:=by
  cases hb:Nat.blt rx lowN with
  | false=>rfl
  | true=>have:=blt_lt hb;omega
 rw [hro] at hrx
 obtain ⟨cx,frx,hcx,hfr,hszx,hcapx',hsizex,helx⟩:=hrx
 have hfr:=hfr rfl
 subst hfr
 have helx:Elems E szx lenx els cx l.base:=helx
 have hown:=hs.own rx _ l hlt h64 hqx hl
 rw [hszx] at hox
 have hox:=hox (.inl (by omega))
 subst hox
 have hvs:v.cells.size=szx:=by rw [← hvl];simp
 have hzl:(Builtin.zeroCells v.cells n).toList.length=n * szx:=by
  rw [Array.length_toList,size_zeroCells,hvs]
 have hzl2:(Builtin.zeroCells v.cells n).size=n * szx:=by
  rw [size_zeroCells,hvs]
 have hone:∀ u ∈ (Builtin.zeroCells v.cells n).toList,u.oneCell' = true:=zeroCells_one (elOk_one hmz.2 (hc0 E))
 have hb1:(ox + n) * szx≤l.cap * szx:=Nat.mul_le_mul_right _ (by omega)
 rw [Nat.add_mul] at hb1
 have hst:=run_storeCells_at P l.blk (l.base + ox * szx) ex (Builtin.zeroCells v.cells n).toList 0 cx w hcx (by omega) hone
 simp only [Nat.add_zero] at hst
 have e5:∀ j:Nat,((cx.toList.take (l.base + ox * szx) ++ (Builtin.zeroCells v.cells n).toList ++ cx.toList.drop (l.base + ox * szx + (Builtin.zeroCells v.cells n).toList.length)).toArray)[j]? = if j < l.base + ox * szx then cx[j]? else if j < l.base + ox * szx + (Builtin.zeroCells v.cells n).toList.length then (Builtin.zeroCells v.cells n).toList[j - (l.base + ox * szx)]? else cx[j]?:=fun j=>by
  rw [List.getElem?_toArray,getElem?_mid _ _ _ _ (by have:=@Array.length_toList _ cx;omega),Array.getElem?_toList]
 have hCs0:((cx.toList.take (l.base + ox * szx) ++ (Builtin.zeroCells v.cells n).toList ++ cx.toList.drop (l.base + ox * szx + (Builtin.zeroCells v.cells n).toList.length)).toArray).size=cx.size:=by
  simp only [List.size_toArray,List.length_append,List.length_take,List.length_drop,Array.length_toList]
  omega
 generalize (cx.toList.take (l.base + ox * szx) ++ (Builtin.zeroCells v.cells n).toList ++ cx.toList.drop (l.base + ox * szx + (Builtin.zeroCells v.cells n).toList.length)).toArray=C at *
 rw [hzl] at e5
 have hel:Elems E szx lenx (copyT n (zeros z n) 0 els ox) C l.base:=by
  intro q hq v' hv'
  have hq3:(q + 1) * szx≤lenx * szx:=Nat.mul_le_mul_right _ hq
  rw [Nat.add_mul,Nat.one_mul] at hq3
  have hlen5:lenx≤5000000:=hcapx'.2
  rw [get_copyT n (by omega) q (by omega)] at hv'
  split at hv'
  ·rename_i h2
   rw [Nat.zero_add,get_zeros z n (by omega) (q - ox) (by omega)] at hv'
   cases hv'
   refine ⟨v.cells.toList,hvl,hc0 E,fun i hi=>?_⟩
   have h4:(q - ox + 1) * szx≤n * szx:=Nat.mul_le_mul_right _ (by omega)
   rw [Nat.add_mul,Nat.one_mul] at h4
   have h6:q * szx=ox * szx + (q - ox) * szx:=by rw [← Nat.add_mul];congr 1;omega
   rw [e5,if_neg (by omega),if_pos (by omega),show l.base + q * szx + i - (l.base + ox * szx)=(q - ox) * szx + i by omega,Array.getElem?_toList,zeroCells_get _ _ (by rw [hvs];omega),hvs,
    show ((q - ox) * szx + i) % szx=i by rw [Nat.mul_comm,Nat.mul_add_mod,Nat.mod_eq_of_lt hi]]
   simp
  ·rename_i h2
   obtain ⟨lv,g1,g2,g3⟩:=helx q hq v' hv'
   refine ⟨lv,g1,g2,fun i hi=>?_⟩
   rw [e5]
   by_cases h7:q < ox
   ·have h8:(q + 1) * szx≤ox * szx:=Nat.mul_le_mul_right _ h7
    rw [Nat.add_mul,Nat.one_mul] at h8
    rw [if_pos (by omega)]
    exact g3 i hi
   ·have h8:(ox + n) * szx≤q * szx:=Nat.mul_le_mul_right _ (by omega)
    rw [Nat.add_mul] at h8
    rw [if_neg (by omega),if_neg (by omega)]
    exact g3 i hi
 have hbel:Bel B w (w.setRow l.blk C):=⟨rfl,rfl,rfl,by simp,fun j hj=>setRow_other w l.blk j C (fun e=>hown (e ▸ hj))⟩
 refine ⟨.t .nl,.tuple #[],w.setRow l.blk C,E,_,r,.inl (goX ?_),Env'.le_refl E,Sim.put' (q':=.v ex szx lenx (copyT n (zeros z n) 0 els ox)) hs hlt h64 hl hqx rfl (fun j hj=>setRow_other w l.blk j C hj) ⟨C,(0,0),setRow_heap w l.blk cx C ex (0,0) hcx,fun _=>rfl,hszx,hcapx',by omega,hel⟩,hbel,vrel_unit E _ rfl,fun _ h=>h,h⟩
 rw [hxe]
 cases n with
 | zero=>omega
 | succ n=>simp [Builtin.clear_,ht0,run_underlying htu,zeroValue,typeInfo,hi,hv,hst]
end
end Go.AM
namespace Go.AM
open Go.RowKit
def cls:COp→Nat
 | .nw ..=>1 | .bx ..=>1 | .bs ..=>1 | .st ..=>1 | .mm=>1 | .m2 ..=>1 | .ms ..=>1 | .mu ..=>1 | .rs ..=>1 | .rm ..=>1 | .ns ..=>1 | .nm ..=>1 | .aa ..=>1 | .ai ..=>1 | .cr ..=>1 | .s3 ..=>1
 | .cl ..=>2 | .df ..=>3 | .bad=>4
 | _=>0
section
variable {P:Program} {B:Bds} {E:Env'} {st:St} {w:World} {nt:Nat} {tm:Tm} {a:Act} {k:K} {r:List (AV × St)} {o:Oper} {noop:Nat→Bool} {call:CallF}
theorem rd_ok {n:Nat} (h:Reads P E st w a o k r) (hn:n=0):(n=0→Reads P E st w a o k r)∧(n=1→Does P B E w a o k r):=⟨fun _=>h,fun e=>by omega⟩
theorem do_ok {n:Nat} (h:Does P B E w a o k r) (hn:n=1):(n=0→Reads P E st w a o k r)∧(n=1→Does P B E w a o k r):=⟨fun e=>by omega,fun _=>h⟩
theorem cl_ok {n:Nat} (hn:2≤n):(n=0→Reads P E st w a o k r)∧(n=1→Does P B E w a o k r):=⟨fun e=>by omega,fun e=>by omega⟩
theorem s3_does (hs:Sim B E st w) (ht:TmRel E nt tm a) {t e sz:Nat} {x hi mx:Operand} {lo:Option Operand} (ho:o.op = .slice t x lo (some hi) (some mx)) (hu:P.underlying t=some (.slice e)) (hz:szOf P e=some sz)
 (h:opS3 sz (co x) (lo.map co) (co hi) (co mx) tm st k=some r):Does P B E w a o k r:=by
 unfold opS3 at h
 rcases asL_inv h with ⟨_,h⟩ | ⟨b,q,n,he,h⟩
 ·exact no_out h
 obtain ⟨la,h,hlo⟩:=bnd_inv hs ht h
 obtain ⟨kh,ha,hhi,h⟩:=asN_inv h
 obtain ⟨km,mc,hmx,h⟩:=asN_inv h
 obtain ⟨h1,h⟩:=must_inv h
 obtain ⟨h2,h⟩:=must_inv h
 obtain ⟨h3,h⟩:=must_inv h
 obtain ⟨h4,h⟩:=must_inv h
 have h1:la≤ha:=Nat.le_of_ble_eq_true h1
 have h2:ha≤mc:=Nat.le_of_ble_eq_true h2
 have h3:mc≤n:=Nat.le_of_ble_eq_true h3
 have h4:=blt_lt h4
 obtain ⟨b2,k2,e',szx,m,els,h,hq,hvia⟩:=obW_inv h
 obtain ⟨h5,h6⟩:=must_inv h
 obtain ⟨h64,h7⟩:=must_inv h6
 clear h h6
 rw [seqN_eq] at h7
 have h5:=Nat.eq_of_beq_eq_true h5
 subst h5
 have h64:lowN≤b2:=Nat.le_of_ble_eq_true h64
 have hx:=co_rel hs ht x
 have hhv:=co_rel hs ht hi
 have hmv:=co_rel hs ht mx
 rw [he] at hx
 rw [hhi] at hhv
 rw [hmx] at hmv
 simp only [VRel] at hhv hmv
 obtain ⟨l2,off,c,hl2,hr,hsz,hcap,hoff,hv,hnc⟩:=hs.view hx hvia hq
 have hoff:=hoff (by omega)
 subst hoff
 have hown:=hs.own b2 _ l2 (hs.lt hl2) h64 hq hl2
 obtain ⟨tr,nn,rfl,hnn,h⟩:=newO_inv h7
 have hle':=Env'.le_with (l:=⟨l2.blk,l2.base + (k2 + q + la) * szx,mc - la,szx⟩) (hs.fresh nn (Nat.le_refl nn))
 obtain ⟨hle,hs'⟩:=Sim.new (w':=w) (l:=⟨l2.blk,l2.base + (k2 + q + la) * szx,mc - la,szx⟩) (o:=.al b2 (k2 + q + la)) hs hnn hown (Nat.le_refl _) (fun e=>by cases e) (fun _ _ _ _ _ _ _=>rfl)
  ⟨hr.there,l2,hle' b2 l2 hl2,rfl,by show _=l2.base + (k2 + q + la) * l2.sz;rw [hsz],hsz.symm,by show k2 + q + la + (mc - la)≤l2.cap;omega,by show 0 < mc - la;omega⟩
 refine ⟨_,.slice (some ⟨l2.blk,l2.base + (k2 + q) * szx + la * szx,none⟩) (ha - la) (mc - la),w,_,_,r,.inl ?_,hle,hs',Bel.refl B w,?_,fun _ h=>h,h⟩
 ·unfold execOp
  rw [ho]
  have hb:(Instr.sliceBounds true n c (lo.map a.eval) (some (a.eval hi)) (some (a.eval mx))).run P w = .ok (la,ha,mc) w:=by
   have g1:=run_sliceBound (P:=P) (w:=w) hmv (Nat.le_trans h3 hnc)
   have g2:=run_sliceBound (P:=P) (w:=w) hhv h2
   rcases hlo with ⟨e1,rfl⟩ | ⟨q',e1⟩
   ·rw [e1];simp [Instr.sliceBounds,g1,g2]
   ·rw [e1];simp [Instr.sliceBounds,g1,g2,run_sliceBound (P:=P) (w:=w) rfl h1]
  have hne:¬ mc=la:=by omega
  simp [Instr.sliceAt,run_underlying hu,Instr.slice,hv,hb,run_sizeOf hz,hne,Addr.add_mid]
 ·show VRel _ (.l nn 0 (ha - la)) _
  simp only [VRel]
  exact ⟨_,Env'.with_self _ _ _,by show 0 + (ha - la)≤mc - la;omega,l2.base + (k2 + q) * szx + la * szx,fun _=>by show _=l2.base + (k2 + q + la) * szx + 0 * szx;rw [Nat.add_mul (k2 + q) la,Nat.zero_mul];omega,by simp⟩
theorem compCall_ok (hs:Sim B E st w) (hB:BIn B w) (ht:TmRel E nt tm a) {c:Call} (ho:o.op = .call c) {cop:COp} (hc:compCall P c=cop) (h:disp cop noop call tm st k=some r) :
 (cls cop=0→Reads P E st w a o k r)∧(cls cop=1→Does P B E w a o k r):=by
 unfold compCall at hc
 split at hc
 ·subst hc;exact cl_ok (by simp [cls])
 ·rename_i hcal
  split at hc
  ·rename_i x hx hu;subst hc;exact rd_ok (lS_reads hs ht ho hcal hx hu h) rfl
  ·rename_i x e hx hu;subst hc;exact rd_ok (lL_reads hs ht ho hcal hx hu h) rfl
  ·rename_i x q e hx hu;subst hc;exact rd_ok (lM_reads hs ht ho hcal hx hu h) rfl
  ·subst hc;exact cl_ok (by simp [cls])
 ·rename_i hcal
  split at hc
  ·rename_i x y e e' hx hu hu'
   split at hc
   ·rename_i sz z hz h2 hT
    subst hc;exact do_ok (aa_does hs hB ht ho hcal hx hu hu' hz h2 hT h) rfl
   ·subst hc;exact cl_ok (by simp [cls])
  ·rename_i x y e q hx hu hu'
   split at hc
   ·rename_i sz z hz h2
    subst hc;exact do_ok (ai_does hs hB ht ho hcal hx hu hu' hz h2 h) rfl
   ·subst hc;exact cl_ok (by simp [cls])
  ·subst hc;exact cl_ok (by simp [cls])
 ·rename_i hcal
  split at hc
  ·rename_i x e hx hu
   split at hc
   ·rename_i sz z hz
    subst hc;exact do_ok (cr_does hs ht ho hcal hx hu hz h) rfl
   ·subst hc;exact cl_ok (by simp [cls])
  ·subst hc;exact cl_ok (by simp [cls])
 ·rename_i hcal
  split at hc
  ·rename_i x y hx;subst hc;exact rd_ok (mx_reads hs ht ho hcal hx h) rfl
  ·subst hc;exact cl_ok (by simp [cls])
 ·rename_i hcal
  split at hc
  ·rename_i x y hx;subst hc;exact rd_ok (mn_reads hs ht ho hcal hx h) rfl
  ·subst hc;exact cl_ok (by simp [cls])
 ·subst hc;exact cl_ok (by simp [cls])
theorem bad_ok {cop:COp} (hc:COp.bad=cop):(cls cop=0→Reads P E st w a o k r)∧(cls cop=1→Does P B E w a o k r):=by
 subst hc;exact cl_ok (by simp [cls])
theorem built_struct {t:TypeId} {fs:Array Field} {pl:List (Nat × Nat)} (hu:P.underlying t=some (.struct fs)) (hp:plcS P fs=some pl) (i:TypeInfo) (v:Value) (hi:P.info? t=some i) (hv:i.zero=some v) (q:List (Nat × Value)) :
 P.built t q=Instr.fill (fun i=>pl[i]?) v.cells q:=by
 unfold plcS at hp
 unfold Program.built
 rw [hi,hu]
 simp only [hv,hp]
 congr 1
 funext i
 simp
theorem built_array {t e m:TypeId} {n:Nat} (hu:P.underlying t=some (.array m e)) (hz:szOf P e=some n) (i:TypeInfo) (v:Value) (hi:P.info? t=some i) (hv:i.zero=some v) (q:List (Nat × Value)) :
 P.built t q=Instr.fill (fun i=>some (Nat.mul i n,n)) v.cells q:=by
 unfold szOf at hz
 split at hz
 ·rename_i j hj
  cases hz
  unfold Program.built
  rw [hi,hu]
  simp only [hv,hj]
  rfl
 ·cases hz
theorem comp1_ok (hs:Sim B E st w) (hB:BIn B w) (ht:TmRel E nt tm a) {cop:COp} (hc:comp1 P o.op=cop) (h:disp cop noop call tm st k=some r) :
 (cls cop=0→Reads P E st w a o k r)∧(cls cop=1→Does P B E w a o k r):=by
 unfold comp1 at hc
 split at hc
 case h_1 x ho=>subst hc;exact rd_ok (mv_reads hs ht (.inl ho) h) rfl
 case h_2 x ho=>subst hc;exact rd_ok (mv_reads hs ht (.inr ho) h) rfl
 case h_3 c x y ho=>subst hc;exact rd_ok (pk_reads hs ht ho h) rfl
 case h_4 t ho =>
  split at hc
  ·rename_i n row hz;subst hc;exact do_ok (nw_does (tm:=tm) hs hB ho hz h) rfl
  ·exact bad_ok hc
 case h_5 t x ho=>subst hc;exact do_ok (bx_does hs hB ht ho h) rfl
 case h_6 t ps ho =>
  split at hc
  ·rename_i fs z hu hz
   split at hc
   ·rename_i pl hpl
    split at hc
    ·rename_i l hl;subst hc;exact rd_ok (bld_reads hs ht ho hz (built_struct hu hpl) hl h) rfl
    ·exact bad_ok hc
   ·exact bad_ok hc
  ·rename_i m e z hu hz
   split at hc
   ·rename_i n hn
    split at hc
    ·rename_i l hl;subst hc;exact rd_ok (bld_reads hs ht ho hz (built_array hu hn) hl h) rfl
    ·exact bad_ok hc
   ·exact bad_ok hc
  ·exact bad_ok hc
 case h_7 t n ps ho =>
  split at hc
  ·rename_i e hu
   split at hc
   ·rename_i sz z l hz hps
    split at hc
    ·rename_i h1 h2
     subst hc
     exact do_ok (bs_does hs hB ht ho hu hz hps (Nat.le_of_ble_eq_true h1) (Nat.le_of_ble_eq_true h2) h) rfl
    ·exact bad_ok hc
   ·exact bad_ok hc
  ·exact bad_ok hc
 case h_8 t x ho =>
  split at hc
  ·rename_i n hg hn;subst hc;exact rd_ok (ldA_reads hs ht ho hg hn h) rfl
  ·rename_i n hg hn;subst hc;exact rd_ok (ld1_reads hs ht ho hg h) rfl
  ·exact bad_ok hc
 case h_9 t x v ho =>
  split at hc
  ·rename_i n hn;subst hc;exact do_ok (st_does hs ht ho hn h) rfl
  ·exact bad_ok hc
 case h_10 x ho=>subst hc;exact rd_ok (nc_reads hs ht ho h) rfl
 case h_11 op t x y t' ho =>
  split at hc
  ·rename_i hu;subst hc;exact rd_ok (bb_reads hs ht ho hu h) rfl
  ·rename_i hu
   split at hc
   ·subst hc;exact rd_ok (sh_reads (l:=true) hs ht ho h) rfl
   ·subst hc;exact rd_ok (sh_reads (l:=false) hs ht ho h) rfl
   ·subst hc;exact rd_ok (bn_reads hs ht ho h) rfl
  ·rename_i hu;subst hc;exact rd_ok (bn_reads hs ht ho h) rfl
  ·rename_i e hu;subst hc;exact rd_ok (bz_reads (q:=.p) hs ht ho hu ⟨e,rfl⟩ (fun e=>by cases e) h) rfl
  ·rename_i e hu;subst hc;exact rd_ok (bz_reads (q:=.l) hs ht ho hu ⟨e,rfl⟩ (fun e=>by cases e) h) rfl
  ·rename_i q e hu;subst hc;exact rd_ok (bz_reads (q:=.m) hs ht ho hu ⟨q,e,rfl⟩ (fun e=>by cases e) h) rfl
  ·rename_i p q s hu;subst hc;exact rd_ok (bz_reads (q:=.f) hs ht ho hu ⟨p,q,s,rfl⟩ (fun e=>by cases e) h) rfl
  ·rename_i e hu
   split at hc
   ·rename_i v
    subst hc;exact rd_ok (bz_reads (q:=.x) hs ht ho hu ⟨e,rfl⟩ (fun _=>⟨_,rfl⟩) h) rfl
   ·exact bad_ok hc
  ·rename_i fs hu
   split at hc
   ·rename_i ks hk;subst hc;exact rd_ok (ba_reads hs ht ho hu hk h) rfl
   ·exact bad_ok hc
  ·exact bad_ok hc
 case h_12 op t x ho =>
  split at hc
  ·subst hc;exact rd_ok (nt_reads hs ht ho h) rfl
  ·subst hc;exact rd_ok (ng_reads hs ht ho h) rfl
  ·exact bad_ok hc
 case h_13 s t x ho =>
  split at hc
  ·rename_i q' q h1 h2;subst hc;exact rd_ok (cv_reads hs ht ho h1 h2 h) rfl
  ·rename_i h1 h2;subst hc;exact rd_ok (cs_reads hs ht ho h1 h2 h) rfl
  ·exact bad_ok hc
 case h_14 t x ho =>
  split at hc
  ·exact bad_ok hc
  ·rename_i d hne hd;subst hc;exact rd_ok (mi_reads hs ht ho hd (fun ms e=>hne ms e) h) rfl
  ·exact bad_ok hc
 case h_15 fn f c ho=>subst hc;exact rd_ok (mf_reads hs ht ho h) rfl
 case h_16 t ho=>subst hc;exact do_ok (mm_does (tm:=tm) hs hB ho (.inl rfl) h) rfl
 case h_17 t x ho =>
  split at hc
  ·rename_i q e hu
   subst hc
   obtain ⟨kk,n,hn,h⟩:=asI_inv h
   have hx:=co_rel hs ht x
   rw [hn] at hx
   simp only [VRel] at hx
   exact do_ok (mm_does (tm:=tm) hs hB ho (.inr ⟨x,kk,n,rfl,hx,q,e,hu⟩) h) rfl
  ·exact bad_ok hc
 case h_18 t l c ho =>
  split at hc
  ·rename_i e hu
   split at hc
   ·rename_i sz z hz;subst hc;exact do_ok (ms_does hs hB ht ho hu hz h) rfl
   ·exact bad_ok hc
  ·exact bad_ok hc
 case h_19 t x lo hi ho =>
  split at hc
  ·rename_i hu;subst hc;exact rd_ok (ss_reads hs ht ho hu h) rfl
  ·rename_i e hu
   split at hc
   ·rename_i sz hz;subst hc;exact rd_ok (sl_reads hs ht ho hu hz h) rfl
   ·exact bad_ok hc
  ·exact bad_ok hc
 case h_20 t x lo hi mx ho =>
  split at hc
  ·rename_i e hu
   split at hc
   ·rename_i sz hz;subst hc;exact do_ok (s3_does hs ht ho hu hz h) rfl
   ·exact bad_ok hc
  ·exact bad_ok hc
 case h_21 t x j ho =>
  split at hc
  ·rename_i fs hu
   split at hc
   ·rename_i fd hf
    split at hc
    ·rename_i m hz;subst hc;exact rd_ok (fa_reads hs ht ho hu hf hz h) rfl
    ·exact bad_ok hc
   ·exact bad_ok hc
  ·exact bad_ok hc
 case h_22 t x j ho =>
  split at hc
  ·rename_i fs hu
   split at hc
   ·rename_i fd hf
    split at hc
    ·rename_i n hg hz;subst hc;exact rd_ok (fA_reads hs ht ho hu hf hg hz h) rfl
    ·rename_i hg;subst hc;exact rd_ok (f1_reads hs ht ho hu hf hg h) rfl
    ·exact bad_ok hc
   ·exact bad_ok hc
  ·exact bad_ok hc
 case h_23 t x j ho =>
  split at hc
  ·rename_i e hu
   split at hc
   ·rename_i sz hz;subst hc;exact rd_ok (ia_reads hs ht ho hu hz h) rfl
   ·exact bad_ok hc
  ·rename_i n e hu
   split at hc
   ·rename_i sz hz;subst hc;exact rd_ok (ap_reads hs ht ho hu hz h) rfl
   ·exact bad_ok hc
  ·exact bad_ok hc
 case h_24 t x j ho =>
  split at hc
  ·rename_i hu;subst hc;exact rd_ok (is_reads hs ht ho hu h) rfl
  ·rename_i n e hu
   split at hc
   ·rename_i hg hz;subst hc;exact rd_ok (i1_reads hs ht ho hu hg hz h) rfl
   ·exact bad_ok hc
  ·exact bad_ok hc
 case h_25 t x q ok ho =>
  split at hc
  ·rename_i kt e hu
   split at hc
   ·rename_i kk z hq hz;subst hc;exact rd_ok (lk_reads hs ht ho hu hq hz h) rfl
   ·exact bad_ok hc
  ·exact bad_ok hc
 case h_26 t x q v ho =>
  split at hc
  ·rename_i kt e hu
   split at hc
   ·rename_i kk hq;subst hc;exact do_ok (mu_does hs ht (.inl ho) hu hq h) rfl
   ·exact bad_ok hc
  ·exact bad_ok hc
 case h_27 t x q v ho =>
  split at hc
  ·rename_i kt e hu
   split at hc
   ·rename_i kk hq;subst hc;exact do_ok (mu_does hs ht (.inr ho) hu hq h) rfl
   ·exact bad_ok hc
  ·exact bad_ok hc
 case h_28 t x ho =>
  split at hc
  ·rename_i hu;subst hc;exact do_ok (rs_does hs hB ht ho hu h) rfl
  ·rename_i q e hu;subst hc;exact do_ok (rm_does hs hB ht ho hu h) rfl
  ·exact bad_ok hc
 case h_29 x ho=>subst hc;exact do_ok (ns_does hs ht ho h) rfl
 case h_30 x ho=>subst hc;exact do_ok (nm_does hs ht ho h) rfl
 case h_31 x ho=>subst hc;exact rd_ok (en_reads hs ht ho h) rfl
 case h_32 x j ho=>subst hc;exact rd_ok (xt_reads hs ht ho h) rfl
 case h_33 c ho=>exact compCall_ok hs hB ht ho hc h
 case h_34 c ho =>
  split at hc
  ·subst hc;exact cl_ok (by simp [cls])
  ·exact bad_ok hc
 case h_35=>exact bad_ok hc
end
end Go.AM
namespace Go.AM
open Go.RowKit
def isLag:COp→Bool
 | .nw ..=>true | .bx ..=>true | .bs ..=>true | .mm=>true | .m2 ..=>true | .ms ..=>true | .s3 ..=>true
 | _=>false
def LagS (P:Program) (s:Sem Next) (blk:Option Obj) (val:Nat→Value):Prop:=match blk with
 | some x=>∀ w,s.run P w = .ok (.value (val w.heap.size)) (w.alloc x)
 | none=>∀ w,s.run P w = .ok (.value (val 0)) w
def Late (B:Bds) (E:Env') (w:World) (st:St) (k:K) (r:List (AV × St)) (blk:Option Obj) (val:Nat→Value):Prop:=match blk with
 | some x=>∀ p,w.heap[p]? = some x→¬ B p→lowN≤p→(∀ s q l',s < lim→lowN≤s→T.get (pth s) st.h=some q→q.isAl=false→E s=some l'→l'.blk ≠ p) →
    ∃ v E' st',E.le E'∧Sim B E' st' w∧VRel E' v (val p)∧k v st' = some r
 | none=>∃ v E' st',E.le E'∧Sim B E' st' w∧VRel E' v (val 0)∧k v st' = some r
section
variable {P:Program} {B:Bds} {E:Env'} {st:St} {w:World} {nt:Nat} {tm:Tm} {a:Act} {k:K} {r:List (AV × St)} {o:Oper} {noop:Nat→Bool} {call:CallF}
theorem late_new (hs:Sim B E st w) {x:Obj} {q:Ob} {vf:Nat→AV} {cap sz:Nat} {val:Nat→Value} (h:newO st q vf k=some r) (_hal:q.isAl=false)
 (hq:∀ E' p,E.le E'→w.heap[p]? = some x→ObRel E' false ⟨p,0,cap,sz⟩ w q) (hv:∀ (E':Env') n p,E' n=some ⟨p,0,cap,sz⟩→VRel E' (vf n) (val p)):Late B E w st k r (some x) val:=by
 intro p hp hB hlow hne
 obtain ⟨tr,n,rfl,hn,h⟩:=newO_inv h
 have hle':=Env'.le_with (l:=⟨p,0,cap,sz⟩) (hs.fresh n (Nat.le_refl n))
 obtain ⟨hle,hs'⟩:=Sim.new (w':=w) (l:=⟨p,0,cap,sz⟩) (o:=q) hs hn hB (Nat.le_refl _) (fun _ s q' l' h1 h2 h3 h4=>by
  by_cases hl:lowN≤s
  ·exact hne s q' l' h1 hl h2 h3 h4
  ·have:=hs.glob s (by omega)
   rw [h4] at this
   cases this
   show s ≠ p
   omega) (fun _ _ _ _ _ _ _=>rfl) (hq _ p hle' hp)
 exact ⟨vf n,_,_,hle,hs',hv _ n p (Env'.with_self _ _ _),h⟩
theorem bx_lag (hs:Sim B E st w) (ht:TmRel E nt tm a) {t:TypeId} {x:Operand} (ho:o.op = .box t x) (h:opBx t (co x) tm st k=some r):∃ blk val,LagS P (execOp a.eval o) blk val∧Late B E w st k r blk val:=by
 unfold opBx at h
 obtain ⟨m,row,h,hne,hrow⟩:=cellsOf_inv' h
 have hx:=co_rel hs ht x
 obtain ⟨hl,hm⟩:=hrow E _ (hx.cells hne)
 subst hm
 refine ⟨some (.cells (a.eval x).cells t),fun p=>.pointer (some ⟨p,0,none⟩),fun w=>?_,late_new (cap:=0) (sz:=0) hs h rfl (fun E' p hE hp=>?_) (fun E' n p hn=>?_)⟩
 ·unfold execOp
  rw [ho]
  simp [Instr.box,newVar,Go.newRow]
 ·exact ⟨_,(0,0),_,_,hp,fun _=>⟨rfl,rfl⟩,hl.mono hE,rfl,fun i _=>by simp⟩
 ·simp only [VRel]
  exact ⟨_,hn,rfl⟩
theorem nw_lag (hs:Sim B E st w) {t n:Nat} {row:AV} (ho:o.op = .alloc t) (hz:rowZ P t=some (n,row)) (h:opNw t n row tm st k=some r):∃ blk val,LagS P (execOp a.eval o) blk val∧Late B E w st k r blk val:=by
 unfold opNw at h
 obtain ⟨i,v,hi,hv,hl,rfl⟩:=rowZ_inv (E:=E) hz
 refine ⟨some (.cells v.cells t),fun p=>.pointer (some ⟨p,0,none⟩),fun w=>?_,late_new (cap:=0) (sz:=0) hs h rfl (fun E' p hE hp=>?_) (fun E' n p hn=>?_)⟩
 ·unfold execOp
  rw [ho]
  simp [Instr.alloc,zeroValue,typeInfo,hi,hv,newVar,Go.newRow]
 ·exact ⟨_,(0,0),_,_,hp,fun _=>⟨rfl,rfl⟩,hl.mono hE,rfl,fun i _=>by simp⟩
 ·simp only [VRel]
  exact ⟨_,hn,rfl⟩
theorem mm_lag (hs:Sim B E st w) {t:TypeId} {hint:Option Operand} (ho:o.op = .makeMap t hint) (hh:hint=none ∨ ∃ x q n,hint=some x∧a.eval x = .int q n∧∃ k e,P.underlying t=some (.map k e))
 (h:opMm tm st k=some r):∃ blk val,LagS P (execOp a.eval o) blk val∧Late B E w st k r blk val:=by
 unfold opMm at h
 refine ⟨some (.map #[] 0),fun p=>.map (some p),fun w=>?_,late_new (cap:=0) (sz:=0) hs h rfl (fun E' p hE hp=>⟨#[],hp,by simp only [MERel]⟩) (fun E' n p hn=>?_)⟩
 ·unfold execOp
  rw [ho]
  rcases hh with rfl | ⟨x,q,n,rfl,hx,kt,e,hu⟩
  ·simp [Instr.makeMap,newObj,Sem.run]
  ·simp [Instr.makeMap,newObj,Sem.run,hx,asInt,asIntOf,run_underlying hu]
 ·simp only [VRel]
  exact ⟨_,hn,rfl⟩
theorem vrel_row {E':Env'} {n p cap sz len:Nat} (hn:E' n=some ⟨p,0,cap,sz⟩) (hc:len≤cap):VRel E' (.l n 0 len) (.slice (some ⟨p,0,none⟩) len cap):=by
 simp only [VRel]
 exact ⟨_,hn,by simpa using hc,0,fun _=>by simp,by simp⟩
theorem ms_lag (hs:Sim B E st w) (ht:TmRel E nt tm a) {t e sz:Nat} {z:AV} {x y:Operand} (ho:o.op = .makeSlice t x y) (hu:P.underlying t=some (.slice e)) (hz:elZ P e=some (sz,z))
 (h:opMs e sz z (co x) (co y) tm st k=some r):∃ blk val,LagS P (execOp a.eval o) blk val∧Late B E w st k r blk val:=by
 unfold opMs at h
 obtain ⟨kn,n,hn,h⟩:=asN_inv h
 obtain ⟨km,m,hm,h⟩:=asN_inv h
 obtain ⟨h1,h⟩:=must_inv h
 obtain ⟨h2,h⟩:=must_inv h
 have h1:n≤m:=Nat.le_of_ble_eq_true h1
 have h2:m≤100000:=Nat.le_of_ble_eq_true h2
 have hx:=co_rel hs ht x
 have hy:=co_rel hs ht y
 rw [hn] at hx
 rw [hm] at hy
 simp only [VRel] at hx hy
 obtain ⟨i,v,hi,hv,hsz,hby,hlen,hc⟩:=elZ_inv hz
 refine ⟨some (.cells (madeCells v.cells (m * i.size)) e),fun p=>.slice (some ⟨p,0,none⟩) n m,fun w=>?_,late_new (cap:=m) (sz:=sz) hs h rfl (fun E' p hE hp=>?_) (fun E' q p hq=>vrel_row hq h1)⟩
 ·have hrun:=run_make (P:=P) w t e i v hu hi hv kn km n m (by omega) (by omega) (by
   have:(i.bytes:Int) * (m:Int)≤16777216 * 100000:=Int.mul_le_mul (by omega) (by omega) (by omega) (by omega)
   omega) (by omega)
  simp only [Int.toNat_natCast] at hrun
  unfold execOp
  rw [ho,Sem.run_bind,hx,hy,hrun]
  rfl
 ·refine ⟨_,(0,0),hp,fun _=>rfl,rfl,⟨h1,by omega⟩,?_,?_⟩
  ·show 0 + m * sz≤_
   rw [size_madeCells,hsz];omega
  ·rw [hsz];exact (zeros_elems (hc E) hlen (by omega) h1).mono hE
theorem bs_lag (hs:Sim B E st w) (ht:TmRel E nt tm a) {t e sz n:Nat} {z:AV} {ps:Array (Nat × Operand)} {l:List (Nat × CO)} (ho:o.op = .buildSlice t n ps) (hu:P.underlying t=some (.slice e)) (hz:elZ P e=some (sz,z))
 (hps:psS n ps.toList=some l) (hn:n≤100000) (hnz:n * sz≤16777216) (h:opBs e sz n (zeros z n) l tm st k=some r):∃ blk val,LagS P (execOp a.eval o) blk val∧Late B E w st k r blk val:=by
 unfold opBs at h
 obtain ⟨i,v,hi,hv,hsz,hby,hlen,hc⟩:=elZ_inv hz
 have hvs:v.cells.size=sz:=by rw [← hlen];simp
 obtain ⟨els,cs,h,hfill,hsize,hel⟩:=filS_inv hs ht (sz:=sz) (by omega) ps.toList l hps (cs:=(madeCells v.cells (n * sz)).toList) (by simp [size_madeCells]) (by simpa using zeros_elems (m:=n) (hc E) hlen (by omega) (Nat.le_refl n)) h
 have hfill':Instr.fill (fun i=>some (i * sz,sz)) (madeCells v.cells (n * sz)) (ps.map fun (i,x)=>(i,a.eval x)).toList=some cs:=by
  simpa using hfill
 refine ⟨some (.cells cs e),fun p=>.slice (some ⟨p,0,none⟩) n n,fun w=>?_,late_new (cap:=n) (sz:=sz) hs h rfl (fun E' p hE hp=>?_) (fun E' q p hq=>vrel_row hq (Nat.le_refl n))⟩
 ·have hrun:(Instr.buildSlice t n (ps.map fun (i,x)=>(i,a.eval x))).run P w = .ok (.slice (some ⟨w.heap.size,0,none⟩) n n) (w.alloc (.cells cs e)):=by
   have hm0:∀ z:Array Value,madeCells z 0 = #[]:=fun z=>by simp [madeCells]
   by_cases h0:n * sz=0
   ·rw [h0,hm0] at hfill'
    simp only [Array.toList_map] at hfill'
    have e0:Array.map (fun _:Nat=>(default:Value)) (Array.range 0) = #[]:=Array.eq_empty_of_size_eq_zero (by simp)
    simp [Instr.buildSlice,run_underlying hu,sizeOf,typeInfo,hi,hsz,h0,newRow,e0,hfill']
   ·have hle:¬ 16777216 < n * sz:=by omega
    unfold madeCells at hfill'
    simp only [Array.toList_map] at hfill'
    simp [Instr.buildSlice,run_underlying hu,sizeOf,typeInfo,hi,hsz,h0,hle,newRow,zeroValue,hv,hfill']
  unfold execOp
  rw [ho,Sem.run_bind,hrun]
  rfl
 ·refine ⟨_,(0,0),hp,fun _=>rfl,rfl,⟨Nat.le_refl n,by omega⟩,?_,hel.mono hE⟩
  show 0 + n * sz≤_
  omega
theorem s3_lag (hs:Sim B E st w) (ht:TmRel E nt tm a) {t e sz:Nat} {x hi mx:Operand} {lo:Option Operand} (ho:o.op = .slice t x lo (some hi) (some mx)) (hu:P.underlying t=some (.slice e)) (hz:szOf P e=some sz)
 (h:opS3 sz (co x) (lo.map co) (co hi) (co mx) tm st k=some r):∃ blk val,LagS P (execOp a.eval o) blk val∧Late B E w st k r blk val:=by
 unfold opS3 at h
 rcases asL_inv h with ⟨_,h⟩ | ⟨b,q,n,he,h⟩
 ·exact no_out h
 obtain ⟨la,h,hlo⟩:=bnd_inv hs ht h
 obtain ⟨kh,ha,hhi,h⟩:=asN_inv h
 obtain ⟨km,mc,hmx,h⟩:=asN_inv h
 obtain ⟨h1,h⟩:=must_inv h
 obtain ⟨h2,h⟩:=must_inv h
 obtain ⟨h3,h⟩:=must_inv h
 obtain ⟨h4,h⟩:=must_inv h
 have h1:la≤ha:=Nat.le_of_ble_eq_true h1
 have h2:ha≤mc:=Nat.le_of_ble_eq_true h2
 have h3:mc≤n:=Nat.le_of_ble_eq_true h3
 have h4:=blt_lt h4
 obtain ⟨b2,k2,e',szx,m,els,h,hq,hvia⟩:=obW_inv h
 obtain ⟨h5,h6⟩:=must_inv h
 obtain ⟨hlow,h7⟩:=must_inv h6
 clear h h6
 rw [seqN_eq] at h7
 have h5:=Nat.eq_of_beq_eq_true h5
 subst h5
 have hlow:lowN≤b2:=Nat.le_of_ble_eq_true hlow
 have hx:=co_rel hs ht x
 have hhv:=co_rel hs ht hi
 have hmv:=co_rel hs ht mx
 rw [he] at hx
 rw [hhi] at hhv
 rw [hmx] at hmv
 simp only [VRel] at hhv hmv
 obtain ⟨l2,off,c,hl2,hr,hsz,hcap,hoff,hv,hnc⟩:=hs.view hx hvia hq
 have hoff:=hoff (by omega)
 subst hoff
 have hown:=hs.own b2 _ l2 (hs.lt hl2) hlow hq hl2
 obtain ⟨tr,nn,rfl,hnn,h⟩:=newO_inv h7
 have hle':=Env'.le_with (l:=⟨l2.blk,l2.base + (k2 + q + la) * szx,mc - la,szx⟩) (hs.fresh nn (Nat.le_refl nn))
 obtain ⟨hle,hs'⟩:=Sim.new (w':=w) (l:=⟨l2.blk,l2.base + (k2 + q + la) * szx,mc - la,szx⟩) (o:=.al b2 (k2 + q + la)) hs hnn hown (Nat.le_refl _) (fun e=>by cases e) (fun _ _ _ _ _ _ _=>rfl)
  ⟨hr.there,l2,hle' b2 l2 hl2,rfl,by show _=l2.base + (k2 + q + la) * l2.sz;rw [hsz],hsz.symm,by show k2 + q + la + (mc - la)≤l2.cap;omega,by show 0 < mc - la;omega⟩
 refine ⟨none,fun _=>.slice (some ⟨l2.blk,l2.base + (k2 + q) * szx + la * szx,none⟩) (ha - la) (mc - la),fun w=>?_,_,_,_,hle,hs',?_,h⟩
 ·unfold execOp
  rw [ho]
  have hb:(Instr.sliceBounds true n c (lo.map a.eval) (some (a.eval hi)) (some (a.eval mx))).run P w = .ok (la,ha,mc) w:=by
   have g1:=run_sliceBound (P:=P) (w:=w) hmv (Nat.le_trans h3 hnc)
   have g2:=run_sliceBound (P:=P) (w:=w) hhv h2
   rcases hlo with ⟨e1,rfl⟩ | ⟨q',e1⟩
   ·rw [e1];simp [Instr.sliceBounds,g1,g2]
   ·rw [e1];simp [Instr.sliceBounds,g1,g2,run_sliceBound (P:=P) (w:=w) rfl h1]
  have hne:¬ mc=la:=by omega
  simp [Instr.sliceAt,run_underlying hu,Instr.slice,hv,hb,run_sizeOf hz,hne,Addr.add_mid]
 ·show VRel _ (.l nn 0 (ha - la)) _
  simp only [VRel]
  exact ⟨_,Env'.with_self _ _ _,by show 0 + (ha - la)≤mc - la;omega,l2.base + (k2 + q) * szx + la * szx,fun _=>by show _=l2.base + (k2 + q + la) * szx + 0 * szx;rw [Nat.add_mul (k2 + q) la,Nat.zero_mul];omega,by simp⟩
theorem lag_inv (hs:Sim B E st w) (ht:TmRel E nt tm a) {cop:COp} (hc:comp1 P o.op=cop) (hlag:isLag cop=true) (h:disp cop noop call tm st k=some r):∃ blk val,LagS P (execOp a.eval o) blk val∧Late B E w st k r blk val:=by
 unfold comp1 at hc
 split at hc
 case h_4 t ho =>
  split at hc
  ·rename_i n row hz;subst hc;exact nw_lag (tm:=tm) hs ho hz h
  ·subst hc;cases hlag
 case h_5 t x ho=>subst hc;exact bx_lag hs ht ho h
 case h_7 t n ps ho =>
  split at hc
  ·rename_i e hu
   split at hc
   ·rename_i sz z l hz hps
    split at hc
    ·rename_i h1 h2
     subst hc
     exact bs_lag hs ht ho hu hz hps (Nat.le_of_ble_eq_true h1) (Nat.le_of_ble_eq_true h2) h
    ·subst hc;cases hlag
   ·subst hc;cases hlag
  ·subst hc;cases hlag
 case h_16 t ho=>subst hc;exact mm_lag (tm:=tm) hs ho (.inl rfl) h
 case h_17 t x ho =>
  split at hc
  ·rename_i q e hu
   subst hc
   obtain ⟨kk,n,hn,h⟩:=asI_inv h
   have hx:=co_rel hs ht x
   rw [hn] at hx
   simp only [VRel] at hx
   exact mm_lag (tm:=tm) hs ho (.inr ⟨x,kk,n,rfl,hx,q,e,hu⟩) h
  ·subst hc;cases hlag
 case h_18 t l c ho =>
  split at hc
  ·rename_i e hu
   split at hc
   ·rename_i sz z hz;subst hc;exact ms_lag hs ht ho hu hz h
   ·subst hc;cases hlag
  ·subst hc;cases hlag
 case h_20 t x lo hi mx ho =>
  split at hc
  ·rename_i e hu
   split at hc
   ·rename_i sz hz;subst hc;exact s3_lag hs ht ho hu hz h
   ·subst hc;cases hlag
  ·subst hc;cases hlag
 case h_33 c ho =>
  have:∀ cop,compCall P c=cop→isLag cop=true→False:=by
   intro cop hc hl
   unfold compCall at hc
   (repeat' split at hc) <;> (subst hc;cases hl)
  exact (this cop hc hlag).elim
 all_goals (repeat' split at hc) <;> (subst hc;cases hlag)
end
end Go.AM
namespace Go
section
variable {P:Program} {ops:Array Oper} {md:Region.Mode} {Q:Exit→Act→World→Prop}
structure Pr where
 i:Nat
 s:Sem Next
 v:Value
def Keeps (P:Program) (pr:List Pr) (w:World):Prop:=∀ p ∈ pr,p.s.run P w = .ok (.value p.v) w
def asksFor (md:Region.Mode) (ops:Array Oper) (j i:Nat):Bool:=match ops[j]? with
 | some o=>o.after.any (fun e=>Region.binds md e && e.on == i)
 | none=>false
def Pr.left (md:Region.Mode) (ops:Array Oper) (j:Nat) (pr:List Pr):List Pr:=pr.filter fun p=>!asksFor md ops j p.i
def wpAnyP (P:Program) (md:Region.Mode) (ops:Array Oper) (Q:Exit→Act→World→Prop):Nat→List Pr→Array Bool→Act→World→Prop
 | 0,_,listed,a,w=>Region.ready md ops listed = []∧Q .normal a w
 | fuel + 1,pr,listed,a,w =>
   (Region.ready md ops listed = []→Q .normal a w) ∧
   ∀ i ∈ Region.ready md ops listed,wpOp P ops Q i (fun a' w'=>Keeps P (Pr.left md ops i pr) w'∧wpAnyP P md ops Q fuel (Pr.left md ops i pr) (listed.setIfInBounds i true) a' w') a w
theorem wpAny_of_P:∀ (fuel:Nat) (pr:List Pr) (listed:Array Bool) (a:Act) (w:World),wpAnyP P md ops Q fuel pr listed a w→wpAny P md ops Q fuel listed a w
 | 0,_,_,_,_,h=>h
 | fuel + 1,_,_,_,_,h=>⟨h.1,fun i hi=>wpOp_mono (fun a' w' hh=>wpAny_of_P fuel _ _ a' w' hh.2) (h.2 i hi)⟩
theorem Keeps.sub {pr pr':List Pr} {w:World} (h:Keeps P pr w) (hs:∀ p ∈ pr',p ∈ pr):Keeps P pr' w:=fun p hp=>h p (hs p hp)
theorem Pr.left_sub {j:Nat} {pr pr':List Pr} (hs:∀ p ∈ pr',p ∈ pr):∀ p ∈ Pr.left md ops j pr',p ∈ Pr.left md ops j pr:=fun p hp=>by
 unfold Pr.left at *
 rw [List.mem_filter] at *
 exact ⟨hs p hp.1,hp.2⟩
theorem Pr.left_mem {j:Nat} {pr:List Pr}:∀ p ∈ Pr.left md ops j pr,p ∈ pr:=fun _ hp=>(List.mem_filter.1 hp).1
theorem wpAnyP_sub:∀ (fuel:Nat) {pr pr':List Pr} {listed:Array Bool} {a:Act} {w:World},(∀ p ∈ pr',p ∈ pr)→wpAnyP P md ops Q fuel pr listed a w→wpAnyP P md ops Q fuel pr' listed a w
 | 0,_,_,_,_,_,_,h=>h
 | fuel + 1,_,_,_,_,_,hs,h=>⟨h.1,fun i hi=>wpOp_mono (fun _ _ hh=>⟨hh.1.sub (Pr.left_sub hs),wpAnyP_sub fuel (Pr.left_sub hs) hh.2⟩) (h.2 i hi)⟩
def StillP (ops:Array Oper) (o:Oper) (s:Sem Next) (v:Value) (a:Act):Prop :=
 (Region.wanted o (yielded ops a.tmps)=true∧execOp a.eval o=s) ∨ (Region.wanted o (yielded ops a.tmps)=false∧v=undef)
theorem StillP.of_same {o:Oper} {s:Sem Next} {v:Value} {a a':Act} (hy:StillP ops o s v a) (he:execOp a'.eval o=execOp a.eval o)
 (hw:Region.wanted o (yielded ops a'.tmps)=Region.wanted o (yielded ops a.tmps)):StillP ops o s v a':=by
 unfold StillP at *
 rw [he,hw]
 exact hy
theorem StillP.wpOp {i:Nat} {o:Oper} {s:Sem Next} {v:Value} {a:Act} (hi:ops[i]? = some o) (hy:StillP ops o s v a)
 {K:Act→World→Prop} {w:World} (hc:s.run P w = .ok (.value v) w) (h:K (a.put o.dst v) w):wpOp P ops Q i K a w:=by
 unfold Go.wpOp
 simp only [hi]
 rcases hy with ⟨hw,hv⟩ | ⟨hw,rfl⟩
 ·simp only [hw,if_true,Oper.wp,hv,hc,Oper.upon];exact .inl h
 ·simp only [hw,Bool.false_eq_true,if_false];exact h
theorem wpOp_putP {j:Nat} {oi oj:Oper} {s:Sem Next} {v:Value} (hj:ops[j]? = some oj) (hap:oi.apart ops oj=true)
 (hsi:∀ cs b,oi.op ≠ .select cs b) (hsj:∀ cs b,oj.op ≠ .select cs b)
 (hQ:∀ c a w,Q (.panic c) (a.put oi.dst v) w→Q (.panic c) a w) {K:Act→World→Prop} {a:Act} {w:World}
 (hy:StillP ops oi s v a) (h:wpOp P ops Q j K (a.put oi.dst v) w) :
 wpOp P ops Q j (fun a' w'=>StillP ops oi s v a'∧K (a'.put oi.dst v) w') a w:=by
 obtain ⟨h1,h2,h3⟩:=Oper.apart_spec hap
 have keep:∀ (a:Act),StillP ops oi s v a→∀ u,StillP ops oi s v (a.put oj.dst u):=fun a hy u =>
  hy.of_same (execOp_put oi hsi a oj.dst u h3) (wanted_put oi a oj.dst u h3)
 have keepD:∀ d,StillP ops oi s v { a with defers:=d :: a.defers }:=fun d=>hy.of_same rfl rfl
 unfold wpOp at *
 simp only [hj] at *
 rw [wanted_put oj a oi.dst v h1] at h
 split
 ·rename_i hw
  simp only [hw,if_true] at h
  rcases h with h | ⟨hasks,hlets⟩
  case inr=>exact .inr ⟨by unfold Oper.asks at *;rw [execOp_put oj hsj a oi.dst v h1] at hasks;exact hasks,hlets⟩
  refine .inl ?_
  unfold Oper.wp at *
  rw [execOp_put oj hsj a oi.dst v h1] at h
  generalize (execOp a.eval oj).run P w=r at *
  cases r with
  | ok n w' =>
    cases n <;> simp only [Oper.upon] at h ⊢
    case value u=>exact ⟨keep a hy u,by rw [← Act.put_comm a v u h2];exact h⟩
    case skip=>exact ⟨keep a hy _,by rw [← Act.put_comm a v undef h2];exact h⟩
    case defer d =>
     refine ⟨keep _ (keepD d) _,?_⟩
     rw [← Act.put_comm _ v undef h2,← Act.put_defers]
     exact h
    case enter f args =>
     refine Calls.mono h fun e w'' he=>?_
     cases e with
     | returned u=>exact ⟨keep a hy u,by rw [← Act.put_comm a v u h2];exact he⟩
     | panicked c=>exact hQ _ _ _ he
     | outgrown=>exact he
    case row row args=>exact Rows.mono h fun u w'' he=>⟨keep a hy u,by rw [← Act.put_comm a v u h2];exact he⟩
  | halt x w' =>
    cases x <;> simp only [Oper.upon] at h ⊢
    case panic u=>exact hQ _ _ _ h
 ·rename_i hw
  simp only [hw] at h
  exact ⟨keep a hy _,by rw [← Act.put_comm a v undef h2];exact h⟩
theorem wpAnyP_first {i:Nat} {oi:Oper} {s:Sem Next} {v:Value} (hi:ops[i]? = some oi) (hsel:∀ (j:Nat) (o:Oper) cs b,ops[j]? = some o→o.op ≠ .select cs b)
 (hQ:∀ c a w,Q (.panic c) (a.put oi.dst v) w→Q (.panic c) a w) :
 ∀ (fuel:Nat) (pr:List Pr) (listed:Array Bool) (a:Act) (w:World),Keeps P pr w→s.run P w = .ok (.value v) w →
   (∀ j oj,ops[j]? = some oj→j ≠ i→listed.getD j true=false→(∀ e ∈ oj.after,Region.binds md e=true→e.on ≠ i)→oi.apart ops oj=true) →
   i ∈ Region.ready md ops listed→StillP ops oi s v a →
   wpAnyP P md ops Q fuel (⟨i,s,v⟩ :: pr) (listed.setIfInBounds i true) (a.put oi.dst v) w→wpAnyP P md ops Q (fuel + 1) pr listed a w:=by
 intro fuel
 induction fuel with
 | zero =>
   intro pr listed a w hk hc _ hr hy H
   refine ⟨fun h=>(by rw [h] at hr;cases hr),fun j hj=>?_⟩
   by_cases hji:j=i
   ·subst hji;exact hy.wpOp hi hc ⟨hk.sub Pr.left_mem,wpAnyP_sub 0 (fun p hp=>List.mem_cons_of_mem _ (Pr.left_mem p hp)) H⟩
   ·have:=ready_mono hj hji
    rw [H.1] at this
    cases this
 | succ fuel ih =>
   intro pr listed a w hk hc hfree hr hy H
   refine ⟨fun h=>(by rw [h] at hr;cases hr),fun j hj=>?_⟩
   by_cases hji:j=i
   ·subst hji;exact hy.wpOp hi hc ⟨hk.sub Pr.left_mem,wpAnyP_sub _ (fun p hp=>List.mem_cons_of_mem _ (Pr.left_mem p hp)) H⟩
   ·have h1:=H.2 j (ready_mono hj hji)
    obtain ⟨hjun,oj,hoj,hall⟩:=mem_ready.1 hj
    have hnot:∀ e ∈ oj.after,Region.binds md e=true→e.on ≠ i:=fun e he hb heq=>by
     have h1:=hall e he hb
     have h0:=(mem_ready.1 hr).1
     rw [heq] at h1
     rcases Nat.lt_or_ge i listed.size with h' | h'
     ·simp [h'] at h0 h1;rw [h0] at h1;cases h1
     ·simp [Array.getElem?_eq_none h'] at h1
    have hno:asksFor md ops j i=false:=by
     unfold asksFor
     rw [hoj]
     simp only []
     rw [Bool.eq_false_iff]
     intro hany
     obtain ⟨e,he,hb⟩:=Array.any_eq_true'.1 hany
     simp only [Bool.and_eq_true,beq_iff_eq] at hb
     exact hnot e he hb.1 hb.2
    have hleft:Pr.left md ops j (⟨i,s,v⟩ :: pr)=⟨i,s,v⟩ :: Pr.left md ops j pr:=by
     unfold Pr.left
     rw [List.filter_cons]
     simp only [hno,Bool.not_false,if_true]
    have h2:=wpOp_putP hoj (hfree j oj hoj hji hjun hnot) (fun cs b=>hsel i oi cs b hi) (fun cs b=>hsel j oj cs b hoj) hQ hy h1
    have hfree':∀ k ok,ops[k]? = some ok→k ≠ i→(listed.setIfInBounds j true).getD k true=false →
     (∀ e ∈ ok.after,Region.binds md e=true→e.on ≠ i)→oi.apart ops ok=true:=fun k ok hk hki hun hno=>by
     refine hfree k ok hk hki ?_ hno
     by_cases hjk:j=k
     ·subst hjk;exact hjun
     ·rw [getD_set_ne true hjk] at hun;exact hun
    refine wpOp_mono (fun a' w' h3=>?_) h2
    obtain ⟨h3,h4,h5⟩:=h3
    rw [hleft] at h4 h5
    refine ⟨h4.sub (fun p hp=>List.mem_cons_of_mem _ hp),ih _ (listed.setIfInBounds j true) a' w' (h4.sub (fun p hp=>List.mem_cons_of_mem _ hp)) (h4 ⟨i,s,v⟩ (List.mem_cons_self ..)) hfree' (ready_mono hr (Ne.symm hji)) h3 ?_⟩
    rw [Array.setIfInBounds_comm _ _ hji]
    exact h5
theorem wpAnyP_done {pr:List Pr} {listed:Array Bool} {a:Act} {w:World} (hr:Region.ready md ops listed = []) (h:Q .normal a w) (fuel:Nat):wpAnyP P md ops Q fuel pr listed a w:=by
 cases fuel with
 | zero=>exact ⟨hr,h⟩
 | succ n=>exact ⟨fun _=>h,by rw [hr];simp⟩
end
end Go
namespace Go.AM
noncomputable section
def sameA:AV→AV→Bool
 | .b x,.b y=>eqb x y
 | .i q x,.i q' y=>eqk q q' && eqi x y
 | .s x,.s y=>eqs x y
 | .p0,.p0=>true
 | .p r o,.p r' o'=>Nat.beq r r' && Nat.beq o o'
 | .l0,.l0=>true
 | .l r o n,.l r' o' n'=>Nat.beq r r' && (Nat.beq o o' && (Nat.beq n n' && (Nat.beq o 0 || Nat.blt 0 n)))
 | .m0,.m0=>true
 | .m r,.m r'=>Nat.beq r r'
 | .f0,.f0=>true
 | .f (.func f) a c,.f (.func f') a' c'=>Nat.beq f f' && (sameA a a' && sameA c c')
 | .x0,.x0=>true
 | .x t v,.x t' v'=>Nat.beq t t' && sameA v v'
 | .a c,.a c'=>sameA c c'
 | .t c,.t c'=>sameA c c'
 | .nl,.nl=>true
 | .cn x l,.cn y m=>sameA x y && sameA l m
 | _,_=>false
def slotV (d:Option (List D)) (tm:Tm):AV:=Option.rec (motive:=fun _=>Tm→AV) (fun _=>.u) (fun p tm=>gv (T.get p tm)) d tm
def isPu:COp→Bool
 | .sl _ _ _ _=>true
 | _=>false
def chk1 (c:CR):(Nat→Bool)→CallF→Tm→St→Out→Out:=CR.rec (motive:=fun _=>(Nat→Bool)→CallF→Tm→St→Out→Out)
 (fun o d g noop call tm st y=>iff (isPu o) y (grd g tm (disp o noop call tm st (fun v _=>must (sameA v (slotV d tm)) y)) y)) c
def chkL (l:List CR):(Nat→Bool)→CallF→Tm→St→Out→Out:=List.rec (motive:=fun _=>(Nat→Bool)→CallF→Tm→St→Out→Out) (fun _ _ _ _ y=>y) (fun c _ ih noop call tm st y=>chk1 c noop call tm st (ih noop call tm st y)) l
def probe1 (c:CR):(Nat→Bool)→CallF→Tm→St→Out→Out:=CR.rec (motive:=fun _=>(Nat→Bool)→CallF→Tm→St→Out→Out) (fun o _ _ noop call tm st y=>disp o noop call tm st (fun _ _=>y)) c
def probeL (l:List CR):(Nat→Bool)→CallF→Tm→St→Out→Out:=List.rec (motive:=fun _=>(Nat→Bool)→CallF→Tm→St→Out→Out) (fun _ _ _ _ y=>y) (fun c _ ih noop call tm st y=>probe1 c noop call tm st (ih noop call tm st y)) l
inductive CX where | mk (c:CR) (l:List CR) (pre:List CR) (l0:List CR)
def doX (l:List CX):(Nat→Bool)→CallF→Tm→St→(Tm→St→Out)→Out:=List.rec (motive:=fun _=>(Nat→Bool)→CallF→Tm→St→(Tm→St→Out)→Out) (fun _ _ tm st k=>k tm st)
 (fun x _ ih=>CX.rec (motive:=fun _=>((Nat→Bool)→CallF→Tm→St→(Tm→St→Out)→Out)→(Nat→Bool)→CallF→Tm→St→(Tm→St→Out)→Out)
   (fun c l pre l0 ih noop call tm st k=>chkL l0 noop call tm st (probeL pre noop call tm st (CR.rec (motive:=fun _=>List CR→((Nat→Bool)→CallF→Tm→St→(Tm→St→Out)→Out)→(Nat→Bool)→CallF→Tm→St→(Tm→St→Out)→Out)
     (fun o d g l ih noop call tm st k=>grd g tm (disp o noop call tm st (fun v st=>chkL l noop call (putd d v tm) st (ih noop call (putd d v tm) st k))) (ih noop call (putd d (.t .nl) tm) st k)) c l ih noop call tm st k))) x ih) l
def CR.o:CR→COp
 | .mk o _ _=>o
def clr (ops:Array Oper) (j i:Nat):Bool:=match ops[j]?,ops[i]? with
 | some oj,some oi=>(match oj.dst with | some d=>!(oi.looksAt ops).contains d && oi.dst != some d | none=>true)
 | _,_=>false
def isRd (c:CR):Bool:=match c with | .mk o (some _) _=>Nat.beq (cls o) 0 | _=>false
def slf (ops:Array Oper) (o:Oper):Bool:=match o.dst with | some d=>!(o.looksAt ops).contains d | none=>true
def pickRd (P:Program) (nt:Nat) (ops:Array Oper) (listed:Array Bool):List Nat→Option (Nat × CR)
 | []=>none
 | i :: l=>match ops[i]? with
   | some o=>(match isRd (compO P nt ops o) && (slf ops o && Region.free .any ops listed i) with | true=>some (i,compO P nt ops o) | false=>pickRd P nt ops listed l)
   | none=>pickRd P nt ops listed l
def lagR (c:CR):Bool:=match c with | .mk o (some _) none=>isLag o | _=>false
def lagOf (P:Program) (nt:Nat) (ops:Array Oper) (i:Nat):Bool:=match ops[i]? with | some o=>lagR (compO P nt ops o) | none=>false
def curOf (P:Program) (nt:Nat) (ops:Array Oper) (rs:List Nat):Option Nat:=match rs.filter (fun i=>!lagOf P nt ops i) with
 | [j]=>some j
 | []=>rs.head?
 | _=>none
def lst (is:List Nat) (listed:Array Bool):Array Bool:=is.foldl (fun l i=>l.setIfInBounds i true) listed
def rdyO (ops:Array Oper) (rs:List Nat) (listed:Array Bool) (others:List Nat):List Nat:=match others with
 | []=>rs
 | _ :: _=>Region.ready .any ops (lst others listed)
def stepOk (ops:Array Oper) (rs:List Nat) (listed:Array Bool) (prs:List (Nat × CR)) (cur:Nat) (others:List Nat):Bool :=
 (rdyO ops rs listed others == [cur]) && others.all (fun i=>clr ops i cur && (clr ops cur i && (others.all (fun j=>Nat.beq i j || clr ops i j) && prs.all (fun p=>clr ops i p.1))))
def crsOf (P:Program) (nt:Nat) (ops:Array Oper):List Nat→List CR
 | []=>[]
 | i :: l=>match ops[i]? with | some o=>compO P nt ops o :: crsOf P nt ops l | none=>crsOf P nt ops l
def preOf (others:List Nat) (l:List CR):List CR:=match others with
 | []=>[]
 | _ :: _=>l
def allRd (P:Program) (nt:Nat) (ops:Array Oper) (listed:Array Bool):List Nat→Bool
 | []=>true
 | i :: l=>(match listed.getD i true with
   | true=>allRd P nt ops listed l
   | false=>(match ops[i]? with | some o=>(match isRd (compO P nt ops o) with | true=>allRd P nt ops listed l | false=>false) | none=>allRd P nt ops listed l))
def mkQ (P:Program) (nt:Nat) (ops:Array Oper):Nat→Array Bool→Option (List CX)
 | n,listed=>match Region.ready .any ops listed with
   | []=>some []
   | rs=>match n with
     | 0=>none
     | n + 1=>match pickRd P nt ops listed rs with
       | some (i,c)=>(match mkQ P nt ops n (listed.setIfInBounds i true) with
         | some l=>some (.mk c [] [] [] :: l)
         | none=>none)
       | none=>none
def mkX (P:Program) (nt:Nat) (ops:Array Oper):Nat→List (Nat × CR)→Array Bool→Option (List CX)
 | n,prs,listed=>match Region.ready .any ops listed with
   | []=>some []
   | rs=>match allRd P nt ops listed (List.range ops.size) with
    | true=>mkQ P nt ops n listed
    | false=>match n with
     | 0=>none
     | n + 1=>match pickRd P nt ops listed rs with
       | some (i,c)=>(match prs.all (fun p=>clr ops i p.1),mkX P nt ops n ((i,c) :: prs) (listed.setIfInBounds i true) with
         | true,some l=>some (.mk c [] [] [] :: l)
         | _,_=>none)
       | none=>match curOf P nt ops rs with
         | some cur=>(match ops[cur]? with
           | some o =>
             let others:=(rs.filter (fun i=>lagOf P nt ops i)).filter (fun i=>!Nat.beq i cur)
             let prs':=prs.filter (fun p=>!asksFor .any ops cur p.1)
             (match stepOk ops rs listed prs cur others,prs'.all (fun p=>clr ops cur p.1),mkX P nt ops n prs' (listed.setIfInBounds cur true) with
             | true,true,some l=>some (.mk (compO P nt ops o) (prs'.map (·.2)) (crsOf P nt ops others) (preOf others (prs.map (·.2))) :: l)
             | _,_,_=>none)
           | none=>none)
         | none=>none
def compX (P:Program) (nt:Nat) (ops:Array Oper):List CX:=match Region.noSelect ops,mkX P nt ops ops.size [] (Array.replicate ops.size false) with
 | true,some l=>l
 | _,_=>[.mk (.mk .bad none none) [] [] []]
-- codes
structure Env where
 prim:Nat→Option CallF1
 noop:Nat→Bool
structure XR where
 noop:Nat→Bool
 call:CallF
 lp:Code→Program→Nat→Tm→St→KE→Out
def exN (e:Ex):Out→Out→Out:=Ex.rec (motive:=fun _=>Out→Out→Out) (fun a _=>a) (fun _ _ b=>b) (fun _ b=>b) e
def exB (e:Ex):Nat→Out→Out→Out:=Ex.rec (motive:=fun _=>Nat→Out→Out→Out) (fun _ _ b=>b) (fun j id a b=>iff (Nat.beq j id) a b) (fun _ _ b=>b) e
def exR (e:Ex):Out→Out:=Ex.rec (motive:=fun _=>Out→Out) (fun a=>a) (fun _ _=>none) (fun a=>a) e
def reg (draw:Bool):Array Oper→Program→Nat→XR→Tm→St→KE→Out:=Bool.rec (motive:=fun _=>Array Oper→Program→Nat→XR→Tm→St→KE→Out)
 (fun ops P nt x tm st k=>doOps (comp P nt ops) x.noop x.call tm st (fun tm st=>k .normal tm st))
 (fun ops P nt x tm st k=>doX (compX P nt ops) x.noop x.call tm st (fun tm st=>k .normal tm st)) draw
def exec (c:Code):Program→Nat→XR→Tm→St→KE→Out:=Code.rec (motive:=fun _=>Program→Nat→XR→Tm→St→KE→Out)
 (fun _ _ _ tm st k=>k .normal tm st)
 (fun _ ops draw P nt x tm st k=>reg draw ops P nt x tm st k)
 (fun _ _ iha ihb P nt x tm st k=>iha P nt x tm st (fun e tm st=>exN e (ihb P nt x tm st k) (k e tm st)))
 (fun c _ _ iha ihb P nt x tm st k=>asB (evc (co c) tm) (fun q=>iff q (iha P nt x tm st k) (ihb P nt x tm st k)))
 (fun id _ ih P nt x tm st k=>ih P nt x tm st (fun e tm st=>exB e id (k .normal tm st) (k e tm st)))
 (fun body ih P nt x tm st k=>ih P nt x tm st (fun e tm st=>exN e (x.lp (.loop body) P nt tm st k) (k e tm st)))
 (fun _ _ _ _ _ _ _ _ _ _ _ _=>none)
 (fun id _ _ _ tm st k=>k (.exit id) tm st)
 (fun _ _ _ _ _ _ _ _=>none)
 (fun _ _ _ _ tm st k=>k .normal tm st)
 (fun _ _ _ _ _ _ _=>none)
 (fun _ _ _ tm st k=>k .ret tm st)
 (fun _ _ _ _ _ _ _=>none) c
def argsT (v:AV):Nat→Tm→Tm:=AV.rec (motive:=fun _=>Nat→Tm→Tm) (fun _ tm=>tm) (fun _=>fun _ tm=>tm) (fun _ _=>fun _ tm=>tm) (fun _=>fun _ tm=>tm) (fun _ tm=>tm) (fun _ _=>fun _ tm=>tm) (fun _ tm=>tm) (fun _ _ _=>fun _ tm=>tm) (fun _ tm=>tm) (fun _=>fun _ tm=>tm) (fun _ tm=>tm) (fun _ _ _ _ _=>fun _ tm=>tm) (fun _ tm=>tm) (fun _ _ _=>fun _ tm=>tm) (fun _ _=>fun _ tm=>tm) (fun _ _=>fun _ tm=>tm) (fun _ tm=>tm) (fun h _ _ ih=>fun k tm=>ih (Nat.succ k) (T.set (pth k) (some h) tm)) v
inductive RC where | t (p:CO) | c1 (p:CO) | cA (n:Nat) (p:CO) | bad
def rcOf (P:Program):ResultVar→RC
 | .tmp n=>.t (co (.tmp n))
 | .cell n t=>match agT P t,szOf P t with | some true,some m=>.cA m (co (.tmp n)) | some false,some _=>.c1 (co (.tmp n)) | _,_=>.bad
def rc1 (r:RC):Tm→St→(AV→Out)→Out:=RC.rec (motive:=fun _=>Tm→St→(AV→Out)→Out) (fun p tm _ f=>f (evc p tm)) (fun p tm st f=>opLd1 p tm st (fun v _=>f v)) (fun n p tm st f=>opLdA n p tm st (fun v _=>f v)) (fun _ _ _=>none) r
def rcL (l:List RC):Tm→St→(AV→Out)→Out:=List.rec (motive:=fun _=>Tm→St→(AV→Out)→Out) (fun _ _ f=>f .nl) (fun r _ ih tm st f=>rc1 r tm st (fun v=>ih tm st (fun vs=>f (.cn v vs)))) l
def res (l:List RC) (tm:Tm) (st:St):Out:=match l with
 | [r]=>rc1 r tm st (fun v=>some [(v,st)])
 | l=>rcL l tm st (fun vs=>some [(.t vs,st)])
def callF (P:Program) (G:Env) (x:XR) (f:Nat) (xs:AV) (st:St):Out:=match G.prim f with
 | some g=>g xs st
 | none=>match P.funcs[f]? with
   | some F=>(match F.body with
     | some c=>seqN F.ntmps (fun nt=>must (and (Nat.ble nt 5000000) (Nat.ble (lenA xs) nt)) (exec c P nt x (argsT xs 0 .e) st (fun e tm st=>exR e (res (F.results.toList.map (rcOf P)) tm st))))
     | none=>none)
   | none=>none
def recs (P:Program) (G:Env) (n:Nat):XR:=Nat.rec (motive:=fun _=>XR) ⟨G.noop,fun _ _ _=>none,fun _ _ _ _ _ _=>none⟩ (fun _ ih=>⟨G.noop,callF P G ih,fun c P nt tm st k=>exec c P nt ih tm st k⟩) n
end
end Go.AM
