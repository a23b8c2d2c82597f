/-
  The operations, all of them but calls and what is deferred.
-/
import Derived.Test.YtjnbddedmbhiaaaGreatDoorPk41
import Derived.Orders
namespace Go.AM
open Go.RowKit
def cls:gJ->Nat
 | .nw ..=>1 | .bx ..=>1 | .bs ..=>1 | .st ..=>1 | .mm=>1 | .m2 ..=>1 | .ms ..=>1 | .mu ..=>1 | .rs ..=>1 | .rm ..=>1 | .ns ..=>1 | .nm ..=>1 | .aa ..=>1 | .ai ..=>1 | .cr ..=>1 | .s3 ..=>1
 | .cl ..=>2 | .df ..=>3 | .bad=>4
 |_=>0
section
variable {P:Program}{B:bB}{E:ax}{st:St}{w:World}{nt:Nat}{tm:Tm}{a:Act}{k:K}{r:List (AV × St)}{o:Oper}{aC:Nat->Bool}{call:dS}
theorem bX{n:Nat}(h:Reads P E st w a o k r)(hn:n=0):(n=0->Reads P E st w a o k r)/\(n=1->Does P B E w a o k r):=⟨fun _=>h,fun e=>by omega⟩
theorem je{n:Nat}(h:Does P B E w a o k r)(hn:n=1):(n=0->Reads P E st w a o k r)/\(n=1->Does P B E w a o k r):=⟨fun e=>by omega,fun _=>h⟩
theorem mM{n:Nat}(hn:2<=n):(n=0->Reads P E st w a o k r)/\(n=1->Does P B E w a o k r):=⟨fun e=>by omega,fun e=>by omega⟩
theorem Tu(hs:aB B E st w)(ht:aU E nt tm a){t e sz:Nat}{x hi mx:Operand}{lo:Option Operand}(ho:o.op = .slice t x lo (some hi) (some mx))(hu:P.underlying t=some (.slice e))(hz:cB P e=some sz)
 (h:xV sz (co x) (lo.map co) (co hi) (co mx) tm st k=some r):Does P B E w a o k r:=by
 unfold xV at h
 rcases lJ h with ⟨_,h⟩ | ⟨b,q,n,he,h⟩
 ·exact aS h
 obtain⟨la,h,hlo⟩:=mO hs ht h
 obtain⟨kh,ha,hhi,h⟩:=iG h
 obtain⟨km,mc,hmx,h⟩:=iG h
 obtain⟨h1,h⟩:=aJ h
 obtain⟨h2,h⟩:=aJ h
 obtain⟨h3,h⟩:=aJ h
 obtain⟨h4,h⟩:=aJ h
 have h1:la<=ha:=Nat.le_of_ble_eq_true h1
 have h2:ha<=mc:=Nat.le_of_ble_eq_true h2
 have h3:mc<=n:=Nat.le_of_ble_eq_true h3
 have h4:=dn h4
 obtain⟨b2,k2,e',szx,m,els,h,hq,hvia⟩:=vG h
 obtain⟨h5,h6⟩:=aJ h
 obtain⟨h64,h7⟩:=aJ h6
 clear h h6
 rw[gV]at h7
 have h5:=Nat.eq_of_beq_eq_true h5
 subst h5
 have h64:lowN<=b2:=Nat.le_of_ble_eq_true h64
 have hx:=aT hs ht x
 have hhv:=aT hs ht hi
 have hmv:=aT hs ht mx
 rw[he]at hx
 rw[hhi]at hhv
 rw[hmx]at hmv
 simp only[ag]at hhv hmv
 obtain⟨l2,off,c,hl2,hr,hsz,hcap,hoff,hv,hnc⟩:=hs.view hx hvia hq
 have hoff:=hoff (by omega)
 subst hoff
 have hown:=hs.own b2 _ l2 (hs.lt hl2) h64 hq hl2
 obtain⟨tr,nn,rfl,hnn,h⟩:=fP h7
 have hle':=ax.qo (l:=⟨l2.blk,l2.base+(k2+q+la)*szx,mc-la,szx⟩) (hs.fresh nn (Nat.le_refl nn))
 obtain⟨hle,hs'⟩:=aB.new (w':=w) (l:=⟨l2.blk,l2.base+(k2+q+la)*szx,mc-la,szx⟩) (o:=.al b2 (k2+q+la)) hs hnn hown (Nat.le_refl _) (fun e=>by cases e) (fun _ _ _ _ _ _ _=>rfl)
  ⟨hr.there,l2,hle' b2 l2 hl2,rfl,by show _=l2.base+(k2+q+la)*l2.sz;rw[hsz],hsz.symm,by show k2+q+la+(mc-la)<=l2.cap;omega,by show 0<mc-la;omega⟩
 refine⟨_,.slice (some ⟨l2.blk,l2.base+(k2+q)*szx+la*szx,none⟩) (ha-la) (mc-la),w,_,_,r,.inl ?_,hle,hs',bM.refl B w,?_,fun _ h=>h,h⟩
 ·unfold execOp
  rw[ho]
  have hb:(Instr.sliceBounds true n c (lo.map a.eval) (some (a.eval hi)) (some (a.eval mx))).run P w = .ok (la,ha,mc) w:=by
   have g1:=run_sliceBound (P:=P) (w:=w) hmv (Nat.le_trans h3 hnc)
   have g2:=run_sliceBound (P:=P) (w:=w) hhv h2
   rcases hlo with ⟨e1,rfl⟩ | ⟨q',e1⟩
   ·rw[e1];simp[Instr.sliceBounds,g1,g2]
   ·rw[e1];simp[Instr.sliceBounds,g1,g2,run_sliceBound (P:=P) (w:=w) rfl h1]
  have hne:¬ mc=la:=by omega
  simp[Instr.sliceAt,run_underlying hu,Instr.slice,hv,hb,run_sizeOf hz,hne,Addr.add_mid]
 ·show ag _ (.l nn 0 (ha-la)) _
  simp only[ag]
  exact⟨_,ax.jl _ _ _,by show 0+(ha-la)<=mc-la;omega,l2.base+(k2+q)*szx+la*szx,fun _=>by show _=l2.base+(k2+q+la)*szx+0*szx;rw[Nat.add_mul (k2+q) la,Nat.zero_mul];omega,by simp⟩
theorem Z7(hs:aB B E st w)(hB:dJ B w)(ht:aU E nt tm a){c:Call}(ho:o.op = .call c){cop:gJ}(hc:nZ P c=cop)(h:gF cop aC call tm st k=some r) :
 (cls cop=0->Reads P E st w a o k r)/\(cls cop=1->Does P B E w a o k r):=by
 unfold nZ at hc
 split at hc
 ·subst hc;exact mM (by simp[cls])
 ·rename_i hcal
  split at hc
  ·rename_i x hx hu;subst hc;exact bX (Xu hs ht ho hcal hx hu h) rfl
  ·rename_i x e hx hu;subst hc;exact bX (Xw hs ht ho hcal hx hu h) rfl
  ·rename_i x q e hx hu;subst hc;exact bX (Xv hs ht ho hcal hx hu h) rfl
  ·subst hc;exact mM (by simp[cls])
 ·rename_i hcal
  split at hc
  ·rename_i x y e e' hx hu hu'
   split at hc
   ·rename_i sz z hz h2 hT
    subst hc;exact je (y2g hs hB ht ho hcal hx hu hu' hz h2 hT h) rfl
   ·subst hc;exact mM (by simp[cls])
  ·rename_i x y e q hx hu hu'
   split at hc
   ·rename_i sz z hz h2
    subst hc;exact je (y2c hs hB ht ho hcal hx hu hu' hz h2 h) rfl
   ·subst hc;exact mM (by simp[cls])
  ·subst hc;exact mM (by simp[cls])
 ·rename_i hcal
  split at hc
  ·rename_i x e hx hu
   split at hc
   ·rename_i sz z hz
    subst hc;exact je (ZW hs ht ho hcal hx hu hz h) rfl
   ·subst hc;exact mM (by simp[cls])
  ·subst hc;exact mM (by simp[cls])
 ·rename_i hcal
  split at hc
  ·rename_i x y hx;subst hc;exact bX (VZ hs ht ho hcal hx h) rfl
  ·subst hc;exact mM (by simp[cls])
 ·rename_i hcal
  split at hc
  ·rename_i x y hx;subst hc;exact bX (Wm hs ht ho hcal hx h) rfl
  ·subst hc;exact mM (by simp[cls])
 ·subst hc;exact mM (by simp[cls])
theorem bU{cop:gJ}(hc:gJ.bad=cop):(cls cop=0->Reads P E st w a o k r)/\(cls cop=1->Does P B E w a o k r):=by
 subst hc;exact mM (by simp[cls])
theorem y1o{t:TypeId}{fs:Array Field}{pl:List (Nat × Nat)}(hu:P.underlying t=some (.struct fs))(hp:DR P fs=some pl)(i:TypeInfo)(v:Value)(hi:P.info? t=some i)(hv:i.zero=some v)(q:List (Nat × Value)) :
 P.built t q=Instr.fill (fun i=>pl[i]?) v.cells q:=by
 unfold DR at hp
 unfold Program.built
 rw[hi,hu]
 simp only[hv,hp]
 congr 1
 funext i
 simp
theorem y1p{t e m:TypeId}{n:Nat}(hu:P.underlying t=some (.array m e))(hz:cB P e=some n)(i:TypeInfo)(v:Value)(hi:P.info? t=some i)(hv:i.zero=some v)(q:List (Nat × Value)) :
 P.built t q=Instr.fill (fun i=>some (Nat.mul i n,n)) v.cells q:=by
 unfold cB at hz
 split at hz
 ·rename_i j hj
  cases hz
  unfold Program.built
  rw[hi,hu]
  simp only[hv,hj]
  rfl
 ·cases hz
theorem BJ(hs:aB B E st w)(hB:dJ B w)(ht:aU E nt tm a){cop:gJ}(hc:iO P o.op=cop)(h:gF cop aC call tm st k=some r) :
 (cls cop=0->Reads P E st w a o k r)/\(cls cop=1->Does P B E w a o k r):=by
 unfold iO at hc
 split at hc
 case h_1 x ho=>subst hc;exact bX (Me hs ht (.inl ho) h) rfl
 case h_2 x ho=>subst hc;exact bX (Me hs ht (.inr ho) h) rfl
 case h_3 c x y ho=>subst hc;exact bX (UA hs ht ho h) rfl
 case h_4 t ho =>
  split at hc
  ·rename_i n row hz;subst hc;exact je (VC (tm:=tm) hs hB ho hz h) rfl
  ·exact bU hc
 case h_5 t x ho=>subst hc;exact je (y1n hs hB ht ho h) rfl
 case h_6 t ps ho =>
  split at hc
  ·rename_i fs z hu hz
   split at hc
   ·rename_i pl hpl
    split at hc
    ·rename_i l hl;subst hc;exact bX (Qm hs ht ho hz (y1o hu hpl) hl h) rfl
    ·exact bU hc
   ·exact bU hc
  ·rename_i m e z hu hz
   split at hc
   ·rename_i n hn
    split at hc
    ·rename_i l hl;subst hc;exact bX (Qm hs ht ho hz (y1p hu hn) hl h) rfl
    ·exact bU hc
   ·exact bU hc
  ·exact bU hc
 case h_7 t n ps ho =>
  split at hc
  ·rename_i e hu
   split at hc
   ·rename_i sz z l hz hps
    split at hc
    ·rename_i h1 h2
     subst hc
     exact je (y1r hs hB ht ho hu hz hps (Nat.le_of_ble_eq_true h1) (Nat.le_of_ble_eq_true h2) h) rfl
    ·exact bU hc
   ·exact bU hc
  ·exact bU hc
 case h_8 t x ho =>
  split at hc
  ·rename_i n hg hn;subst hc;exact bX (Xc hs ht ho hg hn h) rfl
  ·rename_i n hg hn;subst hc;exact bX (Xe hs ht ho hg h) rfl
  ·exact bU hc
 case h_9 t x v ho =>
  split at hc
  ·rename_i n hn;subst hc;exact je (Sr hs ht ho hn h) rfl
  ·exact bU hc
 case h_10 x ho=>subst hc;exact bX (VP hs ht ho h) rfl
 case h_11 op t x y t' ho =>
  split at hc
  ·rename_i hu;subst hc;exact bX (y1G hs ht ho hu h) rfl
  ·rename_i hu
   split at hc
   ·subst hc;exact bX (Kl (l:=true) hs ht ho h) rfl
   ·subst hc;exact bX (Kl (l:=false) hs ht ho h) rfl
   ·subst hc;exact bX (Qk hs ht ho h) rfl
  ·rename_i hu;subst hc;exact bX (Qk hs ht ho h) rfl
  ·rename_i e hu;subst hc;exact bX (zl (q:=.p) hs ht ho hu ⟨e,rfl⟩ (fun e=>by cases e) h) rfl
  ·rename_i e hu;subst hc;exact bX (zl (q:=.l) hs ht ho hu ⟨e,rfl⟩ (fun e=>by cases e) h) rfl
  ·rename_i q e hu;subst hc;exact bX (zl (q:=.m) hs ht ho hu ⟨q,e,rfl⟩ (fun e=>by cases e) h) rfl
  ·rename_i p q s hu;subst hc;exact bX (zl (q:=.f) hs ht ho hu ⟨p,q,s,rfl⟩ (fun e=>by cases e) h) rfl
  ·rename_i e hu
   split at hc
   ·rename_i v
    subst hc;exact bX (zl (q:=.x) hs ht ho hu ⟨e,rfl⟩ (fun _=>⟨_,rfl⟩) h) rfl
   ·exact bU hc
  ·rename_i fs hu
   split at hc
   ·rename_i ks hk;subst hc;exact bX (y1I hs ht ho hu hk h) rfl
   ·exact bU hc
  ·exact bU hc
 case h_12 op t x ho =>
  split at hc
  ·subst hc;exact bX (VG hs ht ho h) rfl
  ·subst hc;exact bX (VN hs ht ho h) rfl
  ·exact bU hc
 case h_13 s t x ho =>
  split at hc
  ·rename_i q' q h1 h2;subst hc;exact bX (ZO hs ht ho h1 h2 h) rfl
  ·rename_i h1 h2;subst hc;exact bX (ZT hs ht ho h1 h2 h) rfl
  ·exact bU hc
 case h_14 t x ho =>
  split at hc
  ·exact bU hc
  ·rename_i d hne hd;subst hc;exact bX (Wq hs ht ho hd (fun ms e=>hne ms e) h) rfl
  ·exact bU hc
 case h_15 fn f c ho=>subst hc;exact bX (Ws hs ht ho h) rfl
 case h_16 t ho=>subst hc;exact je (Ms (tm:=tm) hs hB ho (.inl rfl) h) rfl
 case h_17 t x ho =>
  split at hc
  ·rename_i q e hu
   subst hc
   obtain⟨kk,n,hn,h⟩:=jC h
   have hx:=aT hs ht x
   rw[hn]at hx
   simp only[ag]at hx
   exact je (Ms (tm:=tm) hs hB ho (.inr ⟨x,kk,n,rfl,hx,q,e,hu⟩) h) rfl
  ·exact bU hc
 case h_18 t l c ho =>
  split at hc
  ·rename_i e hu
   split at hc
   ·rename_i sz z hz;subst hc;exact je (Wl hs hB ht ho hu hz h) rfl
   ·exact bU hc
  ·exact bU hc
 case h_19 t x lo hi ho =>
  split at hc
  ·rename_i hu;subst hc;exact bX (Su hs ht ho hu h) rfl
  ·rename_i e hu
   split at hc
   ·rename_i sz hz;subst hc;exact bX (SC hs ht ho hu hz h) rfl
   ·exact bU hc
  ·exact bU hc
 case h_20 t x lo hi mx ho =>
  split at hc
  ·rename_i e hu
   split at hc
   ·rename_i sz hz;subst hc;exact je (Tu hs ht ho hu hz h) rfl
   ·exact bU hc
  ·exact bU hc
 case h_21 t x j ho =>
  split at hc
  ·rename_i fs hu
   split at hc
   ·rename_i fd hf
    split at hc
    ·rename_i m hz;subst hc;exact bX (Zq hs ht ho hu hf hz h) rfl
    ·exact bU hc
   ·exact bU hc
  ·exact bU hc
 case h_22 t x j ho =>
  split at hc
  ·rename_i fs hu
   split at hc
   ·rename_i fd hf
    split at hc
    ·rename_i n hg hz;subst hc;exact bX (Zr hs ht ho hu hf hg hz h) rfl
    ·rename_i hg;subst hc;exact bX (Zt hs ht ho hu hf hg h) rfl
    ·exact bU hc
   ·exact bU hc
  ·exact bU hc
 case h_23 t x j ho =>
  split at hc
  ·rename_i e hu
   split at hc
   ·rename_i sz hz;subst hc;exact bX (Yo hs ht ho hu hz h) rfl
   ·exact bU hc
  ·rename_i n e hu
   split at hc
   ·rename_i sz hz;subst hc;exact bX (y1X hs ht ho hu hz h) rfl
   ·exact bU hc
  ·exact bU hc
 case h_24 t x j ho =>
  split at hc
  ·rename_i hu;subst hc;exact bX (XJ hs ht ho hu h) rfl
  ·rename_i n e hu
   split at hc
   ·rename_i hg hz;subst hc;exact bX (Yp hs ht ho hu hg hz h) rfl
   ·exact bU hc
  ·exact bU hc
 case h_25 t x q ok ho =>
  split at hc
  ·rename_i kt e hu
   split at hc
   ·rename_i kk z hq hz;subst hc;exact bX (WQ hs ht ho hu hq hz h) rfl
   ·exact bU hc
  ·exact bU hc
 case h_26 t x q v ho =>
  split at hc
  ·rename_i kt e hu
   split at hc
   ·rename_i kk hq;subst hc;exact je (Mf hs ht (.inl ho) hu hq h) rfl
   ·exact bU hc
  ·exact bU hc
 case h_27 t x q v ho =>
  split at hc
  ·rename_i kt e hu
   split at hc
   ·rename_i kk hq;subst hc;exact je (Mf hs ht (.inr ho) hu hq h) rfl
   ·exact bU hc
  ·exact bU hc
 case h_28 t x ho =>
  split at hc
  ·rename_i hu;subst hc;exact je (TK hs hB ht ho hu h) rfl
  ·rename_i q e hu;subst hc;exact je (TR hs hB ht ho hu h) rfl
  ·exact bU hc
 case h_29 x ho=>subst hc;exact je (VH hs ht ho h) rfl
 case h_30 x ho=>subst hc;exact je (VM hs ht ho h) rfl
 case h_31 x ho=>subst hc;exact bX (Zz hs ht ho h) rfl
 case h_32 x j ho=>subst hc;exact bX (QP hs ht ho h) rfl
 case h_33 c ho=>exact Z7 hs hB ht ho hc h
 case h_34 c ho =>
  split at hc
  ·subst hc;exact mM (by simp[cls])
  ·exact bU hc
 case h_35=>exact bU hc
end
end Go.AM
namespace Go.AM
open Go.RowKit
def tX:gJ->Bool
 | .nw ..=>true | .bx ..=>true | .bs ..=>true | .mm=>true | .m2 ..=>true | .ms ..=>true | .s3 ..=>true
 |_=>false
def uI(P:Program)(s:Sem Next)(blk:Option Obj)(val:Nat->Value):Prop:=match blk with
 |some x=>∀w,s.run P w = .ok (.value (val w.heap.size)) (w.alloc x)
 |none=>∀w,s.run P w = .ok (.value (val 0)) w
def Late(B:bB)(E:ax)(w:World)(st:St)(k:K)(r:List (AV × St))(blk:Option Obj)(val:Nat->Value):Prop:=match blk with
 |some x=>∀p,w.heap[p]? = some x->¬ B p->lowN<=p->(∀s q l',s<lim->lowN<=s->T.get (az s) st.h=some q->q.dz=false->E s=some l'->l'.blk≠p) ->
   ∃v E' st',E.le E'/\aB B E' st' w/\ag E' v (val p)/\k v st' = some r
 |none=>∃v E' st',E.le E'/\aB B E' st' w/\ag E' v (val 0)/\k v st' = some r
section
variable {P:Program}{B:bB}{E:ax}{st:St}{w:World}{nt:Nat}{tm:Tm}{a:Act}{k:K}{r:List (AV × St)}{o:Oper}{aC:Nat->Bool}{call:dS}
theorem yD(hs:aB B E st w){x:Obj}{q:Ob}{vf:Nat->AV}{cap sz:Nat}{val:Nat->Value}(h:iJ st q vf k=some r)(_hal:q.dz=false)
 (hq:∀E' p,E.le E'->w.heap[p]? = some x->dR E' false ⟨p,0,cap,sz⟩ w q) (hv:∀(E':ax) n p,E' n=some ⟨p,0,cap,sz⟩->ag E' (vf n) (val p)):Late B E w st k r (some x) val:=by
 intro p hp hB hlow hne
 obtain⟨tr,n,rfl,hn,h⟩:=fP h
 have hle':=ax.qo (l:=⟨p,0,cap,sz⟩) (hs.fresh n (Nat.le_refl n))
 obtain⟨hle,hs'⟩:=aB.new (w':=w) (l:=⟨p,0,cap,sz⟩) (o:=q) hs hn hB (Nat.le_refl _) (fun _ s q' l' h1 h2 h3 h4=>by
  by_cases hl:lowN<=s
  ·exact hne s q' l' h1 hl h2 h3 h4
  ·have:=hs.kg s (by omega)
   rw[h4]at this
   cases this
   show s≠p
   omega) (fun _ _ _ _ _ _ _=>rfl) (hq _ p hle' hp)
 exact⟨vf n,_,_,hle,hs',hv _ n p (ax.jl _ _ _),h⟩
theorem y1m(hs:aB B E st w)(ht:aU E nt tm a){t:TypeId}{x:Operand}(ho:o.op = .box t x)(h:yg t (co x) tm st k=some r):∃blk val,uI P (execOp a.eval o) blk val/\Late B E w st k r blk val:=by
 unfold yg at h
 obtain⟨m,row,h,hne,hrow⟩:=PY h
 have hx:=aT hs ht x
 obtain⟨hl,hm⟩:=hrow E _ (hx.cells hne)
 subst hm
 refine⟨some (.cells (a.eval x).cells t),fun p=>.pointer (some ⟨p,0,none⟩),fun w=>?_,yD (cap:=0) (sz:=0) hs h rfl (fun E' p hE hp=>?_) (fun E' n p hn=>?_)⟩
 ·unfold execOp
  rw[ho]
  simp[Instr.box,newVar,Go.newRow]
 ·exact⟨_,(0,0),_,_,hp,fun _=>⟨rfl,rfl⟩,hl.mono hE,rfl,fun i _=>by simp⟩
 ·simp only[ag]
  exact⟨_,hn,rfl⟩
theorem VB(hs:aB B E st w){t n:Nat}{row:AV}(ho:o.op = .alloc t)(hz:xL P t=some (n,row))(h:xW t n row tm st k=some r):∃blk val,uI P (execOp a.eval o) blk val/\Late B E w st k r blk val:=by
 unfold xW at h
 obtain⟨i,v,hi,hv,hl,rfl⟩:=KF (E:=E) hz
 refine⟨some (.cells v.cells t),fun p=>.pointer (some ⟨p,0,none⟩),fun w=>?_,yD (cap:=0) (sz:=0) hs h rfl (fun E' p hE hp=>?_) (fun E' n p hn=>?_)⟩
 ·unfold execOp
  rw[ho]
  simp[Instr.alloc,zeroValue,typeInfo,hi,hv,newVar,Go.newRow]
 ·exact⟨_,(0,0),_,_,hp,fun _=>⟨rfl,rfl⟩,hl.mono hE,rfl,fun i _=>by simp⟩
 ·simp only[ag]
  exact⟨_,hn,rfl⟩
theorem Mr(hs:aB B E st w){t:TypeId}{hint:Option Operand}(ho:o.op = .makeMap t hint)(hh:hint=none∨∃x q n,hint=some x/\a.eval x = .int q n/\∃k e,P.underlying t=some (.map k e))
 (h:xY tm st k=some r):∃blk val,uI P (execOp a.eval o) blk val/\Late B E w st k r blk val:=by
 unfold xY at h
 refine⟨some (.map #[] 0),fun p=>.map (some p),fun w=>?_,yD (cap:=0) (sz:=0) hs h rfl (fun E' p hE hp=>⟨#[],hp,by simp only[dI]⟩) (fun E' n p hn=>?_)⟩
 ·unfold execOp
  rw[ho]
  rcases hh with rfl | ⟨x,q,n,rfl,hx,kt,e,hu⟩
  ·simp[Instr.makeMap,newObj,Sem.run]
  ·simp[Instr.makeMap,newObj,Sem.run,hx,asInt,asIntOf,run_underlying hu]
 ·simp only[ag]
  exact⟨_,hn,rfl⟩
theorem IZ{E':ax}{n p cap sz len:Nat}(hn:E' n=some ⟨p,0,cap,sz⟩)(hc:len<=cap):ag E' (.l n 0 len) (.slice (some ⟨p,0,none⟩) len cap):=by
 simp only[ag]
 exact⟨_,hn,by simpa using hc,0,fun _=>by simp,by simp⟩
theorem Wj(hs:aB B E st w)(ht:aU E nt tm a){t e sz:Nat}{z:AV}{x y:Operand}(ho:o.op = .makeSlice t x y)(hu:P.underlying t=some (.slice e))(hz:ku P e=some (sz,z))
 (h:xX e sz z (co x) (co y) tm st k=some r):∃blk val,uI P (execOp a.eval o) blk val/\Late B E w st k r blk val:=by
 unfold xX at h
 obtain⟨kn,n,hn,h⟩:=iG h
 obtain⟨km,m,hm,h⟩:=iG h
 obtain⟨h1,h⟩:=aJ h
 obtain⟨h2,h⟩:=aJ h
 have h1:n<=m:=Nat.le_of_ble_eq_true h1
 have h2:m<=100000:=Nat.le_of_ble_eq_true h2
 have hx:=aT hs ht x
 have hy:=aT hs ht y
 rw[hn]at hx
 rw[hm]at hy
 simp only[ag]at hx hy
 obtain⟨i,v,hi,hv,hsz,hby,hlen,hc⟩:=uj hz
 refine⟨some (.cells (madeCells v.cells (m*i.size)) e),fun p=>.slice (some ⟨p,0,none⟩) n m,fun w=>?_,yD (cap:=m) (sz:=sz) hs h rfl (fun E' p hE hp=>?_) (fun E' q p hq=>IZ hq h1)⟩
 ·have hrun:=run_make (P:=P) w t e i v hu hi hv kn km n m (by omega) (by omega) (by
   have:(i.bytes:Int)*(m:Int)<=16777216*100000:=Int.mul_le_mul (by omega) (by omega) (by omega) (by omega)
   omega) (by omega)
  simp only[Int.toNat_natCast]at hrun
  unfold execOp
  rw[ho,Sem.run_bind,hx,hy,hrun]
  rfl
 ·refine⟨_,(0,0),hp,fun _=>rfl,rfl,⟨h1,by omega⟩,?_,?_⟩
  ·show 0+m*sz<=_
   rw[size_madeCells,hsz];omega
  ·rw[hsz];exact(zH (hc E) hlen (by omega) h1).mono hE
theorem y1q(hs:aB B E st w)(ht:aU E nt tm a){t e sz n:Nat}{z:AV}{ps:Array (Nat × Operand)}{l:List (Nat × CO)}(ho:o.op = .buildSlice t n ps)(hu:P.underlying t=some (.slice e))(hz:ku P e=some (sz,z))
 (hps:vk n ps.toList=some l) (hn:n<=100000) (hnz:n*sz<=16777216) (h:yh e sz n (zeros z n) l tm st k=some r):∃blk val,uI P (execOp a.eval o) blk val/\Late B E w st k r blk val:=by
 unfold yh at h
 obtain⟨i,v,hi,hv,hsz,hby,hlen,hc⟩:=uj hz
 have hvs:v.cells.size=sz:=by rw[<-hlen];simp
 obtain⟨els,cs,h,hfill,hsize,hel⟩:=Gl hs ht (sz:=sz) (by omega) ps.toList l hps (cs:=(madeCells v.cells (n*sz)).toList) (by simp[size_madeCells]) (by simpa using zH (m:=n) (hc E) hlen (by omega) (Nat.le_refl n)) h
 have hfill':Instr.fill (fun i=>some (i*sz,sz)) (madeCells v.cells (n*sz)) (ps.map fun(i,x)=>(i,a.eval x)).toList=some cs:=by
  simpa using hfill
 refine⟨some (.cells cs e),fun p=>.slice (some ⟨p,0,none⟩) n n,fun w=>?_,yD (cap:=n) (sz:=sz) hs h rfl (fun E' p hE hp=>?_) (fun E' q p hq=>IZ hq (Nat.le_refl n))⟩
 ·have hrun:(Instr.buildSlice t n (ps.map fun(i,x)=>(i,a.eval x))).run P w = .ok (.slice (some ⟨w.heap.size,0,none⟩) n n) (w.alloc (.cells cs e)):=by
   have hm0:∀z:Array Value,madeCells z 0=#[]:=fun z=>by simp[madeCells]
   by_cases h0:n*sz=0
   ·rw[h0,hm0]at hfill'
    simp only[Array.toList_map]at hfill'
    have e0:Array.map (fun _:Nat=>(default:Value)) (Array.range 0)=#[]:=Array.eq_empty_of_size_eq_zero (by simp)
    simp[Instr.buildSlice,run_underlying hu,sizeOf,typeInfo,hi,hsz,h0,newRow,e0,hfill']
   ·have hle:¬ 16777216<n*sz:=by omega
    unfold madeCells at hfill'
    simp only[Array.toList_map]at hfill'
    simp[Instr.buildSlice,run_underlying hu,sizeOf,typeInfo,hi,hsz,h0,hle,newRow,zeroValue,hv,hfill']
  unfold execOp
  rw[ho,Sem.run_bind,hrun]
  rfl
 ·refine⟨_,(0,0),hp,fun _=>rfl,rfl,⟨Nat.le_refl n,by omega⟩,?_,hel.mono hE⟩
  show 0+n*sz<=_
  omega
theorem Tt(hs:aB B E st w)(ht:aU E nt tm a){t e sz:Nat}{x hi mx:Operand}{lo:Option Operand}(ho:o.op = .slice t x lo (some hi) (some mx))(hu:P.underlying t=some (.slice e))(hz:cB P e=some sz)
 (h:xV sz (co x) (lo.map co) (co hi) (co mx) tm st k=some r):∃blk val,uI P (execOp a.eval o) blk val/\Late B E w st k r blk val:=by
 unfold xV at h
 rcases lJ h with ⟨_,h⟩ | ⟨b,q,n,he,h⟩
 ·exact aS h
 obtain⟨la,h,hlo⟩:=mO hs ht h
 obtain⟨kh,ha,hhi,h⟩:=iG h
 obtain⟨km,mc,hmx,h⟩:=iG h
 obtain⟨h1,h⟩:=aJ h
 obtain⟨h2,h⟩:=aJ h
 obtain⟨h3,h⟩:=aJ h
 obtain⟨h4,h⟩:=aJ h
 have h1:la<=ha:=Nat.le_of_ble_eq_true h1
 have h2:ha<=mc:=Nat.le_of_ble_eq_true h2
 have h3:mc<=n:=Nat.le_of_ble_eq_true h3
 have h4:=dn h4
 obtain⟨b2,k2,e',szx,m,els,h,hq,hvia⟩:=vG h
 obtain⟨h5,h6⟩:=aJ h
 obtain⟨hlow,h7⟩:=aJ h6
 clear h h6
 rw[gV]at h7
 have h5:=Nat.eq_of_beq_eq_true h5
 subst h5
 have hlow:lowN<=b2:=Nat.le_of_ble_eq_true hlow
 have hx:=aT hs ht x
 have hhv:=aT hs ht hi
 have hmv:=aT hs ht mx
 rw[he]at hx
 rw[hhi]at hhv
 rw[hmx]at hmv
 simp only[ag]at hhv hmv
 obtain⟨l2,off,c,hl2,hr,hsz,hcap,hoff,hv,hnc⟩:=hs.view hx hvia hq
 have hoff:=hoff (by omega)
 subst hoff
 have hown:=hs.own b2 _ l2 (hs.lt hl2) hlow hq hl2
 obtain⟨tr,nn,rfl,hnn,h⟩:=fP h7
 have hle':=ax.qo (l:=⟨l2.blk,l2.base+(k2+q+la)*szx,mc-la,szx⟩) (hs.fresh nn (Nat.le_refl nn))
 obtain⟨hle,hs'⟩:=aB.new (w':=w) (l:=⟨l2.blk,l2.base+(k2+q+la)*szx,mc-la,szx⟩) (o:=.al b2 (k2+q+la)) hs hnn hown (Nat.le_refl _) (fun e=>by cases e) (fun _ _ _ _ _ _ _=>rfl)
  ⟨hr.there,l2,hle' b2 l2 hl2,rfl,by show _=l2.base+(k2+q+la)*l2.sz;rw[hsz],hsz.symm,by show k2+q+la+(mc-la)<=l2.cap;omega,by show 0<mc-la;omega⟩
 refine⟨none,fun _=>.slice (some ⟨l2.blk,l2.base+(k2+q)*szx+la*szx,none⟩) (ha-la) (mc-la),fun w=>?_,_,_,_,hle,hs',?_,h⟩
 ·unfold execOp
  rw[ho]
  have hb:(Instr.sliceBounds true n c (lo.map a.eval) (some (a.eval hi)) (some (a.eval mx))).run P w = .ok (la,ha,mc) w:=by
   have g1:=run_sliceBound (P:=P) (w:=w) hmv (Nat.le_trans h3 hnc)
   have g2:=run_sliceBound (P:=P) (w:=w) hhv h2
   rcases hlo with ⟨e1,rfl⟩ | ⟨q',e1⟩
   ·rw[e1];simp[Instr.sliceBounds,g1,g2]
   ·rw[e1];simp[Instr.sliceBounds,g1,g2,run_sliceBound (P:=P) (w:=w) rfl h1]
  have hne:¬ mc=la:=by omega
  simp[Instr.sliceAt,run_underlying hu,Instr.slice,hv,hb,run_sizeOf hz,hne,Addr.add_mid]
 ·show ag _ (.l nn 0 (ha-la)) _
  simp only[ag]
  exact⟨_,ax.jl _ _ _,by show 0+(ha-la)<=mc-la;omega,l2.base+(k2+q)*szx+la*szx,fun _=>by show _=l2.base+(k2+q+la)*szx+0*szx;rw[Nat.add_mul (k2+q) la,Nat.zero_mul];omega,by simp⟩
theorem Na(hs:aB B E st w)(ht:aU E nt tm a){cop:gJ}(hc:iO P o.op=cop)(hlag:tX cop=true)(h:gF cop aC call tm st k=some r):∃blk val,uI P (execOp a.eval o) blk val/\Late B E w st k r blk val:=by
 unfold iO at hc
 split at hc
 case h_4 t ho =>
  split at hc
  ·rename_i n row hz;subst hc;exact VB (tm:=tm) hs ho hz h
  ·subst hc;cases hlag
 case h_5 t x ho=>subst hc;exact y1m hs ht ho h
 case h_7 t n ps ho =>
  split at hc
  ·rename_i e hu
   split at hc
   ·rename_i sz z l hz hps
    split at hc
    ·rename_i h1 h2
     subst hc
     exact y1q hs ht ho hu hz hps (Nat.le_of_ble_eq_true h1) (Nat.le_of_ble_eq_true h2) h
    ·subst hc;cases hlag
   ·subst hc;cases hlag
  ·subst hc;cases hlag
 case h_16 t ho=>subst hc;exact Mr (tm:=tm) hs ho (.inl rfl) h
 case h_17 t x ho =>
  split at hc
  ·rename_i q e hu
   subst hc
   obtain⟨kk,n,hn,h⟩:=jC h
   have hx:=aT hs ht x
   rw[hn]at hx
   simp only[ag]at hx
   exact Mr (tm:=tm) hs ho (.inr ⟨x,kk,n,rfl,hx,q,e,hu⟩) h
  ·subst hc;cases hlag
 case h_18 t l c ho =>
  split at hc
  ·rename_i e hu
   split at hc
   ·rename_i sz z hz;subst hc;exact Wj hs ht ho hu hz h
   ·subst hc;cases hlag
  ·subst hc;cases hlag
 case h_20 t x lo hi mx ho =>
  split at hc
  ·rename_i e hu
   split at hc
   ·rename_i sz hz;subst hc;exact Tt hs ht ho hu hz h
   ·subst hc;cases hlag
  ·subst hc;cases hlag
 case h_33 c ho =>
  have:∀cop,nZ P c=cop->tX cop=true->False:=by
   intro cop hc hl
   unfold nZ at hc
   (repeat' split at hc)<;>(subst hc;cases hl)
  exact(this cop hc hlag).elim
 all_goals (repeat' split at hc)<;>(subst hc;cases hlag)
end
end Go.AM
namespace Go
section
variable {P:Program}{ops:Array Oper}{md:Region.Mode}{Q:Exit->Act->World->Prop}
structure Pr where
 i:Nat
 s:Sem Next
 v:Value
def jh(P:Program)(pr:List Pr)(w:World):Prop:=∀p∈pr,p.s.run P w = .ok (.value p.v) w
def mP(md:Region.Mode)(ops:Array Oper)(j i:Nat):Bool:=match ops[j]? with
 |some o=>o.after.any (fun e=>Region.binds md e&&e.on==i)
 |none=>false
def Pr.left(md:Region.Mode)(ops:Array Oper)(j:Nat)(pr:List Pr):List Pr:=pr.filter fun p=>!mP md ops j p.i
def iU(P:Program)(md:Region.Mode)(ops:Array Oper)(Q:Exit->Act->World->Prop):Nat->List Pr->Array Bool->Act->World->Prop
 |0,_,listed,a,w=>Region.ready md ops listed=[]/\Q .normal a w
 |fuel+1,pr,listed,a,w =>
  (Region.ready md ops listed=[]->Q .normal a w) /\
  ∀i∈Region.ready md ops listed,wpOp P ops Q i (fun a' w'=>jh P (Pr.left md ops i pr) w'/\iU P md ops Q fuel (Pr.left md ops i pr) (listed.setIfInBounds i true) a' w') a w
theorem IK:∀(fuel:Nat) (pr:List Pr) (listed:Array Bool) (a:Act) (w:World),iU P md ops Q fuel pr listed a w->wpAny P md ops Q fuel listed a w
 |0,_,_,_,_,h=>h
 |fuel+1,_,_,_,_,h=>⟨h.1,fun i hi=>wpOp_mono (fun a' w' hh=>IK fuel _ _ a' w' hh.2) (h.2 i hi)⟩
theorem jh.sub{pr pr':List Pr}{w:World}(h:jh P pr w)(hs:∀p∈pr',p∈pr):jh P pr' w:=fun p hp=>h p (hs p hp)
theorem Pr.MS{j:Nat}{pr pr':List Pr}(hs:∀p∈pr',p∈pr):∀p∈Pr.left md ops j pr',p∈Pr.left md ops j pr:=fun p hp=>by
 unfold Pr.left at *
 rw[List.mem_filter]at *
 exact⟨hs p hp.1,hp.2⟩
theorem Pr.mq{j:Nat}{pr:List Pr}:∀p∈Pr.left md ops j pr,p∈pr:=fun _ hp=>(List.mem_filter.1 hp).1
theorem Db:∀(fuel:Nat) {pr pr':List Pr} {listed:Array Bool} {a:Act} {w:World},(∀p∈pr',p∈pr)->iU P md ops Q fuel pr listed a w->iU P md ops Q fuel pr' listed a w
 |0,_,_,_,_,_,_,h=>h
 |fuel+1,_,_,_,_,_,hs,h=>⟨h.1,fun i hi=>wpOp_mono (fun _ _ hh=>⟨hh.1.sub (Pr.MS hs),Db fuel (Pr.MS hs) hh.2⟩) (h.2 i hi)⟩
def mU(ops:Array Oper)(o:Oper)(s:Sem Next)(v:Value)(a:Act):Prop :=
 (Region.wanted o (yielded ops a.tmps)=true/\execOp a.eval o=s)∨(Region.wanted o (yielded ops a.tmps)=false/\v=undef)
theorem mU.of_same{o:Oper}{s:Sem Next}{v:Value}{a a':Act}(hy:mU ops o s v a)(he:execOp a'.eval o=execOp a.eval o)
 (hw:Region.wanted o (yielded ops a'.tmps)=Region.wanted o (yielded ops a.tmps)):mU ops o s v a':=by
 unfold mU at *
 rw[he,hw]
 exact hy
theorem mU.wpOp{i:Nat}{o:Oper}{s:Sem Next}{v:Value}{a:Act}(hi:ops[i]? = some o)(hy:mU ops o s v a)
 {K:Act->World->Prop} {w:World} (hc:s.run P w = .ok (.value v) w) (h:K (a.put o.dst v) w):wpOp P ops Q i K a w:=by
 unfold Go.wpOp
 simp only[hi]
 rcases hy with ⟨hw,hv⟩ | ⟨hw,rfl⟩
 ·simp only[hw,if_true,Oper.wp,hv,hc,Oper.upon];exact .inl h
 ·simp only[hw,Bool.false_eq_true,if_false];exact h
theorem QW{j:Nat}{oi oj:Oper}{s:Sem Next}{v:Value}(hj:ops[j]? = some oj)(hap:oi.apart ops oj=true)
 (hsi:∀cs b,oi.op ≠ .select cs b) (hsj:∀cs b,oj.op ≠ .select cs b)
 (hQ:∀c a w,Q (.panic c) (a.put oi.dst v) w->Q (.panic c) a w) {K:Act->World->Prop} {a:Act} {w:World}
 (hy:mU ops oi s v a) (h:wpOp P ops Q j K (a.put oi.dst v) w) :
 wpOp P ops Q j (fun a' w'=>mU ops oi s v a'/\K (a'.put oi.dst v) w') a w:=by
 obtain⟨h1,h2,h3⟩:=Oper.apart_spec hap
 have keep:∀(a:Act),mU ops oi s v a->∀u,mU ops oi s v (a.put oj.dst u):=fun a hy u =>
  hy.of_same (execOp_put oi hsi a oj.dst u h3) (wanted_put oi a oj.dst u h3)
 have keepD:∀d,mU ops oi s v { a with defers:=d::a.defers }:=fun d=>hy.of_same rfl rfl
 unfold wpOp at *
 simp only[hj]at *
 rw[wanted_put oj a oi.dst v h1]at h
 split
 ·rename_i hw
  simp only[hw,if_true]at h
  rcases h with h | ⟨hasks,hlets⟩
  case inr=>exact .inr ⟨by unfold Oper.asks at *;rw[execOp_put oj hsj a oi.dst v h1]at hasks;exact hasks,hlets⟩
  refine .inl ?_
  unfold Oper.wp at *
  rw[execOp_put oj hsj a oi.dst v h1]at h
  generalize (execOp a.eval oj).run P w=r at *
  cases r with
  |ok n w' =>
   cases n<;>simp only[Oper.upon]at h ⊢
   case value u=>exact⟨keep a hy u,by rw[<-Act.put_comm a v u h2];exact h⟩
   case skip=>exact⟨keep a hy _,by rw[<-Act.put_comm a v undef h2];exact h⟩
   case defer d =>
    refine⟨keep _ (keepD d) _,?_⟩
    rw[<-Act.put_comm _ v undef h2,<-Act.put_defers]
    exact h
   case enter f args =>
    refine Calls.mono h fun e w'' he=>?_
    cases e with
    |returned u=>exact⟨keep a hy u,by rw[<-Act.put_comm a v u h2];exact he⟩
    |panicked c=>exact hQ _ _ _ he
    |outgrown=>exact he
   case row row args=>exact Rows.mono h fun u w'' he=>⟨keep a hy u,by rw[<-Act.put_comm a v u h2];exact he⟩
  |halt x w' =>
   cases x<;>simp only[Oper.upon]at h ⊢
   case panic u=>exact hQ _ _ _ h
 ·rename_i hw
  simp only[hw]at h
  exact⟨keep a hy _,by rw[<-Act.put_comm a v undef h2];exact h⟩
theorem zN{i:Nat}{oi:Oper}{s:Sem Next}{v:Value}(hi:ops[i]? = some oi)(hsel:∀(j:Nat) (o:Oper) cs b,ops[j]? = some o->o.op ≠ .select cs b)
 (hQ:∀c a w,Q (.panic c) (a.put oi.dst v) w->Q (.panic c) a w) :
 ∀(fuel:Nat) (pr:List Pr) (listed:Array Bool) (a:Act) (w:World),jh P pr w->s.run P w = .ok (.value v) w ->
  (∀j oj,ops[j]? = some oj->j≠i->listed.getD j true=false->(∀e∈oj.after,Region.binds md e=true->e.on≠i)->oi.apart ops oj=true) ->
  i∈Region.ready md ops listed->mU ops oi s v a ->
  iU P md ops Q fuel (⟨i,s,v⟩::pr) (listed.setIfInBounds i true) (a.put oi.dst v) w->iU P md ops Q (fuel+1) pr listed a w:=by
 intro fuel
 induction fuel with
 |zero =>
  intro pr listed a w hk hc _ hr hy H
  refine⟨fun h=>(by rw[h]at hr;cases hr),fun j hj=>?_⟩
  by_cases hji:j=i
  ·subst hji;exact hy.wpOp hi hc ⟨hk.sub Pr.mq,Db 0 (fun p hp=>List.mem_cons_of_mem _ (Pr.mq p hp)) H⟩
  ·have:=ready_mono hj hji
   rw[H.1]at this
   cases this
 |succ fuel ih =>
  intro pr listed a w hk hc hfree hr hy H
  refine⟨fun h=>(by rw[h]at hr;cases hr),fun j hj=>?_⟩
  by_cases hji:j=i
  ·subst hji;exact hy.wpOp hi hc ⟨hk.sub Pr.mq,Db _ (fun p hp=>List.mem_cons_of_mem _ (Pr.mq p hp)) H⟩
  ·have h1:=H.2 j (ready_mono hj hji)
   obtain⟨hjun,oj,hoj,hall⟩:=mem_ready.1 hj
   have hnot:∀e∈oj.after,Region.binds md e=true->e.on≠i:=fun e he hb heq=>by
    have h1:=hall e he hb
    have h0:=(mem_ready.1 hr).1
    rw[heq]at h1
    rcases Nat.lt_or_ge i listed.size with h' | h'
    ·simp[h']at h0 h1;rw[h0]at h1;cases h1
    ·simp[Array.getElem?_eq_none h']at h1
   have hno:mP md ops j i=false:=by
    unfold mP
    rw[hoj]
    simp only[]
    rw[Bool.eq_false_iff]
    intro hany
    obtain⟨e,he,hb⟩:=Array.any_eq_true'.1 hany
    simp only[Bool.and_eq_true,beq_iff_eq]at hb
    exact hnot e he hb.1 hb.2
   have hleft:Pr.left md ops j (⟨i,s,v⟩::pr)=⟨i,s,v⟩::Pr.left md ops j pr:=by
    unfold Pr.left
    rw[List.filter_cons]
    simp only[hno,Bool.not_false,if_true]
   have h2:=QW hoj (hfree j oj hoj hji hjun hnot) (fun cs b=>hsel i oi cs b hi) (fun cs b=>hsel j oj cs b hoj) hQ hy h1
   have hfree':∀k ok,ops[k]? = some ok->k≠i->(listed.setIfInBounds j true).getD k true=false ->
    (∀e∈ok.after,Region.binds md e=true->e.on≠i)->oi.apart ops ok=true:=fun k ok hk hki hun hno=>by
    refine hfree k ok hk hki ?_ hno
    by_cases hjk:j=k
    ·subst hjk;exact hjun
    ·rw[getD_set_ne true hjk]at hun;exact hun
   refine wpOp_mono (fun a' w' h3=>?_) h2
   obtain⟨h3,h4,h5⟩:=h3
   rw[hleft]at h4 h5
   refine⟨h4.sub (fun p hp=>List.mem_cons_of_mem _ hp),ih _ (listed.setIfInBounds j true) a' w' (h4.sub (fun p hp=>List.mem_cons_of_mem _ hp)) (h4 ⟨i,s,v⟩ (List.mem_cons_self ..)) hfree' (ready_mono hr (Ne.symm hji)) h3 ?_⟩
   rw[Array.setIfInBounds_comm _ _ hji]
   exact h5
theorem IQ{pr:List Pr}{listed:Array Bool}{a:Act}{w:World}(hr:Region.ready md ops listed=[])(h:Q .normal a w)(fuel:Nat):iU P md ops Q fuel pr listed a w:=by
 cases fuel with
 |zero=>exact⟨hr,h⟩
 |succ n=>exact⟨fun _=>h,by rw[hr];simp⟩
end
end Go
