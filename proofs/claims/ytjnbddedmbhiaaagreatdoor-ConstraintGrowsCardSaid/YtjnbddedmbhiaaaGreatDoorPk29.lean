/-
  interp.Dispatch.
-/
import Derived.Test.YtjnbddedmbhiaaaGreatDoorPk27
import Derived.Test.YtjnbddedmbhiaaaGreatDoorPk23
namespace Go.Proofs.YtjnbddedmbhiaaaGreatDoor
open Go.RowKit Go.ak Go.AM


def Ic(L:List Sit)(w:World)(e:Ending)(w':World):Prop :=
 Below w.heap.size w w'/\∃a c,e = .returned (.slice a L.length c)/\w'.ownsRow w.heap.size 101 3 (.slice a L.length c) L.length (eT L)
structure SE(u:aQ)(ha:Option Addr)(hc:Nat)(fa:Option Addr)(fc:Nat)(out:List Sit)(oa:Option Addr)(oc:Nat)(w wr:World):Prop where
 ub:UB u ha hc fa fc w wr
 ow:wr.ownsRow (w.heap.size+1) 101 3 (.slice oa out.length oc) out.length (eT out)
section
variable {u:aQ}{ha:Option Addr}{hc:Nat}{fa:Option Addr}{fc:Nat}{out:List Sit}{oa:Option Addr}{oc:Nat}{w wr w':World}
theorem SE.below(k:SE u ha hc fa fc out oa oc w wr)(hb:Below wr.heap.size wr w'):SE u ha hc fa fc out oa oc w w':=⟨k.ub.below hb,gL k.ow hb⟩
theorem SE.grow{out':List Sit}{oa':Option Addr}{oc':Nat}(h:ay w ha u.h)(f:bR w fa u.fs)(k:SE u ha hc fa fc out oa oc w wr)(own:w'.ownsRow (w.heap.size+1) 101 3 (.slice oa' out'.length oc') out'.length (eT out'))(hg:wr.grownBy w' (Value.slice oa out.length oc).ownBlock):SE u ha hc fa fc out' oa' oc' w w' :=
 ⟨k.ub.grow h f hg (fun q hq=>by have:=(k.ow.lt q hq).1;omega),own⟩
end
set_option maxRecDepth 100000 in
set_option maxHeartbeats 8000000 in
theorem Kh(u:aQ)(ha:Option Addr)(hc:Nat)(fa:Option Addr)(fc:Nat)(w:World)(h:ay w ha u.h)(hf:bR w fa u.fs)(hb:mW u 150) :
 Calls Tryz.prog 29 #[bZ u ha hc fa fc] w (Ic (bL u) w):=by
 have S0:Hid (SE u ha hc fa fc [] none 0 w (w.alloc (kN u ha hc fa fc))):=⟨UB.start h hf,World.ownsRow_nil _ _ _ _⟩
 have HM:Hid (ay w ha u.h/\bR w fa u.fs):=⟨h,hf⟩
 have hn:=hb.nf
 have HCL:Hid (∀x∈u.fs,x.code.length<=150):=fun x hx=>(hb.f x hx).c
 have HE0:Hid ([]=iV u.fs 0):=by show _=_;simp[iV]
 have HLL:Hid (bL u=iV u.fs u.fs.length):=rfl
 clear h hf hb
 generalize bL u=R at *
 unfold bZ at *
 go_enter Tryz.func29,Tryz.ntmps29
 go_upto_region 1 with (fail)
 generalize w.alloc _=W at *
 obtain⟨z0,z1,z2⟩:=S0.out.ub.cells
 go_wp2
 clear z0 z1 z2
 go_loopw[3,11] (fun v i wr=>∃(m:Nat) (out:List Sit) (oa:Option Addr) (oc:Nat),m<=u.fs.length/\out.length<=m*150/\v = .slice oa out.length oc/\i = .int .i64 m/\Hid (out=iV u.fs m)/\Hid (SE u ha hc fa fc out oa oc w wr)) (fun _ i _=>u.fs.length-(intOf i).toNat)
 case atStart=>exact⟨0,[],none,0,Nat.zero_le _,Nat.zero_le _,rfl,rfl,HE0.out,S0.out⟩
 case round =>
  clear S0 HE0
  obtain⟨m,out,oa,oc,hm,hol,rfl,rfl,HI,S⟩:=hrel
  by_cases hlt:m<u.fs.length
  case neg =>
   have HF:Hid (out=R):=by show _=_;rw[HLL.out,HI.out,show m=u.fs.length by omega]
   go_wp2
   go_ret
   have hbs:=S.out.ub.hb
   exact⟨hbs,oa,oc,by rw[<-HF.out]<;>rfl,by rw[<-HF.out];exact rf S.out.ow (Nat.le_succ _)⟩
  have HUM:=Lib.hid (@Ki u.fs m hlt)
  have hcl:=HCL.out _ (List.getElem_mem hlt)
  obtain⟨b,off,va,vc,ca,cc,he,m0,m1,m2,m3,m4,m5,m6,-,-⟩:=S.out.ub.f m hlt
  subst he
  have HCC:Hid (∀wx,Below w.heap.size w wx->dw wx ca u.fs[m].code):=fun wx hx=>by
   obtain⟨b',off',va',vc',ca',cc',he,-,-,-,-,-,-,n6,-,hcode⟩:=HM.out.2 m hlt
   cases he
   have:=cell_below S.out.ub.hb n6
   rw[m6]at this
   cases this
   exact hcode.below hx
  have HSF:Hid (∀q (hq:q<u.fs[m].code.length),kT m u.fs[m].code (q+1)=kT m u.fs[m].code q++uX m q u.fs[m].code[q]):=fun q hq=>Kj hq
  generalize u.fs[m]=f at *
  have BZ:Hid (ah (wr.alloc jE) wr.heap.size _ 51):=aL ..
  go_upto_region 5 with (refine xD rfl rfl _ _ rfl wr.heap.size f va vc ca cc rfl rfl _ BZ.out rfl ?_)
  have hrow:=bP (av wr jE) (Nat.le_refl wr.heap.size) #[.string f.cls,.string f.name,.bool f.stat,.int .i64 f.params,.slice va f.vars.length vc,.string f.result,.slice ca f.code.length cc]
  have B2:=Lib.hid (BZ.out.setRow #[.string f.cls,.string f.name,.bool f.stat,.int .i64 f.params,.slice va f.vars.length vc,.string f.result,.slice ca f.code.length cc])
  have S2:=Lib.hid (S.out.below hrow)
  clear S BZ hrow m0 m1 m2 m3 m4 m5 m6
  generalize (wr.alloc jE).setRow wr.heap.size _=W2 at *
  generalize wr.heap.size=n2 at *
  have y6:=B2.out.cell 6 (by simp)
  simp only[List.getElem_toArray,List.getElem_cons_zero,List.getElem_cons_succ]at y6
  go_wp2
  clear y6 B2
  obtain⟨wo,rfl⟩:∃wo,wo=W2:=⟨_,rfl⟩
  go_loopw[3,19] (fun v i wr=>∃(q:Nat) (out:List Sit) (oa:Option Addr) (oc:Nat),q<=f.code.length/\out.length<=m*150+q/\v = .slice oa out.length oc/\i = .int .i64 q/\Hid (out=iV u.fs m++kT m f.code q)/\Hid (SE u ha hc (some ⟨b,off,none⟩) fc out oa oc w wr)) (fun _ i _=>f.code.length-(intOf i).toNat)
  case atStart=>exact⟨0,out,oa,oc,Nat.zero_le _,by omega,rfl,rfl,(by show _=_;rw[HI.out];simp[kT]),S2.out⟩
  case round =>
   clear S2 HI
   obtain⟨q,out,oa,oc,hq,hol,rfl,rfl,HI,S⟩:=hrel
   by_cases hql:q<f.code.length
   case neg =>
    have HN:Hid (out=iV u.fs (m+1)):=by show _=_;rw[HUM.out,HI.out,show q=f.code.length by omega]
    go_wp2
    go_roundw
    case rel=>exact⟨m+1,out,oa,oc,by omega,by omega,rfl,by go_num,HN.out,S.out⟩
    case measure=>simp[intOf];omega
   obtain⟨b2,off2,ga,gc,he,m0,m1,m2,m3,m4,m5,m6,m7,m8,m9,-⟩:=HCC.out _ S.out.ub.hb q hql
   subst he
   have HSQ:=Lib.hid (HSF.out q hql)
   have HSI:Hid (uX m q f.code[q]=if f.code[q].op=6 then [⟨m,q,f.code[q].cls⟩]else []):=rfl
   generalize f.code[q]=x at *
   have BZ:Hid (ah (wr.alloc bV) wr.heap.size _ 53):=aL ..
   go_upto_region 8 with (refine kR rfl rfl _ _ rfl wr.heap.size x ga gc rfl rfl _ BZ.out rfl ?_)
   have hrow:=bP (av wr bV) (Nat.le_refl wr.heap.size) #[.int .i64 x.op,.int .i64 x.dst,.int .i64 x.a,.int .i64 x.b,.int .i64 x.n,.string x.cls,.string x.name,.slice ga x.args.length gc,.int .i64 x.goto,.int .i64 x.aZ]
   have B2:=Lib.hid (BZ.out.setRow #[.int .i64 x.op,.int .i64 x.dst,.int .i64 x.a,.int .i64 x.b,.int .i64 x.n,.string x.cls,.string x.name,.slice ga x.args.length gc,.int .i64 x.goto,.int .i64 x.aZ])
   have S2:=Lib.hid (S.out.below hrow)
   clear S BZ hrow m0 m1 m2 m3 m4 m5 m6 m7 m8 m9
   generalize (wr.alloc bV).setRow wr.heap.size _=W2 at *
   generalize wr.heap.size=n3 at *
   have y0:=B2.out.cell 0 (by simp)
   have y5:=B2.out.cell 5 (by simp)
   simp only[List.getElem_toArray,List.getElem_cons_zero,List.getElem_cons_succ]at y0 y5
   cases h6:(x.op==6)
   case false =>
    have HN:Hid (out=iV u.fs m++kT m f.code (q+1)):=by show _=_;rw[HSQ.out,HSI.out,if_neg (by simpa using h6),List.append_nil];exact HI.out
    clear HI
    go_wp2
    go_roundw
    case rel=>exact⟨q+1,out,oa,oc,by omega,by omega,rfl,by go_num,HN.out,S2.out⟩
    case measure=>simp[intOf];omega
   case true =>
    have HN:Hid (out++[⟨(m:Int),(q:Int),x.cls⟩]=iV u.fs m++kT m f.code (q+1)):=by show _=_;rw[HSQ.out,HSI.out,if_pos (by simpa using h6),HI.out,List.append_assoc]
    clear HI
    generalize x.cls=xc at *
    have S1:=Lib.hid (S2.out.below (av W2 (.cells #[.int .i64 m,.int .i64 q,.string xc] 101)))
    have B1:Hid (ah (W2.alloc (.cells #[.int .i64 m,.int .i64 q,.string xc] 101)) W2.heap.size #[.int .i64 m,.int .i64 q,.string xc] 101):=aL ..
    have hbs:w.heap.size+1<=(W2.alloc (.cells #[.int .i64 m,.int .i64 q,.string xc] 101)).heap.size:=Nat.succ_le_of_lt S1.out.ub.b1.lt
    have hoc:out.length<=1000000:=by omega
    go_wp2_with (at_builtin;refine y1V rfl _ _ rfl (w.heap.size+1) _ out rfl S1.out.ow W2.heap.size ⟨(m:Int),(q:Int),xc⟩ rfl B1.out hoc hbs ?_;intro v7 W7 own7 hg7;obtain⟨-,oa7,oc7,rfl,-,-⟩:=DU own7)
    have S7:=Lib.hid (SE.grow HM.out.1 HM.out.2 S1.out own7 hg7)
    clear own7 hg7 S1 B1 S2 B2 y0 y5
    have hlen:(out++[(⟨(m:Int),(q:Int),xc⟩:Sit)]).length=out.length+1:=by simp
    go_roundw
    case rel=>exact⟨q+1,out++[(⟨(m:Int),(q:Int),xc⟩:Sit)],oa7,oc7,by omega,by omega,(by first | rfl | simp),by go_num,HN.out,S7.out⟩
    case measure=>simp[intOf];omega

theorem JU{ops:Array Oper}{rest:List Oper}{o:Oper}{a:Act}{w:World}{Q:Exit->Act->World->Prop}(hgd:o.guard=none)(x y:Operand)(ho:o.op = .store 101 x y)
 (g:Nat) (i j:Int) (s:ByteArray) (hx:a.eval x = .pointer (some ⟨g,0,none⟩)) (hy:a.eval y = .agg #[.int .i64 i,.int .i64 j,.string s])
 (old:Array Value) (hg:ah w g old 101) (hold:old.size=3)
 (h:wpList Tryz.prog ops Q rest (a.put o.dst undef) (w.setRow g #[.int .i64 i,.int .i64 j,.string s])):wpList Tryz.prog ops Q (o::rest) a w :=
 wpList_store_row hgd 101 x y ho g _ hx hy 101 old hg (by kernel_rfl) hold (by simp[Value.oneCell']) h
def nk(w:World)(g:Nat)(p:Str->Bool)(F:Str->Option Value)(n:Nat):Prop:=bC w g Value.string F n/\∀s v,F s=some v->v = .bool (p s)
theorem nk.below{w w':World}{g:Nat}{p:Str->Bool}{F:Str->Option Value}{n:Nat}(k:nk w g p F n)(hb:Below w.heap.size w w'):nk w' g p F n:=⟨k.1.below hb,k.2⟩
theorem nk.put{w':World}{g:Nat}{p:Str->Bool}{F:Str->Option Value}{n:Nat}{s:Str}(k:∀s v,F s=some v->v = .bool (p s))(hm:bC w' g Value.string (fun k'=>if k' = s then some (.bool (p s))else F k') (n+1)):nk w' g p (fun k'=>if k' = s then some (.bool (p s))else F k') (n+1) :=
 ⟨hm,fun t v e=>by
   replace e:(if t=s then some (Value.bool (p s))else F t)=some v:=e
   by_cases h:t=s
   ·rw[if_pos h]at e
    cases e
    rw[h]
   ·rw[if_neg h]at e
    exact k t v e⟩
structure IE(u:aQ)(ha:Option Addr)(hc:Nat)(fa:Option Addr)(fc:Nat)(L:List Sit)(sa:Option Addr)(gm:Nat)(p:Str->Bool)(F:Str->Option Value)(n:Nat)(out:List Int)(oa:Option Addr)(oc:Nat)(w wr:World):Prop where
 ub:UB u ha hc fa fc w wr
 sa:iQ wr sa L
 ca:nk wr gm p F n
 ow:wr.ownsRow (w.heap.size+1) 3 1 (.slice oa out.length oc) out.length (out.map bT)
 gg:w.heap.size<gm
section
variable {u:aQ}{ha:Option Addr}{hc:Nat}{fa:Option Addr}{fc:Nat}{L:List Sit}{sa:Option Addr}{gm:Nat}{p:Str->Bool}{F:Str->Option Value}{n:Nat}{out:List Int}{oa:Option Addr}{oc:Nat}{w wr w':World}
theorem IE.below(k:IE u ha hc fa fc L sa gm p F n out oa oc w wr)(hb:Below wr.heap.size wr w'):IE u ha hc fa fc L sa gm p F n out oa oc w w' :=
 ⟨k.ub.below hb,k.sa.below hb,k.ca.below hb,gL k.ow hb,k.gg⟩
theorem IE.grow{out':List Int}{oa':Option Addr}{oc':Nat}(h:ay w ha u.h)(f:bR w fa u.fs)(hs:iQ w sa L)(k:IE u ha hc fa fc L sa gm p F n out oa oc w wr)(own:w'.ownsRow (w.heap.size+1) 3 1 (.slice oa' out'.length oc') out'.length (out'.map bT))(hg:wr.grownBy w' (Value.slice oa out.length oc).ownBlock):IE u ha hc fa fc L sa gm p F n out' oa' oc' w w' :=
 have hr:∀q,(Value.slice oa out.length oc).ownBlock=some q->w.heap.size<q:=fun q hq=>by have:=(k.ow.lt q hq).1;omega
 have ub:=k.ub.grow h f hg hr
 ⟨ub,hs.below ub.hb,⟨k.ca.1.grown hg (rq k.ow k.ca.1),k.ca.2⟩,own,k.gg⟩
theorem IE.put{F':Str->Option Value}{n':Nat}(h:ay w ha u.h)(f:bR w fa u.fs)(hs:iQ w sa L)(k:IE u ha hc fa fc L sa gm p F n out oa oc w wr)(hc':nk w' gm p F' n')(hg:wr.grownBy w' (some gm)):IE u ha hc fa fc L sa gm p F' n' out oa oc w w' :=
 have ub:=k.ub.grow h f hg (fun q hq=>by cases hq;exact k.gg)
 ⟨ub,hs.below ub.hb,hc',oO k.ow k.ca.1 hg,k.gg⟩
end
theorem NI{h:List ae}{L:List Sit}{c:Str}{k:Nat}(hk:k<L.length):nQ h L c k=jq h L[k].c c:=by
 unfold nQ;rw[List.getElem?_eq_getElem hk];rfl
set_option maxRecDepth 100000 in
set_option maxHeartbeats 8000000 in
theorem ND(u:aQ)(ha:Option Addr)(hc:Nat)(fa:Option Addr)(fc:Nat)(L:List Sit)(sa:Option Addr)(sc:Nat)(c:Str)(w:World)(h:ay w ha u.h)(hf:bR w fa u.fs)(hs:iQ w sa L)(hl:u.h.length<=100000)(hL:L.length<=1000000) :
 Calls Tryz.prog 61 #[bZ u ha hc fa fc,.slice sa L.length sc,.string c] w (oH (dD u.h L c) w):=by
 have S00:=Lib.hid (UB.start (hc:=hc) (fc:=fc) h hf)
 have HZ:Hid ((w.alloc (kN u ha hc fa fc)).heap.size=w.heap.size+1):=by show _=_;simp
 have HM:Hid (ay w ha u.h/\bR w fa u.fs/\iQ w sa L):=⟨h,hf,hs⟩
 have HIS:Hid (∀(s:Str) (w1:World),ay w1 ha u.h->Calls Tryz.prog 111 #[.agg #[.slice ha u.h.length hc],.string s,.string c] w1 (aj w1 (.bool (jq u.h s c)))):=fun s w1 h1=>Nv u.h s c ha hc w1 h1 hl
 have HDF:Hid (dD u.h L c=fU L.length (nQ u.h L c)):=rfl
 have HIT:Hid (∀k (hk:k<L.length),jq u.h L[k].c c=true->fU (k+1) (nQ u.h L c)=fU k (nQ u.h L c)++[(k:Int)]):=fun k hk e=>NR (by rw[NI hk];exact e)
 have HIF:Hid (∀k (hk:k<L.length),jq u.h L[k].c c=false->fU (k+1) (nQ u.h L c)=fU k (nQ u.h L c)):=fun k hk e=>F4 (by rw[NI hk];exact e)
 clear h hf
 generalize dD u.h L c=R at *
 generalize hp:(fun s=>jq u.h s c)=p at *
 have HPP:Hid (∀s,jq u.h s c=p s):=fun s=>by rw[<-hp]
 clear hp
 generalize nQ u.h L c=B at *
 unfold bZ at *
 go_enter Tryz.func61,Tryz.ntmps61
 go_upto_region 1 with (fail)
 generalize w.alloc _=W at *
 go_upto_region 3 with (refine sH rfl 146 rfl nA Value.string ?_;intro hmp)
 have hgm:w.heap.size<W.heap.size:=by rw[HZ.out];omega
 have hob:=av W (.map #[] 0)
 have S0:Hid (IE u ha hc fa fc L sa W.heap.size p (fun _=>none) 0 [] none 0 w (W.alloc (.map #[] 0))):=⟨S00.out.below hob,(HM.out.2.2).below (S00.out.hb.trans (hob.mono S00.out.hb.size)),⟨hmp,fun s v e=>(by cases e)⟩,World.ownsRow_nil _ _ _ _,hgm⟩
 clear S00 HZ hmp hgm hob hs
 generalize W.heap.size=gm at *
 generalize W.alloc (.map #[] 0)=W1 at *
 go_wp2
 go_loopw[7,16] (fun v i wr=>∃(k:Nat) (F:Str->Option Value) (n:Nat) (out:List Int) (oa:Option Addr) (oc:Nat),k<=L.length/\out.length<=k/\v = .slice oa out.length oc/\i = .int .i64 k/\Hid (out=fU k B)/\Hid (IE u ha hc fa fc L sa gm p F n out oa oc w wr)) (fun _ i _=>L.length-(intOf i).toNat)
 case atStart=>exact⟨0,_,_,[],none,0,Nat.zero_le _,Nat.zero_le _,rfl,rfl,rfl,S0.out⟩
 case round =>
  clear S0
  obtain⟨k,F,n,out,oa,oc,hk,hol,rfl,rfl,HI,S⟩:=hrel
  by_cases hlt:k<L.length
  case neg =>
   have HF:Hid (out=R):=by show _=_;rw[HDF.out,HI.out,show k=L.length by omega]
   go_wp2
   go_ret
   exact⟨S.out.ub.hb,oa,oc,by rw[<-HF.out]<;>rfl,by rw[<-HF.out];exact rf S.out.ow (Nat.le_succ _)⟩
  obtain⟨b,off,he,m0,m1,m2⟩:=S.out.sa k hlt
  subst he
  have HT:=Lib.hid (HIT.out k hlt)
  have HFF:=Lib.hid (HIF.out k hlt)
  have HQ:=Lib.hid (HIS.out L[k].c)
  rw[HPP.out]at HT HFF HQ
  generalize L[k].f=xf at *
  generalize L[k].i=xi at *
  generalize L[k].c=xc at *
  have BZ:Hid (ah (wr.alloc (.cells #[.int .i64 0,.int .i64 0,.string ⟨#[]⟩] 101)) wr.heap.size _ 101):=aL ..
  go_upto_region 6 with (refine JU rfl _ _ rfl wr.heap.size xf xi xc rfl rfl _ BZ.out rfl ?_)
  have hrow:=bP (av wr (.cells #[.int .i64 0,.int .i64 0,.string ⟨#[]⟩] 101)) (Nat.le_refl wr.heap.size) #[.int .i64 xf,.int .i64 xi,.string xc]
  have B2:=Lib.hid (BZ.out.setRow #[.int .i64 xf,.int .i64 xi,.string xc])
  have S2:=Lib.hid (S.out.below hrow)
  clear S BZ hrow m0 m1 m2
  generalize (wr.alloc _).setRow wr.heap.size _=W2 at *
  generalize wr.heap.size=n2 at *
  have y2:=B2.out.cell 2 (by simp)
  simp only[List.getElem_toArray,List.getElem_cons_zero,List.getElem_cons_succ]at y2
  cases hF:F xc with
  |some v =>
   have hv:=S2.out.ca.2 xc v hF
   subst hv
   have HV:=Lib.hid hF
   clear hF
   cases hb:p xc
   case false =>
    have HN:Hid (out=fU (k+1) B):=by show _=_;rw[HFF.out hb];exact HI.out
    rw[hb]at HV
    clear HT HFF HI hb
    go_wp2_with (at_lookup;refine jX rfl _ _ _ _ rfl iy nA _ (lW _) gm rfl S2.out.ca.1 xc rfl ?_;rw[HV.out])
    go_roundw
    case rel=>exact⟨k+1,F,n,out,oa,oc,by omega,by omega,rfl,by go_num,HN.out,S2.out⟩
    case measure=>simp[intOf];omega
   case true =>
    have HN:Hid (out++[(k:Int)]=fU (k+1) B):=by show _=_;rw[HT.out hb,HI.out]
    rw[hb]at HV
    clear HT HFF HI hb
    have S1:=Lib.hid (S2.out.below (av W2 (.cells #[.int .i64 k] 3)))
    have hbs:w.heap.size+1<=(W2.alloc (.cells #[.int .i64 k] 3)).heap.size:=Nat.succ_le_of_lt S1.out.ub.b1.lt
    have hoc:out.length<=1000000:=by omega
    go_wp2_with (first | (at_lookup;refine jX rfl _ _ _ _ rfl iy nA _ (lW _) gm rfl S2.out.ca.1 xc rfl ?_;rw[HV.out]) | (at_builtin;refine uE rfl _ _ rfl (w.heap.size+1) _ out rfl S1.out.ow _ 1 [(k:Int)] rfl (tZ _ _) hoc (by simp) hbs ?_;intro v7 W7 own7 hg7;obtain⟨-,oa7,oc7,rfl,-,-⟩:=jK own7))
    have S7:=Lib.hid (IE.grow HM.out.1 HM.out.2.1 HM.out.2.2 S1.out own7 hg7)
    clear own7 hg7 S1 S2 B2 y2
    have hlen:(out++[(k:Int)]).length=out.length+1:=by simp
    go_roundw
    case rel=>exact⟨k+1,F,n,out++[(k:Int)],oa7,oc7,by omega,by omega,(by first | rfl | simp),by go_num,HN.out,S7.out⟩
    case measure=>simp[intOf];omega
  |none =>
   have HV:=Lib.hid hF
   clear hF
   obtain⟨z0,z1,z2⟩:=S2.out.ub.cells
   go_upto_region 9 with (first | (at_lookup;refine jX rfl _ _ _ _ rfl iy nA _ (lW _) gm rfl S2.out.ca.1 xc rfl ?_;rw[HV.out]) | (go_at_call 111;refine(HQ.out _ S2.out.ub.h).mono ?_;rintro e w3 ⟨rfl,hb3⟩))
   have S3:=Lib.hid (S2.out.below hb3)
   have B3:=Lib.hid (B2.out.below hb3)
   clear S2 B2 hb3 y2 z0 z1 z2 HV HQ
   have y2:=B3.out.cell 2 (by simp)
   simp only[List.getElem_toArray,List.getElem_cons_zero,List.getElem_cons_succ]at y2
   go_upto_region 10 with (at_mapUpdate;refine jW rfl _ _ _ _ rfl iy nA gm rfl S3.out.ca.1 xc rfl (.bool (p xc)) rfl ?_;intro w4 hm4 hg4 hs4)
   have S4:=Lib.hid (IE.put HM.out.1 HM.out.2.1 HM.out.2.2 S3.out (nk.put S3.out.ca.2 hm4) hg4)
   clear S3 B3 y2 hm4 hg4 hs4
   cases hb:p xc
   case false =>
    have HN:Hid (out=fU (k+1) B):=by show _=_;rw[HFF.out hb];exact HI.out
    clear HT HFF HI hb
    go_wp2
    go_roundw
    case rel=>exact⟨k+1,_,_,out,oa,oc,by omega,by omega,rfl,by go_num,HN.out,S4.out⟩
    case measure=>simp[intOf];omega
   case true =>
    have HN:Hid (out++[(k:Int)]=fU (k+1) B):=by show _=_;rw[HT.out hb,HI.out]
    clear HT HFF HI hb
    have S1:=Lib.hid (S4.out.below (av w4 (.cells #[.int .i64 k] 3)))
    have hbs:w.heap.size+1<=(w4.alloc (.cells #[.int .i64 k] 3)).heap.size:=Nat.succ_le_of_lt S1.out.ub.b1.lt
    have hoc:out.length<=1000000:=by omega
    go_wp2_with ((at_builtin;refine uE rfl _ _ rfl (w.heap.size+1) _ out rfl S1.out.ow _ 1 [(k:Int)] rfl (tZ _ _) hoc (by simp) hbs ?_;intro v7 W7 own7 hg7;obtain⟨-,oa7,oc7,rfl,-,-⟩:=jK own7))
    have S7:=Lib.hid (IE.grow HM.out.1 HM.out.2.1 HM.out.2.2 S1.out own7 hg7)
    clear own7 hg7 S1 S4
    have hlen:(out++[(k:Int)]).length=out.length+1:=by simp
    go_roundw
    case rel=>exact⟨k+1,_,_,out++[(k:Int)],oa7,oc7,by omega,by omega,(by first | rfl | simp),by go_num,HN.out,S7.out⟩
    case measure=>simp[intOf];omega

theorem aM.grown{w w':World}{a:Option Addr}{l:List Int}{row:Option Nat}(h:aM w a l)(hg:w.grownBy w' row)(hne:∀b off,a=some ⟨b,off,none⟩->some b≠row):aM w' a l:=by
 intro k hk
 obtain⟨b,off,ha,h0⟩:=h k hk
 exact⟨b,off,ha,hg.cell h0 (hne b off ha)⟩
theorem aM.put{κ:Type}[DecidableEq κ]{w w':World}{a:Option Addr}{l:List Int}{g:Nat}(h:aM w a l){enc:κ->Value}{F:κ->Option Value}{n:Nat}(hm:bC w g enc F n)(hg:w.grownBy w' (some g)):aM w' a l:=by
 intro k hk
 obtain⟨b,off,ha,h0⟩:=h k hk
 exact⟨b,off,ha,hg.cell h0 (P5 h0 hm)⟩
structure RE(u:aQ)(ha:Option Addr)(hc:Nat)(fa:Option Addr)(fc:Nat)(L:List Sit)(sa:Option Addr)(I:List Int)(ia:Option Addr)(B2 gm:Nat)(p:Str->Bool)(F:Str->Option Value)(n:Nat)(out:List Int)(oa:Option Addr)(oc:Nat)(w wr:World):Prop where
 ub:UB u ha hc fa fc w wr
 sa:iQ wr sa L
 iv:aM wr ia I
 ca:nk wr gm p F n
 ow:wr.ownsRow B2 3 1 (.slice oa out.length oc) out.length (out.map bT)
 gg:w.heap.size<gm
 wb:w.heap.size<B2
 ib:∀b off,ia=some ⟨b,off,none⟩->b<B2
 bb:B2<=wr.heap.size
section
variable {u:aQ}{ha:Option Addr}{hc:Nat}{fa:Option Addr}{fc:Nat}{L:List Sit}{sa:Option Addr}{I:List Int}{ia:Option Addr}{B2 gm:Nat}{p:Str->Bool}{F:Str->Option Value}{n:Nat}{out:List Int}{oa:Option Addr}{oc:Nat}{w wr w':World}
theorem RE.below(k:RE u ha hc fa fc L sa I ia B2 gm p F n out oa oc w wr)(hb:Below wr.heap.size wr w'):RE u ha hc fa fc L sa I ia B2 gm p F n out oa oc w w' :=
 ⟨k.ub.below hb,k.sa.below hb,k.iv.below hb,k.ca.below hb,gL k.ow hb,k.gg,k.wb,k.ib,Nat.le_trans k.bb hb.size⟩
theorem RE.grow{out':List Int}{oa':Option Addr}{oc':Nat}(h:ay w ha u.h)(f:bR w fa u.fs)(hs:iQ w sa L)(k:RE u ha hc fa fc L sa I ia B2 gm p F n out oa oc w wr)(own:w'.ownsRow B2 3 1 (.slice oa' out'.length oc') out'.length (out'.map bT))(hg:wr.grownBy w' (Value.slice oa out.length oc).ownBlock):RE u ha hc fa fc L sa I ia B2 gm p F n out' oa' oc' w w' :=
 have hr:∀q,(Value.slice oa out.length oc).ownBlock=some q->B2<=q:=fun q hq=>(k.ow.lt q hq).1
 have ub:=k.ub.grow h f hg (fun q hq=>Nat.lt_of_lt_of_le k.wb (hr q hq))
 ⟨ub,hs.below ub.hb,k.iv.grown hg (fun b off e e2=>by have h1:=k.ib b off e;have h2:=hr b e2.symm;omega),⟨k.ca.1.grown hg (rq k.ow k.ca.1),k.ca.2⟩,own,k.gg,k.wb,k.ib,Nat.le_trans k.bb hg.size⟩
theorem RE.put{F':Str->Option Value}{n':Nat}(h:ay w ha u.h)(f:bR w fa u.fs)(hs:iQ w sa L)(k:RE u ha hc fa fc L sa I ia B2 gm p F n out oa oc w wr)(hc':nk w' gm p F' n')(hg:wr.grownBy w' (some gm)):RE u ha hc fa fc L sa I ia B2 gm p F' n' out oa oc w w' :=
 have ub:=k.ub.grow h f hg (fun q hq=>by cases hq;exact k.gg)
 ⟨ub,hs.below ub.hb,k.iv.put k.ca.1 hg,hc',oO k.ow k.ca.1 hg,k.gg,k.wb,k.ib,Nat.le_trans k.bb hg.size⟩
end
theorem Zj{I:List Int}{Q:Int->Bool}{k:Nat}(hk:k<I.length)(e:Q I[k]=true):(I.take (k+1)).filter Q=(I.take k).filter Q++[I[k]]:=by
 rw[List.take_succ_eq_append_getElem hk,List.filter_append];simp[e]
theorem Zk{I:List Int}{Q:Int->Bool}{k:Nat}(hk:k<I.length)(e:Q I[k]=false):(I.take (k+1)).filter Q=(I.take k).filter Q:=by
 rw[List.take_succ_eq_append_getElem hk,List.filter_append];simp[e]
set_option maxRecDepth 100000 in
set_option maxHeartbeats 16000000 in
theorem KN(u:aQ)(ha:Option Addr)(hc:Nat)(fa:Option Addr)(fc:Nat)(L:List Sit)(sa:Option Addr)(sc:Nat)(c m:Str)(g:Int)(w:World)(h:ay w ha u.h)(hf:bR w fa u.fs)(hs:iQ w sa L)(hb:Ir u)(hL:L.length<=1000000) :
 Calls Tryz.prog 28 #[bZ u ha hc fa fc,.slice sa L.length sc,.string c,.string m,.int .i64 g] w (oH (kW u.h u.fs L c m g) w):=by
 have S00:=Lib.hid (UB.start (hc:=hc) (fc:=fc) h hf)
 have HZ:Hid ((w.alloc (kN u ha hc fa fc)).heap.size=w.heap.size+1):=by show _=_;simp
 have HM:Hid (ay w ha u.h/\bR w fa u.fs/\iQ w sa L):=⟨h,hf,hs⟩
 have HIN:Hid (∀(w1:World),ay w1 ha u.h->bR w1 fa u.fs->iQ w1 sa L->Calls Tryz.prog 61 #[bZ u ha hc fa fc,.slice sa L.length sc,.string c] w1 (oH (dD u.h L c) w1)):=fun w1 h1 h2 h3=>ND u ha hc fa fc L sa sc c w1 h1 h2 h3 hb.h.l hL
 have HLK:Hid (∀(s:Str) (w1:World),ay w1 ha u.h->Calls Tryz.prog 62 #[.agg #[.slice ha u.h.length hc],.string s,.string m] w1 (Ii (dN u.h s m) w1)):=fun s w1 h1=>MG u.h s m ha hc w1 h1 hb.h.l hb.h.m hb.h.p
 have HFN:Hid (∀(x:Str) (w1:World),bR w1 fa u.fs->Calls Tryz.prog 34 #[bZ u ha hc fa fc,.string x,.string m] w1 (aj w1 (.int .i64 (dM u.fs x m)))):=fun x w1 h1=>FO u ha hc fa fc x m w1 h1 (by have:=hb.l;omega)
 have HIL:Hid ((dD u.h L c).length<=L.length/\∀x∈dD u.h L c,∃j:Nat,j<L.length/\x=(j:Int)):=⟨A7 _ _,fun x hx=>by
  obtain⟨j,hj,e,_⟩:=XX.1 hx
  exact⟨j,hj,e⟩⟩
 have HR:Hid (kW u.h u.fs L c m g=if g<0 then []else(dD u.h L c).filter (fun x=>L[x.toNat]?.elim false (fun s=>qx u.h u.fs s.c m g))):=rfl
 have HFB:Hid (∀s,qx u.h u.fs s m g=match dN u.h s m with | some (x,_)=>dM u.fs x m==g | none=>false):=fun s=>rfl
 clear h hf hs hb
 generalize kW u.h u.fs L c m g=R at *
 generalize dD u.h L c=I at *
 generalize hQ:(fun x:Int=>L[x.toNat]?.elim false (fun s=>qx u.h u.fs s.c m g))=Q at *
 generalize hp:(fun s=>qx u.h u.fs s m g)=p at *
 have HPP:Hid (∀s,qx u.h u.fs s m g=p s):=fun s=>by rw[<-hp]
 have HQQ:Hid (∀(j:Nat) (hj:j<L.length),Q (j:Int)=p L[j].c):=fun j hj=>by
  rw[<-hQ,<-hp]
  simp[hj]
 clear hp hQ
 unfold bZ at *
 go_enter Tryz.func28,Tryz.ntmps28
 go_upto_region 1 with (fail)
 generalize w.alloc _=W at *
 by_cases hg0:g<0
 case pos =>
  have t1:=decide_eq_true hg0
  have HN:Hid (R=[]):=by show _=_;rw[HR.out,if_pos hg0]
  clear hg0
  go_wp2
  go_ret
  exact⟨S00.out.hb,none,0,by rw[HN.out];rfl,by rw[HN.out];exact World.ownsRow_nil _ _ _ _⟩
 have t1:=decide_eq_false hg0
 rw[if_neg hg0]at HR
 clear hg0
 go_upto_region 5 with (refine sH rfl 146 rfl nA Value.string ?_;intro hmp)
 have hgm:w.heap.size<W.heap.size:=by rw[HZ.out];omega
 have hob:=av W (.map #[] 0)
 have S01:=Lib.hid (S00.out.below hob)
 have MP:=Lib.hid hmp
 have hW1:w.heap.size<(W.alloc (.map #[] 0)).heap.size:=Nat.lt_of_lt_of_le hgm hob.size
 clear S00 HZ hmp hob t1
 generalize W.heap.size=gm at *
 generalize W.alloc (.map #[] 0)=W1 at *
 obtain⟨z0,z1,z2⟩:=S01.out.cells
 go_wp2_with fail
 refine(HIN.out _ S01.out.h S01.out.f (HM.out.2.2.below S01.out.hb)).mono ?_
 rintro e W2 ⟨hb2,ia,ic,rfl,ow2⟩
 have hI:=(Al ow2).2
 have hib:∀b off,ia=some ⟨b,off,none⟩->b<W2.heap.size:=fun b off e=>by
  subst e
  exact(ow2.lt b rfl).2
 have S02:=S01.out.below hb2
 have S0:Hid (RE u ha hc fa fc L sa I ia W2.heap.size gm p (fun _=>none) 0 [] none 0 w W2):=⟨S02,HM.out.2.2.below S02.hb,hI,⟨MP.out.below hb2,fun s v e=>(by cases e)⟩,World.ownsRow_nil _ _ _ _,hgm,Nat.lt_of_lt_of_le hW1 hb2.size,hib,Nat.le_refl _⟩
 have hil:=HIL.out.1
 clear hb2 ow2 hI hib S02 S01 MP hgm hW1 z0 z1 z2 HIN
 generalize W2.heap.size=B2 at *
 go_wp2
 go_loopw[11,29] (fun v i wr=>∃(k:Nat) (F:Str->Option Value) (n:Nat) (out:List Int) (oa:Option Addr) (oc:Nat),k<=I.length/\out.length<=k/\v = .slice oa out.length oc/\i = .int .i64 k/\Hid (out=(I.take k).filter Q)/\Hid (RE u ha hc fa fc L sa I ia B2 gm p F n out oa oc w wr)) (fun _ i _=>I.length-(intOf i).toNat)
 case atStart=>exact⟨0,_,_,[],none,0,Nat.zero_le _,Nat.zero_le _,rfl,rfl,(by show _=_;simp),S0.out⟩
 case round =>
  clear S0
  obtain⟨k,F,n,out,oa,oc,hk,hol,rfl,rfl,HI,S⟩:=hrel
  by_cases hlt:k<I.length
  case neg =>
   have HF:Hid (out=R):=by show _=_;rw[HR.out,HI.out,List.take_of_length_le (by omega)]
   go_wp2
   go_ret
   exact⟨S.out.ub.hb,oa,oc,by rw[<-HF.out]<;>rfl,by rw[<-HF.out];exact rf S.out.ow (Nat.le_of_lt S.out.wb)⟩
  obtain⟨b,off,he,c0⟩:=S.out.iv k hlt
  subst he
  have HT:=Lib.hid (@Zj I Q k hlt)
  have HFF:=Lib.hid (@Zk I Q k hlt)
  obtain⟨j,hj,ej⟩:=HIL.out.2 _ (List.getElem_mem hlt)
  generalize I[k]=x at *
  subst ej
  rw[HQQ.out j hj]at HT HFF
  obtain⟨bs,os,he,-,-,m2⟩:=S.out.sa j hj
  subst he
  have HQ:=Lib.hid (HLK.out L[j].c)
  have HPX:=Lib.hid (HFB.out L[j].c)
  rw[HPP.out]at HPX
  generalize dN u.h L[j].c m=R2 at *
  generalize L[j].c=xc at *
  cases hF:F xc with
  |some v =>
   have hv:=S.out.ca.2 xc v hF
   subst hv
   have HV:=Lib.hid hF
   clear hF HPX HQ
   cases hb:p xc
   case false =>
    have HN:Hid (out=(I.take (k+1)).filter Q):=by show _=_;rw[HFF.out hb];exact HI.out
    rw[hb]at HV
    clear HT HFF HI hb
    go_wp2_with (at_lookup;refine jX rfl _ _ _ _ rfl iy nA _ (lW _) gm rfl S.out.ca.1 xc rfl ?_;rw[HV.out])
    go_roundw
    case rel=>exact⟨k+1,F,n,out,oa,oc,by omega,by omega,rfl,by go_num,HN.out,S.out⟩
    case measure=>simp[intOf];omega
   case true =>
    have HN:Hid (out++[(j:Int)]=(I.take (k+1)).filter Q):=by show _=_;rw[HT.out hb,HI.out]
    rw[hb]at HV
    clear HT HFF HI hb
    have S1:=Lib.hid (S.out.below (av wr (.cells #[.int .i64 j] 3)))
    have hbs:B2<=(wr.alloc (.cells #[.int .i64 j] 3)).heap.size:=S1.out.bb
    have hoc:out.length<=1000000:=by omega
    go_wp2_with (first | (at_lookup;refine jX rfl _ _ _ _ rfl iy nA _ (lW _) gm rfl S.out.ca.1 xc rfl ?_;rw[HV.out]) | (at_builtin;refine uE rfl _ _ rfl B2 _ out rfl S1.out.ow _ 1 [(j:Int)] rfl (tZ _ _) hoc (by simp) hbs ?_;intro v7 W7 own7 hg7;obtain⟨-,oa7,oc7,rfl,-,-⟩:=jK own7))
    have S7:=Lib.hid (RE.grow HM.out.1 HM.out.2.1 HM.out.2.2 S1.out own7 hg7)
    have hlen:(out++[(j:Int)]).length=out.length+1:=by simp
    go_roundw
    case rel=>exact⟨k+1,F,n,out++[(j:Int)],oa7,oc7,by omega,by omega,(by first | rfl | simp),by go_num,HN.out,S7.out⟩
    case measure=>simp[intOf];omega
  |none =>
   have HV:=Lib.hid hF
   clear hF
   go_upto_region 11 with (at_lookup;refine jX rfl _ _ _ _ rfl iy nA _ (lW _) gm rfl S.out.ca.1 xc rfl ?_;rw[HV.out])
   obtain⟨z0,z1,z2⟩:=S.out.ub.cells
   go_wp2_with fail
   refine(HQ.out _ S.out.ub.h).mono ?_
   rintro e w3 ⟨hb3,hr⟩
   have S3:=Lib.hid (S.out.below hb3)
   clear S hb3 c0 m2 z0 z1 z2 HV HQ
   rcases hr with ⟨hR,rfl⟩ | ⟨y,gs,pa,pc,hR,rfl,-⟩
   ·rw[hR]at HPX
    have HB:Hid (p xc=false):=HPX.out
    clear hR HPX
    go_upto_region 12 with (fail)
    have S4:=Lib.hid (S3.out.below (av w3 (.cells #[.string ⟨#[]⟩,.bool false,.slice none 0 0,.string ⟨#[]⟩] 48)))
    clear S3
    generalize w3.alloc _=W4 at *
    go_upto_region 14 with (at_mapUpdate;refine jW rfl _ _ _ _ rfl iy nA gm rfl S4.out.ca.1 xc rfl (.bool false) rfl ?_;intro w5 hm5 hg5 hs5)
    rw[<-HB.out]at hm5
    have S5:=Lib.hid (RE.put HM.out.1 HM.out.2.1 HM.out.2.2 S4.out (nk.put S4.out.ca.2 hm5) hg5)
    have HN:Hid (out=(I.take (k+1)).filter Q):=by show _=_;rw[HFF.out HB.out];exact HI.out
    clear hm5 hg5 hs5 S4 HB HT HFF HI
    go_wp2
    go_roundw
    case rel=>exact⟨k+1,_,_,out,oa,oc,by omega,by omega,rfl,by go_num,HN.out,S5.out⟩
    case measure=>simp[intOf];omega
   ·rw[hR]at HPX
    have HB:Hid (p xc=(dM u.fs y m==g)):=HPX.out
    clear hR HPX
    go_upto_region 12 with (fail)
    have S4:=Lib.hid (S3.out.below (av w3 (.cells #[.string gs.name,.bool gs.stat,.slice pa gs.params.length pc,.string gs.result] 48)))
    clear S3
    generalize w3.alloc _=W4 at *
    obtain⟨z0,z1,z2⟩:=S4.out.ub.cells
    have HFY:=Lib.hid (HFN.out y)
    go_upto_region 13 with (go_at_call 34;refine(HFY.out _ S4.out.ub.f).mono ?_;rintro e w5 ⟨rfl,hb5⟩)
    have S5:=Lib.hid (S4.out.below hb5)
    clear S4 hb5 z0 z1 z2 HFY
    rw[<-HB.out]
    clear HB
    go_upto_region 14 with (at_mapUpdate;refine jW rfl _ _ _ _ rfl iy nA gm rfl S5.out.ca.1 xc rfl (.bool (p xc)) rfl ?_;intro w6 hm6 hg6 hs6)
    have S6:=Lib.hid (RE.put HM.out.1 HM.out.2.1 HM.out.2.2 S5.out (nk.put S5.out.ca.2 hm6) hg6)
    clear hm6 hg6 hs6 S5
    cases hb:p xc
    case false =>
     have HN:Hid (out=(I.take (k+1)).filter Q):=by show _=_;rw[HFF.out hb];exact HI.out
     clear HT HFF HI hb
     go_wp2
     go_roundw
     case rel=>exact⟨k+1,_,_,out,oa,oc,by omega,by omega,rfl,by go_num,HN.out,S6.out⟩
     case measure=>simp[intOf];omega
    case true =>
     have HN:Hid (out++[(j:Int)]=(I.take (k+1)).filter Q):=by show _=_;rw[HT.out hb,HI.out]
     clear HT HFF HI hb
     have S1:=Lib.hid (S6.out.below (av w6 (.cells #[.int .i64 j] 3)))
     have hbs:B2<=(w6.alloc (.cells #[.int .i64 j] 3)).heap.size:=S1.out.bb
     have hoc:out.length<=1000000:=by omega
     go_wp2_with ((at_builtin;refine uE rfl _ _ rfl B2 _ out rfl S1.out.ow _ 1 [(j:Int)] rfl (tZ _ _) hoc (by simp) hbs ?_;intro v7 W7 own7 hg7;obtain⟨-,oa7,oc7,rfl,-,-⟩:=jK own7))
     have S7:=Lib.hid (RE.grow HM.out.1 HM.out.2.1 HM.out.2.2 S1.out own7 hg7)
     have hlen:(out++[(j:Int)]).length=out.length+1:=by simp
     go_roundw
     case rel=>exact⟨k+1,_,_,out++[(j:Int)],oa7,oc7,by omega,by omega,(by first | rfl | simp),by go_num,HN.out,S7.out⟩
     case measure=>simp[intOf];omega
end Go.Proofs.YtjnbddedmbhiaaaGreatDoor
