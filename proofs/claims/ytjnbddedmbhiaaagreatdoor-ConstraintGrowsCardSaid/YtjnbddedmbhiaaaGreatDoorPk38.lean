/-
  constraint.Of.
-/
import Derived.Test.YtjnbddedmbhiaaaGreatDoorPk26
import Derived.Test.YtjnbddedmbhiaaaGreatDoorPk34
import Derived.Test.YtjnbddedmbhiaaaGreatDoorPk37
namespace Go.Proofs.YtjnbddedmbhiaaaGreatDoor
open Go.RowKit Go.ak Go.AM Go.Sort

theorem y0m(l:List Int)(a:Option Addr)(c:Nat)(w:World)(hs:aM w a l)(hl:l.length<=1000000):Calls Tryz.prog 22 #[.slice a l.length c] w (oH l w):=by
 by_cases h0:0<l.length
 ·obtain⟨b,off,rfl,_⟩:=hs 0 h0
  refine(Tryz.slices_Clone_int b off l.length c l w (Nat.le_refl _) (by omega) (fun j hj=>?_)).mono ?_
  ·obtain⟨b',off',he,hc⟩:=hs j hj
   cases he
   rw[hc,List.getD_eq_getElem?_getD,List.getElem?_eq_getElem hj];rfl
  ·rintro e w' ⟨v,rfl,own,_,hb⟩
   rw[List.take_length]at own
   obtain⟨-,a',c',rfl,-,-⟩:=jK own
   exact⟨hb,a',c',rfl,own⟩
 ·have hl0:l=[]:=List.eq_nil_of_length_eq_zero (by omega)
  subst hl0
  cases a with
  |none =>
   refine(Tryz.slices_Clone_int_nil 0 c w).mono ?_
   rintro e w' ⟨rfl,rfl⟩
   exact⟨Below.refl _ _,none,0,rfl,World.ownsRow_nil _ _ _ _⟩
  |some ad =>
   refine(Tryz.slices_Clone_int_zero ad c w).mono ?_
   rintro e w' ⟨v,rfl,own,_,hb⟩
   obtain⟨-,a',c',rfl,-,-⟩:=jK (l:=[]) own
   exact⟨hb,a',c',rfl,own⟩
theorem kQ{ops:Array Oper}{rest:List Oper}{o:Oper}{a:Act}{w:World}{Q:Exit->Act->World->Prop}(hgd:o.guard=none)(hd:o.dst=none)(x y:Operand)(ho:o.op = .store 36 x y)
 (g:Nat) (v s f:Int) (ca:Option Addr) (n cc:Nat) (hx:a.eval x = .pointer (some ⟨g,0,none⟩)) (hy:a.eval y = .agg #[.int .i64 v,.int .i64 s,.int .i64 f,.slice ca n cc])
 (old:Array Value) (hg:ah w g old 36) (hold:old.size=4)
 (h:wpList Tryz.prog ops Q rest a (w.setRow g #[.int .i64 v,.int .i64 s,.int .i64 f,.slice ca n cc])):wpList Tryz.prog ops Q (o::rest) a w :=
 wpList_store_row hgd 36 x y ho g _ hx hy 36 old hg (by kernel_rfl) hold (by simp[Value.oneCell']) (by rw[hd];exact h)
abbrev dK:Array Value:=#[.int .i64 0,.int .i64 0,.int .i64 0,.slice none 0 0]
def tY(u:aQ)(f i:Nat):List PC:=fq u (bL u) (iE u.fs u.fs.length) (kS (bL u) (bL u).length) (jR (dH (cZ (eB u.h))) (dH (cZ (eB u.h))).length) f i
def uo(u:aQ)(f n:Nat):List PC:=(List.range n).flatMap (tY u f)
def cO(u:aQ)(funcs:List Int):List PC:=funcs.flatMap (fun f=>uo u f.toNat ((u.fs[f.toNat]?).elim 0 (fun g=>g.code.length)))
theorem Z9(u:aQ)(f n:Nat):uo u f (n+1)=uo u f n++tY u f n:=by
 unfold uo;rw[List.range_succ,List.flatMap_append];simp
theorem XY(u:aQ)(l:List Int)(k:Nat)(hk:k<l.length)(f:Nat)(hf:l[k]=(f:Int))(hfl:f<u.fs.length):cO u (l.take (k+1))=cO u (l.take k)++uo u f u.fs[f].code.length:=by
 unfold cO
 rw[List.take_succ_eq_append_getElem hk,List.flatMap_append,hf]
 simp[List.getElem?_eq_getElem hfl]
theorem XP(u:aQ)(f i:Nat)(hf:f<u.fs.length)(hi:i<u.fs[f].code.length):(tY u f i).length<=u.fs[f].code.length+1:=by
 have hb:f<(iE u.fs u.fs.length).length:=by rw[Cv];exact hf
 unfold tY fq
 rw[List.getElem?_eq_getElem hf,List.getElem?_eq_getElem hb]
 simp only
 rw[List.getElem?_eq_getElem hi]
 simp only
 unfold jb
 have hr:∀y,(gZ u (bL u) (iE u.fs u.fs.length) f i y).length<=u.fs[f].code.length+1:=fun y=>by
  unfold gZ
  rw[List.getElem?_eq_getElem hf,List.getElem?_eq_getElem hb]
  simp only
  rw[List.getElem?_eq_getElem hi]
  exact DJ _ _ _ _ _ _ _ _ _
 split
 ·split<;>simp
 ·split
  ·split
   ·simp
   ·split<;>simp
  ·split
   ·split<;>simp
   ·split
    ·split<;>simp
    ·split
     ·split
      ·simp
      ·split<;>simp
     ·split
      ·exact hr _
      ·simp
theorem bsearchI(l:List Int)(a:Option Addr)(c:Nat)(x:Int)(w:World)(h:aM w a l)(hs:l.Pairwise (· < ·))(hl:l.length<=1000000):Calls Tryz.prog 19 #[.slice a l.length c,.int .i64 x] w (fun e w'=>∃(n:Int) (b:Bool),e = .returned (.tuple #[.int .i64 n,.bool b])/\Below w.heap.size w w'):=by
 by_cases h0:0<l.length
 ·obtain⟨b,off,rfl,_⟩:=h 0 h0
  refine(Tryz.slices_BinarySearch_int b off l.length c l x w (Nat.le_refl _) (by omega) (fun j hj=>?_) (by rw[List.take_length];exact hs.imp (fun h=>by omega))).mono ?_
  ·obtain⟨b',off',he,hc⟩:=h j hj
   cases he
   rw[hc,List.getD_eq_getElem?_getD,List.getElem?_eq_getElem hj];rfl
  ·rintro e w' ⟨rfl,q,rfl⟩
   exact⟨_,_,rfl,⟨rfl,rfl,rfl,Nat.le_refl _,fun _ _=>rfl⟩⟩
 ·have hl0:l=[]:=List.eq_nil_of_length_eq_zero (by omega)
  subst hl0
  refine(Tryz.slices_BinarySearch_int_empty a c x w).mono ?_
  rintro e w' ⟨rfl,rfl⟩
  exact⟨0,false,rfl,Below.refl _ _⟩
def kM(n:Nat)(funcs:List Int):Prop:=(∀f∈funcs,0<=f/\f<n)/\funcs.Pairwise (· < ·)
structure Pre(u:aQ):Prop where
 d:∀D:BD,D.u=u->D.L=bL u->D.bs=iE u.fs u.fs.length->gI D
 c:∀(f i g:Nat) (hf:f<u.fs.length) (hi:i<u.fs[f].code.length) (hg:g<u.fs.length),pK u ⟨f,i,g⟩->(u.fs[f].code[i].op=10∨u.fs[f].code[i].op=9)/\(if u.fs[f].code[i].op=9 then 1 else 0)+u.fs[f].code[i].args.length<=u.fs[g].vars.length
def CP(u:aQ)(funcs:List Int)(calls:List bA)(w:World)(e:Ending)(w':World):Prop :=
 Below w.heap.size w w' /\
 ((∃r:Int,r≠0/\e = .returned (.tuple #[.agg dK,.int .i64 r])/\((iD u).2.2=0->kM u.fs.length funcs->calls=[]->(bL u).length<=1024->∃Q:List PC,Q.Pairwise nM/\(∀p∈Q,p∈cO u funcs)/\32768<Q.length)) ∨
  (∃(C:List Cn) (ca:Option Addr) (cc:Nat) (nv nf:Int),e = .returned (.tuple #[.agg #[.int .i64 nv,.int .i64 (bL u).length,.int .i64 nf,.slice ca C.length cc],.int .i64 0]) /\
    (iD u).2.2=0/\kM u.fs.length funcs/\(bL u).length<=1024/\C.length<=32768/\nv=(gy u.fs u.fs.length:Nat)/\(∃l:List (Str × Value),(l.map (·.1)).Nodup/\(∀k,fQ (jR (dH (cZ (eB u.h))) (dH (cZ (eB u.h))).length) k=dO l k)/\nf=l.length) /\
    (∃base,w'.ownsRow base 60 5 (.slice ca C.length cc) C.length (bE C))/\(∀x∈C,bK w' x.sa x.s/\x.s.length<=1000000)/\(C.map Cn.p).Pairwise nM/\(∀p∈cO u funcs,p∈C.map Cn.p)/\(calls=[]->∀p∈C.map Cn.p,p∈cO u funcs)))
theorem YH{n:Nat}{l:List Int}{k:Nat}(hk:k<l.length)(h:kM n (l.take k))(h1:0<=l[k]/\l[k]<n)(h2:∀j (hj:j+1=k),l[j]<l[k]):kM n (l.take (k+1)):=by
 have e:l.take (k+1)=l.take k++[l[k]]:=List.take_succ_eq_append_getElem hk
 refine⟨fun f hf=>?_,?_⟩
 ·rw[e]at hf
  rcases List.mem_append.1 hf with h3 | h3
  ·exact h.1 f h3
  ·rw[List.mem_singleton.1 h3];exact h1
 ·rw[e,List.pairwise_append]
  refine⟨h.2,by simp,fun a ha b hb=>?_⟩
  rw[List.mem_singleton.1 hb]
  obtain⟨q,hq,rfl⟩:=List.getElem_of_mem ha
  have hq':q<k:=by
   have h3:q<min k l.length:=by simpa using hq
   omega
  rw[List.getElem_take]
  by_cases e2:q+1=k
  ·exact h2 q e2
  ·have hk0:0<k:=by omega
   have h4:=h2 (k-1) (by omega)
   have h5:=List.pairwise_iff_getElem.1 h.2 q (k-1) (by simp;omega) (by simp;omega) (by omega)
   rw[List.getElem_take,List.getElem_take]at h5
   omega
theorem WW{κ:Type}[DecidableEq κ]{w:World}{g:Nat}{enc:κ->Value}{F:κ->Option Value}(h:bI w g enc F){t kt e:TypeId}(hu:Tryz.prog.underlying t=some (.map kt e)) :
 ∃l:List (κ × Value),(l.map (·.1)).Nodup/\(∀k,F k=dO l k)/\∀w',w'.heap[g]? = w.heap[g]? -> ∀ty,(Builtin.len_ #[t] ty #[.map (some g)]).run Tryz.prog w' = .ok (.int .i64 l.length) w':=by
 have hlt:=h.lt
 obtain⟨n,hm⟩:=h
 obtain⟨l,ar,c,hb,hme,hnd,hF,-⟩:=hm.ex
 have hs:ar.size=l.length:=by
  have:=congrArg List.length hme
  simpa using this
 refine⟨l,hnd,hF,fun w' hw ty=>?_⟩
 have hb':w'.heap[g]? = some (.map ar c):=by rw[hw];exact hb
 simp[Builtin.len_,run_underlying hu,Go.AM.run_getObj_map hb',goInt,hs]
theorem Ox:∀(D:List Cn) (i:Nat) (hi:i<D.length) (a:Option Addr) (c:Nat),bE (D.set i { D[i]with sa:=a,sc:=c })=(bE D).set (i*5+4) (.slice a D[i].s.length c)
 |x::D,0,_,a,c=>by simp[bE,eX]
 |x::D,i+1,h,a,c=>by
  have ih:=Ox D i (by simpa using h) a c
  have e1:bE (x::D) = .int .i64 x.k :: .int .i64 x.a :: .int .i64 x.b :: .int .i64 x.f :: .slice x.sa x.s.length x.sc::bE D:=rfl
  have e2:∀z,bE ((x::D).set (i+1) z) = .int .i64 x.k :: .int .i64 x.a :: .int .i64 x.b :: .int .i64 x.f :: .slice x.sa x.s.length x.sc::bE (D.set i z):=fun _=>rfl
  rw[e1,e2,show(i+1)*5+4=i*5+4+1+1+1+1+1 by omega]
  simp only[List.set_cons_succ,List.getElem_cons_succ]
  rw[ih]
theorem Pq{w:World}{base:Nat}{C:List Cn}{a:Option Addr}{c:Nat}(own:w.ownsRow base 60 5 (.slice a C.length c) C.length (bE C)){i:Nat}(hi:i<C.length) :
 ∃g,a=some ⟨g,0,none⟩/\base<=g/\w.cell? ⟨g,i*5+4,none⟩=some (.slice C[i].sa C[i].s.length C[i].sc)/\w.frozen? ⟨g,i*5+4,none⟩=false/\(∀cs fr,w.heap[g]? ≠ some (.cells cs 3 fr))/\(∃cs,ah w g cs 60) /\
  ∀a' c',(w.setCell ⟨g,i*5+4,none⟩ (.slice a' C[i].s.length c')).ownsRow base 60 5 (.slice a C.length c) C.length (bE (C.set i { C[i]with sa:=a',sc:=c' })):=by
 rcases own.2 with ⟨e,h0⟩ | ⟨g,cap,cur,e,hbase,hh,hn,hcap,hsz,ht⟩
 ·omega
 ·cases e
  have hb:ah w g cur 60:=hh
  obtain⟨b,off,he,-,-,-,-,h4⟩:=(Am own).2 i hi
  cases he
  rw[Nat.zero_add]at h4
  refine⟨g,rfl,hbase,h4,hb.free _,fun cs fr e=>(by rw[hh]at e;simp at e),⟨cur,hb⟩,fun a' c'=>⟨by rw[uf];simp,.inr ⟨g,c,_,rfl,hbase,hb.set _ _,hn,hcap,by simp[hsz],?_⟩⟩⟩
  rw[Ox C i hi a' c',<-ht]
  apply List.ext_getElem?
  intro j
  have hcl:cur.size=c*5:=hsz
  by_cases hj:j<C.length*5
  ·rw[List.getElem?_take_of_lt hj,Array.getElem?_toList,List.getElem?_set]
   by_cases hji:i*5+4=j
   ·subst hji
    have h9:i*5+4<cur.size:=by rw[hcl];omega
    have h8:i*5+4<(cur.toList.take (C.length*5)).length:=by simp;omega
    rw[if_pos rfl,if_pos h8,Array.getElem?_setIfInBounds_self,if_pos h9]
   ·rw[Array.getElem?_setIfInBounds_ne hji,if_neg hji,List.getElem?_take_of_lt hj,Array.getElem?_toList]
  ·rw[List.getElem?_take_eq_none (by omega)]
   symm
   rw[List.getElem?_eq_none (by simp;omega)]
structure nu(D:BD)(ps:List PC)(n:Nat)(C:List Cn)(ca:Option Addr)(cc:Nat)(W wl:World):Prop where
 hb:Below W.heap.size W wl
 ow:wl.ownsRow W.heap.size 60 5 (.slice ca C.length cc) C.length (bE C)
 ok:∀x∈C,bK wl x.sa x.s/\x.s.length<=1000000
 pp:C.map Cn.p=ps
 ln:C.length=n
 c3:wl.cell? ⟨D.R,3,none⟩=some (.slice D.sa D.L.length D.sc)
 c6:wl.cell? ⟨D.R,6,none⟩=some (.map (some D.gf))
 rn:∀b,(∃cs t,ah wl b cs t/\t≠81)->b≠D.R
 mf:bI wl D.gf Value.string (fQ D.Ff)
theorem nu.below{D:BD}{ps:List PC}{n:Nat}{C:List Cn}{ca:Option Addr}{cc:Nat}{W wl w':World}(k:nu D ps n C ca cc W wl)(hR:D.R<wl.heap.size)(hb:Below wl.heap.size wl w'):nu D ps n C ca cc W w' :=
 ⟨k.hb.trans (hb.mono k.hb.size),gL k.ow hb,fun x hx=>⟨(k.ok x hx).1.below hb,(k.ok x hx).2⟩,k.pp,k.ln,cell_below hb k.c3,cell_below hb k.c6,fun b ⟨cs,t,h1,h2⟩ e=>by
   subst e
   refine k.rn _ ⟨cs,t,?_,h2⟩ rfl
   unfold ah at *
   rw[<-hb.block _ hR];exact h1,k.mf.below hb⟩
theorem wG{w:World}{b i:Nat}{v:Value}(h:w.cell? ⟨b,i,none⟩=some v):b<w.heap.size:=by
 unfold World.cell? at h
 cases hq:w.heap[b]? with
 |none=>simp[hq]at h
 |some o=>exact(Array.getElem?_eq_some_iff.1 hq).1
theorem PZ{w:World}{g i b j:Nat}{v u:Value}(h:w.cell? ⟨b,j,none⟩=some u)(hne:b≠g):(w.setCell ⟨g,i,none⟩ v).cell? ⟨b,j,none⟩=some u:=by
 have hg:=vY w g i v
 have hl:=wG h
 rw[<-h]
 unfold World.cell?
 rw[hg.block b hl (fun e=>hne (by cases e;rfl))]
theorem nu.put{D:BD}{ps:List PC}{n:Nat}{C:List Cn}{ca:Option Addr}{cc:Nat}{W wl:World}(k:nu D ps n C ca cc W wl){i:Nat}(hi:i<C.length){a':Option Addr}{c':Nat}(hs:bK wl a' C[i].s) :
 ∃g,ca=some ⟨g,0,none⟩/\wl.cell? ⟨g,i*5+4,none⟩=some (.slice C[i].sa C[i].s.length C[i].sc)/\wl.frozen? ⟨g,i*5+4,none⟩=false/\nu D ps n (C.set i { C[i]with sa:=a',sc:=c' }) ca cc W (wl.setCell ⟨g,i*5+4,none⟩ (.slice a' C[i].s.length c')):=by
 obtain⟨g,e,hbg,h1,h2,h3,⟨cs,hB⟩,h4⟩:=Pq k.ow hi
 have hg:=vY wl g (i*5+4) (.slice a' C[i].s.length c')
 have st:∀{a:Option Addr} {l:List Int},bK wl a l->bK (wl.setCell ⟨g,i*5+4,none⟩ (.slice a' C[i].s.length c')) a l:=fun h=>h.keep hg (fun b cs fr hc e=>by cases e;exact h3 _ _ hc)
 have hgR:D.R≠g:=fun e=>k.rn g ⟨cs,_,hB,by decide⟩ e.symm
 have hl:(C.set i { C[i]with sa:=a',sc:=c' }).length=C.length:=by simp
 refine⟨g,e,h1,h2,k.hb.grown hg k.hb.size (fun q hq=>by cases hq;exact hbg),by rw[hl];exact h4 a' c',fun x hx=>?_,?_,by rw[hl];exact k.ln,PZ k.c3 hgR,PZ k.c6 hgR,fun b hb' e=>?_,k.mf.grown hg (fun e=>(k.mf.yu hB) (by simpa using e.symm))⟩
 ·rcases List.mem_or_eq_of_mem_set hx with h | h
  ·exact⟨st (k.ok x h).1,(k.ok x h).2⟩
  ·subst h
   exact⟨st hs,(k.ok _ (List.getElem_mem hi)).2⟩
 ·rw[<-k.pp,List.map_set]
  have:Cn.p { C[i]with sa:=a',sc:=c' }=(C.map Cn.p)[i]'(by simpa using hi):=by simp[Cn.p]
  rw[this,List.set_getElem_self]
 ·obtain⟨cs',t',h5,h6⟩:=hb'
  subst e
  refine k.rn _ ⟨cs',t',?_,h6⟩ rfl
  unfold ah at *
  rw[<-hg.block _ (wG k.c3) (fun e=>hgR (by cases e;rfl))]
  exact h5
theorem nu.row{D:BD}{ps:List PC}{n:Nat}{C:List Cn}{ca:Option Addr}{cc:Nat}{W wl:World}(k:nu D ps n C ca cc W wl){g:Nat}{old:Array Value}(hB:ah wl g old 36)(cs':Array Value) :
 (wl.setRow g cs').ownsRow W.heap.size 60 5 (.slice ca C.length cc) C.length (bE C)/\(∀x∈C,bK (wl.setRow g cs') x.sa x.s/\x.s.length<=1000000)/\(wl.setRow g cs').cell? ⟨D.R,3,none⟩=some (.slice D.sa D.L.length D.sc)/\(wl.setRow g cs').cell? ⟨D.R,6,none⟩=some (.map (some D.gf))/\(wl.setRow g cs').heap[D.gf]? = wl.heap[D.gf]?:=by
 have hg:=oW wl g cs'
 have hgR:D.R≠g:=fun e=>k.rn g ⟨old,_,hB,by decide⟩ e.symm
 have co:∀{j:Nat} {v:Value},wl.cell? ⟨D.R,j,none⟩=some v->(wl.setRow g cs').cell? ⟨D.R,j,none⟩=some v:=fun {j v} h=>by
  rw[<-h]
  unfold World.cell?
  rw[hg.block D.R (wG h) (fun e=>hgR (by cases e;rfl))]
 refine⟨k.ow.kept hg (.inr (gD k.ow hB (by decide)).symm),fun x hx=>⟨(k.ok x hx).1.keep hg (fun b cs fr hc e=>?_),(k.ok x hx).2⟩,co k.c3,co k.c6,hg.block D.gf k.mf.lt (fun e=>k.mf.yu hB (by cases e;rfl))⟩
 cases e
 unfold ah at hB
 rw[hc]at hB
 simp at hB
structure uG(R gf:Nat)(v3 v6:Value)(ob:Option Obj) where
 u:World
 c3:u.cell? ⟨R,3,none⟩=some v3
 c6:u.cell? ⟨R,6,none⟩=some v6
 bf:u.heap[gf]? = ob
set_option maxRecDepth 100000 in
set_option maxHeartbeats 32000000 in
theorem Pj(u:aQ)(ha:Option Addr)(hc:Nat)(fa:Option Addr)(fc:Nat)(funcs:List Int)(na:Option Addr)(nc:Nat)(calls:List bA)(la:Option Addr)(lc:Nat)(w:World)(h:ay w ha u.h)(hf:bR w fa u.fs)(hb:mW u 150)(hkw:KW w)(hfm:FM w)(hfs:aM w na funcs)(hcs:mZ w la calls)(hfl:funcs.length<=40)(hcl:calls.length<=60)(hpre:(iD u).2.2=0->Pre u) :
 Calls Tryz.prog 6 #[bZ u ha hc fa fc,.slice na funcs.length nc,.slice la calls.length lc] w (CP u funcs calls w):=by
 have U1:Hid (UB u ha hc fa fc w ((w.alloc (kN u ha hc fa fc)).alloc (.cells dK 36))):=(UB.start h hf).below (av _ _)
 have HX1:Hid (ah ((w.alloc (kN u ha hc fa fc)).alloc (.cells dK 36)) (w.heap.size+1) dK 36):=gH ..
 have HB1:=Lib.hid (iH w (kN u ha hc fa fc) (.cells dK 36))
 have HF1:=Lib.hid (hfs.below HB1.out)
 have HC1:=Lib.hid (hcs.below HB1.out)
 have HCK:Hid (∀w1,ay w1 ha u.h->bR w1 fa u.fs->KW w1->FM w1->Calls Tryz.prog 14 #[bZ u ha hc fa fc] w1 (aj w1 (.tuple #[.int .i64 (iD u).1,.int .i64 (iD u).2.1,.int .i64 (iD u).2.2]))):=fun w1 h1 h2 h3 h4=>XO u ha hc fa fc (by have:=hb.nc;omega) (fun x hx=>by have:=(hb.c x hx).f;omega) (fun x hx=>by have:=(hb.c x hx).m;omega) (fun x hx s hs=>by have:=(hb.c x hx).p s hs;omega) (fun f hf=>by have:=(hb.f f hf).c;omega) (fun f hf x hx=>by have:=(hb.f f hf).a x hx;omega) w1 h1 h2 h3 h4
 have HK1:Hid (KW ((w.alloc (kN u ha hc fa fc)).alloc (.cells dK 36))/\FM ((w.alloc (kN u ha hc fa fc)).alloc (.cells dK 36))):=⟨hkw.below HB1.out,hfm.below HB1.out⟩
 have HNB:Hid (∀w1,ay w1 ha u.h->bR w1 fa u.fs->Calls Tryz.prog 15 #[bZ u ha hc fa fc] w1 (fun e w'=>∃D:BD,e = .returned (.pointer (some ⟨D.R,0,none⟩))/\(D.u=u/\D.L=bL u/\D.bs=iE u.fs u.fs.length/\D.Fs=kS (bL u) (bL u).length/\D.Ff=jR (dH (cZ (eB u.h))) (dH (cZ (eB u.h))).length/\D.ex=none)/\BQ D [] w1 w')):=fun w1 h1 h2=>VO u ha hc fa fc w1 h1 h2 hb
 have HPRE:=Lib.hid hpre
 have HFIT:=Lib.hid hb
 clear h hf hb hkw hfm hfs hcs hpre
 unfold bZ at *
 go_enter Tryz.func6,Tryz.ntmps6
 go_upto_region 1 with (fail)
 generalize (w.alloc _).alloc _=W at *
 obtain⟨z0,z1,z2⟩:=U1.out.cells
 go_wp2_with fail
 refine(HCK.out W U1.out.h U1.out.f HK1.out.1 HK1.out.2).mono ?_
 rintro e W1 ⟨rfl,hb1⟩
 have U2:=Lib.hid (U1.out.below hb1)
 have HX2:=Lib.hid (HX1.out.below hb1)
 have HF2:=Lib.hid (HF1.out.below hb1)
 have HC2:=Lib.hid (HC1.out.below hb1)
 clear HF1 HC1 HK1 U1 HX1 hb1 z0 z1 z2 HB1 HCK
 generalize W=W0 at *
 obtain⟨e3,hE3⟩:∃e3,e3=(iD u).2.2:=⟨_,rfl⟩
 have HE3:=Lib.hid hE3
 rw[<-hE3]
 clear hE3
 generalize (iD u).1=e1 at *
 generalize (iD u).2.1=e2 at *
 by_cases h3:e3=0
 case neg =>
  have t1:(e3 != 0)=true:=by simpa using h3
  have HN:=Lib.hid h3
  clear h3
  go_wp2_with (refine kQ rfl rfl _ _ rfl (w.heap.size+1) 0 0 0 none 0 0 rfl rfl _ HX2.out rfl ?_)
  refine bodyPost_ret (v:=.tuple #[.agg dK,.int .i64 e3]) (kU Tryz.results6 _ _ (w.heap.size+1) _ _ _ rfl rfl (HX2.out.setRow _) Tryz.underlying36 rfl (by kernel_rfl)) rfl ?_
  exact⟨below_setRow U2.out.hb (by omega) _,.inl ⟨e3,HN.out,rfl,fun hz=>absurd (HE3.out.trans hz) HN.out⟩⟩
 have t1:(e3 != 0)=false:=by rw[h3];rfl
 have HOK:Hid ((iD u).2.2=0):=by show _=_;rw[<-HE3.out];exact h3
 subst h3
 have HPR:=Lib.hid (HPRE.out HOK.out)
 have HNB1:=Lib.hid (HNB.out W1 U2.out.h U2.out.f)
 obtain⟨z0,z1,z2⟩:=U2.out.cells
 clear HE3 HPRE HNB
 go_wp2_with fail
 refine HNB1.out.mono ?_
 rintro e w2 ⟨D,rfl,⟨rfl,dl,db,dfs,dff,dex⟩,hbq⟩
 have HDO:=Lib.hid (HPR.out.d D rfl dl db)
 have S0:=Lib.hid hbq
 have HDE:=Lib.hid (And.intro dl (And.intro db (And.intro dfs dff)))
 have HU:Hid (∀wl,Below W1.heap.size W1 wl->UB D.u ha hc fa fc w wl/\ah wl (w.heap.size+1) dK 36/\aM wl na funcs/\mZ wl la calls):=fun wl hb=>⟨U2.out.below hb,HX2.out.below hb,HF2.out.below hb,HC2.out.below hb⟩
 have HERR:Hid (∀(wl:World) (r:Int),Below W1.heap.size W1 wl->Below w.heap.size w (wl.setRow (w.heap.size+1) dK)):=fun wl r hb=>below_setRow (U2.out.below hb).hb (by omega) _
 have HBRW:Hid (∀(wl:World) (cs:Array Value),Below W1.heap.size W1 wl->Below w.heap.size w (wl.setRow (w.heap.size+1) cs)):=fun wl cs hb=>below_setRow (U2.out.below hb).hb (by omega) _
 have hnf:=HFIT.out.nf
 clear hbq dl db dfs dff HNB1 z0 z1 z2 U2 HX2 HF2 HC2
 go_wp2
 go_loopw[43] (fun v wl=>∃k:Nat,k<=funcs.length/\v = .int .i64 k/\Hid (kM D.u.fs.length (funcs.take k))/\Hid (BQ D [] W1 wl)) (fun v _=>funcs.length-(intOf v).toNat)
 case atStart=>exact⟨0,Nat.zero_le _,rfl,⟨by simp,by simp⟩,S0.out⟩
 case round =>
  clear S0
  obtain⟨k,hk,rfl,HFO,S⟩:=hrel
  obtain⟨ub,hxs,hfi,hci⟩:=HU.out wr S.out.hb
  have HXS:=Lib.hid hxs
  have UB1:=Lib.hid ub
  obtain⟨z0,z1,z2⟩:=UB1.out.cells
  by_cases hlt:k<funcs.length
  case pos =>
   obtain⟨b,off,he,c0⟩:=hfi k hlt
   subst he
   have HST:=Lib.hid (YH hlt HFO.out)
   have HEX:Hid (kM D.u.fs.length funcs->(0<=funcs[k]/\funcs[k]<D.u.fs.length)/\∀j (hj:j+1=k),funcs[j]<funcs[k]):=fun h=>⟨h.1 _ (List.getElem_mem hlt),fun j hj=>List.pairwise_iff_getElem.1 h.2 j k (by omega) hlt (by omega)⟩
   have HPV:∀j (hj:j+1=k),∃y,y=funcs[j]/\wr.cell? ⟨b,off+j,none⟩=some (.int .i64 y):=fun j hj=>by
    obtain⟨b',off',e,c⟩:=hfi j (by omega)
    cases e
    exact⟨_,rfl,c⟩
   clear ub hxs hfi hci HFO
   generalize funcs[k]=x at *
   by_cases h1:x<0
   case pos =>
    have t1:=decide_eq_true h1
    have HX:Hid (¬ kM D.u.fs.length funcs):=fun h=>by have:=(HEX.out h).1;omega
    clear h1 HPV
    go_wp2_with (refine kQ rfl rfl _ _ rfl (w.heap.size+1) 0 0 0 none 0 0 rfl rfl _ HXS.out rfl ?_)
    refine bodyPost_ret (v:=.tuple #[.agg dK,.int .i64 4]) (kU Tryz.results6 _ _ (w.heap.size+1) _ _ _ rfl rfl (HXS.out.setRow _) Tryz.underlying36 rfl (by kernel_rfl)) rfl ?_
    exact⟨HERR.out wr 0 S.out.hb,.inl ⟨4,by omega,rfl,fun _ hz=>absurd hz HX.out⟩⟩
   have t1:=decide_eq_false h1
   by_cases h2:(D.u.fs.length:Int)<=x
   case pos =>
    have t2:=decide_eq_true h2
    have HX:Hid (¬ kM D.u.fs.length funcs):=fun h=>by have:=(HEX.out h).1;omega
    clear h1 h2 HPV
    go_wp2_with (refine kQ rfl rfl _ _ rfl (w.heap.size+1) 0 0 0 none 0 0 rfl rfl _ HXS.out rfl ?_)
    refine bodyPost_ret (v:=.tuple #[.agg dK,.int .i64 4]) (kU Tryz.results6 _ _ (w.heap.size+1) _ _ _ rfl rfl (HXS.out.setRow _) Tryz.underlying36 rfl (by kernel_rfl)) rfl ?_
    exact⟨HERR.out wr 0 S.out.hb,.inl ⟨4,by omega,rfl,fun _ hz=>absurd hz HX.out⟩⟩
   have t2:=decide_eq_false h2
   have hr01:0<=x/\x<D.u.fs.length:=⟨by omega,by omega⟩
   clear h1 h2
   cases k with
   |zero =>
    have HN:Hid (kM D.u.fs.length (funcs.take (0+1))):=HST.out hr01 (fun j hj=>absurd hj (by omega))
    clear HPV hr01 HST HEX
    rw[Nat.add_zero]at c0
    go_wp2
    go_roundw
    case rel=>exact⟨1,by omega,by go_num,HN.out,S.out⟩
    case measure=>simp[intOf];omega
   |succ q =>
    obtain⟨y,hy,cy⟩:=HPV q rfl
    have HY:=Lib.hid hy
    by_cases h4:x<=y
    case pos =>
     have t4:=decide_eq_true h4
     have HX:Hid (¬ kM D.u.fs.length funcs):=fun h=>by have:=(HEX.out h).2 q rfl;rw[<-HY.out]at this;omega
     clear h4 HPV hr01 hy HST HEX
     go_wp2_with (refine kQ rfl rfl _ _ rfl (w.heap.size+1) 0 0 0 none 0 0 rfl rfl _ HXS.out rfl ?_)
     refine bodyPost_ret (v:=.tuple #[.agg dK,.int .i64 13]) (kU Tryz.results6 _ _ (w.heap.size+1) _ _ _ rfl rfl (HXS.out.setRow _) Tryz.underlying36 rfl (by kernel_rfl)) rfl ?_
     exact⟨HERR.out wr 0 S.out.hb,.inl ⟨13,by omega,rfl,fun _ hz=>absurd hz HX.out⟩⟩
    have t4:=decide_eq_false h4
    have HN:Hid (kM D.u.fs.length (funcs.take (q+1+1))):=HST.out hr01 (fun j hj=>by
     obtain rfl:j=q:=by omega
     rw[<-HY.out];omega)
    clear h4 HPV hr01 hy HST HEX
    go_wp2
    go_roundw
    case rel=>exact⟨q+1+1,by omega,by go_num,HN.out,S.out⟩
    case measure=>simp[intOf];omega
  case neg =>
   have hkl:k=funcs.length:=by omega
   subst hkl
   have HFO2:Hid (kM D.u.fs.length funcs):=by have:=HFO.out;rwa [List.take_length]at this
   clear hfi hci ub hxs HFO hlt hk
   obtain⟨wo1,hwo1⟩:∃wo,wo=wr:=⟨_,rfl⟩
   have S1:=S
   clear S z0 z1 z2 UB1 HXS
   go_wp2
   go_loopw[73] (fun v wl=>∃k:Nat,k<=calls.length/\v = .int .i64 k/\Hid (∀j (hj:j<calls.length),j<k->pK D.u calls[j])/\Hid (BQ D [] W1 wl)) (fun v _=>calls.length-(intOf v).toNat)
   case atStart=>exact⟨0,Nat.zero_le _,rfl,fun j _ hj=>absurd hj (by omega),S1.out⟩
   case round =>
    clear S1 hwo1
    obtain⟨k,hk,rfl,HAC,S⟩:=hrel
    obtain⟨ub,hxs,hfi,hci⟩:=HU.out wr S.out.hb
    by_cases hlt:k<calls.length
    case pos =>
     have HXN:Hid (calls≠[]):=fun e=>by rw[e]at hlt;simp at hlt
     obtain⟨b,off,he,c0,c1,c2⟩:=hci k hlt
     subst he
     have HPV:∀j (hj:j+1=k),∃y:bA,wr.cell? ⟨b,off+j*3,none⟩=some (.int .i64 y.f)/\wr.cell? ⟨b,off+j*3+1,none⟩=some (.int .i64 y.i)/\wr.cell? ⟨b,off+j*3+2,none⟩=some (.int .i64 y.c):=fun j hj=>by
      obtain⟨b',off',e,h0,h1,h2⟩:=hci j (by omega)
      cases e
      exact⟨_,h0,h1,h2⟩
     have HST:Hid (pK D.u calls[k]->∀j (hj:j<calls.length),j<k+1->pK D.u calls[j]):=fun ha j hj hjk=>by
      by_cases e:j=k
      ·subst e;exact ha
      ·exact HAC.out j hj (by omega)
     clear ub hxs hfi hci HAC
     generalize calls[k]=x at *
     go_upto_region 16 with (fail)
     have hrow:=av wr (.cells #[.int .i64 x.f,.int .i64 x.i,.int .i64 x.c] 56)
     have B2:Hid (ah (wr.alloc (.cells #[.int .i64 x.f,.int .i64 x.i,.int .i64 x.c] 56)) wr.heap.size #[.int .i64 x.f,.int .i64 x.i,.int .i64 x.c] 56):=aL ..
     have S2:=Lib.hid (S.out.below hrow)
     have HPW:∀j (hj:j+1=k),∃y:bA,(wr.alloc (.cells #[.int .i64 x.f,.int .i64 x.i,.int .i64 x.c] 56)).cell? ⟨b,off+j*3,none⟩=some (.int .i64 y.f)/\(wr.alloc (.cells #[.int .i64 x.f,.int .i64 x.i,.int .i64 x.c] 56)).cell? ⟨b,off+j*3+1,none⟩=some (.int .i64 y.i)/\(wr.alloc (.cells #[.int .i64 x.f,.int .i64 x.i,.int .i64 x.c] 56)).cell? ⟨b,off+j*3+2,none⟩=some (.int .i64 y.c):=fun j hj=>by
      obtain⟨y,h0,h1,h2⟩:=HPV j hj
      exact⟨y,cell_below hrow h0,cell_below hrow h1,cell_below hrow h2⟩
     clear S hrow c0 c1 c2 HPV
     generalize wr.alloc _=W2 at *
     generalize wr.heap.size=n5 at *
     have y0:=B2.out.cell 0 (by simp)
     have y1:=B2.out.cell 1 (by simp)
     have y2:=B2.out.cell 2 (by simp)
     simp only[List.getElem_toArray,List.getElem_cons_zero,List.getElem_cons_succ]at y0 y1 y2
     have HAP:=Lib.hid (Un x S2.out HDO.out)
     go_wp2_with fail
     refine HAP.out.mono ?_
     rintro e w3 ⟨r,rfl,hr,hbq,hch⟩
     have S3:=Lib.hid hbq
     have B3:=Lib.hid (Hf hch B2.out (S2.out.iW B2.out (by decide) (by decide)))
     have HR:=Lib.hid hr
     obtain⟨ub,hxs,hfi,hci⟩:=HU.out w3 S3.out.hb
     have HXS:=Lib.hid hxs
     have HPX:∀j (hj:j+1=k),∃y:bA,w3.cell? ⟨b,off+j*3,none⟩=some (.int .i64 y.f)/\w3.cell? ⟨b,off+j*3+1,none⟩=some (.int .i64 y.i)/\w3.cell? ⟨b,off+j*3+2,none⟩=some (.int .i64 y.c):=fun j hj=>by
      obtain⟨b',off',e,h0,h1,h2⟩:=hci j (by omega)
      cases e
      exact⟨_,h0,h1,h2⟩
     clear hr hbq hch ub hxs hfi hci S2 HAP y0 y1 y2 B2 HPW
     by_cases hr0:r=0
     case neg =>
      have u1:(r != 0)=true:=by simpa using hr0
      have HRN:=Lib.hid hr0
      clear hr0 HPX
      go_wp2_with (refine kQ rfl rfl _ _ rfl (w.heap.size+1) 0 0 0 none 0 0 rfl rfl _ HXS.out rfl ?_)
      refine bodyPost_ret (v:=.tuple #[.agg dK,.int .i64 r]) (kU Tryz.results6 _ _ (w.heap.size+1) _ _ _ rfl rfl (HXS.out.setRow _) Tryz.underlying36 rfl (by kernel_rfl)) rfl ?_
      exact⟨HERR.out w3 0 S3.out.hb,.inl ⟨r,HRN.out,rfl,fun _ _ hz=>absurd hz HXN.out⟩⟩
     have u1:(r != 0)=false:=by rw[hr0];rfl
     have HACK:=Lib.hid (HST.out (HR.out hr0))
     subst hr0
     clear HR HST
     have y0:=B3.out.cell 0 (by simp)
     have y1:=B3.out.cell 1 (by simp)
     have y2:=B3.out.cell 2 (by simp)
     simp only[List.getElem_toArray,List.getElem_cons_zero,List.getElem_cons_succ]at y0 y1 y2
     cases k with
     |zero =>
      clear HPX
      have hne:Nonempty (WB w3):=⟨⟨w3,Below.refl _ _⟩⟩
      go_upto_region 19 with (fail)
      refine bJ w3 (by kernel_rfl) ?_
      repeat (go_big_quiet_step (fail))
      refine wpQuiet_nil ?_
      intro _ hw'
      obtain⟨o,rfl⟩:=hw'
      have S4:=Lib.hid (S3.out.below o.h)
      clear hne y0 y1 y2 S3 B3
      go_wp2
      go_roundw
      case rel=>exact⟨1,by omega,by go_num,HACK.out,S4.out⟩
      case measure=>simp[intOf];omega
     |succ q =>
      obtain⟨y,d0,d1,d2⟩:=HPX q rfl
      have k0:∀o:WB w3,o.u.cell? ⟨n5,0,none⟩=some (.int .i64 x.f):=fun o=>cell_below o.h y0
      have k1:∀o:WB w3,o.u.cell? ⟨n5,1,none⟩=some (.int .i64 x.i):=fun o=>cell_below o.h y1
      have k2:∀o:WB w3,o.u.cell? ⟨n5,2,none⟩=some (.int .i64 x.c):=fun o=>cell_below o.h y2
      have k3:∀o:WB w3,o.u.cell? ⟨b,off+q*3,none⟩=some (.int .i64 y.f):=fun o=>cell_below o.h d0
      have k4:∀o:WB w3,o.u.cell? ⟨b,off+q*3+1,none⟩=some (.int .i64 y.i):=fun o=>cell_below o.h d1
      have k5:∀o:WB w3,o.u.cell? ⟨b,off+q*3+2,none⟩=some (.int .i64 y.c):=fun o=>cell_below o.h d2
      have hne:Nonempty (WB w3):=⟨⟨w3,Below.refl _ _⟩⟩
      have HOR:Hid (∀w1,Calls Tryz.prog 17 #[.agg #[.int .i64 y.f,.int .i64 y.i,.int .i64 y.c],.agg #[.int .i64 x.f,.int .i64 x.i,.int .i64 x.c]] w1 (aj w1 (.int .i64 (xS y x)))):=fun w1=>UO y x w1
      clear HPX d0 d1 d2 y0 y1 y2
      generalize xS y x=z at *
      go_upto_region 19 with (fail)
      by_cases hz:0<=z
      case pos =>
       have u2:=decide_eq_true hz
       clear hz
       refine bJ w3 (by kernel_rfl) ?_
       repeat (go_big_quiet_step ((go_at_call 17;rename_i o;with_reducible exact(HOR.out _).mono (fun _ _ h=>aj.bu h))))
       refine wpQuiet_nil ?_
       intro _ hw'
       obtain⟨o,rfl⟩:=hw'
       have S4:=Lib.hid (S3.out.below o.h)
       have HXS4:=Lib.hid (HXS.out.below o.h)
       clear hne k0 k1 k2 k3 k4 k5 HOR
       go_wp2_with (refine kQ rfl rfl _ _ rfl (w.heap.size+1) 0 0 0 none 0 0 rfl rfl _ HXS4.out rfl ?_)
       refine bodyPost_ret (v:=.tuple #[.agg dK,.int .i64 13]) (kU Tryz.results6 _ _ (w.heap.size+1) _ _ _ rfl rfl (HXS4.out.setRow _) Tryz.underlying36 rfl (by kernel_rfl)) rfl ?_
       exact⟨HERR.out o.u 0 S4.out.hb,.inl ⟨13,by omega,rfl,fun _ _ hz=>absurd hz HXN.out⟩⟩
      case neg =>
       have u2:=decide_eq_false hz
       clear hz
       refine bJ w3 (by kernel_rfl) ?_
       repeat (go_big_quiet_step ((go_at_call 17;rename_i o;with_reducible exact(HOR.out _).mono (fun _ _ h=>aj.bu h))))
       refine wpQuiet_nil ?_
       intro _ hw'
       obtain⟨o,rfl⟩:=hw'
       have S4:=Lib.hid (S3.out.below o.h)
       clear hne k0 k1 k2 k3 k4 k5 HOR
       go_wp2
       go_roundw
       case rel=>exact⟨q+1+1,by omega,by go_num,HACK.out,S4.out⟩
       case measure=>simp[intOf];omega
    case neg =>
     have hkl:k=calls.length:=by omega
     subst hkl
     clear hci hfi ub hxs hlt hk
     have HAC2:Hid (∀j (hj:j<calls.length),pK D.u calls[j]):=fun j hj=>HAC.out j hj hj
     have hf20:funcs.length<=20:=by
      have h1:funcs.Nodup:=HFO2.out.2.imp (fun h e=>by omega)
      have h2:=rD D.u.fs.length funcs h1 (fun x hx=>by
       obtain⟨p1,p2⟩:=HFO2.out.1 x hx
       obtain⟨j,rfl⟩:=Int.eq_ofNat_of_zero_le p1
       exact⟨j,by omega,rfl⟩)
      omega
     have S1:=S
     clear S HAC
     go_wp2
     go_loopw[101] (fun v wl=>∃(k:Nat) (P:List PC),k<=funcs.length/\v = .int .i64 k/\P.length<=k*22650/\Hid (P=cO D.u (funcs.take k))/\Hid (BQ D P W1 wl)) (fun v _=>funcs.length-(intOf v).toNat)
     case atStart=>exact⟨0,[],Nat.zero_le _,rfl,Nat.le_refl _,(by show _=_;simp[cO]),S1.out⟩
     case round =>
      clear S1
      obtain⟨k,P,hk,rfl,hpl,HP,S⟩:=hrel
      obtain⟨ub,hxs,hfi,hci⟩:=HU.out wr S.out.hb
      by_cases hlt:k<funcs.length
      case pos =>
       obtain⟨b,off,he,c0⟩:=hfi k hlt
       subst he
       obtain⟨p1,p2⟩:=HFO2.out.1 _ (List.getElem_mem hlt)
       have HIS:=Lib.hid (XY D.u funcs k hlt)
       generalize funcs[k]=x at *
       obtain⟨f,rfl⟩:=Int.eq_ofNat_of_zero_le p1
       have hf:f<D.u.fs.length:=by omega
       have HIS2:=Lib.hid (HIS.out f rfl hf)
       obtain⟨b2,off2,va,vc,ca,cc,he2,-,-,-,-,-,-,m6,-,-⟩:=ub.f f hf
       subst he2
       have hcl150:=(HFIT.out.f _ (List.getElem_mem hf)).c
       obtain⟨z0,z1,z2⟩:=ub.cells
       clear ub hxs hfi hci HIS p1 p2
       go_wp2
       clear z0 z1 z2 m6 c0
       obtain⟨wo2,hwo2⟩:∃wo,wo=wr:=⟨_,rfl⟩
       go_loopw[112] (fun v wl=>∃(i:Nat) (Q:List PC),i<=D.u.fs[f].code.length/\v = .int .i64 i/\Q.length<=i*151/\Hid (Q=uo D.u f i)/\Hid (BQ D (P++Q) W1 wl)) (fun v _=>D.u.fs[f].code.length-(intOf v).toNat)
       case atStart=>exact⟨0,[],Nat.zero_le _,rfl,Nat.le_refl _,rfl,by rw[List.append_nil];exact S.out⟩
       case round =>
        clear S hwo2
        obtain⟨i,Q,hi,rfl,hql,HQ,S⟩:=hrel
        by_cases hli:i<D.u.fs[f].code.length
        case pos =>
         have hil:=XP D.u f i hf hli
         have HCI:=y0Y f i hf hli S.out HDO.out dex (by simp;omega)
         have HDE2:=HDE.out
         unfold qK at HCI
         rw[HDE2.1,HDE2.2.1,HDE2.2.2.1,HDE2.2.2.2]at HCI
         have HCI:=Lib.hid HCI
         have HQ2:Hid (Q++tY D.u f i=uo D.u f (i+1)):=by show _=_;rw[HQ.out,Z9]
         clear HDE2
         go_wp2_with fail
         refine HCI.out.mono ?_
         rintro e w5 ⟨rfl,hbq,-⟩
         have S5:Hid (BQ D (P++(Q++tY D.u f i)) W1 w5):=by rw[<-List.append_assoc];exact hbq
         clear hbq HCI S
         go_wp2
         go_roundw
         case rel=>exact⟨i+1,Q++tY D.u f i,by omega,by go_num,by simp;omega,HQ2.out,S5.out⟩
         case measure=>simp[intOf];omega
        case neg =>
         have hie:i=D.u.fs[f].code.length:=by omega
         have HN:Hid (P++Q=cO D.u (funcs.take (k+1))):=by show _=_;rw[HIS2.out,HP.out,HQ.out,hie]
         have hql2:Q.length<=22650:=by
          have:i*151<=150*151:=Nat.mul_le_mul_right _ (by omega)
          omega
         clear hie
         go_wp2
         go_roundw
         case rel=>exact⟨k+1,P++Q,by omega,by go_num,by simp;omega,HN.out,S.out⟩
         case measure=>simp[intOf];omega
      case neg =>
       have hkl:k=funcs.length:=by omega
       subst hkl
       rw[List.take_length]at HP
       have hPl:P.length<=453000:=by omega
       clear ub hxs hfi hci hlt hk
       have S1:=S
       clear S
       go_wp2
       go_loopw[123] (fun v wl=>∃(k:Nat) (R:List PC),k<=calls.length/\v = .int .i64 k/\R.length<=k*3000/\Hid (k=0->R=[])/\Hid (BQ D (P++R) W1 wl)) (fun v _=>calls.length-(intOf v).toNat)
       case atStart=>exact⟨0,[],Nat.zero_le _,rfl,Nat.le_refl _,fun _=>rfl,by rw[List.append_nil];exact S1.out⟩
       case round =>
        clear S1
        obtain⟨k,R,hk,rfl,hrl,HRN,S⟩:=hrel
        obtain⟨ub,hxs,hfi,hci⟩:=HU.out wr S.out.hb
        by_cases hlt:k<calls.length
        case pos =>
         obtain⟨b,off,he,c0,c1,c2⟩:=hci k hlt
         subst he
         have hacc:=HAC2.out k hlt
         obtain⟨f,i,g,hf,hi,hg,hxe,-⟩:=id hacc
         rw[hxe]at c0 c1 c2 hacc
         simp only at c0 c1 c2
         obtain⟨hop,hva⟩:=HPR.out.c f i g hf hi hg hacc
         have HBS:=Lib.hid (bsearchI funcs na nc (f:Int))
         have hfs2:=HFO2.out.2
         have HOV:=Lib.hid (And.intro hop hva)
         have HHI:=Lib.hid hi
         have HFI:=Lib.hid hfi
         clear ub hxs hfi hci hacc hxe hop hva
         have hrow:=av wr (.cells #[.int .i64 f,.int .i64 i,.int .i64 g] 56)
         have B2:Hid (ah (wr.alloc (.cells #[.int .i64 f,.int .i64 i,.int .i64 g] 56)) wr.heap.size #[.int .i64 f,.int .i64 i,.int .i64 g] 56):=aL ..
         have S2:=Lib.hid (S.out.below hrow)
         have HF2:=Lib.hid (HFI.out.below hrow)
         go_upto_region 34 with (fail)
         clear S hrow c0 c1 c2 HFI
         generalize wr.alloc _=W2 at *
         generalize wr.heap.size=n5 at *
         have y0:=B2.out.cell 0 (by simp)
         simp only[List.getElem_toArray,List.getElem_cons_zero]at y0
         have HBX:=Lib.hid (HBS.out W2 HF2.out hfs2 (by omega))
         clear HBS hfs2
         go_wp2_with fail
         refine HBX.out.mono ?_
         rintro e w3 ⟨nn,bb,rfl,hb3⟩
         have S3:=Lib.hid (S2.out.below hb3)
         have B3:=Lib.hid (B2.out.below hb3)
         clear hb3 S2 B2 HBX HF2 y0
         have y0:=B3.out.cell 0 (by simp)
         have y1:=B3.out.cell 1 (by simp)
         have y2:=B3.out.cell 2 (by simp)
         simp only[List.getElem_toArray,List.getElem_cons_zero,List.getElem_cons_succ]at y0 y1 y2
         cases bb
         case false =>
          go_wp2
          go_roundw
          case rel=>exact⟨k+1,R,by omega,by go_num,by omega,fun e=>absurd e (by omega),S3.out⟩
          case measure=>simp[intOf];omega
         case true =>
          have HCA:=Lib.hid (y1b f i g hf hi hg S3.out HDO.out dex (by simp;omega) HOV.out.1 HOV.out.2)
          go_wp2_with fail
          refine HCA.out.mono ?_
          rintro e w4 ⟨rfl,⟨R2,hr2,hbq⟩,-⟩
          have S5:Hid (BQ D (P++(R++R2)) W1 w4):=by rw[<-List.append_assoc];exact hbq
          clear hbq HCA S3 B3
          go_wp2
          go_roundw
          case rel=>exact⟨k+1,R++R2,by omega,by go_num,by simp;omega,fun e=>absurd e (by omega),S5.out⟩
          case measure=>simp[intOf];omega
        case neg =>
         have hkl:k=calls.length:=by omega
         subst hkl
         clear hlt hk hci hfi hxs ub
         have hcl60:calls.length*3000<=180000:=by have:=Nat.mul_le_mul_right 3000 hcl;omega
         have HAS:=Lib.hid (y1f S.out (by simp;omega))
         have HRC:Hid (calls=[]->R=[]):=fun e=>HRN.out (by rw[e];rfl)
         have HPM:Hid (∀p∈P,p∈P++R):=fun p hp=>List.mem_append_left _ hp
         have hprl:(P++R).length<=700000:=by simp;omega
         clear HRN HAC2
         go_wp2_with fail
         refine HAS.out.mono ?_
         rintro e w3 ⟨C,ca,cc,rfl,has⟩
         have A:=Lib.hid has
         have hcl7:C.length<=700000:=Nat.le_trans has.ln hprl
         have HLL:D.L.length=(bL D.u).length:=by rw[HDE.out.1]
         have hsl:(bL D.u).length<=100000:=by rw[<-HLL];exact HDO.out.l
         obtain⟨ub,hxs,hfi,hci⟩:=HU.out w3 A.out.hb
         have HXS:=Lib.hid hxs
         clear hxs hfi hci ub has HAS S
         have z3:=A.out.c3
         rw[HLL]at z3
         by_cases g1:1024<(bL D.u).length
         case pos =>
          have t1:decide ((1024:Int)<((bL D.u).length:Int))=true:=by simp;omega
          have t1':decide (1024<(bL D.u).length)=true:=decide_eq_true g1
          have HG:=Lib.hid g1
          clear g1
          go_wp2_with (refine kQ rfl rfl _ _ rfl (w.heap.size+1) 0 0 0 none 0 0 rfl rfl _ HXS.out rfl ?_)
          refine bodyPost_ret (v:=.tuple #[.agg dK,.int .i64 3]) (kU Tryz.results6 _ _ (w.heap.size+1) _ _ _ rfl rfl (HXS.out.setRow _) Tryz.underlying36 rfl (by kernel_rfl)) rfl ?_
          exact⟨HERR.out w3 0 A.out.hb,.inl ⟨3,by omega,rfl,fun _ _ _ hz=>absurd HG.out (by omega)⟩⟩
         have t1:decide ((1024:Int)<((bL D.u).length:Int))=false:=by simp;omega
         have t1':decide (1024<(bL D.u).length)=false:=decide_eq_false g1
         by_cases g2:32768<C.length
         case pos =>
          have t2:decide ((32768:Int)<(C.length:Int))=true:=by simp;omega
          have t2':decide (32768<C.length)=true:=decide_eq_true g2
          have HG:=Lib.hid g2
          clear g2
          go_wp2_with (refine kQ rfl rfl _ _ rfl (w.heap.size+1) 0 0 0 none 0 0 rfl rfl _ HXS.out rfl ?_)
          refine bodyPost_ret (v:=.tuple #[.agg dK,.int .i64 3]) (kU Tryz.results6 _ _ (w.heap.size+1) _ _ _ rfl rfl (HXS.out.setRow _) Tryz.underlying36 rfl (by kernel_rfl)) rfl ?_
          refine⟨HERR.out w3 0 A.out.hb,.inl ⟨3,by omega,rfl,fun _ _ hz _=>⟨C.map Cn.p,A.out.st,fun p hp=>?_,by simpa using HG.out⟩⟩⟩
          have h5:=(A.out.mm p).1 hp
          rw[HRC.out hz,List.append_nil,HP.out]at h5
          exact h5
         have t2:decide ((32768:Int)<(C.length:Int))=false:=by simp;omega
         have t2':decide (32768<C.length)=false:=decide_eq_false g2
         have HG1:Hid ((bL D.u).length<=1024):=by show _<=_;omega
         have HG2:Hid (C.length<=32768):=by show _<=_;omega
         have HMM:Hid ((C.map Cn.p).Pairwise nM/\(∀p∈cO D.u funcs,p∈C.map Cn.p)/\(calls=[]->∀p∈C.map Cn.p,p∈cO D.u funcs)):=⟨A.out.st,fun p hp=>(A.out.mm p).2 (HPM.out p (by rw[HP.out];exact hp)),fun hz p hp=>by
          have h5:=(A.out.mm p).1 hp
          rw[HRC.out hz,List.append_nil,HP.out]at h5
          exact h5⟩
         have T0:Hid (nu D (C.map Cn.p) C.length C ca cc W1 w3):=⟨A.out.hb,A.out.ow,A.out.ok,rfl,rfl,A.out.c3,A.out.c6,fun b ⟨cs,t,h1,h2⟩=>A.out.rn b ⟨cs,t,_,h1,h2⟩,A.out.mf⟩
         generalize hps:C.map Cn.p=ps at *
         generalize hcn:C.length=cn at *
         have HCN:=Lib.hid hcn
         clear g1 g2 A HRC HPM HP hps hcn
         go_wp2
         clear z3 t1 t1' t2 t2'
         go_loopw[155] (fun v wl=>∃(k:Nat) (C':List Cn),k<=cn/\v = .int .i64 k/\Hid (nu D ps cn C' ca cc W1 wl)) (fun v _=>cn-(intOf v).toNat)
         case atStart=>exact⟨0,C,Nat.zero_le _,rfl,T0.out⟩
         case round =>
          clear T0
          obtain⟨k,C',hk,rfl,T⟩:=hrel
          by_cases hlt:k<cn
          case pos =>
           have hln:=T.out.ln
           have hkC:k<C'.length:=by omega
           have hRl:=wG T.out.c3
           obtain⟨g,e,-,h1,-,-,-,-⟩:=Pq T.out.ow hkC
           subst e
           have hset:=T.out.ok _ (List.getElem_mem hkC)
           have HCL:=Lib.hid (y0m C'[k].s C'[k].sa C'[k].sc wr hset.1.1 hset.2)
           have HPT:Hid (∀w2,Below wr.heap.size wr w2->∀a' c',bK w2 a' C'[k].s->w2.cell? ⟨g,k*5+4,none⟩=some (.slice C'[k].sa C'[k].s.length C'[k].sc)/\w2.frozen? ⟨g,k*5+4,none⟩=false/\nu D ps cn (C'.set k { C'[k]with sa:=a',sc:=c' }) (some ⟨g,0,none⟩) cc W1 (w2.setCell ⟨g,k*5+4,none⟩ (.slice a' C'[k].s.length c'))):=fun w2 hb a' c' hs=>by
            obtain⟨g',e,p1,p2,p3⟩:=(T.out.below hRl hb).put hkC (c':=c') hs
            cases e
            exact⟨p1,p2,p3⟩
           clear hset hln T
           generalize hx:C'[k]=x at *
           have HX2:=Lib.hid hx
           clear hx
           go_wp2_with fail
           refine HCL.out.mono ?_
           rintro e w4 ⟨hb4,a',c',rfl,own4⟩
           obtain⟨p1,p2,p3⟩:=HPT.out w4 hb4 a' c' (zZ own4)
           have T4:=Lib.hid p3
           clear hb4 own4 HPT HCL p3
           go_wp2
           go_roundw
           case rel=>exact⟨k+1,_,by omega,by go_num,T4.out⟩
           case measure=>simp[intOf];omega
          case neg =>
           have hkl:cn=k:=by omega
           subst hkl
           clear hlt hk HCN
           obtain⟨ub,hxs,-,-⟩:=HU.out wr T.out.hb
           obtain⟨z0,z1,z2⟩:=ub.cells
           have hRl:=wG T.out.c3
           have HUF:=Lib.hid ub.f
           clear ub hxs
           go_wp2
           clear z0 z1 z2
           obtain⟨wo5,hwo5⟩:∃wo,wo=wr:=⟨_,rfl⟩
           have HVL:Hid (∀f∈D.u.fs,f.vars.length<=1000):=fun f hf=>by have:=(HFIT.out.f f hf).v;omega
           have T5:=T
           clear T hRl
           go_loopw[26,172] (fun n v wl=>∃k:Nat,k<=D.u.fs.length/\n = .int .i64 (gy D.u.fs k:Nat)/\v = .int .i64 k/\Hid (nu D ps cn C' ca cc W1 wl)) (fun _ v _=>D.u.fs.length-(intOf v).toNat)
           case atStart=>exact⟨0,Nat.zero_le _,rfl,rfl,T5.out⟩
           case round =>
            clear T5 HUF hwo5
            obtain⟨k2,hk2,rfl,rfl,T⟩:=hrel
            have hRl:=wG T.out.c3
            obtain⟨ub,hxs,-,-⟩:=HU.out wr T.out.hb
            by_cases hlt:k2<D.u.fs.length
            case pos =>
             have HBN:=Lib.hid (Ht hlt)
             have hbl:gy D.u.fs k2<=k2*1002:=Cu HVL.out hk2
             have hvl:=HVL.out _ (List.getElem_mem hlt)
             obtain⟨b,off,va,vc,ca2,cc2,he,m0,m1,m2,m3,m4,m5,m6,-,-⟩:=ub.f k2 hlt
             subst he
             generalize D.u.fs[k2]=f at *
             clear ub hxs
             have BZ:Hid (ah (wr.alloc jE) wr.heap.size _ 51):=aL ..
             go_upto_region 50 with (refine xD rfl rfl _ _ rfl wr.heap.size f va vc ca2 cc2 rfl rfl _ BZ.out rfl ?_)
             have hrow:=bP (av wr jE) (Nat.le_refl wr.heap.size) #[.string f.cls,.string f.name,.bool f.stat,.int .i64 f.params,.slice va f.vars.length vc,.string f.result,.slice ca2 f.code.length cc2]
             have B2:=Lib.hid (BZ.out.setRow #[.string f.cls,.string f.name,.bool f.stat,.int .i64 f.params,.slice va f.vars.length vc,.string f.result,.slice ca2 f.code.length cc2])
             have T2:=Lib.hid (T.out.below hRl hrow)
             clear T BZ hrow m0 m1 m2 m3 m4 m5 m6
             generalize (wr.alloc jE).setRow wr.heap.size _=W2 at *
             generalize wr.heap.size=n5 at *
             have y4:=B2.out.cell 4 (by simp)
             simp only[List.getElem_toArray,List.getElem_cons_zero,List.getElem_cons_succ]at y4
             generalize hB9:gy D.u.fs (k2+1)=n9 at *
             generalize gy D.u.fs k2=n8 at *
             have HB9:=Lib.hid hB9
             have HN9:Hid (n9=n8+(f.vars.length+2)):=HBN.out
             clear hB9 HBN B2
             go_wp2
             go_roundw
             case rel=>exact⟨k2+1,by omega,by rw[HB9.out,HN9.out];go_num,by go_num,T2.out⟩
             case measure=>simp[intOf];omega
            case neg =>
             have hkl:k2=D.u.fs.length:=by omega
             subst hkl
             have HXS2:=Lib.hid hxs
             obtain⟨ml,mnd,mF,yx⟩:=WW T.out.mf pO
             have HML:=Lib.hid (And.intro mnd mF)
             have z3:=T.out.c3
             rw[HLL]at z3
             have z6:=T.out.c6
             have k3:∀o:uG D.R D.gf (.slice D.sa (bL D.u).length D.sc) (.map (some D.gf)) (wr.heap[D.gf]?),o.u.cell? ⟨D.R,3,none⟩=some (.slice D.sa (bL D.u).length D.sc):=fun o=>o.c3
             have k6:∀o:uG D.R D.gf (.slice D.sa (bL D.u).length D.sc) (.map (some D.gf)) (wr.heap[D.gf]?),o.u.cell? ⟨D.R,6,none⟩=some (.map (some D.gf)):=fun o=>o.c6
             have hln:∀o:uG D.R D.gf (.slice D.sa (bL D.u).length D.sc) (.map (some D.gf)) (wr.heap[D.gf]?),∀ty,(Builtin.len_ #[76] ty #[.map (some D.gf)]).run Tryz.prog o.u = .ok (.int .i64 ml.length) o.u:=fun o ty=>yx o.u o.bf ty
             have hne:Nonempty (uG D.R D.gf (.slice D.sa (bL D.u).length D.sc) (.map (some D.gf)) (wr.heap[D.gf]?)):=⟨⟨wr,z3,z6,rfl⟩⟩
             have h0:Below wr.heap.size wr wr.drew:=(Below.refl _ _).drew
             have T3:=Lib.hid (T.out.below hRl h0)
             have HXS3:=Lib.hid (HXS2.out.below h0)
             have hcw:∃o:uG D.R D.gf (.slice D.sa (bL D.u).length D.sc) (.map (some D.gf)) (wr.heap[D.gf]?),wr.drew=o.u:=⟨⟨wr.drew,cell_below h0 z3,cell_below h0 z6,rfl⟩,rfl⟩
             have HBF:Hid (wr.drew.heap[D.gf]? = wr.heap[D.gf]?):=rfl
             have HT3:Hid (Below W1.heap.size W1 wr.drew):=T3.out.hb
             clear ub hxs z3 z6 yx mnd mF hlt hk2 h0 T HXS2
             go_upto_region 52 with (fail)
             refine dC (fun w'=>∃o:uG D.R D.gf (.slice D.sa (bL D.u).length D.sc) (.map (some D.gf)) (wr.heap[D.gf]?),w' = o.u) (by kernel_rfl) ?_
             change bO _ _ _ _ _ _ _ _ wr.drew
             generalize wr.drew=V2 at *
             refine af 0 rfl (by kernel_rfl) (fun _ _ _ _ h=>h) hcw (fun K hK=>?_);go_simp;refine hK _ ?_;clear hK K
             refine af 1 rfl (by kernel_rfl) (fun _ _ _ _ h=>h) hcw (fun K hK=>?_);go_simp;refine hK _ ?_;clear hK K
             refine af 2 rfl (by kernel_rfl) (fun _ _ _ _ h=>h) hcw (fun K hK=>?_);go_simp;refine hK _ ?_;clear hK K
             refine af 3 rfl (by kernel_rfl) (fun _ _ _ _ h=>h) hcw (fun K hK=>?_);go_simp;refine hK _ ?_;clear hK K
             refine af 4 rfl (by kernel_rfl) (fun _ _ _ _ h=>h) hcw (fun K hK=>?_);go_simp;refine hK _ ?_;clear hK K
             refine af 5 rfl (by kernel_rfl) (fun _ _ _ _ h=>h) hcw (fun K hK=>?_);go_simp;refine hK _ ?_;clear hK K
             refine af 6 rfl (by kernel_rfl) (fun _ _ _ _ h=>h) hcw (fun K hK=>?_);go_simp;refine hK _ ?_;clear hK K
             refine af 7 rfl (by kernel_rfl) (fun _ _ _ _ h=>h) hcw (fun K hK=>?_);go_simp;refine hK _ ?_;clear hK K
             refine af 8 rfl (by kernel_rfl) (fun _ _ _ _ h=>h) hcw (fun K hK=>?_);go_simp;refine hK _ ?_;clear hK K
             refine af 9 rfl (by kernel_rfl) (fun _ _ _ _ h=>h) hcw (fun K hK=>?_);go_simp;refine hK _ ?_;clear hK K
             refine af 10 rfl (by kernel_rfl) (fun _ _ _ _ h=>h) hcw (fun K hK=>?_);go_simp;refine hK _ ?_;clear hK K
             refine af 11 rfl (by kernel_rfl) (fun _ _ _ _ h=>h) hcw (fun K hK=>?_);go_simp;refine hK _ ?_;clear hK K
             refine af 12 rfl (by kernel_rfl) (fun _ _ _ _ h=>h) hcw (fun K hK=>?_);go_simp;refine hK _ ?_;clear hK K
             have HRW:=Lib.hid (T3.out.row HXS3.out #[.int .i64 (gy D.u.fs D.u.fs.length:Nat),.int .i64 (bL D.u).length,.int .i64 ml.length,.slice ca C'.length cc])
             have lV:Hid (∃o:uG D.R D.gf (.slice D.sa (bL D.u).length D.sc) (.map (some D.gf)) (wr.heap[D.gf]?),V2.setRow (w.heap.size+1) #[.int .i64 (gy D.u.fs D.u.fs.length:Nat),.int .i64 (bL D.u).length,.int .i64 ml.length,.slice ca C'.length cc]=o.u):=⟨⟨_,by have h9:=HRW.out.2.2.1;rw[HLL]at h9;exact h9,HRW.out.2.2.2.1,by rw[HRW.out.2.2.2.2];exact HBF.out⟩,rfl⟩
             clear k3 k6 hln hcw
             have HLN:=Lib.hid T3.out.ln
             have HPP:=Lib.hid T3.out.pp
             have hlc:C'.length=cn:=T3.out.ln
             rw[hlc]at lV HRW
             clear hlc
             refine aP 13 rfl (by kernel_rfl) ?_
             go_wp2_with (refine kQ rfl rfl _ _ rfl (w.heap.size+1) (gy D.u.fs D.u.fs.length:Nat) (bL D.u).length ml.length ca cn cc rfl rfl _ HXS3.out rfl ?_)
             refine⟨lV.out,?_⟩
             refine aP 14 rfl (by kernel_rfl) ?_
             go_wp2
             refine⟨lV.out,?_⟩
             refine dh (by kernel_rfl) ?_ _
             clear hne
             go_wp2
             refine bodyPost_ret (v:=.tuple #[.agg #[.int .i64 (gy D.u.fs D.u.fs.length:Nat),.int .i64 (bL D.u).length,.int .i64 ml.length,.slice ca cn cc],.int .i64 0]) (kU Tryz.results6 _ _ (w.heap.size+1) _ _ _ rfl rfl (HXS3.out.setRow _) Tryz.underlying36 rfl (by kernel_rfl)) rfl ?_
             refine⟨HBRW.out V2 _ HT3.out,.inr ⟨C',ca,cc,_,_,by rw[HLN.out],HOK.out,HFO2.out,HG1.out,by rw[HLN.out];exact HG2.out,rfl,⟨ml,HML.out.1,by rw[<-HDE.out.2.2.2];exact HML.out.2,rfl⟩,?_,HRW.out.2.1,by rw[HPP.out];exact HMM.out.1,by rw[HPP.out];exact HMM.out.2.1,by rw[HPP.out];exact HMM.out.2.2⟩⟩
             have h5:=HRW.out.1
             generalize V2.setRow _ _=VV at h5 ⊢
             rw[<-HLN.out]at h5
             exact⟨_,h5⟩
end Go.Proofs.YtjnbddedmbhiaaaGreatDoor
