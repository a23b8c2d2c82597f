/-
  Plain: methods looked up along a chain of indices and along a chain of names; subclasses and targets.
-/
import Derived.Test.YtjnbddedmbhiaaaGreatDoorPk14
import Derived.IntWalk
namespace Go.Proofs.YtjnbddedmbhiaaaGreatDoor
open Go.RowKit Go.ak Go.AM

theorem Mq(t:Str):∀(l:List aH) (k:Nat),(fE l t=none/\iX t l k = -1)∨∃(j:Nat) (hj:j<l.length),iX t l k=((k+j:Nat):Int)/\fE l t=some l[j]
 |[],_=>.inl ⟨rfl,rfl⟩
 |x::l,k=>by
  cases e:(x.name.toList==t.toList)
  ·have e1:iX t (x::l) k=iX t l (k+1):=by show(if _ then(k:Int)else _)=_;rw[if_neg (by simp[e])]
   have e2:fE (x::l) t=fE l t:=by unfold fE;rw[List.find?_cons_of_neg (by unfold aD;simp[e])]
   rw[e1,e2]
   rcases Mq t l (k+1)with h | ⟨j,hj,h1,h2⟩
   ·exact .inl h
   ·exact .inr ⟨j+1,by simp;omega,by rw[h1];congr 1;omega,by rw[h2];simp⟩
  ·refine .inr ⟨0,by simp,?_,?_⟩
   ·show(if _ then(k:Int)else _)=_;rw[if_pos e];rfl
   ·unfold fE;rw[List.find?_cons_of_pos (by unfold aD;exact e)];rfl
theorem Mo(l:List aH)(t:Str):(fE l t=none/\dX l t = -1)∨∃(j:Nat) (hj:j<l.length),dX l t=(j:Int)/\fE l t=some l[j]:=by
 rcases Mq t l 0 with h | ⟨j,hj,h1,h2⟩
 ·exact .inl h
 ·exact .inr ⟨j,hj,by unfold dX;rw[h1];simp,h2⟩
theorem Gj{h:List ae}{j:Nat}(hj:j<h.length)(k:aI h h[j].name=(j:Int)):dE h h[j].name=some h[j]:=by
 rcases find_spec h h[j].name with ⟨_,f2⟩ | ⟨i,hi,f1,f2,_⟩
 ·rw[k]at f2;omega
 ·rw[k]at f1
  obtain rfl:j=i:=by omega
  exact f2
theorem MN(h:List ae)(t:Str):∀l:List Int,(∀x∈l,cu h x) ->
 (iY h t (l.map (nameAt h))=none/\mh h t l=(-1,-1))∨∃(i k:Nat) (hi:i<h.length) (hk:k<h[i].methods.length),(i:Int)∈l/\mh h t l=((i:Int),(k:Int))/\iY h t (l.map (nameAt h))=some (h[i].name,h[i].methods[k])
 |[],_=>.inl ⟨rfl,rfl⟩
 |x::l,hl=>by
  obtain⟨j,hj,rfl,hf⟩:=hl x (by simp)
  have ih:=MN h t l (fun y hy=>hl y (List.mem_cons_of_mem _ hy))
  rw[List.map_cons,jP hj]
  have hc:=Gj hj hf
  rcases Mo h[j].methods t with ⟨m1,m2⟩ | ⟨k,hk,m1,m2⟩
  ·have e1:mh h t ((j:Int)::l)=mh h t l:=by
    have:=MO (h:=h) (t:=t) (l:=(j:Int)::l) (q:=0) (k:=j) (by simp) hj rfl (by rw[m2];omega)
    simpa using this
   have e2:iY h t (h[j].name::l.map (nameAt h))=iY h t (l.map (nameAt h)):=by
    have:=WK (h:=h) (s:=t) (L:=h[j].name::l.map (nameAt h)) (k:=0) (by simp) hc m1
    simpa using this
   rw[e1,e2]
   rcases ih with h1 | ⟨i,k,hi,hk,h0,h1,h2⟩
   ·exact .inl h1
   ·exact .inr ⟨i,k,hi,hk,List.mem_cons_of_mem _ h0,h1,h2⟩
  ·refine .inr ⟨j,k,hj,hk,by simp,?_,?_⟩
   ·have:=MQ (h:=h) (t:=t) (l:=(j:Int)::l) (q:=0) (k:=j) (by simp) hj rfl (by rw[m1];omega)
    rw[m1]at this
    simpa using this
   ·have:=WM (h:=h) (s:=t) (L:=h[j].name::l.map (nameAt h)) (k:=0) (by simp) hc m2
    simpa using this
theorem AL{h:List ae}{i:Int}(k:cu h i)(t:Str):(dN h (nameAt h i) t=none/\eP h i t=(-1,-1))∨∃(j m:Nat) (hj:j<h.length) (hm:m<h[j].methods.length),cu h (j:Int)/\eP h i t=((j:Int),(m:Int))/\dN h (nameAt h i) t=some (h[j].name,h[j].methods[m]):=by
 unfold dN eP
 rw[<-GU k]
 have hf:=Ce (fun _=>k)
 rcases MN h t _ hf with e | ⟨j,m,hj,hm,e0,e1,e2⟩
 ·exact .inl e
 ·exact .inr ⟨j,m,hj,hm,hf _ e0,e1,e2⟩
theorem WR(h:List ae)(s t:Str):(dN h s t=none/\eP h (aI h s) t=(-1,-1))∨∃(j m:Nat) (hj:j<h.length) (hm:m<h[j].methods.length),cu h (j:Int)/\eP h (aI h s) t=((j:Int),(m:Int))/\dN h s t=some (h[j].name,h[j].methods[m]):=by
 by_cases hs:0<=aI h s
 ·have:=AL (Bn hs) t
  rw[Gi hs]at this
  exact this
 ·left
  have e:jo h s=[]:=by
   rw[<-zR];unfold lY bW
   rw[GV _ hs];rfl
  refine⟨by unfold dN;rw[e];rfl,?_⟩
  unfold eP bW
  rw[GV _ hs];rfl
def su(h:List ae)(r:Int)(l:List Int):Prop:=l.Nodup/\∀x,x∈l↔Qy h r x
theorem su.len{h:List ae}{r:Int}{l:List Int}(k:su h r l):l.length<=h.length :=
 rD _ _ k.1 (fun x hx=>((k.2 x).1 hx).1.nat)
def nG(h:List ae)(t:Str)(l:List Int):List Int:=(l.map (fun i=>(eP h i t).1)).filter (fun j=>decide (0<=j))
def pV(h:List ae)(t:Str)(l:List Int):List Str:=(nG h t l).map (nameAt h)
theorem RP{h:List ae}{t:Str}{l:List Int}{i:Int}(e:0<=(eP h i t).1):nG h t (l++[i])=nG h t l++[(eP h i t).1]:=by
 unfold nG;rw[List.map_append,List.filter_append];simp[e]
theorem RQ{h:List ae}{t:Str}{l:List Int}{i:Int}(e:¬ 0<=(eP h i t).1):nG h t (l++[i])=nG h t l:=by
 unfold nG;rw[List.map_append,List.filter_append];simp[e]
def JQ(h:List ae)(c x:Str):Prop:=∃k∈h,k.name=x/\vS h x c=true
def nE(h:List ae)(c t x:Str):Prop:=∃s,JQ h c s/\∃g,dN h s t=some (x,g)
theorem JP{h:List ae}{c:Str}{l:List Int}(k:su h (aI h c) l)(x:Str):x∈l.map (nameAt h)↔JQ h c x:=by
 rw[List.mem_map]
 constructor
 ·rintro⟨i,hi,rfl⟩
  obtain⟨h1,h2⟩:=(k.2 i).1 hi
  obtain⟨j,hj,rfl,hf⟩:=h1
  refine⟨h[j],List.getElem_mem hj,(jP hj).symm,?_⟩
  exact(FI ⟨j,hj,rfl,hf⟩ c).2 h2
 ·rintro⟨d,hd,rfl,hs⟩
  rcases find_spec h d.name with ⟨f1,_⟩ | ⟨j,hj,f1,_,f3⟩
  ·unfold dE at f1
   rw[List.find?_eq_none]at f1
   exact absurd (O0 d.name) (f1 d hd)
  ·have hf:cu h (j:Int):=⟨j,hj,rfl,by rw[f3];exact f1⟩
   refine⟨(j:Int),(k.2 _).2 ⟨hf,?_⟩,by rw[jP hj,f3]⟩
   exact(FI hf c).1 (by rw[jP hj,f3];exact hs)
theorem RO{h:List ae}{c t:Str}{l:List Int}(k:su h (aI h c) l)(x:Str):x∈pV h t l↔nE h c t x:=by
 unfold pV nG
 simp only[List.mem_map,List.mem_filter,decide_eq_true_eq]
 constructor
 ·rintro⟨y,⟨⟨i,hi,rfl⟩,hy⟩,rfl⟩
  obtain⟨hf,_⟩:=(k.2 i).1 hi
  refine⟨nameAt h i,(JP k _).1 (List.mem_map_of_mem hi),?_⟩
  rcases AL hf t with ⟨_,e⟩ | ⟨j,m,hj,hm,_,e1,e2⟩
  ·rw[e]at hy;exact absurd hy (by decide)
  ·rw[e1]
   exact⟨_,by rw[e2,jP hj]⟩
 ·rintro⟨s,hs,g,hg⟩
  obtain⟨i,hi,rfl⟩:=List.mem_map.1 ((JP k _).2 hs)
  obtain⟨hf,_⟩:=(k.2 i).1 hi
  rcases AL hf t with ⟨e,_⟩ | ⟨j,m,hj,hm,_,e1,e2⟩
  ·rw[e]at hg;cases hg
  ·rw[e2]at hg
   cases hg
   exact⟨(j:Int),⟨⟨i,hi,by rw[e1]⟩,by omega⟩,jP hj⟩
-- ascending lists of names, each once
def Asc(l:List Str):Prop:=(l.map bl).Pairwise (· < ·)
theorem Kc(l:List Str):(dH (cZ l)).map bl=Lib.compact (jH (l.map bl)):=by
 have e:∀m:List BL,(m.map rE).map bl=m:=fun m=>by rw[List.map_map];exact List.map_id'' Hl m
 unfold dH cZ
 rw[e,e];rfl
theorem Hm{a b:Str}(h:bl a=bl b):a=b:=by rw[<-AA a,h,AA]
theorem l9{l:List Str}{x:Str}:bl x∈l.map bl↔x∈l:=by
 rw[List.mem_map]
 constructor
 ·rintro⟨y,hy,e⟩;rw[<-Hm e];exact hy
 ·intro hx;exact⟨x,hx,rfl⟩
theorem ZR(l:List Str):Asc (dH (cZ l))/\∀x,x∈dH (cZ l)↔x∈l:=by
 obtain⟨h1,h2⟩:=Ph (l.map bl)
 refine⟨by unfold Asc;rw[Kc];exact h1,fun x=>?_⟩
 rw[<-l9,Kc,h2,l9]
end Go.Proofs.YtjnbddedmbhiaaaGreatDoor
namespace Go.Proofs.YtjnbddedmbhiaaaGreatDoor
open Go.RowKit Go.ak

structure TX(h:List ae)(a:Option Addr)(c:Nat)(f:aA)(va:Option Addr)(vc:Nat)(ca:Option Addr)(cc:Nat)(x:Ins)(ga:Option Addr)(gc:Nat)(w wr:World):Prop where
 bh:ah wr w.heap.size #[.slice a h.length c] 24
 hc:ay wr a h
 f:FW f va vc ca cc (w.heap.size+1) w wr
 x:IW x ga gc (w.heap.size+2) w wr
section
variable {h:List ae}{a:Option Addr}{c:Nat}{f:aA}{va:Option Addr}{vc:Nat}{ca:Option Addr}{cc:Nat}{x:Ins}{ga:Option Addr}{gc:Nat}{w wr w':World}
theorem TX.below(k:TX h a c f va vc ca cc x ga gc w wr)(hb:Below wr.heap.size wr w'):TX h a c f va vc ca cc x ga gc w w':=⟨k.bh.below hb,k.hc.below hb,k.f.below hb,k.x.below hb⟩
abbrev nR(x:Ins)(ga:Option Addr)(gc:Nat):Obj:=.cells #[.int .i64 x.op,.int .i64 x.dst,.int .i64 x.a,.int .i64 x.b,.int .i64 x.n,.string x.cls,.string x.name,.slice ga x.args.length gc,.int .i64 x.goto,.int .i64 x.aZ] 53
abbrev fZ(h:List ae)(a:Option Addr)(c:Nat):Obj:=.cells #[.slice a h.length c] 24
theorem wN(w:World)(cs:Array Value)(t:TypeId)(o1 o2:Obj):ah (((w.alloc o1).alloc o2).alloc (.cells cs t)) (w.heap.size+2) cs t:=by
 have:=aL ((w.alloc o1).alloc o2) cs t
 simpa using this
end

structure ni(h:List ae)(x:Ins):Prop where
 c:x.op=9->∃y g,dN h x.cls x.name=some (y,g)/\g.stat=false
 s:x.op=10->∃g,dN h x.cls x.name=some (x.cls,g)/\g.stat=true
theorem l5{ops:Array Oper}{rest:List Oper}{o:Oper}{a:Act}{w:World}{Q:Exit->Act->World->Prop}(hgd:o.guard=none)(hd:o.dst=none)(x y:Operand)(ho:o.op = .store 48 x y)
 (g:Nat) (k:aH) (pa:Option Addr) (pc:Nat) (hx:a.eval x = .pointer (some ⟨g,0,none⟩)) (hy:a.eval y=fF k pa pc)
 (old:Array Value) (hg:ah w g old 48) (hold:old.size=4)
 (h:wpList Tryz.prog ops Q rest a (w.setRow g #[.string k.name,.bool k.stat,.slice pa k.params.length pc,.string k.result])):wpList Tryz.prog ops Q (o::rest) a w :=
 wpList_store_row hgd 48 x y ho g _ hx hy 48 old hg (by kernel_rfl) hold (by simp[Value.oneCell']) (by rw[hd];exact h)
abbrev jk:Obj:=.cells #[.string ⟨#[]⟩,.bool false,.slice none 0 0,.string ⟨#[]⟩] 48
theorem kU{P:Program}{fn:Func}{p u:Tmp}{ty:TypeId}(h:fn.results=#[.cell p ty,.tmp u])(tmps:Array Value)(w:World)(g:Nat)(cs:Array Value)(d:TypeDesc)(v2:Value)
 (hp:tmps.getD p undef = .pointer (some ⟨g,0,none⟩)) (h2:tmps.getD u undef=v2) (hg:ah w g cs ty)
 (hu:P.underlying ty=some d) (hd:(match d with | .struct _ | .array _ _=>true | _=>false)=true) (hi:(P.info? ty).map (·.size)=some cs.size) :
 (results fn tmps).run P w = .ok (.tuple #[.agg cs,v2]) w:=by
 have hp':tmps[p]?.getD undef = .pointer (some ⟨g,0,none⟩):=by simpa using hp
 have h2':tmps[u]?.getD undef=v2:=by simpa using h2
 simp[results,h,hp',h2',asAddr,run_loadVar_row w g ty ty cs (0,0) d hg hu hd hi]

section
variable {h:List ae}{a:Option Addr}{c:Nat}{f:aA}{va:Option Addr}{vc:Nat}{ca:Option Addr}{cc:Nat}{x:Ins}{ga:Option Addr}{gc:Nat}{w wr w':World}
def sG:aH:=⟨⟨#[]⟩,false,[],⟨#[]⟩⟩
end


end Go.Proofs.YtjnbddedmbhiaaaGreatDoor
namespace Go
theorem Oper.QQ{P:Program}{Q:Exit->Act->World->Prop}{R K:Act->World->Prop}{o:Oper}{a:Act}{w:World}(h:o.wp P a w K (Exit.then R Q)):o.wp P a w K Q:=by
 unfold Oper.wp at *
 generalize (execOp a.eval o).run P w=r at *
 cases r with
 |ok n w'=>cases n<;>exact h
 |halt x w'=>cases x<;>exact h
theorem zM{P:Program}{ops:Array Oper}{Q:Exit->Act->World->Prop}(R:Act->World->Prop){l2:List Oper}(h2:∀a w,R a w->wpList P ops Q l2 a w):∀{l1:List Oper} {a:Act} {w:World},
 wpList P ops (Exit.then R Q) l1 a w->wpList P ops Q (l1++l2) a w
 |[],a,w,h=>h2 a w h
 |o::l1,a,w,h=>by
  simp only[wpList,List.cons_append]at h ⊢
  split at h
  ·rename_i hw
   rw[if_pos hw]
   rcases h with h | ⟨h1,h3⟩
   ·exact .inl (Oper.wp_mono (fun a w h=>zM R h2 h) (Oper.QQ h))
   ·exact .inr ⟨h1,h3⟩
  ·rename_i hw
   rw[if_neg hw]
   exact zM R h2 h
theorem QS{P:Program}{Q:Exit->Act->World->Prop}{id:Nat}{l:List Oper}{a:Act}{w:World}(n:Nat)(R:Act->World->Prop)(h1:wpList P l.toArray (Exit.then R Q) (l.take n) a w)
 (h2:∀a w,R a w->wpList P l.toArray Q (l.drop n) a w):(Code.region id l.toArray false).wp P Q a w:=by
 refine wp_region_lit ?_
 have:=zM R h2 h1
 rwa [List.take_append_drop]at this
theorem QY{P:Program}{ops:Array Oper}{Q:Exit->Act->World->Prop}{l:List Oper}{a:Act}{w:World}(n:Nat)(R:Act->World->Prop)(h1:wpList P ops (Exit.then R Q) (l.take n) a w)
 (h2:∀a w,R a w->wpList P ops Q (l.drop n) a w):wpList P ops Q l a w:=by
 have:=zM R h2 h1
 rwa [List.take_append_drop]at this
theorem QR{P:Program}{Q:Exit->Act->World->Prop}{id:Nat}{l:List Oper}{a:Act}{w:World}(n:Nat)(R:Act->World->Prop)(h1:∀Q':Exit->Act->World->Prop,(∀a w,R a w->Q' .normal a w)->wpList P l.toArray Q' (l.take n) a w)
 (h2:∀a w,R a w->wpList P l.toArray Q (l.drop n) a w):(Code.region id l.toArray false).wp P Q a w :=
 QS n R (h1 _ fun _ _ h=>h) h2
theorem uQ{P:Program}{ops:Array Oper}{Q:Exit->Act->World->Prop}{l:List Oper}{a:Act}{w:World}(n:Nat)(R:Act->World->Prop)(h1:∀Q':Exit->Act->World->Prop,(∀a w,R a w->Q' .normal a w)->wpList P ops Q' (l.take n) a w)
 (h2:∀a w,R a w->wpList P ops Q (l.drop n) a w):wpList P ops Q l a w :=
 QY n R (h1 _ fun _ _ h=>h) h2
end Go
namespace Go
def QJ{α:Type}:Nat->(List α->Prop)->Prop
 |0,p=>p []
 |n+1,p=>∀x,QJ n (fun l=>p (x::l))
theorem rQ{α:Type}:∀(n:Nat) {p:List α->Prop} {l:List α},l.length=n->QJ n p->p l
 |0,p,l,h,hp=>by
  obtain rfl:=List.eq_nil_of_length_eq_zero h
  exact hp
 |n+1,p,l,h,hp=>by
  cases l with
  |nil=>simp at h
  |cons x m=>exact rQ n (p:=fun l=>p (x::l)) (by simpa using h) (hp x)
end Go
namespace Go.Proofs.YtjnbddedmbhiaaaGreatDoor
open Go.RowKit Go.ak

structure y2u(f:aA):Prop where
 v:f.vars.length<=100000
 c:f.code.length<=100000
 a:∀x∈f.code,x.args.length<=100000

structure HF(h:List ae)(a:Option Addr)(c:Nat)(f:aA)(va:Option Addr)(vc:Nat)(ca:Option Addr)(cc:Nat)(w wr:World):Prop where
 bh:ah wr w.heap.size #[.slice a h.length c] 24
 hc:ay wr a h
 f:FW f va vc ca cc (w.heap.size+1) w wr
section
variable {h:List ae}{a:Option Addr}{c:Nat}{f:aA}{va:Option Addr}{vc:Nat}{ca:Option Addr}{cc:Nat}{w wr w':World}
end

abbrev jr(g:aH)(pa:Option Addr)(pc:Nat):Obj:=.cells #[.string g.name,.bool g.stat,.slice pa g.params.length pc,.string g.result] 48
section
variable {f:aA}{va:Option Addr}{vc:Nat}{ca:Option Addr}{cc:Nat}{g:aH}{pa:Option Addr}{pc:Nat}{w wr w':World}
end

structure HG(h:List ae)(a:Option Addr)(c:Nat)(f:aA)(va:Option Addr)(vc:Nat)(ca:Option Addr)(cc:Nat)(g:aH)(pa:Option Addr)(pc:Nat)(w wr:World):Prop where
 t:HF h a c f va vc ca cc w wr
 s:ah wr (w.heap.size+2) #[.string g.name,.bool g.stat,.slice pa g.params.length pc,.string g.result] 48
 p:bF wr pa g.params
section
variable {h:List ae}{a:Option Addr}{c:Nat}{f:aA}{va:Option Addr}{vc:Nat}{ca:Option Addr}{cc:Nat}{g:aH}{pa:Option Addr}{pc:Nat}{w wr w':World}
end
def xw:Value:=.agg #[.string ⟨#[]⟩,.bool false,.slice none 0 0,.string ⟨#[]⟩]
structure HZ(h:List ae)(a:Option Addr)(c:Nat)(w wr:World):Prop where
 hb:Below w.heap.size w wr
 bh:ah wr w.heap.size #[.slice a h.length c] 24
 s:ah wr (w.heap.size+1) #[.string ⟨#[]⟩,.bool false,.slice none 0 0,.string ⟨#[]⟩] 48

def bZ(u:aQ)(ha:Option Addr)(hc:Nat)(fa:Option Addr)(fc:Nat):Value:=.agg #[.slice ha u.h.length hc,.slice fa u.fs.length fc,.int .i64 u.main]
abbrev kN(u:aQ)(ha:Option Addr)(hc:Nat)(fa:Option Addr)(fc:Nat):Obj:=.cells #[.slice ha u.h.length hc,.slice fa u.fs.length fc,.int .i64 u.main] 27
structure UB(u:aQ)(ha:Option Addr)(hc:Nat)(fa:Option Addr)(fc:Nat)(w wr:World):Prop where
 hb:Below w.heap.size w wr
 b1:ah wr w.heap.size #[.slice ha u.h.length hc,.slice fa u.fs.length fc,.int .i64 u.main] 27
 h:ay wr ha u.h
 f:bR wr fa u.fs
section
variable {u:aQ}{ha:Option Addr}{hc:Nat}{fa:Option Addr}{fc:Nat}{w wr w':World}
theorem UB.below(k:UB u ha hc fa fc w wr)(hb:Below wr.heap.size wr w'):UB u ha hc fa fc w w':=⟨k.hb.trans (hb.mono k.hb.size),k.b1.below hb,k.h.below hb,k.f.below hb⟩
theorem UB.start(h:ay w ha u.h)(f:bR w fa u.fs):UB u ha hc fa fc w (w.alloc (kN u ha hc fa fc)) :=
 ⟨av ..,aL ..,h.below (av ..),f.below (av ..)⟩
theorem UB.cells(k:UB u ha hc fa fc w wr):wr.cell? ⟨w.heap.size,0,none⟩=some (.slice ha u.h.length hc)/\wr.cell? ⟨w.heap.size,1,none⟩=some (.slice fa u.fs.length fc)/\wr.cell? ⟨w.heap.size,2,none⟩=some (.int .i64 u.main) :=
 ⟨k.b1.cell 0 (by simp),k.b1.cell 1 (by simp),k.b1.cell 2 (by simp)⟩
end
theorem xD{ops:Array Oper}{rest:List Oper}{o:Oper}{a:Act}{w:World}{Q:Exit->Act->World->Prop}(hgd:o.guard=none)(hd:o.dst=none)(x y:Operand)(ho:o.op = .store 51 x y)
 (g:Nat) (f:aA) (va:Option Addr) (vc:Nat) (ca:Option Addr) (cc:Nat) (hx:a.eval x = .pointer (some ⟨g,0,none⟩)) (hy:a.eval y=eQ f va vc ca cc)
 (old:Array Value) (hg:ah w g old 51) (hold:old.size=7)
 (h:wpList Tryz.prog ops Q rest a (w.setRow g #[.string f.cls,.string f.name,.bool f.stat,.int .i64 f.params,.slice va f.vars.length vc,.string f.result,.slice ca f.code.length cc])):wpList Tryz.prog ops Q (o::rest) a w :=
 wpList_store_row hgd 51 x y ho g _ hx hy 51 old hg (by kernel_rfl) hold (by simp[Value.oneCell']) (by rw[hd];exact h)
abbrev jE:Obj:=.cells #[.string ⟨#[]⟩,.string ⟨#[]⟩,.bool false,.int .i64 0,.slice none 0 0,.string ⟨#[]⟩,.slice none 0 0] 51
end Go.Proofs.YtjnbddedmbhiaaaGreatDoor
namespace Go.ak
structure bA where
 f:Int
 i:Int
 c:Int
-- edges in order
-- what is reached
-- marks
def At(bs:List Bool)(x:Int):Prop:=0<=x/\bs[x.toNat]? = some true
-- closures of marks
-- the reference's graph
-- the program's lists of callees
-- the program's search
end Go.ak
