/-
  constraint's builder in memory: its maps, its sites, what stays.
-/
import Derived.Test.YtjnbddedmbhiaaaGreatDoorPk28
import Derived.Test.YtjnbddedmbhiaaaGreatDoorPk29
import Derived.Test.YtjnbddedmbhiaaaGreatDoorPk30
import Derived.Test.YtjnbddedmbhiaaaGreatDoorPk19
namespace Go.Proofs.YtjnbddedmbhiaaaGreatDoor
open Go.RowKit Go.ak Go.AM

structure BD where
 u:aQ
 ha:Option Addr
 hc:Nat
 fa:Option Addr
 fc:Nat
 L:List Sit
 sa:Option Addr
 sc:Nat
 bs:List Int
 ba:Option Addr
 bc:Nat
 R:Nat
 gs:Nat
 gf:Nat
 gi:Nat
 gr:Nat
 gt:Nat
 lo:Nat
 Fs:Int × Int->Option Int
 Ff:Str->Option Int
 ex:Option Nat
abbrev BD.v(D:BD):BV:=⟨.slice D.ha D.u.h.length D.hc,.slice D.fa D.u.fs.length D.fc,.int .i64 D.u.main,.slice D.sa D.L.length D.sc,.map (some D.gs),.slice D.ba D.bs.length D.bc,.map (some D.gf),.map (some D.gi),.map (some D.gr),.map (some D.gt)⟩
def fQ{κ:Type}(F:κ->Option Int)(k:κ):Option Value:=(F k).map (Value.int .i64)
def bI{κ:Type}[DecidableEq κ](w:World)(g:Nat)(enc:κ->Value)(F:κ->Option Value):Prop:=∃n,bC w g enc F n
theorem bI.at{κ:Type}[DecidableEq κ]{w w':World}{g:Nat}{enc:κ->Value}{F:κ->Option Value}(h:bI w g enc F)(e:w'.heap[g]? = w.heap[g]?):bI w' g enc F:=by
 obtain⟨n,h⟩:=h;exact⟨n,h.at e⟩
theorem bI.lt{κ:Type}[DecidableEq κ]{w:World}{g:Nat}{enc:κ->Value}{F:κ->Option Value}(h:bI w g enc F):g<w.heap.size:=by
 obtain⟨n,h⟩:=h;exact h.lt
theorem bI.cells{κ:Type}[DecidableEq κ]{w:World}{g:Nat}{enc:κ->Value}{F:κ->Option Value}(h:bI w g enc F)(cs:Array Value)(t:TypeId)(fr:Nat × Nat):w.heap[g]? ≠ some (.cells cs t fr):=by
 obtain⟨n,h⟩:=h
 obtain⟨l,ar,c,hg,_⟩:=h.ex
 rw[hg]
 exact fun e=>by cases e
theorem Di:Tryz.prog.underlying 77=some (.map 9 28):=by kernel_rfl
theorem Dh:Tryz.prog.underlying 78=some (.map 119 28):=by kernel_rfl
theorem Dj:Tryz.prog.underlying 79=some (.map 108 105):=by kernel_rfl
theorem Js:Tryz.prog.underlying 75=some (.map 103 3):=by kernel_rfl
theorem zI(w:World):(zeroValue 28).run Tryz.prog w = .ok (.slice none 0 0) w:=by kernel_rfl
theorem Iy(w:World):(zeroValue 105).run Tryz.prog w = .ok (.map none) w:=by kernel_rfl
def wC(e:Int × Int):Value:=.agg #[.int .i64 e.1,.int .i64 e.2]
def Gv(e:Str × Str):Value:=.agg #[.string e.1,.string e.2]
def Gu(e:(Str × Str) × Int):Value:=.agg #[.string e.1.1,.string e.1.2,.int .i64 e.2]
theorem Nj:lU Tryz.prog 103 wC:=EX (ks:=[.i,.i]) (by kernel_rfl) (fun e=>[KC.i .i64 e.1,KC.i .i64 e.2]) [some (some .i64),some (some .i64)] (fun _=>rfl) (fun a b h=>by
 simp only[List.cons.injEq,KC.i.injEq,and_true,true_and]at h
 exact Prod.ext h.1 h.2) (fun _=>rfl) (fun _=>rfl)
theorem FD:lU Tryz.prog 108 Gv:=EX (ks:=[.s,.s]) (by kernel_rfl) (fun e=>[KC.s e.1,KC.s e.2]) [some none,some none] (fun _=>rfl) (fun a b h=>by
 simp only[List.cons.injEq,KC.s.injEq,and_true]at h
 exact Prod.ext h.1 h.2) (fun _=>rfl) (fun _=>rfl)
theorem FC:lU Tryz.prog 119 Gu:=EX (ks:=[.s,.s,.i]) (by kernel_rfl) (fun e=>[KC.s e.1.1,KC.s e.1.2,KC.i .i64 e.2]) [some none,some none,some (some .i64)] (fun _=>rfl) (fun a b h=>by
 simp only[List.cons.injEq,KC.s.injEq,KC.i.injEq,and_true,true_and]at h
 exact Prod.ext (Prod.ext h.1 h.2.1) h.2.2) (fun _=>rfl) (fun _=>rfl)
def qJ(w:World)(a:Option Addr)(l:List Sit):Prop:=iQ w a l/\∀b off,a=some ⟨b,off,none⟩->l≠[]->∃cs fr,w.heap[b]? = some (.cells cs 101 fr)
theorem qJ.keep{w w':World}{a:Option Addr}{l:List Sit}(h:qJ w a l)(he:∀(b:Nat) (cs:Array Value) (fr:Nat × Nat),w.heap[b]? = some (.cells cs 101 fr)->w'.heap[b]? = w.heap[b]?):qJ w' a l:=by
 cases l with
 |nil=>exact⟨fun k hk=>absurd hk (by simp),fun b off e hl=>absurd rfl hl⟩
 |cons x l =>
  obtain⟨b,off,e0,_⟩:=h.1 0 (by simp)
  obtain⟨cs,fr,hc⟩:=h.2 b off e0 (by simp)
  have hk:=he b cs fr hc
  refine⟨fun k hk2=>?_,fun b' off' e _=>?_⟩
  ·obtain⟨b',off',e,h1,h2,h3⟩:=h.1 k hk2
   have e2:=e0.symm.trans e
   cases e2
   refine⟨b,off,e0,?_,?_,?_⟩
   ·rw[<-h1];unfold World.cell?;rw[hk]
   ·rw[<-h2];unfold World.cell?;rw[hk]
   ·rw[<-h3];unfold World.cell?;rw[hk]
  ·rw[e0]at e;cases e;exact⟨cs,fr,by rw[hk];exact hc⟩
theorem bK.Nl{w w':World}{a:Option Addr}{l:List Int}(h:bK w a l)(he:∀(b:Nat) (cs:Array Value) (fr:Nat × Nat),w.heap[b]? = some (.cells cs 3 fr)->w'.heap[b]? = w.heap[b]?):bK w' a l:=by
 cases l with
 |nil=>exact⟨fun k hk=>absurd hk (by simp),fun b off e hl=>absurd rfl hl⟩
 |cons x l =>
  obtain⟨b,off,e0,_⟩:=h.1 0 (by simp)
  obtain⟨cs,fr,hc⟩:=h.2 b off e0 (by simp)
  have hk:=he b cs fr hc
  refine⟨fun k hk2=>?_,fun b' off' e _=>?_⟩
  ·obtain⟨b',off',e,h1⟩:=h.1 k hk2
   have e2:=e0.symm.trans e
   cases e2
   refine⟨b,off,e0,?_⟩
   rw[<-h1];unfold World.cell?;rw[hk]
  ·rw[e0]at e;cases e;exact⟨cs,fr,by rw[hk];exact hc⟩
def mine(D:BD)(w:World)(q:Nat):Prop:=q=D.R∨q=D.gi∨q=D.gr∨q=D.gt∨∃cs fr,w.heap[q]? = some (.cells cs 60 fr)
def Iq(D:BD)(w:World):Prop:=∃F,bI w D.gi Value.string F/\∀c v,F c=some v->∃a cap,v = .slice a (dD D.u.h D.L c).length cap/\bK w a (dD D.u.h D.L c)
def Ip(D:BD)(w:World):Prop:=∃F,bI w D.gr Gu F/\∀t v,F t=some v->∃a l cap,v = .slice a l.length cap/\l.length<=D.L.length/\bK w a l
def Ia(D:BD)(m:Str × Str)(G:Int->Option Value):Prop:=∀k x,G k=some x->x = .bool true/\∃c,nE D.u.h m.1 m.2 c/\k=dM D.u.fs c m.2
def Io(D:BD)(w:World):Prop:=∃F,bI w D.gt Gv F/\∀m v,F m=some v->∃g G,v = .map (some g)/\(D.lo<=g/\D.ex≠some g)/\bI w g (Value.int .i64) G/\Ia D m G
structure BM(D:BD)(K:List Cn)(ka:Option Addr)(kc:Nat)(w wr:World):Prop where
 bk:BK D.v D.R K ka kc w wr
 h:ay w D.ha D.u.h
 f:bR w D.fa D.u.fs
 s:qJ wr D.sa D.L
 b:bK wr D.ba D.bs
 ms:bI wr D.gs wC (fQ D.Fs)
 mf:bI wr D.gf Value.string (fQ D.Ff)
 mi:Iq D wr
 mr:Ip D wr
 mt:Io D wr
 ne:D.gs≠D.gi/\D.gs≠D.gr/\D.gs≠D.gt/\D.gf≠D.gi/\D.gf≠D.gr/\D.gf≠D.gt/\D.gi≠D.gr/\D.gi≠D.gt/\D.gr≠D.gt
 og:w.heap.size<=D.gi/\w.heap.size<=D.gr/\w.heap.size<=D.gt
 lo:D.gi<D.lo/\D.gr<D.lo/\D.gt<D.lo/\D.lo<=wr.heap.size
 l2:D.gs<D.lo/\D.gf<D.lo
 le:∀x,D.ex=some x->x<wr.heap.size
section
variable {D:BD}{K:List Cn}{ka:Option Addr}{kc:Nat}{w wr w':World}
theorem mine.trans{w1:World}(h1:aF (mine D wr) wr w1)(h2:aF (mine D w1) w1 w'):aF (mine D wr) wr w':=by
 refine⟨Nat.le_trans h1.sz h2.sz,fun k hk hn=>?_⟩
 have e1:=h1.eq k hk hn
 rw[<-e1]
 refine h2.eq k (Nat.lt_of_lt_of_le hk h1.sz) (fun hm=>hn ?_)
 rcases hm with h | h | h | h | ⟨cs,fr,h⟩
 ·exact .inl h
 ·exact .inr (.inl h)
 ·exact .inr (.inr (.inl h))
 ·exact .inr (.inr (.inr (.inl h)))
 ·exact .inr (.inr (.inr (.inr ⟨cs,fr,by rw[<-e1];exact h⟩)))
theorem aF.of_below{P:Nat->Prop}(hb:Below wr.heap.size wr w'):aF P wr w':=⟨hb.size,fun k hk _=>hb.block k hk⟩
theorem aF.refl(P:Nat->Prop)(w:World):aF P w w:=⟨Nat.le_refl _,fun _ _ _=>rfl⟩
theorem BM.iW(k:BM D K ka kc w wr){b:Nat}{cs:Array Value}{t:TypeId}{fr:Nat × Nat}(h:wr.heap[b]? = some (.cells cs t fr))(h1:t≠81)(h2:t≠60):¬ mine D wr b:=by
 rintro(e | e | e | e | ⟨cs',fr',e⟩)
 ·subst e
  have:=k.bk.rb
  unfold ah at this
  rw[h]at this
  simp at this
  exact h1 this.2.1
 ·subst e
  obtain⟨F,hm,_⟩:=k.mi
  exact hm.cells _ _ _ h
 ·subst e
  obtain⟨F,hm,_⟩:=k.mr
  exact hm.cells _ _ _ h
 ·subst e
  obtain⟨F,hm,_⟩:=k.mt
  exact hm.cells _ _ _ h
 ·rw[h]at e
  simp at e
  exact h2 e.2.1
theorem BM.EZ(k:BM D K ka kc w wr){κ:Type}[DecidableEq κ]{g:Nat}{enc:κ->Value}{F:κ->Option Value}(h:bI wr g enc F)(h1:g≠D.gi)(h2:g≠D.gr)(h3:g≠D.gt):¬ mine D wr g:=by
 rintro(e | e | e | e | ⟨cs',fr',e⟩)
 ·subst e
  have:=k.bk.rb
  unfold ah at this
  exact h.cells _ _ _ this
 ·exact h1 e
 ·exact h2 e
 ·exact h3 e
 ·exact h.cells _ _ _ e
theorem BM.set(k:BM D K ka kc w wr)(hc:aF (mine D wr) wr w'){a:Option Addr}{l:List Int}(h:bK wr a l):bK w' a l :=
 h.Nl fun b cs fr e=>hc.eq b (Array.getElem?_eq_some_iff.1 e).1 (k.iW e (by decide) (by decide))
theorem BM.sit(k:BM D K ka kc w wr)(hc:aF (mine D wr) wr w'):qJ w' D.sa D.L :=
 k.s.keep fun b cs fr e=>hc.eq b (Array.getElem?_eq_some_iff.1 e).1 (k.iW e (by decide) (by decide))
theorem BM.maps(k:BM D K ka kc w wr)(hc:aF (mine D wr) wr w'):bI w' D.gs wC (fQ D.Fs)/\bI w' D.gf Value.string (fQ D.Ff):=by
 have n:=k.ne
 exact⟨k.ms.at (hc.eq _ k.ms.lt (k.EZ k.ms n.1 n.2.1 n.2.2.1)),k.mf.at (hc.eq _ k.mf.lt (k.EZ k.mf n.2.2.2.1 n.2.2.2.2.1 n.2.2.2.2.2.1))⟩
theorem BM.Ci(k:BM D K ka kc w wr)(hc:aF (mine D wr) wr w')(he:w'.heap[D.gi]? = wr.heap[D.gi]?):Iq D w':=by
 obtain⟨F,h1,h2⟩:=k.mi
 exact⟨F,h1.at he,fun c v e=>by
  obtain⟨a,cap,e1,e2⟩:=h2 c v e
  exact⟨a,cap,e1,k.set hc e2⟩⟩
theorem BM.Ch(k:BM D K ka kc w wr)(hc:aF (mine D wr) wr w')(he:w'.heap[D.gr]? = wr.heap[D.gr]?):Ip D w':=by
 obtain⟨F,h1,h2⟩:=k.mr
 exact⟨F,h1.at he,fun c v e=>by
  obtain⟨a,l,cap,e1,e2,e3⟩:=h2 c v e
  exact⟨a,l,cap,e1,e2,k.set hc e3⟩⟩
theorem BM.tgt(k:BM D K ka kc w wr)(hc:aF (mine D wr) wr w'){g:Nat}{G:Int->Option Value}(hg:D.lo<=g)(h:bI wr g (Value.int .i64) G):bI w' g (Value.int .i64) G:=by
 have l:=k.lo
 exact h.at (hc.eq _ h.lt (k.EZ h (by omega) (by omega) (by omega)))
theorem BM.Cg(k:BM D K ka kc w wr)(hc:aF (mine D wr) wr w')(he:w'.heap[D.gt]? = wr.heap[D.gt]?):Io D w':=by
 obtain⟨F,h1,h2⟩:=k.mt
 exact⟨F,h1.at he,fun c v e=>by
  obtain⟨g,G,e1,e2,e3,e4⟩:=h2 c v e
  exact⟨g,G,e1,e2,k.tgt hc e2.1 e3,e4⟩⟩
theorem BM.below(k:BM D K ka kc w wr)(hb:Below wr.heap.size wr w'):BM D K ka kc w w':=by
 have hc:aF (mine D wr) wr w':=aF.of_below hb
 obtain⟨_,hi,_⟩:=k.mi
 obtain⟨_,hr,_⟩:=k.mr
 obtain⟨_,ht,_⟩:=k.mt
 exact⟨k.bk.below hb,k.h,k.f,k.sit hc,k.set hc k.b,(k.maps hc).1,(k.maps hc).2,k.Ci hc (hb.block _ hi.lt),k.Ch hc (hb.block _ hr.lt),k.Cg hc (hb.block _ ht.lt),k.ne,k.og,⟨k.lo.1,k.lo.2.1,k.lo.2.2.1,Nat.le_trans k.lo.2.2.2 hb.size⟩,k.l2,fun x e=>Nat.lt_of_lt_of_le (k.le x e) hb.size⟩
theorem tK{g:Nat}(hg:wr.grownBy w' (some g))(hm:mine D wr g):aF (mine D wr) wr w':=⟨hg.size,fun q hq hn=>hg.block q hq (fun e=>hn (by cases e;exact hm))⟩
theorem BM.Ho(k:BM D K ka kc w wr){g:Nat}(hg:wr.grownBy w' (some g))(hlo:w.heap.size<=g){κ:Type}[DecidableEq κ]{enc:κ->Value}{F:κ->Option Value}(hm:bI wr g enc F)(hmi:mine D wr g):BK D.v D.R K ka kc w w':=by
 obtain⟨n,hm⟩:=hm
 exact⟨k.bk.hb.grown hg k.bk.hb.size (fun q hq=>by cases hq;exact hlo),k.bk.rb.grown hg (r9 k.bk.rb hm),oO k.bk.ow hm hg,fun x hx=>k.set (tK hg hmi) (k.bk.hk x hx),k.bk.hR⟩
theorem BM.Us(k:BM D K ka kc w wr)(hg:wr.grownBy w' (some D.gi))(hm:Iq D w'):BM D K ka kc w w':=by
 have hmi:mine D wr D.gi:=.inr (.inl rfl)
 have hc:aF (mine D wr) wr w':=tK hg hmi
 obtain⟨_,hi,_⟩:=k.mi
 obtain⟨_,hr,_⟩:=k.mr
 obtain⟨_,ht,_⟩:=k.mt
 have n:=k.ne
 exact⟨k.Ho hg k.og.1 hi hmi,k.h,k.f,k.sit hc,k.set hc k.b,(k.maps hc).1,(k.maps hc).2,hm,k.Ch hc (hg.block _ hr.lt (fun e=>by have:=n.2.2.2.2.2.2.1;simp at e;exact this e.symm)),k.Cg hc (hg.block _ ht.lt (fun e=>by have:=n.2.2.2.2.2.2.2.1;simp at e;exact this e.symm)),k.ne,k.og,⟨k.lo.1,k.lo.2.1,k.lo.2.2.1,Nat.le_trans k.lo.2.2.2 hg.size⟩,k.l2,fun x e=>Nat.lt_of_lt_of_le (k.le x e) hg.size⟩
theorem BM.Ur(k:BM D K ka kc w wr)(hg:wr.grownBy w' (some D.gr))(hm:Ip D w'):BM D K ka kc w w':=by
 have hmi:mine D wr D.gr:=.inr (.inr (.inl rfl))
 have hc:aF (mine D wr) wr w':=tK hg hmi
 obtain⟨_,hi,_⟩:=k.mi
 obtain⟨_,hr,_⟩:=k.mr
 obtain⟨_,ht,_⟩:=k.mt
 have n:=k.ne
 exact⟨k.Ho hg k.og.2.1 hr hmi,k.h,k.f,k.sit hc,k.set hc k.b,(k.maps hc).1,(k.maps hc).2,k.Ci hc (hg.block _ hi.lt (fun e=>by have:=n.2.2.2.2.2.2.1;simp at e;exact this e)),hm,k.Cg hc (hg.block _ ht.lt (fun e=>by have:=n.2.2.2.2.2.2.2.2;simp at e;exact this e.symm)),k.ne,k.og,⟨k.lo.1,k.lo.2.1,k.lo.2.2.1,Nat.le_trans k.lo.2.2.2 hg.size⟩,k.l2,fun x e=>Nat.lt_of_lt_of_le (k.le x e) hg.size⟩
theorem BM.Uo(k:BM D K ka kc w wr)(hg:wr.grownBy w' (some D.gt))(hm:Io D w'):BM D K ka kc w w':=by
 have hmi:mine D wr D.gt:=.inr (.inr (.inr (.inl rfl)))
 have hc:aF (mine D wr) wr w':=tK hg hmi
 obtain⟨_,hi,_⟩:=k.mi
 obtain⟨_,hr,_⟩:=k.mr
 obtain⟨_,ht,_⟩:=k.mt
 have n:=k.ne
 exact⟨k.Ho hg k.og.2.2 ht hmi,k.h,k.f,k.sit hc,k.set hc k.b,(k.maps hc).1,(k.maps hc).2,k.Ci hc (hg.block _ hi.lt (fun e=>by have:=n.2.2.2.2.2.2.2.1;simp at e;exact this e)),k.Ch hc (hg.block _ hr.lt (fun e=>by have:=n.2.2.2.2.2.2.2.2;simp at e;exact this e)),hm,k.ne,k.og,⟨k.lo.1,k.lo.2.1,k.lo.2.2.1,Nat.le_trans k.lo.2.2.2 hg.size⟩,k.l2,fun x e=>Nat.lt_of_lt_of_le (k.le x e) hg.size⟩
theorem BM.y2f(k:BM D K ka kc w wr){K':List Cn}{ka':Option Addr}{kc':Nat}(hk:BK D.v D.R K' ka' kc' w w')(hc0:aF (fun q=>q=D.R∨(Value.slice ka K.length kc).ownBlock=some q) wr w'):BM D K' ka' kc' w w'/\aF (mine D wr) wr w':=by
 have own:∀q,(Value.slice ka K.length kc).ownBlock=some q->∃cs fr,wr.heap[q]? = some (.cells cs 60 fr):=fun q hq=>by
  rcases k.bk.ow.2 with ⟨e,_⟩ | ⟨g,cap,cur,e,_,hh,_⟩
  ·rw[e]at hq;cases hq
  ·rw[e]at hq;cases hq;exact⟨_,_,hh⟩
 have hc:aF (mine D wr) wr w':=⟨hc0.sz,fun q hq hn=>hc0.eq q hq (by
  rintro(e | e)
  ·exact hn (.inl e)
  ·exact hn (.inr (.inr (.inr (.inr (own q e))))))⟩
 have stay:∀{κ:Type} [DecidableEq κ] {g:Nat} {enc:κ->Value} {F:κ->Option Value},bI wr g enc F->w'.heap[g]? = wr.heap[g]?:=fun {_ _ g _ _} h=>hc0.eq g h.lt (by
  rintro(e | e)
  ·subst e
   have:=k.bk.rb
   unfold ah at this
   exact h.cells _ _ _ this
  ·obtain⟨cs,fr,e⟩:=own g e
   exact h.cells _ _ _ e)
 obtain⟨_,hi,_⟩:=k.mi
 obtain⟨_,hr,_⟩:=k.mr
 obtain⟨_,ht,_⟩:=k.mt
 exact⟨⟨hk,k.h,k.f,k.sit hc,k.set hc k.b,(k.maps hc).1,(k.maps hc).2,k.Ci hc (stay hi),k.Ch hc (stay hr),k.Cg hc (stay ht),k.ne,k.og,⟨k.lo.1,k.lo.2.1,k.lo.2.2.1,Nat.le_trans k.lo.2.2.2 hc.sz⟩,k.l2,fun x e=>Nat.lt_of_lt_of_le (k.le x e) hc.sz⟩,hc⟩
abbrev BD.on(D:BD)(g:Nat):BD:={ D with ex:=some g }
theorem BM.on(k:BM D K ka kc w wr)(hb:Below wr.heap.size wr w'){g:Nat}(hg:wr.heap.size<=g)(hl:g<w'.heap.size):BM (D.on g) K ka kc w w':=by
 have k2:=k.below hb
 obtain⟨F,h1,h2⟩:=k.mt
 obtain⟨_,ht,_⟩:=k.mt
 refine⟨k2.bk,k.h,k.f,k2.s,k2.b,k2.ms,k2.mf,k2.mi,k2.mr,⟨F,h1.at (hb.block _ h1.lt),fun m v e=>?_⟩,k.ne,k.og,k2.lo,k.l2,fun x e=>by cases e;exact hl⟩
 obtain⟨g',G,e1,e2,e3,e4⟩:=h2 m v e
 have:=e3.lt
 exact⟨g',G,e1,⟨e2.1,fun e=>by cases e;omega⟩,k.tgt (aF.of_below hb) e2.1 e3,e4⟩
theorem BM.off{g:Nat}(k:BM (D.on g) K ka kc w wr)(h0:D.ex=none):BM D K ka kc w wr:=by
 obtain⟨F,h1,h2⟩:=k.mt
 refine⟨k.bk,k.h,k.f,k.s,k.b,k.ms,k.mf,k.mi,k.mr,⟨F,h1,fun m v e=>?_⟩,k.ne,k.og,k.lo,k.l2,fun x e=>by rw[h0]at e;cases e⟩
 obtain⟨g',G,e1,e2,e3,e4⟩:=h2 m v e
 exact⟨g',G,e1,⟨e2.1,fun e=>by rw[h0]at e;cases e⟩,e3,e4⟩
theorem BM.other{g:Nat}(k:BM (D.on g) K ka kc w wr)(hg:wr.grownBy w' (some g))(hlo:D.lo<=g)(hbs:w.heap.size<=g){κ:Type}[DecidableEq κ]{enc:κ->Value}{F0:κ->Option Value}(hm:bI wr g enc F0):BM (D.on g) K ka kc w w':=by
 have l1:=k.lo
 have l2:=k.l2
 have st:∀(b:Nat) (cs:Array Value) (t:TypeId) (fr:Nat × Nat),wr.heap[b]? = some (.cells cs t fr)->w'.heap[b]? = wr.heap[b]?:=fun b cs t fr e=>hg.block b (Array.getElem?_eq_some_iff.1 e).1 (fun e2=>by cases e2;exact bI.cells hm _ _ _ e)
 have sm:∀(q:Nat),q<wr.heap.size->q≠g->w'.heap[q]? = wr.heap[q]?:=fun q hq hn=>hg.block q hq (fun e=>hn (by cases e;rfl))
 have ss:∀{a:Option Addr} {l:List Int},bK wr a l->bK w' a l:=fun h=>h.Nl fun b cs fr e=>st b cs _ fr e
 obtain⟨Fi,hi,hi2⟩:=k.mi
 obtain⟨Fr,hr,hr2⟩:=k.mr
 obtain⟨Ft,ht,ht2⟩:=k.mt
 obtain⟨n0,hm0⟩:=hm
 simp only at l1 l2 hi hr ht
 refine⟨⟨k.bk.hb.grown hg k.bk.hb.size (fun q hq=>by cases hq;exact hbs),k.bk.rb.grown hg (r9 k.bk.rb hm0),oO k.bk.ow hm0 hg,fun x hx=>ss (k.bk.hk x hx),k.bk.hR⟩,k.h,k.f,k.s.keep fun b cs fr e=>st b cs _ fr e,ss k.b,k.ms.at (sm _ k.ms.lt (show D.gs≠g by have:=l2.1;omega)),k.mf.at (sm _ k.mf.lt (show D.gf≠g by have:=l2.2;omega)),⟨Fi,hi.at (sm _ hi.lt (by have:=l1.1;omega)),fun c v e=>?_⟩,⟨Fr,hr.at (sm _ hr.lt (by have:=l1.2.1;omega)),fun t v e=>?_⟩,⟨Ft,ht.at (sm _ ht.lt (by have:=l1.2.2.1;omega)),fun m v e=>?_⟩,k.ne,k.og,⟨l1.1,l1.2.1,l1.2.2.1,Nat.le_trans l1.2.2.2 hg.size⟩,k.l2,fun x e=>Nat.lt_of_lt_of_le (k.le x e) hg.size⟩
 ·obtain⟨a,cap,e1,e2⟩:=hi2 c v e
  exact⟨a,cap,e1,ss e2⟩
 ·obtain⟨a,l,cap,e1,e2,e3⟩:=hr2 t v e
  exact⟨a,l,cap,e1,e2,ss e3⟩
 ·obtain⟨g',G,e1,e2,e3,e4⟩:=ht2 m v e
  exact⟨g',G,e1,e2,e3.at (sm _ e3.lt (fun e=>e2.2 (by rw[e]))),e4⟩
theorem mine.fresh{w1:World}{g:Nat}(h1:aF (mine D wr) wr w1)(hg:w1.grownBy w' (some g))(hge:wr.heap.size<=g):aF (mine D wr) wr w' :=
 ⟨Nat.le_trans h1.sz hg.size,fun k hk hn=>by rw[hg.block k (Nat.lt_of_lt_of_le hk h1.sz) (fun e=>by cases e;omega)];exact h1.eq k hk hn⟩
theorem BM.rd(k:BM D K ka kc w wr):dV D.u D.ha D.hc D.fa D.fc D.bs D.ba D.bc D.R wr:=by
 have c0:=k.bk.rb.cell 0 (by simp)
 have c1:=k.bk.rb.cell 1 (by simp)
 have c5:=k.bk.rb.cell 5 (by simp)
 exact⟨c0,c1,c5,k.h.below k.bk.hb,k.f.below k.bk.hb,k.b.1⟩
theorem BM.cells(k:BM D K ka kc w wr):wr.cell? ⟨D.R,0,none⟩=some (.slice D.ha D.u.h.length D.hc)/\wr.cell? ⟨D.R,1,none⟩=some (.slice D.fa D.u.fs.length D.fc)/\wr.cell? ⟨D.R,2,none⟩=some (.int .i64 D.u.main)/\wr.cell? ⟨D.R,3,none⟩=some (.slice D.sa D.L.length D.sc)/\wr.cell? ⟨D.R,4,none⟩=some (.map (some D.gs))/\wr.cell? ⟨D.R,5,none⟩=some (.slice D.ba D.bs.length D.bc)/\wr.cell? ⟨D.R,6,none⟩=some (.map (some D.gf))/\wr.cell? ⟨D.R,7,none⟩=some (.map (some D.gi))/\wr.cell? ⟨D.R,8,none⟩=some (.map (some D.gr))/\wr.cell? ⟨D.R,9,none⟩=some (.map (some D.gt)) :=
 ⟨k.bk.rb.cell 0 (by simp),k.bk.rb.cell 1 (by simp),k.bk.rb.cell 2 (by simp),k.bk.rb.cell 3 (by simp),k.bk.rb.cell 4 (by simp),k.bk.rb.cell 5 (by simp),k.bk.rb.cell 6 (by simp),k.bk.rb.cell 7 (by simp),k.bk.rb.cell 8 (by simp),k.bk.rb.cell 9 (by simp)⟩
end

structure gI(D:BD):Prop where
 b:Ir D.u
 l:D.L.length<=100000
 n:D.bs.length=D.u.fs.length
 v:∀f (h:f<D.bs.length),0<=D.bs[f]/\D.bs[f]<=1000000000
 fl:D.u.fs.length<=1000000
 vl:∀f∈D.u.fs,f.vars.length<=1000000
 cl:∀f∈D.u.fs,f.code.length<=1000
 al:∀f∈D.u.fs,∀x∈f.code,x.args.length<=1000
 rg:∀f∈D.u.fs,∀x∈f.code,(-1<=x.dst/\x.dst<=1000000)/\(-1<=x.a/\x.a<=1000000)/\(-1<=x.b/\x.b<=1000000)
 ct:∀f∈D.u.fs,∀x∈f.code,x.aZ = -1∨(0<=x.aZ/\x.aZ<f.code.length)
 rk:∀f∈D.u.fs,∀x∈f.code,lN f x
theorem y0B{P:Nat->Prop}{w w':World}(hc:aF P w w'){b i:Nat}{v:Value}(h:w.cell? ⟨b,i,none⟩=some v)(hn:¬ P b):w'.cell? ⟨b,i,none⟩=some v:=by
 have hl:b<w.heap.size:=by
  unfold World.cell? at h
  cases hq:w.heap[b]? with
  |none=>simp[hq]at h
  |some o=>exact(Array.getElem?_eq_some_iff.1 hq).1
 have e:=hc.eq b hl hn
 rw[<-h]
 unfold World.cell?
 simp only[e]
structure aX(D:BD)(w W:World) where
 u:World
 bm:∃K ka kc,BM D K ka kc w u
 h:aF (mine D W) W u
theorem aX.cells{D:BD}{w W:World}(o:aX D w W):o.u.cell? ⟨D.R,0,none⟩=some (.slice D.ha D.u.h.length D.hc)/\o.u.cell? ⟨D.R,1,none⟩=some (.slice D.fa D.u.fs.length D.fc)/\o.u.cell? ⟨D.R,2,none⟩=some (.int .i64 D.u.main)/\o.u.cell? ⟨D.R,3,none⟩=some (.slice D.sa D.L.length D.sc)/\o.u.cell? ⟨D.R,4,none⟩=some (.map (some D.gs))/\o.u.cell? ⟨D.R,5,none⟩=some (.slice D.ba D.bs.length D.bc)/\o.u.cell? ⟨D.R,6,none⟩=some (.map (some D.gf))/\o.u.cell? ⟨D.R,7,none⟩=some (.map (some D.gi))/\o.u.cell? ⟨D.R,8,none⟩=some (.map (some D.gr))/\o.u.cell? ⟨D.R,9,none⟩=some (.map (some D.gt)):=by
 obtain⟨_,_,_,k⟩:=o.bm
 exact k.cells
theorem aX.old{D:BD}{w W:World}(o:aX D w W){b i:Nat}{v:Value}(h:W.cell? ⟨b,i,none⟩=some v)(hn:¬ mine D W b):o.u.cell? ⟨b,i,none⟩=some v:=y0B o.h h hn
theorem BM.cw{D:BD}{K:List Cn}{ka:Option Addr}{kc:Nat}{w W w':World}(k:BM D K ka kc w w')(h:aF (mine D W) W w'):∃o:aX D w W,w' = o.u:=⟨⟨w',⟨_,_,_,k⟩,h⟩,rfl⟩
theorem BM.zo{D:BD}{K:List Cn}{ka:Option Addr}{kc:Nat}{w wr:World}(k:BM D K ka kc w wr){b:Nat}{cs:Array Value}{t:TypeId}(h:ah wr b cs t)(h1:t≠81)(h2:t≠60):¬ mine D wr b:=by
 unfold ah at h
 exact k.iW h h1 h2
set_option maxRecDepth 100000 in
set_option maxHeartbeats 8000000 in
theorem cOf{D:BD}{K:List Cn}{ka:Option Addr}{kc:Nat}{w wr:World}(c:Str)(k:BM D K ka kc w wr)(o:gI D) :
 Calls Tryz.prog 76 #[.pointer (some ⟨D.R,0,none⟩),.string c] wr (fun e w'=>∃a cap,e = .returned (.slice a (dD D.u.h D.L c).length cap)/\bK w' a (dD D.u.h D.L c)/\BM D K ka kc w w'/\aF (mine D wr) wr w'):=by
 have S:=Lib.hid k
 have HI:Hid (∀w1,Below wr.heap.size wr w1->Calls Tryz.prog 61 #[bZ D.u D.ha D.hc D.fa D.fc,.slice D.sa D.L.length D.sc,.string c] w1 (oH (dD D.u.h D.L c) w1)):=fun w1 hb=>by
  have k1:=k.below hb
  exact ND D.u D.ha D.hc D.fa D.fc D.L D.sa D.sc c w1 (k1.h.below k1.bk.hb) (k1.f.below k1.bk.hb) k1.s.1 o.b.h.l (by have:=o.l;omega)
 obtain⟨F,⟨n,hm⟩,hF⟩:=k.mi
 have HM:=Lib.hid hm
 have HF:=Lib.hid hF
 clear k o hm hF
 obtain⟨z0,z1,z2,z3,-,-,-,z7,-,-⟩:=S.out.cells
 unfold bZ at HI
 go_enter Tryz.func76,Tryz.ntmps76
 cases h0:F c with
 |some v =>
  obtain⟨a,cap,rfl,hs⟩:=HF.out c v h0
  have HV:=Lib.hid h0
  have HS:=Lib.hid hs
  clear h0 hs HF HI
  go_wp2_with (at_lookup;refine jX rfl _ _ _ _ rfl iy Di _ (zI _) D.gi rfl HM.out c rfl ?_;rw[HV.out])
  go_ret
  exact⟨a,cap,rfl,HS.out,S.out,aF.refl _ _⟩
 |none =>
  have HV:=Lib.hid h0
  clear h0
  go_upto_region 3 with (at_lookup;refine jX rfl _ _ _ _ rfl iy Di _ (zI _) D.gi rfl HM.out c rfl ?_;rw[HV.out])
  have k0:∀o:WB wr,o.u.cell? ⟨D.R,0,none⟩=some (.slice D.ha D.u.h.length D.hc):=fun o=>cell_below o.h z0
  have k1:∀o:WB wr,o.u.cell? ⟨D.R,1,none⟩=some (.slice D.fa D.u.fs.length D.fc):=fun o=>cell_below o.h z1
  have k2:∀o:WB wr,o.u.cell? ⟨D.R,2,none⟩=some (.int .i64 D.u.main):=fun o=>cell_below o.h z2
  have k3:∀o:WB wr,o.u.cell? ⟨D.R,3,none⟩=some (.slice D.sa D.L.length D.sc):=fun o=>cell_below o.h z3
  have hne:Nonempty (WB wr):=⟨⟨wr,Below.refl _ _⟩⟩
  have h0:Below wr.heap.size wr wr.drew:=(Below.refl _ _).drew
  clear z0 z1 z2 z3 z7
  refine dC (fun w'=>∃o:WB wr,w' = o.u) (by kernel_rfl) ?_
  change bO _ _ _ _ _ _ _ _ wr.drew
  generalize wr.drew=V0 at *
  refine af 0 rfl (by kernel_rfl) (fun _ _ _ _ h=>h) ⟨⟨_,h0⟩,rfl⟩ (fun K hK=>?_);go_simp;refine hK _ ?_;clear hK K
  refine af 1 rfl (by kernel_rfl) (fun _ _ _ _ h=>h) ⟨⟨_,h0⟩,rfl⟩ (fun K hK=>?_);go_simp;refine hK _ ?_;clear hK K
  refine af 2 rfl (by kernel_rfl) (fun _ _ _ _ h=>h) ⟨⟨_,h0⟩,rfl⟩ (fun K hK=>?_);go_simp;refine hK _ ?_;clear hK K
  refine af 3 rfl (by kernel_rfl) (fun _ _ _ _ h=>h) ⟨⟨_,h0⟩,rfl⟩ (fun K hK=>?_);go_simp;refine hK _ ?_;clear hK K
  refine af 4 rfl (by kernel_rfl) (fun _ _ _ _ h=>h) ⟨⟨_,h0⟩,rfl⟩ (fun K hK=>?_);go_simp;refine hK _ ?_;clear hK K
  refine af 5 rfl (by kernel_rfl) (fun _ _ _ _ h=>h) ⟨⟨_,h0⟩,rfl⟩ (fun K hK=>?_);go_simp;refine hK _ ?_;clear hK K
  refine af 6 rfl (by kernel_rfl) (fun _ _ _ _ h=>h) ⟨⟨_,h0⟩,rfl⟩ (fun K hK=>?_);go_simp;refine hK _ ?_;clear hK K
  refine af 7 rfl (by kernel_rfl) (fun _ _ _ _ h=>h) ⟨⟨_,h0⟩,rfl⟩ (fun K hK=>?_);go_simp;refine hK _ ?_;clear hK K
  refine af 8 rfl (by kernel_rfl) (fun _ _ _ _ h=>h) ⟨⟨_,h0⟩,rfl⟩ (fun K hK=>?_);go_simp;refine hK _ ?_;clear hK K
  refine aP 9 rfl (by kernel_rfl) ?_
  go_wp2_with fail
  refine(HI.out _ h0).mono ?_
  rintro e w2 ⟨hb2,ia,ic,rfl,ow2⟩
  have h1:Below wr.heap.size wr w2:=h0.trans (hb2.mono h0.size)
  have SA:=Lib.hid (zZ ow2)
  clear hb2 ow2
  go_wp2
  refine⟨⟨⟨_,h1⟩,rfl⟩,?_⟩
  refine aP 10 rfl (by kernel_rfl) ?_
  go_wp2
  refine⟨⟨⟨_,h1⟩,rfl⟩,?_⟩
  refine dh (by kernel_rfl) ?_ _
  have H1:=Lib.hid h1
  clear k0 k1 k2 k3 hne h0 h1 HI
  have S2:=Lib.hid (S.out.below H1.out)
  have HM2:=Lib.hid (HM.out.below H1.out)
  have z7:=S2.out.cells.2.2.2.2.2.2.2.1
  go_wp2_with (at_mapUpdate;refine jW rfl _ _ _ _ rfl iy Di D.gi rfl HM2.out c rfl (.slice ia (dD D.u.h D.L c).length ic) rfl ?_;intro w5 hm5 hg5 hs5)
  have hc5:aF (mine D w2) w2 w5:=tK hg5 (.inr (.inl rfl))
  go_ret
  refine⟨ia,ic,rfl,S2.out.set hc5 SA.out,S2.out.Us hg5 ⟨_,⟨_,hm5⟩,fun c' v e=>?_⟩,mine.trans (aF.of_below H1.out) hc5⟩
  by_cases hcc:c' = c
  ·subst hcc
   rw[if_pos rfl]at e
   cases e
   exact⟨ia,ic,rfl,S2.out.set hc5 SA.out⟩
  ·rw[if_neg hcc]at e
   obtain⟨a,cap,e1,e2⟩:=HF.out c' v e
   exact⟨a,cap,e1,S2.out.set hc5 (e2.below H1.out)⟩


set_option maxRecDepth 100000 in
set_option maxHeartbeats 8000000 in
theorem y0Z{D:BD}{K:List Cn}{ka:Option Addr}{kc:Nat}{w wr:World}(c m:Str)(g:Int)(k:BM D K ka kc w wr)(o:gI D) :
 Calls Tryz.prog 44 #[.pointer (some ⟨D.R,0,none⟩),.agg #[.string c,.string m,.int .i64 g]] wr (fun e w'=>∃a l cap,e = .returned (.slice a l.length cap)/\l.length<=D.L.length/\bK w' a l/\BM D K ka kc w w'/\aF (mine D wr) wr w'):=by
 have S:=Lib.hid k
 have HI:Hid (∀w1,Below wr.heap.size wr w1->Calls Tryz.prog 28 #[bZ D.u D.ha D.hc D.fa D.fc,.slice D.sa D.L.length D.sc,.string c,.string m,.int .i64 g] w1 (oH (kW D.u.h D.u.fs D.L c m g) w1)):=fun w1 hb=>by
  have k1:=k.below hb
  exact KN D.u D.ha D.hc D.fa D.fc D.L D.sa D.sc c m g w1 (k1.h.below k1.bk.hb) (k1.f.below k1.bk.hb) k1.s.1 o.b (by have:=o.l;omega)
 have HRL:(kW D.u.h D.u.fs D.L c m g).length<=D.L.length:=by
  unfold kW
  split
  ·exact Nat.zero_le _
  ·exact Nat.le_trans (List.length_filter_le _ _) (A7 _ _)
 obtain⟨F,⟨n,hm⟩,hF⟩:=k.mr
 have HM:=Lib.hid hm
 have HF:=Lib.hid hF
 clear k o hm hF
 have S1:=Lib.hid (S.out.below (av wr (.cells #[.string c,.string m,.int .i64 g] 119)))
 have HX:Hid (ah (wr.alloc (.cells #[.string c,.string m,.int .i64 g] 119)) wr.heap.size #[.string c,.string m,.int .i64 g] 119):=aL ..
 have HMW:=Lib.hid (HM.out.below (av wr (.cells #[.string c,.string m,.int .i64 g] 119)))
 have HCB:Hid (aF (mine D wr) wr (wr.alloc (.cells #[.string c,.string m,.int .i64 g] 119))):=aF.of_below (av ..)
 have HI1:Hid (∀w1,Below (wr.alloc (.cells #[.string c,.string m,.int .i64 g] 119)).heap.size (wr.alloc (.cells #[.string c,.string m,.int .i64 g] 119)) w1->Calls Tryz.prog 28 #[bZ D.u D.ha D.hc D.fa D.fc,.slice D.sa D.L.length D.sc,.string c,.string m,.int .i64 g] w1 (oH (kW D.u.h D.u.fs D.L c m g) w1)):=fun w1 hb=>HI.out w1 ((av ..).trans (hb.mono (av ..).size))
 have HSB:Hid (∀w1 a l,Below (wr.alloc (.cells #[.string c,.string m,.int .i64 g] 119)).heap.size (wr.alloc (.cells #[.string c,.string m,.int .i64 g] 119)) w1->bK wr a l->bK w1 a l):=fun w1 a l hb hs=>hs.below ((av ..).trans (hb.mono (av ..).size))
 clear HI HM
 unfold bZ at HI1
 go_enter Tryz.func44,Tryz.ntmps44
 go_upto_region 1 with (fail)
 generalize wr.heap.size=n3 at *
 generalize wr.alloc _=W at *
 obtain⟨z0,z1,z2,z3,-,-,-,-,z8,-⟩:=S1.out.cells
 have x0:=HX.out.cell 0 (by simp)
 have x1:=HX.out.cell 1 (by simp)
 have x2:=HX.out.cell 2 (by simp)
 simp only[List.getElem_toArray,List.getElem_cons_zero,List.getElem_cons_succ]at x0 x1 x2
 have k0:∀o:WB W,o.u.cell? ⟨D.R,0,none⟩=some (.slice D.ha D.u.h.length D.hc):=fun o=>cell_below o.h z0
 have k1:∀o:WB W,o.u.cell? ⟨D.R,1,none⟩=some (.slice D.fa D.u.fs.length D.fc):=fun o=>cell_below o.h z1
 have k2:∀o:WB W,o.u.cell? ⟨D.R,2,none⟩=some (.int .i64 D.u.main):=fun o=>cell_below o.h z2
 have k3:∀o:WB W,o.u.cell? ⟨D.R,3,none⟩=some (.slice D.sa D.L.length D.sc):=fun o=>cell_below o.h z3
 have k8:∀o:WB W,o.u.cell? ⟨D.R,8,none⟩=some (.map (some D.gr)):=fun o=>cell_below o.h z8
 have y0:∀o:WB W,o.u.cell? ⟨n3,0,none⟩=some (.string c):=fun o=>cell_below o.h x0
 have y1:∀o:WB W,o.u.cell? ⟨n3,1,none⟩=some (.string m):=fun o=>cell_below o.h x1
 have y2:∀o:WB W,o.u.cell? ⟨n3,2,none⟩=some (.int .i64 g):=fun o=>cell_below o.h x2
 have hne:Nonempty (WB W):=⟨⟨W,Below.refl _ _⟩⟩
 have h0:Below W.heap.size W W.drew:=(Below.refl _ _).drew
 clear x0 x1 x2 z0 z1 z2 z3 z8
 cases hF0:F ((c,m),g)with
 |some v =>
  obtain⟨a,l,cap,rfl,hl,hs⟩:=HF.out _ v hF0
  have hlk:∀o:WB W,(Instr.lookup 78 (.map (some D.gr)) (.agg #[.string c,.string m,.int .i64 g]) true).run Tryz.prog o.u = .ok (.tuple #[.slice a l.length cap,.bool true]) o.u:=fun o=>by
   have:=(HMW.out.below o.h).lookup FC Dh (zI o.u) ((c,m),g) true
   rw[hF0]at this
   exact this
  have HS:Hid (∀w1,Below W.heap.size W w1->bK w1 a l):=fun w1 hb=>HSB.out w1 a l hb hs
  clear hs hF0 HF HI1 HSB
  refine dC (fun w'=>∃o:WB W,w' = o.u) (by kernel_rfl) ?_
  change bO _ _ _ _ _ _ _ _ W.drew
  generalize W.drew=V0 at *
  refine af 0 rfl (by kernel_rfl) (fun _ _ _ _ h=>h) ⟨⟨_,h0⟩,rfl⟩ (fun K hK=>?_);go_simp;refine hK _ ?_;clear hK K
  refine af 1 rfl (by kernel_rfl) (fun _ _ _ _ h=>h) ⟨⟨_,h0⟩,rfl⟩ (fun K hK=>?_);go_simp;refine hK _ ?_;clear hK K
  refine af 2 rfl (by kernel_rfl) (fun _ _ _ _ h=>h) ⟨⟨_,h0⟩,rfl⟩ (fun K hK=>?_);go_simp;refine hK _ ?_;clear hK K
  refine af 3 rfl (by kernel_rfl) (fun _ _ _ _ h=>h) ⟨⟨_,h0⟩,rfl⟩ (fun K hK=>?_);go_simp;refine hK _ ?_;clear hK K
  refine af 4 rfl (by kernel_rfl) (fun _ _ _ _ h=>h) ⟨⟨_,h0⟩,rfl⟩ (fun K hK=>?_);go_simp;refine hK _ ?_;clear hK K
  refine af 5 rfl (by kernel_rfl) (fun _ _ _ _ h=>h) ⟨⟨_,h0⟩,rfl⟩ (fun K hK=>?_);go_simp;refine hK _ ?_;clear hK K
  refine af 6 rfl (by kernel_rfl) (fun _ _ _ _ h=>h) ⟨⟨_,h0⟩,rfl⟩ (fun K hK=>?_);go_simp;refine hK _ ?_;clear hK K
  refine af 7 rfl (by kernel_rfl) (fun _ _ _ _ h=>h) ⟨⟨_,h0⟩,rfl⟩ (fun K hK=>?_);go_simp;refine hK _ ?_;clear hK K
  refine af 8 rfl (by kernel_rfl) (fun _ _ _ _ h=>h) ⟨⟨_,h0⟩,rfl⟩ (fun K hK=>?_);go_simp;refine hK _ ?_;clear hK K
  refine aP 9 rfl (by kernel_rfl) ?_
  go_wp2
  refine⟨⟨⟨_,h0⟩,rfl⟩,?_⟩
  refine aP 10 rfl (by kernel_rfl) ?_
  go_wp2
  refine⟨⟨⟨_,h0⟩,rfl⟩,?_⟩
  refine dh (by kernel_rfl) ?_ _
  have H0:=Lib.hid h0
  clear hlk k0 k1 k2 k3 k8 y0 y1 y2 h0 hne
  go_wp2
  go_ret
  exact⟨a,l,cap,rfl,hl,HS.out _ H0.out,S1.out.below H0.out,mine.trans HCB.out (aF.of_below H0.out)⟩
 |none =>
  have hlk:∀o:WB W,(Instr.lookup 78 (.map (some D.gr)) (.agg #[.string c,.string m,.int .i64 g]) true).run Tryz.prog o.u = .ok (.tuple #[.slice none 0 0,.bool false]) o.u:=fun o=>by
   have:=(HMW.out.below o.h).lookup FC Dh (zI o.u) ((c,m),g) true
   rw[hF0]at this
   exact this
  refine dC (fun w'=>∃o:WB W,w' = o.u) (by kernel_rfl) ?_
  change bO _ _ _ _ _ _ _ _ W.drew
  generalize W.drew=V0 at *
  refine af 0 rfl (by kernel_rfl) (fun _ _ _ _ h=>h) ⟨⟨_,h0⟩,rfl⟩ (fun K hK=>?_);go_simp;refine hK _ ?_;clear hK K
  refine af 1 rfl (by kernel_rfl) (fun _ _ _ _ h=>h) ⟨⟨_,h0⟩,rfl⟩ (fun K hK=>?_);go_simp;refine hK _ ?_;clear hK K
  refine af 2 rfl (by kernel_rfl) (fun _ _ _ _ h=>h) ⟨⟨_,h0⟩,rfl⟩ (fun K hK=>?_);go_simp;refine hK _ ?_;clear hK K
  refine af 3 rfl (by kernel_rfl) (fun _ _ _ _ h=>h) ⟨⟨_,h0⟩,rfl⟩ (fun K hK=>?_);go_simp;refine hK _ ?_;clear hK K
  refine af 4 rfl (by kernel_rfl) (fun _ _ _ _ h=>h) ⟨⟨_,h0⟩,rfl⟩ (fun K hK=>?_);go_simp;refine hK _ ?_;clear hK K
  refine af 5 rfl (by kernel_rfl) (fun _ _ _ _ h=>h) ⟨⟨_,h0⟩,rfl⟩ (fun K hK=>?_);go_simp;refine hK _ ?_;clear hK K
  refine af 6 rfl (by kernel_rfl) (fun _ _ _ _ h=>h) ⟨⟨_,h0⟩,rfl⟩ (fun K hK=>?_);go_simp;refine hK _ ?_;clear hK K
  refine af 7 rfl (by kernel_rfl) (fun _ _ _ _ h=>h) ⟨⟨_,h0⟩,rfl⟩ (fun K hK=>?_);go_simp;refine hK _ ?_;clear hK K
  refine af 8 rfl (by kernel_rfl) (fun _ _ _ _ h=>h) ⟨⟨_,h0⟩,rfl⟩ (fun K hK=>?_);go_simp;refine hK _ ?_;clear hK K
  refine aP 9 rfl (by kernel_rfl) ?_
  go_wp2
  refine⟨⟨⟨_,h0⟩,rfl⟩,?_⟩
  refine aP 10 rfl (by kernel_rfl) ?_
  go_wp2
  refine⟨⟨⟨_,h0⟩,rfl⟩,?_⟩
  refine dh (by kernel_rfl) ?_ _
  clear hlk
  go_upto_region 3 with (fail)
  have h2:Below W.heap.size W V0.drew:=h0.drew
  refine dC (fun w'=>∃o:WB W,w' = o.u) (by kernel_rfl) ?_
  change bO _ _ _ _ _ _ _ _ V0.drew
  generalize V0.drew=V1 at *
  refine af 0 rfl (by kernel_rfl) (fun _ _ _ _ h=>h) ⟨⟨_,h2⟩,rfl⟩ (fun K hK=>?_);go_simp;refine hK _ ?_;clear hK K
  refine af 1 rfl (by kernel_rfl) (fun _ _ _ _ h=>h) ⟨⟨_,h2⟩,rfl⟩ (fun K hK=>?_);go_simp;refine hK _ ?_;clear hK K
  refine af 2 rfl (by kernel_rfl) (fun _ _ _ _ h=>h) ⟨⟨_,h2⟩,rfl⟩ (fun K hK=>?_);go_simp;refine hK _ ?_;clear hK K
  refine af 3 rfl (by kernel_rfl) (fun _ _ _ _ h=>h) ⟨⟨_,h2⟩,rfl⟩ (fun K hK=>?_);go_simp;refine hK _ ?_;clear hK K
  refine af 4 rfl (by kernel_rfl) (fun _ _ _ _ h=>h) ⟨⟨_,h2⟩,rfl⟩ (fun K hK=>?_);go_simp;refine hK _ ?_;clear hK K
  refine af 5 rfl (by kernel_rfl) (fun _ _ _ _ h=>h) ⟨⟨_,h2⟩,rfl⟩ (fun K hK=>?_);go_simp;refine hK _ ?_;clear hK K
  refine af 6 rfl (by kernel_rfl) (fun _ _ _ _ h=>h) ⟨⟨_,h2⟩,rfl⟩ (fun K hK=>?_);go_simp;refine hK _ ?_;clear hK K
  refine af 7 rfl (by kernel_rfl) (fun _ _ _ _ h=>h) ⟨⟨_,h2⟩,rfl⟩ (fun K hK=>?_);go_simp;refine hK _ ?_;clear hK K
  refine af 8 rfl (by kernel_rfl) (fun _ _ _ _ h=>h) ⟨⟨_,h2⟩,rfl⟩ (fun K hK=>?_);go_simp;refine hK _ ?_;clear hK K
  refine af 9 rfl (by kernel_rfl) (fun _ _ _ _ h=>h) ⟨⟨_,h2⟩,rfl⟩ (fun K hK=>?_);go_simp;refine hK _ ?_;clear hK K
  refine af 10 rfl (by kernel_rfl) (fun _ _ _ _ h=>h) ⟨⟨_,h2⟩,rfl⟩ (fun K hK=>?_);go_simp;refine hK _ ?_;clear hK K
  refine af 11 rfl (by kernel_rfl) (fun _ _ _ _ h=>h) ⟨⟨_,h2⟩,rfl⟩ (fun K hK=>?_);go_simp;refine hK _ ?_;clear hK K
  refine af 12 rfl (by kernel_rfl) (fun _ _ _ _ h=>h) ⟨⟨_,h2⟩,rfl⟩ (fun K hK=>?_);go_simp;refine hK _ ?_;clear hK K
  refine af 13 rfl (by kernel_rfl) (fun _ _ _ _ h=>h) ⟨⟨_,h2⟩,rfl⟩ (fun K hK=>?_);go_simp;refine hK _ ?_;clear hK K
  refine af 14 rfl (by kernel_rfl) (fun _ _ _ _ h=>h) ⟨⟨_,h2⟩,rfl⟩ (fun K hK=>?_);go_simp;refine hK _ ?_;clear hK K
  refine af 15 rfl (by kernel_rfl) (fun _ _ _ _ h=>h) ⟨⟨_,h2⟩,rfl⟩ (fun K hK=>?_);go_simp;refine hK _ ?_;clear hK K
  refine aP 16 rfl (by kernel_rfl) ?_
  go_wp2_with fail
  refine(HI1.out _ h2).mono ?_
  rintro e w2 ⟨hb2,ia,ic,rfl,ow2⟩
  have h3:Below W.heap.size W w2:=h2.trans (hb2.mono h2.size)
  have SA:=Lib.hid (zZ ow2)
  clear hb2 ow2 HI1
  go_wp2
  refine⟨⟨⟨_,h3⟩,rfl⟩,?_⟩
  refine aP 17 rfl (by kernel_rfl) ?_
  go_wp2
  refine⟨⟨⟨_,h3⟩,rfl⟩,?_⟩
  refine dh (by kernel_rfl) ?_ _
  have H3:=Lib.hid h3
  clear h3 h2 h0
  have S2:=Lib.hid (S1.out.below H3.out)
  have HM2:=Lib.hid (HMW.out.below H3.out)
  generalize kW D.u.h D.u.fs D.L c m g=R at *
  have HX2:=Lib.hid (HX.out.below H3.out)
  have hnm:=S2.out.zo HX2.out (by decide) (by decide)
  have S3:=Lib.hid (S2.out.below (Below.refl _ w2).drew)
  have H4:Hid (aF (mine D w2) w2 w2.drew):=aF.of_below (Below.refl _ w2).drew
  have HM3:=Lib.hid (HM2.out.below (Below.refl _ w2).drew)
  have SA3:=Lib.hid (SA.out.below (Below.refl _ w2).drew)
  have HV2:Hid (Below W.heap.size W w2.drew):=H3.out.drew
  have x0:=HX2.out.cell 0 (by simp)
  have x1:=HX2.out.cell 1 (by simp)
  have x2:=HX2.out.cell 2 (by simp)
  simp only[List.getElem_toArray,List.getElem_cons_zero,List.getElem_cons_succ]at x0 x1 x2
  clear k0 k1 k2 k3 k8 y0 y1 y2 hne
  have k8:∀o:aX D w w2,o.u.cell? ⟨D.R,8,none⟩=some (.map (some D.gr)):=fun o=>o.cells.2.2.2.2.2.2.2.2.1
  have y0:∀o:aX D w w2,o.u.cell? ⟨n3,0,none⟩=some (.string c):=fun o=>o.old x0 hnm
  have y1:∀o:aX D w w2,o.u.cell? ⟨n3,1,none⟩=some (.string m):=fun o=>o.old x1 hnm
  have y2:∀o:aX D w w2,o.u.cell? ⟨n3,2,none⟩=some (.int .i64 g):=fun o=>o.old x2 hnm
  have hcw:=S3.out.cw H4.out
  have hne:Nonempty (aX D w w2):=hcw.elim fun o _=>⟨o⟩
  clear x0 x1 x2 hnm
  go_upto_region 4 with (fail)
  refine dC (fun w'=>∃o:aX D w w2,w' = o.u) (by kernel_rfl) ?_
  change bO _ _ _ _ _ _ _ _ w2.drew
  generalize w2.drew=V2 at *
  refine af 0 rfl (by kernel_rfl) (fun _ _ _ _ h=>h) hcw (fun K hK=>?_);go_simp;refine hK _ ?_;clear hK K
  refine af 1 rfl (by kernel_rfl) (fun _ _ _ _ h=>h) hcw (fun K hK=>?_);go_simp;refine hK _ ?_;clear hK K
  refine af 2 rfl (by kernel_rfl) (fun _ _ _ _ h=>h) hcw (fun K hK=>?_);go_simp;refine hK _ ?_;clear hK K
  refine af 3 rfl (by kernel_rfl) (fun _ _ _ _ h=>h) hcw (fun K hK=>?_);go_simp;refine hK _ ?_;clear hK K
  refine af 4 rfl (by kernel_rfl) (fun _ _ _ _ h=>h) hcw (fun K hK=>?_);go_simp;refine hK _ ?_;clear hK K
  refine af 5 rfl (by kernel_rfl) (fun _ _ _ _ h=>h) hcw (fun K hK=>?_);go_simp;refine hK _ ?_;clear hK K
  refine aP 6 rfl (by kernel_rfl) ?_
  refine jW rfl _ _ _ _ rfl FC Dh D.gr rfl HM3.out ((c,m),g) rfl (.slice ia R.length ic) rfl ?_
  intro w5 hm5 hg5 hs5
  have hc5:aF (mine D V2) V2 w5:=tK hg5 (.inr (.inr (.inl rfl)))
  have S5:=Lib.hid (S3.out.Ur hg5 ⟨_,⟨_,hm5⟩,fun t v e=>by
   by_cases ht:t=((c,m),g)
   ·subst ht
    rw[if_pos rfl]at e
    cases e
    exact⟨ia,R,ic,rfl,HRL,S3.out.set hc5 SA3.out⟩
   ·rw[if_neg ht]at e
    obtain⟨a,l,cap,e1,e2,e3⟩:=HF.out t v e
    exact⟨a,l,cap,e1,e2,S3.out.set hc5 (HSB.out _ _ _ HV2.out e3)⟩⟩)
  refine⟨S5.out.cw (mine.trans H4.out hc5),?_⟩
  refine dh (by kernel_rfl) ?_ _
  have HZ:Hid (aF (mine D wr) wr w5):=mine.trans HCB.out (mine.trans (aF.of_below H3.out) (mine.trans H4.out hc5))
  have SZ:=Lib.hid (S3.out.set hc5 SA3.out)
  clear k8 y0 y1 y2 hne hcw
  go_wp2
  go_ret
  exact⟨ia,R,ic,rfl,HRL,SZ.out,S5.out,HZ.out⟩
end Go.Proofs.YtjnbddedmbhiaaaGreatDoor
