/-
  The tries: what is set is got. The paths of numbers.
-/
import Derived.Test.YtjnbddedmbhiaaaGreatDoorPk04
import Derived.Below
import Derived.Deep.MidRow
namespace Go.AM
theorem lh{α:Type}(p:List D):T.get p (.e:T α)=none:=by
 cases p<;>rfl
theorem Be{α:Type}(d:D)(p:List D)(t:T α):T.get (d::p) t=Oa d (T.get p) t:=rfl
theorem set_nil{α:Type}(x:Option α)(t:T α):T.set [] x t=set0 x t:=rfl
theorem Tf{α:Type}(d:D)(p:List D)(x:Option α)(t:T α):T.set (d::p) x t=set1 d (T.set p x) t:=rfl
theorem Ga{α:Type}:∀(q p:List D) (x:Option α) (t:T α),T.get p (T.set q x t)=if p=q then x else T.get p t
 |[],p,x,t=>by
  rw[set_nil]
  cases p with
  |nil=>cases t<;>rfl
  |cons d p =>
   rw[if_neg (by simp),Be,Be]
   cases t with
   |e=>cases d<;>exact lh p
   |n v c0 c1 c2 c3=>rfl
 |d::q,p,x,t=>by
  rw[Tf]
  cases p with
  |nil=>cases t<;>cases d<;>rfl
  |cons d' p =>
   rw[Be,Be]
   cases t with
   |e =>
    have h:=Ga q p x .e
    rw[lh]at h
    cases d<;>cases d'<;>first | (simp only[List.cons.injEq,true_and];exact h) | (rw[if_neg (by simp)];exact lh p)
   |n v c0 c1 c2 c3 =>
    cases d<;>cases d'<;>first | (simp only[List.cons.injEq,true_and];exact Ga q p x _) | (rw[if_neg (by simp)];rfl)
def D.val:D->Nat
 | .d0=>0 | .d1=>1 | .d2=>2 | .d3=>3
def xz:List D->Nat
 |[]=>0
 |d::l=>4*xz l+d.val+1
theorem ZK{k:Nat}(h:k<4):(digit k).val=k:=by
 match k,h with
 |0,_=>rfl
 |1,_=>rfl
 |2,_=>rfl
 |3,_=>rfl
def zm:Nat->Nat
 |0=>1
 |f+1=>4*zm f+1
theorem Df:∀(f k:Nat),k<zm f->xz (path f k)=k
 |0,k,h=>by
  have:k=0:=by simp only[zm]at h;omega
  subst this;rfl
 |f+1,k,h=>by
  simp only[zm]at h
  unfold path
  cases hk:Nat.beq k 0 with
  |true=>simp only[xz];have:=Nat.eq_of_beq_eq_true hk;omega
  |false =>
   have hk':k≠0:=fun e=>by subst e;cases hk
   have e1:Nat.mod (Nat.sub k 1) 4=(k-1) % 4:=rfl
   have e2:Nat.div (Nat.sub k 1) 4=(k-1) / 4:=rfl
   simp only[xz,e1,e2]
   rw[Df f ((k-1) / 4) (by omega),ZK (by omega)]
   omega
theorem Uv{k j:Nat}(hk:k<22369621)(hj:j<22369621)(h:az k=az j):k=j:=by
 have hb:zm 12=22369621:=by decide
 rw[<-Df 12 k (by rw[hb];exact hk),<-Df 12 j (by rw[hb];exact hj)]
 exact congrArg xz h
theorem fu{α:Type}{k j:Nat}(hk:k<22369621)(hj:j<22369621)(x:Option α)(t:T α) :
 T.get (az k) (T.set (az j) x t)=if k=j then x else T.get (az k) t:=by
 rw[Ga]
 by_cases h:k=j
 ·subst h;simp
 ·rw[if_neg h,if_neg (fun e=>h (Uv hk hj e))]
end Go.AM
namespace Go.AM
abbrev bB:=Nat->Prop
structure dJ(B:bB)(w:World):Prop where
 low:lowN<=w.heap.size
 lt:∀k,B k->k<w.heap.size
theorem dJ.out{B:bB}{w:World}(h:dJ B w):¬ B w.heap.size:=fun hb=>Nat.lt_irrefl _ (h.lt _ hb)
theorem dJ.mono{B:bB}{w w':World}(h:dJ B w)(hw:w.heap.size<=w'.heap.size):dJ B w':=⟨Nat.le_trans h.low hw,fun k hk=>Nat.lt_of_lt_of_le (h.lt k hk) hw⟩
structure bM(B:bB)(w w':World):Prop where
 os:w'.os=w.os
 tape:w'.tape=w.tape
 output:w'.output=w.output
 size:w.heap.size<=w'.heap.size
 block:∀k,B k->w'.heap[k]? = w.heap[k]?
theorem bM.refl(B:bB)(w:World):bM B w w:=⟨rfl,rfl,rfl,Nat.le_refl _,fun _ _=>rfl⟩
theorem bM.trans{B:bB}{a b c:World}(h:bM B a b)(k:bM B b c):bM B a c :=
 ⟨k.os.trans h.os,k.tape.trans h.tape,k.output.trans h.output,Nat.le_trans h.size k.size,fun i hi=>(k.block i hi).trans (h.block i hi)⟩
theorem bM.drew{B:bB}{a w:World}(h:bM B a w):bM B a w.drew:=⟨h.os,h.tape,h.output,h.size,h.block⟩
theorem bM.alloc{B:bB}{a w:World}(h:bM B a w)(hB:dJ B w)(o:Obj):bM B a (w.alloc o) :=
 ⟨h.os,h.tape,h.output,Nat.le_trans h.size (by show w.heap.size<=(w.heap.push o).size;simp),fun k hk=>(Go.RowKit.Below.heap_alloc w o k (hB.lt k hk)).trans (h.block k hk)⟩
structure Loc where
 blk:Nat
 base:Nat
 cap:Nat
 sz:Nat
abbrev ax:=Nat->Option Loc
def ax.le(E E':ax):Prop:=∀r l,E r=some l->E' r=some l
theorem ax.le_refl(E:ax):E.le E:=fun _ _ h=>h
theorem ax.le_trans{E E' E'':ax}(h:E.le E')(h':E'.le E''):E.le E'':=fun r l x=>h' r l (h r l x)
mutual
def ag(E:ax):AV->Value->Prop
 | .u,_=>True
 | .b x,v=>v = .bool x
 | .i k n,v=>v = .int k n
 | .s l,v=>∃s:ByteArray,v = .string s/\s.data.toList.map (·.toNat)=l
 | .p0,v=>v = .pointer none
 | .p r o,v=>∃l,E r=some l/\v = .pointer (some ⟨l.blk,l.base+o,none⟩)
 | .l0,v=>v = .slice none 0 0
 | .l r k n,v=>∃l,E r=some l/\k+n<=l.cap/\∃o,(k<l.cap∨k=0->o=l.base+k*l.sz)/\v = .slice (some ⟨l.blk,o,none⟩) n (l.cap-k)
 | .m0,v=>v = .map none
 | .m r,v=>∃l,E r=some l/\v = .map (some l.blk)
 | .f0,v=>v = .nilFunc
 | .f fn a c,v=>∃la lc:List Value,v = .func fn la.toArray lc.toArray/\au E a la/\au E c lc
 | .x0,v=>v = .nilIface
 | .x t w,v=>∃u,v = .iface t u/\ag E w u
 | .a c,v=>∃l:List Value,v = .agg l.toArray/\au E c l
 | .t c,v=>∃l:List Value,v = .tuple l.toArray/\au E c l
 | .nl,_=>False
 | .cn _ _,_=>False
def au(E:ax):AV->List Value->Prop
 | .nl,l=>l=[]
 | .cn h t,l=>∃x m,l=x::m/\ag E h x/\au E t m
 |_,_=>False
end
theorem KL{E E':ax}(h:E.le E')(a:AV):(∀v,ag E a v->ag E' a v)/\(∀l,au E a l->au E' a l):=by
 induction a with
 |p r o=>exact⟨fun v ⟨l,hl,hv⟩=>⟨l,h r l hl,hv⟩,fun l hl=>by simp only[au]at hl⟩
 |l r k n=>exact⟨fun v ⟨l,hl,hv⟩=>⟨l,h r l hl,hv⟩,fun l hl=>by simp only[au]at hl⟩
 |m r=>exact⟨fun v ⟨l,hl,hv⟩=>⟨l,h r l hl,hv⟩,fun l hl=>by simp only[au]at hl⟩
 |f fn a c iha ihc=>exact⟨fun v ⟨la,lc,hv,h1,h2⟩=>⟨la,lc,hv,iha.2 la h1,ihc.2 lc h2⟩,fun l hl=>by simp only[au]at hl⟩
 |x t w ih=>exact⟨fun v ⟨u,hv,h1⟩=>⟨u,hv,ih.1 u h1⟩,fun l hl=>by simp only[au]at hl⟩
 |a c ih=>exact⟨fun v ⟨l,hv,h1⟩=>⟨l,hv,ih.2 l h1⟩,fun l hl=>by simp only[au]at hl⟩
 |t c ih=>exact⟨fun v ⟨l,hv,h1⟩=>⟨l,hv,ih.2 l h1⟩,fun l hl=>by simp only[au]at hl⟩
 |cn x t ihx iht=>exact⟨fun v hv=>by simp only[ag]at hv,fun l ⟨y,m,hl,h1,h2⟩=>⟨y,m,hl,ihx.1 y h1,iht.2 m h2⟩⟩
 |_=>refine⟨fun v hv=>?_,fun l hl=>?_⟩<;>first | trivial | (simp only[ag]at hv ⊢;exact hv) | (simp only[au]at hl ⊢;exact hl) | (simp only[ag]at hv) | (simp only[au]at hl)
theorem ag.mono{E E':ax}{a:AV}{v:Value}(hv:ag E a v)(h:E.le E'):ag E' a v:=(KL h a).1 v hv
theorem au.mono{E E':ax}{a:AV}{l:List Value}(hv:au E a l)(h:E.le E'):au E' a l:=(KL h a).2 l hv
theorem au.len{E:ax}:∀{a:AV} {l:List Value},au E a l->eu a=l.length:=by
 intro a
 induction a with
 |nl=>intro l h;simp only[au]at h;subst h;rfl
 |cn x t _ ih =>
  intro l h
  simp only[au]at h
  obtain⟨y,m,rfl,_,h2⟩:=h
  have:=ih h2
  simp only[List.length_cons,<-this]
  rfl
 |_=>intro l h;simp only[au]at h
theorem au.nth{E:ax}{f:AV->Out}{out:Out}:∀(n:Nat) {a:AV} {l:List Value},au E a l->rC n a f=out->out≠none->∃h x,l[n]? = some x/\ag E h x/\f h=out
 |0,a,l,h,hn,ho=>by
  cases a with
  |cn x t =>
   simp only[au]at h
   obtain⟨y,m,rfl,h1,_⟩:=h
   exact⟨x,y,rfl,h1,hn⟩
  |_=>exact absurd hn.symm ho
 |n+1,a,l,h,hn,ho=>by
  cases a with
  |cn x t =>
   simp only[au]at h
   obtain⟨y,m,rfl,_,h2⟩:=h
   obtain⟨h',x',e1,e2,e3⟩:=au.nth n h2 (show rC n t f=out from hn) ho
   exact⟨h',x',by simpa using e1,e2,e3⟩
  |nl =>
   simp only[au]at h
   subst h
   obtain⟨_,_,e1,_⟩:=au.nth (E:=E) (l:=[]) n (a:=.nl) (by simp only[au]) (show rC n .nl f=out from hn) ho
   simp at e1
  |_=>simp only[au]at h
end Go.AM
namespace Go.AM
theorem aS{r:List (AV × St)}{p:Prop}(h:(none:Out)=some r):p:=nomatch h
section
variable {r:List (AV × St)}
theorem aJ{b:Bool}{x:Out}(h:must b x=some r):b=true/\x=some r:=by
 cases b with
 |true=>exact⟨rfl,h⟩
 |false=>exact aS h
theorem iB{b:Bool}{x y:Out}(h:iff b x y=some r):(b=true/\x=some r)∨(b=false/\y=some r):=by
 cases b with
 |true=>exact .inl ⟨rfl,h⟩
 |false=>exact .inr ⟨rfl,h⟩
theorem gV(x:Nat)(k:Nat->Out):fM x k=k x:=by cases x<;>rfl
theorem uD{v:AV}{f:Bool->Out}(h:pI v f=some r):∃x,v = .b x/\f x=some r:=by
 cases v<;>first | exact⟨_,rfl,h⟩ | exact aS h
theorem jC{v:AV}{f:IntKind->Int->Out}(h:iP v f=some r):∃k n,v = .i k n/\f k n=some r:=by
 cases v<;>first | exact⟨_,_,rfl,h⟩ | exact aS h
theorem mQ{v:AV}{f:List Nat->Out}(h:iF v f=some r):∃l,v = .s l/\f l=some r:=by
 cases v<;>first | exact⟨_,rfl,h⟩ | exact aS h
theorem pG{v:AV}{f:Nat->Nat->Out}(h:qH v f=some r):∃b o,v = .p b o/\f b o=some r:=by
 cases v<;>first | exact⟨_,_,rfl,h⟩ | exact aS h
theorem Cx{v:AV}{z:Out}{f:Nat->Out}(h:zw v z f=some r):(v = .m0/\z=some r)∨∃b,v = .m b/\f b=some r:=by
 cases v<;>first | exact .inl ⟨rfl,h⟩ | exact .inr ⟨_,rfl,h⟩ | exact aS h
theorem lJ{v:AV}{z:Out}{f:Nat->Nat->Nat->Out}(h:oD v z f=some r):(v = .l0/\z=some r)∨∃b k n,v = .l b k n/\f b k n=some r:=by
 cases v<;>first | exact .inl ⟨rfl,h⟩ | exact .inr ⟨_,_,_,rfl,h⟩ | exact aS h
theorem Qt{v:AV}{f:Fn->AV->AV->Out}(h:Hu v f=some r):∃fn a c,v = .f fn a c/\f fn a c=some r:=by
 cases v<;>first | exact⟨_,_,_,rfl,h⟩ | exact aS h
theorem qI{v:AV}{f:AV->Out}(h:kE v f=some r):∃c,v = .a c/\f c=some r:=by
 cases v<;>first | exact⟨_,rfl,h⟩ | exact aS h
theorem y1O{v:AV}{f:AV->Out}(h:Qs v f=some r):∃c,v = .t c/\f c=some r:=by
 cases v<;>first | exact⟨_,rfl,h⟩ | exact aS h
theorem iG{v:AV}{f:Nat->Out}(h:kD v f=some r):∃(k:IntKind) (n:Nat),v = .i k n/\f n=some r:=by
 obtain⟨k,n,rfl,h⟩:=jC h
 cases n with
 |ofNat a=>exact⟨k,a,rfl,by rw[<-gV a f];exact h⟩
 |negSucc a=>exact aS h
theorem YG{x:Option Ob}{f:Ob->Out}(h:gO x f=some r):∃o,x=some o/\f o=some r:=by
 cases x with
 |none=>exact aS h
 |some o=>exact⟨o,rfl,h⟩
theorem ZB{x:Option AV}{f:AV->Out}(h:O8 x f=some r):∃o,x=some o/\f o=some r:=by
 cases x with
 |none=>exact aS h
 |some o=>exact⟨o,rfl,h⟩
theorem jM{st:St}{b:Nat}{f:Ob->Out}(h:ob st b f=some r):∃o,T.get (az b) st.h=some o/\f o=some r:=YG h
theorem Gx{els:T AV}{q:Nat}{f:AV->Out}(h:el els q f=some r):∃v,T.get (az q) els=some v/\f v=some r:=by
 unfold el at h
 rw[gV]at h
 exact ZB h
theorem vH{o:Ob}{f:Nat->Nat->AV->Out}{g:Nat->Nat->Nat->T AV->Out}(h:vI o f g=some r) :
 (∃t n row,o = .c t n row/\f t n row=some r)∨∃e sz n els,o = .v e sz n els/\g e sz n els=some r:=by
 cases o<;>first | exact .inl ⟨_,_,_,rfl,h⟩ | exact .inr ⟨_,_,_,_,rfl,h⟩ | exact aS h
theorem Vw{o:Ob}{f:Nat->Nat->Out}{g:Nat->Nat->Nat->T AV->Out}(h:LH o f g=some r) :
 (∃b q,o = .al b q/\f b q=some r)∨∃e sz n els,o = .v e sz n els/\g e sz n els=some r:=by
 cases o<;>first | exact .inl ⟨_,_,rfl,h⟩ | exact .inr ⟨_,_,_,_,rfl,h⟩ | exact aS h
def Via(st:St)(b b2 k2:Nat):Prop:=(b2=b/\k2=0)∨T.get (az b) st.h=some (.al b2 k2)
theorem vG{st:St}{b:Nat}{f:Nat->Nat->Nat->Nat->Nat->T AV->Out}(h:yo st b f=some r) :
 ∃b2 k2 e sz n els,f b2 k2 e sz n els=some r/\T.get (az b2) st.h=some (.v e sz n els)/\Via st b b2 k2:=by
 obtain⟨o,ho,h⟩:=jM h
 rcases Vw h with ⟨b2,k2,rfl,h⟩ | ⟨e,sz,n,els,rfl,h⟩
 ·obtain⟨o2,ho2,h⟩:=jM h
  rcases vH h with ⟨_,_,_,rfl,h⟩ | ⟨e,sz,n,els,rfl,h⟩
  ·exact aS h
  ·exact⟨b2,k2,e,sz,n,els,h,ho2,.inr ho⟩
 ·exact⟨b,0,e,sz,n,els,h,ho,.inl ⟨rfl,rfl⟩⟩
theorem vJ{o:Ob}{f:ME->Nat->Out}(h:tq o f=some r):∃es c,o = .mp es c/\f es c=some r:=by
 cases o<;>first | exact⟨_,_,rfl,h⟩ | exact aS h
theorem Vv{o:Ob}{f:Nat->List Nat->Out}(h:LF o f=some r):∃p l,o = .si p l/\f p l=some r:=by
 cases o<;>first | exact⟨_,_,rfl,h⟩ | exact aS h
theorem LG{o:Ob}{z:Out}{f:Nat->Nat->List Nat->Nat->Out}(h:EL o z f=some r):(o = .vO/\z=some r)∨∃m a s b,o = .mi m a s b/\f m a s b=some r:=by
 cases o<;>first | exact .inl ⟨rfl,h⟩ | exact .inr ⟨_,_,_,_,rfl,h⟩ | exact aS h
theorem Qj{x y:Out}(h:both x y=some r):∃a b,x=some a/\y=some b/\r=a++b:=by
 unfold both at h
 split at h
 ·cases h;exact⟨_,_,rfl,rfl,rfl⟩
 ·cases h
end
abbrev lim:Nat:=22369621
def fo(E:ax)(a:AV)(l:List Value):Prop:=(∃c,a = .a c/\au E c l)∨(rG a=false/\∃v,l=[v]/\ag E a v)
def dI(E:ax):ME->List MapEntry->Prop
 | .nil,l=>l=[]
 | .cons k v n r,l=>∃e m,l=e::m/\ag E k e.key/\ag E v e.val/\e.born=n/\dI E r m
def dR(E:ax)(ro:Bool)(l:Loc)(w:World):Ob->Prop
 | .c t n row=>∃c fr lv t',w.heap[l.blk]? = some (.cells c t' fr)/\(ro=false->fr=(0,0)/\t' = t)/\au E row lv/\lv.length=n/\∀i,i<n->c[l.base+i]? = lv[i]?
 | .v e sz n els=>∃c fr,w.heap[l.blk]? = some (.cells c e fr)/\(ro=false->fr=(0,0))/\l.sz=sz/\(n<=l.cap/\n<=5000000)/\l.base+l.cap*sz<=c.size /\
    ∀q,q<n->∀v,T.get (az q) els=some v->∃lv:List Value,lv.length=sz/\fo E v lv/\∀i,i<sz->c[l.base+q*sz+i]? = lv[i]?
 | .mp es clock=>∃a:Array MapEntry,w.heap[l.blk]? = some (.map a clock)/\dI E es a.toList
 | .si pos rest=>l.base=0/\∃s:ByteArray,w.heap[l.blk]? = some (.stringIter s pos)/\(s.data.toList.drop pos).map (·.toNat)=rest
 | .mi m since seen last=>l.base=0/\∃lm,E m=some lm/\w.heap[l.blk]? = some (.mapIter (some lm.blk) since seen.toArray last)
 | .vO=>l.base=0/\w.heap[l.blk]? = some (.mapIter none 0 #[] 0)
 | .al b q=>l.blk<w.heap.size/\∃l2,E b=some l2/\l.blk=l2.blk/\l.base=l2.base+q*l2.sz/\l.sz=l2.sz/\q+l.cap<=l2.cap/\0<l.cap
def Ob.dz:Ob->Bool
 | .al _ _=>true
 |_=>false
structure aB(B:bB)(E:ax)(st:St)(w:World):Prop where
 live:∀r o,r<lim->T.get (az r) st.h=some o->∃l,E r=some l/\dR E (Nat.blt r lowN) l w o
 apart:∀r r' o o' l l',r<lim->r'<lim->r≠r'->T.get (az r) st.h=some o->T.get (az r') st.h=some o'->o.dz=false->o'.dz=false->E r=some l->E r' = some l'->l.blk≠l'.blk
 own:∀r o l,r<lim->lowN<=r->T.get (az r) st.h=some o->E r=some l->¬ B l.blk
 fresh:∀r,st.n<=r->E r=none
 low:lowN<=st.n
 high:st.n<=5000000
 kg:∀g,g<lowN->E g=some ⟨g,0,0,0⟩
end Go.AM
namespace Go.AM
open Go.RowKit
def aU(E:ax)(nt:Nat)(tm:Tm)(a:Act):Prop:=nt<=a.tmps.size/\∀k,k<lim->ag E (gv (T.get (az k) tm)) (a.tmps.getD k undef)
theorem aU.mono{E E':ax}{nt:Nat}{tm:Tm}{a:Act}(h:aU E nt tm a)(he:E.le E'):aU E' nt tm a:=⟨h.1,fun k hk=>(h.2 k hk).mono he⟩
theorem Ar{E:ax}{f:Value->AV}:∀(l:List Value),(∀v,ag E (f v) v)->au E (aG (l.map f)) l
 |[],_=>by simp only[List.map_nil,aG,au]
 |v::l,h=>by simp only[List.map_cons,aG,au];exact⟨v,l,rfl,h v,Ar l h⟩
theorem Aq(E:ax):∀(d:Nat) (v:Value),ag E (rA d v) v
 |0,_=>by simp only[rA,ag]
 |d+1,v=>by
  have ih:=Aq E d
  unfold rA
  split
  case h_3 s=>simp only[ag];exact⟨s,rfl,rfl⟩
  case h_9 cs=>simp only[ag];exact⟨cs.toList,by simp,Ar _ ih⟩
  case h_10 fn a c=>simp only[ag];exact⟨a.toList,c.toList,by simp,Ar _ ih,Ar _ ih⟩
  case h_11 t v=>simp only[ag];exact⟨v,rfl,ih v⟩
  all_goals simp only[ag]
theorem dn{a b:Nat}(h:Nat.blt a b=true):a<b:=by rw[Nat.blt_eq]at h;exact h
theorem IX(E:ax)(v:Value):ag E .u v:=by simp only[ag]
theorem aT{B:bB}{E:ax}{st:St}{w:World}{nt:Nat}{tm:Tm}{a:Act}(hs:aB B E st w)(ht:aU E nt tm a)(x:Operand):ag E (aN (co x) tm) (a.eval x):=by
 cases x with
 |tmp n =>
  cases hn:Nat.blt n 5000000 with
  |true =>
   have hl:=dn hn
   have e:co (.tmp n) = .sl (az n):=by simp only[co,hn]
   rw[e]
   exact ht.2 n (by unfold lim;omega)
  |false =>
   have e:co (.tmp n) = .c .u:=by simp only[co,hn]
   rw[e]
   exact IX _ _
 |const v=>exact Aq E 6 v
 |global g =>
  cases hn:Nat.blt g lowN with
  |true =>
   have e:co (.global g) = .c (.p g 0):=by simp only[co,hn]
   rw[e]
   show ag E (.p g 0) _
   simp only[ag]
   exact⟨_,hs.kg g (dn hn),rfl⟩
  |false =>
   have e:co (.global g) = .c .u:=by simp only[co,hn]
   rw[e]
   exact IX _ _
 |func f =>
  show ag E (.f (.func f) .nl .nl) _
  simp only[ag]
  exact⟨[],[],rfl,by simp only[au],by simp only[au]⟩
theorem aU.put{E:ax}{nt:Nat}{tm:Tm}{a:Act}(h:aU E nt tm a){k:Nat}(hk:k<nt)(hl:k<lim){v:AV}{x:Value}(hv:ag E v x) :
 aU E nt (T.set (az k) (some v) tm) (a.put (some k) x):=by
 refine⟨by simpa[Act.put]using h.1,fun j hj=>?_⟩
 rw[fu hj hl]
 by_cases e:j=k
 ·subst e
  have:j<a.tmps.size:=Nat.lt_of_lt_of_le hk h.1
  simp only[if_true,gv,Act.put,Array.getD_eq_getD_getElem?,Array.getElem?_setIfInBounds_self,this,Option.getD_some]
  exact hv
 ·have h2:=h.2 j hj
  simp only[if_neg e,Act.put,Array.getD_eq_getD_getElem?]at h2 ⊢
  rw[Array.getElem?_setIfInBounds_ne (fun x=>e x.symm)]
  exact h2
end Go.AM
namespace Go.AM
open Go.RowKit
theorem zi{r:List (AV × St)}{v:AV}{f:Nat->AV->Out}(h:cellsOf v f=some r) :
 ∃n row,f n row=some r/\∀(E:ax) (l:List Value),fo E v l->au E row l/\n=l.length:=by
 have key:∀v:AV,rG v=false->∀(E:ax) (l:List Value),fo E v l->au E (.cn v .nl) l/\1=l.length:=by
  intro v hv E l hc
  rcases hc with ⟨c,rfl,_⟩ | ⟨_,x,rfl,hx⟩
  ·cases hv
  ·exact⟨by simp only[au];exact⟨x,[],rfl,hx,rfl⟩,rfl⟩
 cases v with
 |a c =>
  obtain⟨_,h⟩:=aJ (show must (rowOk c) (f (eu c) c)=some r from h)
  refine⟨eu c,c,h,fun E l hc=>?_⟩
  rcases hc with ⟨c',hc,hl⟩ | ⟨hc,_⟩
  ·cases hc;exact⟨hl,hl.len⟩
  ·cases hc
 |u=>exact aS h
 |t c=>exact aS h
 |nl=>exact aS h
 |cn x y=>exact aS h
 |_=>exact⟨1,_,h,key _ rfl⟩
theorem aB.lt{B:bB}{E:ax}{st:St}{w:World}(hs:aB B E st w){r:Nat}{l:Loc}(h:E r=some l):r<lim:=by
 have h1:=hs.high
 by_cases h2:st.n<=r
 ·rw[hs.fresh r h2]at h;cases h
 ·unfold lim;omega
theorem aB.at{B:bB}{E:ax}{st:St}{w:World}(hs:aB B E st w){b o:Nat}{v:Value}(hv:ag E (.p b o) v){q:Ob}(hq:T.get (az b) st.h=some q) :
 ∃l,E b=some l/\v = .pointer (some ⟨l.blk,l.base+o,none⟩)/\dR E (Nat.blt b lowN) l w q:=by
 simp only[ag]at hv
 obtain⟨l,hl,rfl⟩:=hv
 obtain⟨l',hl',ho⟩:=hs.live b q (hs.lt hl) hq
 rw[hl]at hl'
 cases hl'
 exact⟨l,hl,rfl,ho⟩
theorem cell_of{w:World}{b o:Nat}{c:Array Value}{t:TypeId}{fr:Nat × Nat}{u:Value}(h:w.heap[b]? = some (.cells c t fr))(hc:c[o]? = some u):w.cell? ⟨b,o,none⟩=some u:=by
 simp[World.cell?,h,hc]
theorem Kv{P:Program}{w:World}{t:TypeId}{a:Addr}{u:Value}(ht:dQ P t=some false)(hc:w.cell? a=some u) :
 (Instr.loadAt t (.pointer (some a))).run P w = .ok u w:=by
 unfold dQ at ht
 have hagg:(isAgg t).run P w = .ok false w:=by
  unfold isAgg
  split at ht
  ·cases ht
  ·cases ht
  ·rename_i d h1 h2 hd
   rw[Sem.run_bind,run_underlying hd w]
   simp only[Result.andThen_ok,Sem.run_pure]
  ·cases ht
 simp only[Instr.loadAt,Instr.sureAddr,Sem.run_bind,Sem.run_pure,Result.andThen_ok,loadVar,hagg,Bool.false_eq_true,if_false,run_load,hc]
section
variable {P:Program}{B:bB}{E:ax}{st:St}{w:World}{nt:Nat}{tm:Tm}{a:Act}{k:K}{r:List (AV × St)}
theorem Lm(hs:aB B E st w)(ht:aU E nt tm a){t:TypeId}(hg:dQ P t=some false)(x:Operand)(h:sV (co x) tm st k=some r) :
 ∃v u,(Instr.loadAt t (a.eval x)).run P w = .ok u w/\ag E v u/\k v st=some r:=by
 unfold sV at h
 obtain⟨b,o,he,h⟩:=pG h
 obtain⟨q,hq,h⟩:=jM h
 have hx:=aT hs ht x
 rw[he]at hx
 obtain⟨l,hl,hv,hr⟩:=hs.at hx hq
 rw[hv]
 rcases vH h with ⟨t',n,row,rfl,h⟩ | ⟨e,sz,n,els,rfl,h⟩
 ·obtain⟨c,fr,lv,_,hc,_,hrow,hlen,hcell⟩:=hr
  obtain⟨y,u,hu,hy,hk⟩:=au.nth o hrow h (by simp)
  have ho:o<n:=by rw[<-hlen];exact(List.getElem?_eq_some_iff.1 hu).1
  exact⟨y,u,Kv hg (cell_of hc ((hcell o ho).trans hu)),hy,hk⟩
 ·obtain⟨hb,h⟩:=aJ h
  have hb:=dn hb
  obtain⟨v,hv',h⟩:=Gx h
  obtain⟨m,row,h,hrow⟩:=zi h
  obtain⟨c,fr,hc,_,hsz,hcap,hsize,hels⟩:=hr
  obtain⟨lv,hlv,hcr,hcell⟩:=hels _ hb v hv'
  obtain⟨hrow,_⟩:=hrow E lv hcr
  obtain⟨y,u,hu,hy,hk⟩:=au.nth _ hrow h (by simp)
  have ho:Nat.mod o sz<sz:=hlv▸(List.getElem?_eq_some_iff.1 hu).1
  have e1:l.base+Nat.div o sz*sz+Nat.mod o sz=l.base+o:=by
   have:sz*(o / sz)+o % sz=o:=Nat.div_add_mod o sz
   have e2:Nat.div o sz*sz=sz*(o / sz):=Nat.mul_comm _ _
   have e3:Nat.mod o sz=o % sz:=rfl
   omega
  have hcc:=(hcell _ ho).trans hu
  rw[e1]at hcc
  exact⟨y,u,Kv hg (cell_of hc hcc),hy,hk⟩
end
end Go.AM
namespace Go.AM
open Go.RowKit
theorem au.drop{E:ax}:∀(o:Nat) {row:AV} {l:List Value},au E row l->au E (Bz o row) (l.drop o)
 |0,_,_,h=>h
 |o+1,row,l,h=>by
  cases row with
  |nl=>simp only[au]at h;subst h;have:=au.drop (E:=E) o (row:=.nl) (l:=[]) (by simp only[au]);rw[List.drop_nil]at this ⊢;exact this
  |cn x t =>
   simp only[au]at h
   obtain⟨y,m,rfl,_,h2⟩:=h
   exact au.drop o h2
  |_=>simp only[au]at h
theorem au.take{E:ax}:∀(n:Nat) {row:AV} {l:List Value},au E row l->n<=l.length->au E (takeA n row) (l.take n)
 |0,_,_,_,_=>by show au E .nl _;simp only[List.take_zero,au]
 |n+1,row,l,h,hn=>by
  cases row with
  |nl=>simp only[au]at h;subst h;simp at hn
  |cn x t =>
   simp only[au]at h
   obtain⟨y,m,rfl,h1,h2⟩:=h
   show au E (.cn x (takeA n t)) _
   simp only[List.take_succ_cons,au]
   exact⟨y,m.take n,rfl,h1,au.take n h2 (by simpa using hn)⟩
  |_=>simp only[au]at h
theorem y2d{P:Program}{t:TypeId}(h:dQ P t=some true):∃d,P.underlying t=some d/\d.isRow=true:=by
 unfold dQ at h
 split at h
 ·rename_i hu;exact⟨_,hu,rfl⟩
 ·rename_i hu;exact⟨_,hu,rfl⟩
 ·cases h
 ·cases h
theorem JK{P:Program}{t n:Nat}(h:cB P t=some n):(P.info? t).map (·.size)=some n:=by
 unfold cB at h
 split at h
 ·rename_i hi;rw[hi];simpa using h
 ·cases h
theorem KU{w:World}{b o:Nat}{c:Array Value}{t:TypeId}{fr:Nat × Nat}{cs:List Value}(h:w.heap[b]? = some (.cells c t fr))
 (hc:∀i,i<cs.length->c[o+i]? = cs[i]?):w.rangeAt b o cs:=fun j v hv=>by
 have hj:j<cs.length:=(List.getElem?_eq_some_iff.1 hv).1
 exact cell_of h ((hc j hj).trans hv)
section
variable {P:Program}{B:bB}{E:ax}{st:St}{w:World}{nt:Nat}{tm:Tm}{a:Act}{k:K}{r:List (AV × St)}
theorem Ll(hs:aB B E st w)(ht:aU E nt tm a){t n:Nat}(hg:dQ P t=some true)(hn:cB P t=some n)(x:Operand)(h:sU n (co x) tm st k=some r) :
 ∃v u,(Instr.loadAt t (a.eval x)).run P w = .ok u w/\ag E v u/\k v st=some r:=by
 unfold sU at h
 obtain⟨b,o,he,h⟩:=pG h
 obtain⟨q,hq,h⟩:=jM h
 have hx:=aT hs ht x
 rw[he]at hx
 obtain⟨l,hl,hv,hr⟩:=hs.at hx hq
 obtain⟨d,hu,hd⟩:=y2d hg
 have hi:=JK hn
 rw[hv]
 rcases vH h with ⟨t',m,row,rfl,h⟩ | ⟨e,sz,m,els,rfl,h⟩
 ·obtain⟨hb,h⟩:=aJ h
  have hb:o+n<=m:=Nat.le_of_ble_eq_true hb
  obtain⟨c,fr,lv,_,hc,_,hrow,hlen,hcell⟩:=hr
  have hl2:((lv.drop o).take n).length=n:=by rw[List.length_take,List.length_drop];omega
  refine⟨_,_,run_loadAt_mid w l.blk (l.base+o) t ((lv.drop o).take n) d (KU hc fun i hi=>?_) hu hd (by rw[hl2];exact hi),?_,h⟩
  ·rw[hl2]at hi
   rw[List.getElem?_take_of_lt hi,List.getElem?_drop,Nat.add_assoc]
   exact hcell (o+i) (by omega)
  ·simp only[ag]
   exact⟨_,rfl,(hrow.drop o).take n (by rw[List.length_drop];omega)⟩
 ·obtain⟨hb,h⟩:=aJ h
  have hb:=dn hb
  obtain⟨v,hv',h⟩:=Gx h
  obtain⟨m',row,h,hrow⟩:=zi h
  obtain⟨hb2,h⟩:=aJ h
  obtain⟨c,fr,hc,_,hsz,hcap,hsize,hels⟩:=hr
  obtain⟨lv,hlv,hcr,hcell⟩:=hels _ hb v hv'
  obtain⟨hrow,hm⟩:=hrow E lv hcr
  have e3:Nat.mod o sz=o % sz:=rfl
  have e4:Nat.div o sz=o / sz:=rfl
  rw[e3]at hb2 h
  rw[e4]at hcell
  have hb2:o % sz+n<=m':=Nat.le_of_ble_eq_true hb2
  have hl2:((lv.drop (o % sz)).take n).length=n:=by rw[List.length_take,List.length_drop];omega
  have e1:o / sz*sz+o % sz=o:=by rw[Nat.mul_comm];exact Nat.div_add_mod o sz
  refine⟨_,_,run_loadAt_mid w l.blk (l.base+o) t ((lv.drop (o % sz)).take n) d (KU hc fun i hi=>?_) hu hd (by rw[hl2];exact hi),?_,h⟩
  ·rw[hl2]at hi
   rw[List.getElem?_take_of_lt hi,List.getElem?_drop]
   have:=hcell (o % sz+i) (by omega)
   rw[show l.base+o / sz*sz+(o % sz+i)=l.base+o+i by omega]at this
   exact this
  ·simp only[ag]
   exact⟨_,rfl,(hrow.drop _).take n (by rw[List.length_drop];omega)⟩
end
end Go.AM
namespace Go.AM
open Go.RowKit
def Reads(P:Program)(E:ax)(st:St)(w:World)(a:Act)(o:Oper)(k:K)(r:List (AV × St)):Prop :=
 ∃v u,(execOp a.eval o).run P w = .ok (.value u) w/\ag E v u/\k v st=some r
section
variable {P:Program}{B:bB}{E:ax}{st:St}{w:World}{nt:Nat}{tm:Tm}{a:Act}{k:K}{r:List (AV × St)}{o:Oper}
theorem dW{s:Sem Value}{v:AV}{u:Value}(he:execOp a.eval o=(do pure (.value (<-s))))(hr:s.run P w = .ok u w)(hv:ag E v u)(hk:k v st=some r):Reads P E st w a o k r :=
 ⟨v,u,by rw[he,Sem.run_bind,hr];rfl,hv,hk⟩
theorem Xe(hs:aB B E st w)(ht:aU E nt tm a){t:TypeId}{x:Operand}(ho:o.op = .load t x)(hg:dQ P t=some false)(h:sV (co x) tm st k=some r):Reads P E st w a o k r:=by
 obtain⟨v,u,h1,h2,h3⟩:=Lm hs ht hg x h
 exact dW (by unfold execOp;rw[ho]) h1 h2 h3
theorem Xc(hs:aB B E st w)(ht:aU E nt tm a){t n:Nat}{x:Operand}(ho:o.op = .load t x)(hg:dQ P t=some true)(hn:cB P t=some n)(h:sU n (co x) tm st k=some r):Reads P E st w a o k r:=by
 obtain⟨v,u,h1,h2,h3⟩:=Ll hs ht hg hn x h
 exact dW (by unfold execOp;rw[ho]) h1 h2 h3
theorem Me(hs:aB B E st w)(ht:aU E nt tm a){x:Operand}(ho:o.op = .move x∨o.op = .assign x)(h:Lj (co x) tm st k=some r):Reads P E st w a o k r:=by
 refine⟨_,a.eval x,?_,aT hs ht x,h⟩
 unfold execOp
 rcases ho with ho | ho<;>rw[ho]<;>rfl
theorem UA(hs:aB B E st w)(ht:aU E nt tm a){c x y:Operand}(ho:o.op = .pick c x y)(h:D7 (co c) (co x) (co y) tm st k=some r):Reads P E st w a o k r:=by
 unfold D7 at h
 obtain⟨q,hq,h⟩:=uD h
 have hc:=aT hs ht c
 rw[hq]at hc
 simp only[ag]at hc
 rcases iB h with ⟨rfl,h⟩ | ⟨rfl,h⟩
 ·refine⟨_,a.eval x,?_,aT hs ht x,h⟩
  unfold execOp;rw[ho];simp[hc,asBool]
 ·refine⟨_,a.eval y,?_,aT hs ht y,h⟩
  unfold execOp;rw[ho];simp[hc,asBool]
theorem QP(hs:aB B E st w)(ht:aU E nt tm a){x:Operand}{j:Nat}(ho:o.op = .extract x j)(h:DW j (co x) tm st k=some r):Reads P E st w a o k r:=by
 unfold DW at h
 obtain⟨c,hc,h⟩:=y1O h
 have hx:=aT hs ht x
 rw[hc]at hx
 simp only[ag]at hx
 obtain⟨l,hl,hrow⟩:=hx
 obtain⟨y,u,hu,hy,hk⟩:=au.nth j hrow h (by simp)
 refine dW (s:=Instr.extract (a.eval x) j) (by unfold execOp;rw[ho]) ?_ hy hk
 simp[Instr.extract,hl,hu]
theorem Zq(hs:aB B E st w)(ht:aU E nt tm a){t:TypeId}{x:Operand}{j m:Nat}{fs:Array Field}{fd:Field}(ho:o.op = .fieldAddr t x j)
 (hu:P.underlying t=some (.struct fs)) (hf:fs[j]? = some fd) (hz:cB P fd.type=some (m+1)) (h:Es fd.offset (co x) tm st k=some r):Reads P E st w a o k r:=by
 unfold Es at h
 obtain⟨b,q,hq,h⟩:=pG h
 rw[gV]at h
 have hx:=aT hs ht x
 rw[hq]at hx
 simp only[ag]at hx
 obtain⟨l,hl,hv⟩:=hx
 refine dW (s:=Instr.fieldAt t (a.eval x) j) (u:=.pointer (some ⟨l.blk,l.base+(q+fd.offset),none⟩)) (by unfold execOp;rw[ho]) ?_ (by simp only[ag];exact⟨l,hl,rfl⟩) h
 have hi:=JK hz
 cases hq:P.info? fd.type with
 |none=>simp[hq]at hi
 |some i =>
  have hs:i.size=m+1:=by simpa[hq]using hi
  simp[Instr.fieldAt,underlying,hu,hf,hv,Instr.sureAddr,fieldPlace,sizeOf,typeInfo,hq,hs,Addr.add_mid,Nat.add_assoc]
end
end Go.AM
