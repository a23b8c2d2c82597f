/-
  Which values are keys of a map: strings, numbers, structs of such.
-/
import Derived.Test.YtjnbddedmbhiaaaGreatDoorPk11
import Derived.Maps.RangeWalk
import Derived.Maps.OwnOps
import Derived.Test.YtjnbddedmbhiaaaGreatDoorPk03
namespace Go.AM
open Go.RowKit
section
variable {P:Program}
theorem Qi(a b:ByteArray):(a.toList==b.toList)=decide (a=b):=by
 by_cases h:a=b
 ·subst h;simp
 ·rw[decide_eq_false h]
  cases hb:(a.toList==b.toList)with
  |false=>rfl
  |true=>exact absurd (Cj hb) h
theorem Wo{t:TypeId}(h:oV P t=some (.k .s)):lU P t Value.string :=
 ⟨_,qp h,fun _=>trivial,fun a b=>⟨a,b,rfl,rfl,(Qi a b).symm⟩,fun em _ _=>u6 (qp h) em 9999 _⟩
theorem Wp{t:TypeId}{q:IntKind}(h:oV P t=some (.k .i)):lU P t (Value.int q) :=
 ⟨_,qp h,fun _=>trivial,fun a b=>⟨q,a,b,rfl,rfl,by
   by_cases e:a=b
   ·subst e;simp
   ·rw[decide_eq_false e];symm;simpa using e⟩,fun em a w=>u6 (qp h) em 9999 _⟩
inductive KC where | b (x:Bool) | i (k:IntKind) (x:Int) | s (x:ByteArray)
deriving DecidableEq
def KC.v:KC->Value | .b x=>.bool x | .i k x=>.int k x | .s x=>.string x
def KC.a:KC->AV | .b x=>.b x | .i k x=>.i k x | .s x=>.s (x.data.toList.map (·.toNat))
def KC.k:KC->KK | .b _=>.b | .i _ _=>.i | .s _=>.s
def KC.ik:KC->Option (Option IntKind) | .b _=>none | .i k _=>some (some k) | .s _=>some none
theorem KC.rel(E:ax)(c:KC):ag E c.a c.v:=by
 cases c with
 |b x=>simp[KC.a,KC.v,ag]
 |i k x=>simp[KC.a,KC.v,ag]
 |s x=>simp only[KC.a,KC.v,ag];exact⟨x,rfl,rfl⟩
theorem XE{x y:KC}(h:x.ik=y.ik)(f:Bool->Out):vR x.k x.a y.a f=f (decide (x=y)):=by
 cases x with
 |b x=>cases y<;>simp[KC.ik]at h;rename_i y;cases x<;>cases y<;>rfl
 |i k x =>
  cases y<;>simp[KC.ik]at h
  rename_i k' y
  subst h
  show must (lu k k) (f (mG x y))=_
  rw[show lu k k=true by cases k<;>rfl]
  show f (mG x y)=_
  rw[yS]
  congr 1
  by_cases e:x=y
  ·subst e;simp
  ·rw[decide_eq_false (by simpa using e)];simpa using e
 |s x =>
  cases y<;>simp[KC.ik]at h
  rename_i y
  show f (eqs _ _)=_
  rw[wB,Qi]
  congr 1
  simp
def KC.row(l:List KC):AV:=aG (l.map KC.a)
theorem KC.KD(E:ax):∀l:List KC,au E (KC.row l) (l.map KC.v)
 |[]=>by simp[KC.row,aG,au]
 |c::l=>by
  show au E (.cn c.a (KC.row l)) (c.v::l.map KC.v)
  simp only[au]
  exact⟨c.v,_,rfl,KC.rel E c,KC.KD E l⟩
theorem OX:∀{l m:List KC},l.map KC.ik=m.map KC.ik->∀f:Bool->Out,pg (l.map KC.k) (KC.row l) (KC.row m) f=f (decide (l=m))
 |[],[],_,f=>rfl
 |[],_::_,h,_=>by simp at h
 |_::_,[],h,_=>by simp at h
 |x::l,y::m,h,f=>by
  simp only[List.map_cons,List.cons.injEq]at h
  show vR x.k x.a y.a (fun b=>iff b (pg (l.map KC.k) (KC.row l) (KC.row m) f) (f false))=_
  rw[XE h.1]
  by_cases e:x=y
  ·subst e
   rw[decide_eq_true rfl]
   show pg _ _ _ f=_
   rw[OX h.2]
   simp
  ·rw[decide_eq_false e]
   show f false=_
   simp[e]
theorem EX{κ:Type}[DecidableEq κ]{t:TypeId}{enc:κ->Value}{ks:List KK}(h:oV P t=some (.r ks))(cells:κ->List KC)(kinds:List (Option (Option IntKind)))(henc:∀a,enc a = .agg ((cells a).map KC.v).toArray)
 (hinj:∀a b,cells a=cells b->a=b) (hik:∀a,(cells a).map KC.ik=kinds) (hk:∀a,(cells a).map KC.k=ks):lU P t enc:=by
 have hq:=qp h
 obtain⟨fs,hu,hf⟩:=hq
 have rel:∀a,ag (fun _=>none) (.a (KC.row (cells a))) (enc a):=fun a=>by
  rw[henc a]
  simp only[ag]
  exact⟨_,rfl,KC.KD _ _⟩
 refine⟨.r ks,qp h,fun a=>⟨_,henc a⟩,fun a b=>?_,fun em a w=>?_⟩
 ·have e1:vQ (.r ks) (.a (KC.row (cells a))) (.a (KC.row (cells b))) (fun c=>some [(.b c,.mk .e 0)])=some [(.b (decide (cells a=cells b)),.mk .e 0)]:=by
   show pg ks _ _ _=_
   rw[<-hk a,OX (by rw[hik a,hik b])]
  obtain⟨b',h1,h2⟩:=FH (P:=P) (qp h) e1 (rel a) (rel b)
  have h1:b' = decide (cells a=cells b):=by simpa using h1
  have:decide (cells a=cells b)=decide (a=b):=by
   by_cases e:a=b
   ·subst e;simp
   ·rw[decide_eq_false e,decide_eq_false (fun h=>e (hinj a b h))]
  rw[<-this,<-h1]
  exact h2
 ·rw[henc a]
  exact Ky hu hf em 9997 (by rw[List.length_map,<-hk a,List.length_map])
end
end Go.AM
namespace Go.AM
open Go.RowKit
open Go.ChangeMaps (setBlock)
section
variable {P:Program}{κ:Type}[DecidableEq κ]
end
end Go.AM
namespace Go.AM
open Go.RowKit
open Go.ChangeMaps (setBlock)
section
variable {P:Program}{κ:Type}[DecidableEq κ]{ops:Array Oper}{rest:List Oper}{o:Oper}{a:Act}{Q:Exit->Act->World->Prop}{w:World}
theorem NZ{g:Nat}(ob:Obj):w.grownBy (l6 w g ob) (some g) :=
 ⟨rfl,rfl,rfl,by show w.heap.size<=(w.heap.setIfInBounds g ob).size;simp,fun k hk hne=>xR ob (fun e=>hne (by rw[e]))⟩
theorem jW(hg:o.guard=none)(m x v:Operand)(t:TypeId)(hop:o.op = .mapUpdate t m x v){kt e:TypeId}{enc:κ->Value}(K:lU P kt enc)(hu:P.underlying t=some (.map kt e))(g:Nat){F:κ->Option Value}{n:Nat}
 (hm:a.eval m = .map (some g)) (hown:bC w g enc F n) (k:κ) (hx:a.eval x=enc k) (val:Value) (hv:a.eval v=val)
 (hK:∀w',bC w' g enc (fun k'=>if k' = k then some val else F k') (n+1)->w.grownBy w' (some g)->w'.heap.size=w.heap.size->wpList P ops Q rest (a.put o.dst undef) w'):wpList P ops Q (o::rest) a w:=by
 refine wpList_plain hg fun K' hK'=>?_
 obtain⟨ar,c,hrun,r1⟩:=hown.update K hu k val
 unfold Oper.wp
 simp[execOp,hop,hm,hx,hv,hrun,Result.andThen]
 exact hK' _ _ (hK _ r1 (NZ _) (by show(w.heap.setIfInBounds g _).size=_;simp))
theorem jX(hg:o.guard=none)(m x:Operand)(t:TypeId)(ok:Bool)(hop:o.op = .lookup t m x ok){kt e:TypeId}{enc:κ->Value}(K:lU P kt enc)(hu:P.underlying t=some (.map kt e))(z:Value)(hz:(zeroValue e).run P w = .ok z w)(g:Nat){F:κ->Option Value}{n:Nat}
 (hm:a.eval m = .map (some g)) (hown:bC w g enc F n) (k:κ) (hx:a.eval x=enc k)
 (hK:wpList P ops Q rest (a.put o.dst (if ok=true then .tuple #[(F k).getD z,.bool (F k).isSome]else(F k).getD z)) w):wpList P ops Q (o::rest) a w:=by
 refine wpList_plain hg fun K' hK'=>?_
 have hrun:=hown.lookup K hu hz k ok
 unfold Oper.wp
 simp[execOp,hop,hm,hx,hrun,Result.andThen]
 refine hK' _ _ ?_
 cases ok<;>simpa using hK
theorem sH(hg:o.guard=none)(t:TypeId)(hop:o.op = .makeMap t none){kt e:TypeId}(_hu:P.underlying t=some (.map kt e))(enc:κ->Value)
 (hK:bC (w.alloc (.map #[] 0)) w.heap.size enc (fun _=>none) 0->wpList P ops Q rest (a.put o.dst (.map (some w.heap.size))) (w.alloc (.map #[] 0))):wpList P ops Q (o::rest) a w:=by
 refine wpList_plain hg fun K' hK'=>?_
 unfold Oper.wp
 have hrun:(Instr.makeMap t none).run P w = .ok (.map (some w.heap.size)) (w.alloc (.map #[] 0)):=by
  simp[Instr.makeMap,newObj,Sem.run]
 simp[execOp,hop,hrun,Result.andThen]
 exact hK' _ _ (hK (bC.new w enc))
end
end Go.AM
namespace Go.Proofs.YtjnbddedmbhiaaaGreatDoor
open Go.RowKit Go.ak Go.AM

theorem iy:lU Tryz.prog 9 Value.string:=Wo (by kernel_rfl)
theorem j5:lU Tryz.prog 3 (Value.int .i64):=Wp (by kernel_rfl)
theorem pO:Tryz.prog.underlying 76=some (.map 9 3):=by kernel_rfl
theorem jG:Tryz.prog.underlying 105=some (.map 3 4):=by kernel_rfl
theorem nA:Tryz.prog.underlying 146=some (.map 9 4):=by kernel_rfl
theorem uO(w:World):(zeroValue 3).run Tryz.prog w = .ok (.int .i64 0) w:=by kernel_rfl
theorem lW(w:World):(zeroValue 4).run Tryz.prog w = .ok (.bool false) w:=by kernel_rfl
def gU(h:List ae)(s:Str):Option Value:=if 0<=aI h s then some (.int .i64 (aI h s))else none
abbrev TabAt(w:World)(g:Nat)(h:List ae):Prop:=bC w g Value.string (gU h) h.length
theorem Zg{h:List ae}{s:Str}(e:¬ 0<=aI h s):aI h s = -1:=by
 rcases find_spec h s with ⟨f1,f2⟩ | ⟨j,hj,f1,f2,_⟩<;>omega
set_option maxHeartbeats 1000000 in
theorem uW(h:List ae)(s:Str)(a:Option Addr)(c g:Nat)(w:World)(hg:TabAt w g h) :
 Calls Tryz.prog 114 #[.agg #[.slice a h.length c,.map (some g)],.string s] w (aj w (.int .i64 (aI h s))):=by
 have HB:=Lib.hid (av w (.cells #[.slice a h.length c,.map (some g)] 206))
 have HG:=Lib.hid (hg.below HB.out)
 clear hg
 go_enter Tryz.func114,Tryz.ntmps114
 by_cases hq:0<=aI h s
 ·have HF:Hid (gU h s=some (.int .i64 (aI h s))):=by show _=_;unfold gU;rw[if_pos hq]
  generalize gU h=F at *
  generalize aI h s=r at *
  go_wp2_with (at_lookup;refine jX rfl _ _ _ _ rfl iy pO _ (uO _) g rfl HG.out s rfl ?_;rw[HF.out])
  go_ret
  exact⟨rfl,HB.out⟩
 ·have HF:Hid (gU h s=none):=by show _=_;unfold gU;rw[if_neg hq]
  have hr:=Zg hq
  rw[hr]
  generalize gU h=F at *
  go_wp2_with (at_lookup;refine jX rfl _ _ _ _ rfl iy pO _ (uO _) g rfl HG.out s rfl ?_;rw[HF.out])
  go_ret
  exact⟨rfl,HB.out⟩

structure TB(h:List ae)(a:Option Addr)(c g:Nat)(w wr:World):Prop where
 hb:Below w.heap.size w wr
 b1:ah wr w.heap.size #[.slice a h.length c,.map (some g)] 206
 hc:ay wr a h
 tg:TabAt wr g h
theorem TB.below{h:List ae}{a:Option Addr}{c g:Nat}{w wr w':World}(k:TB h a c g w wr)(hb:Below wr.heap.size wr w'):TB h a c g w w':=⟨k.hb.trans (hb.mono k.hb.size),k.b1.below hb,k.hc.below hb,k.tg.below hb⟩
theorem TB.start{h:List ae}{a:Option Addr}{c g:Nat}{w:World}(hc:ay w a h)(tg:TabAt w g h):TB h a c g w (w.alloc (.cells #[.slice a h.length c,.map (some g)] 206)) :=
 ⟨av ..,aL ..,hc.below (av ..),tg.below (av ..)⟩
theorem TB.now{h:List ae}{a:Option Addr}{c g:Nat}{w wr o:World}(k:TB h a c g w wr)(hb:Below wr.heap.size wr o):o.cell? ⟨w.heap.size,0,none⟩=some (.slice a h.length c)/\o.cell? ⟨w.heap.size,1,none⟩=some (.map (some g)) :=
 ⟨(k.below hb).b1.cell 0 (by simp),(k.below hb).b1.cell 1 (by simp)⟩
def eY(h:List ae)(x:ae):Int:=if (x.aO.toList==([]:List UInt8))=true then -1 else aI h x.aO
set_option maxHeartbeats 2000000 in
theorem Jz(h:List ae)(a:Option Addr)(c g i:Nat)(hi:i<h.length)(w:World)(hc:ay w a h)(_hl:h.length<=100000)(hg:TabAt w g h) :
 Calls Tryz.prog 185 #[.agg #[.slice a h.length c,.map (some g)],.int .i64 i] w (aj w (.int .i64 (eY h h[i]))):=by
 have S:=Lib.hid (TB.start (c:=c) hc hg)
 have HF:Hid (∀(s:Str) (w1:World),TabAt w1 g h->Calls Tryz.prog 114 #[.agg #[.slice a h.length c,.map (some g)],.string s] w1 (aj w1 (.int .i64 (aI h s)))):=fun s w1 h1=>uW h s a c g w1 h1
 clear hc hg
 have HD:Hid (eY h h[i]=if (h[i].aO.toList==([]:List UInt8))=true then -1 else aI h h[i].aO):=rfl
 generalize eY h h[i]=r at *
 go_enter Tryz.func185,Tryz.ntmps185
 go_upto_region 1 with (fail)
 generalize w.alloc _=W at *
 obtain⟨z0,z1⟩:=S.out.now (Below.refl _ _)
 obtain⟨b,off,fa,fc,ma,mc,he,m0,m1,m2,m3,_,_⟩:=S.out.hc i hi
 subst he
 generalize h[i]=x at *
 cases hq:(x.aO.toList==([]:List UInt8))
 ·rw[hq,if_neg (by simp)]at HD
  go_upto_region 3 with (fail)
  have hne:Nonempty (WB W):=⟨⟨W,Below.refl _ _⟩⟩
  have k0:∀o:WB W,o.u.cell? ⟨w.heap.size,0,none⟩=some (.slice (some ⟨b,off,none⟩) h.length c):=fun o=>(S.out.now o.h).1
  have k1:∀o:WB W,o.u.cell? ⟨w.heap.size,1,none⟩=some (.map (some g)):=fun o=>(S.out.now o.h).2
  have k2:∀o:WB W,o.u.cell? ⟨b,off+i*4+1,none⟩=some (.string x.aO):=fun o=>cell_below o.h m1
  clear z0 z1 m0 m1 m2 m3
  refine bJ W (by kernel_rfl) ?_
  repeat (go_big_quiet_step ((rename_i o;exact(HF.out x.aO _ (S.out.below o.h).tg).mono (fun _ _ h=>aj.bu h))))
  refine wpQuiet_nil ?_
  intro _ hw'
  obtain⟨o,rfl⟩:=hw'
  have S':=Lib.hid (S.out.below o.h)
  clear k0 k1 k2
  go_wp2
  go_ret
  exact⟨eO HD.out.symm,S'.out.hb⟩
 ·rw[hq,if_pos rfl]at HD
  go_wp2
  go_ret
  exact⟨eO HD.out.symm,S.out.hb⟩

theorem rq{κ:Type}[DecidableEq κ]{w:World}{base e s n:Nat}{v:Value}{xs:List Value}(h:w.ownsRow base e s v n xs){g:Nat}{enc:κ->Value}{F:κ->Option Value}{m:Nat}(hm:bC w g enc F m):some g≠v.ownBlock:=by
 obtain⟨l,ar,c,hg,_⟩:=hm.ex
 rcases h.2 with ⟨rfl,_⟩ | ⟨g',cap,cur,rfl,_,hh,_⟩
 ·simp[Value.ownBlock]
 ·simp only[Value.ownBlock,ne_eq,Option.some.injEq]
  rintro rfl
  rw[hg]at hh
  cases hh
theorem oO{κ:Type}[DecidableEq κ]{w w':World}{base e s n:Nat}{v:Value}{xs:List Value}(h:w.ownsRow base e s v n xs){g:Nat}{enc:κ->Value}{F:κ->Option Value}{m:Nat}(hm:bC w g enc F m)(hg:w.grownBy w' (some g)):w'.ownsRow base e s v n xs :=
 h.kept hg (.inr (fun e=>rq h hm e.symm))
theorem r9{κ:Type}[DecidableEq κ]{w:World}{b:Nat}{cs:Array Value}{t:TypeId}(h:ah w b cs t){g:Nat}{enc:κ->Value}{F:κ->Option Value}{m:Nat}(hm:bC w g enc F m):some b≠some g:=by
 obtain⟨l,ar,c,hg,_⟩:=hm.ex
 intro e
 cases e
 unfold ah at h
 rw[hg]at h
 cases h
def eH(h:List ae)(i:Int):Int:=match h[i.toNat]? with
 |some x=>eY h x
 |none=>-1
def jg(h:List ae):Nat->Int->List Int->List Int × Int
 |0,i,l=>(l,i)
 |n+1,i,l=>if 0<=i/\i∉l then jg h n (eH h i) (l++[i])else(l,i)
def bW(h:List ae)(i:Int):List Int × Int:=jg h (h.length+1) i []
theorem uz{h:List ae}{n:Nat}{i:Int}{l:List Int}(h1:0<=i)(h2:i∉l):jg h (n+1) i l=jg h n (eH h i) (l++[i]):=by
 show(if 0<=i/\i∉l then jg h n (eH h i) (l++[i])else(l,i))=_
 rw[if_pos ⟨h1,h2⟩]
theorem qC{h:List ae}{n:Nat}{i:Int}{l:List Int}(h1:¬ (0<=i/\i∉l)):jg h (n+1) i l=(l,i):=by
 show(if 0<=i/\i∉l then jg h n (eH h i) (l++[i])else(l,i))=_
 rw[if_neg h1]
def fK(l:List Int)(k:Int):Option Value:=if k∈l then some (.bool true)else none
theorem zY(l:List Int)(i:Int):(fun k'=>if k' = i then some (.bool true)else fK l k')=fK (l++[i]):=by
 funext k
 unfold fK
 by_cases h1:k=i
 ·subst h1;simp
 ·rw[if_neg h1];simp[h1]
theorem Kn:(fun _:Int=>(none:Option Value))=fK []:=by funext k;simp[fK]
theorem rD(n:Nat)(l:List Int)(hn:l.Nodup)(h:∀x∈l,∃j:Nat,j<n/\x=j):l.length<=n:=by
 have:=yt (m:=(List.range n).map (fun j:Nat=>(j:Int))) hn (fun x hx=>by
  obtain⟨j,hj,rfl⟩:=h x hx
  exact List.mem_map.2 ⟨j,List.mem_range.2 hj,rfl⟩)
 simpa using this
structure CH(h:List ae)(a:Option Addr)(c g:Nat)(gm:Nat)(i0:Int)(w wr:World)(n:Nat)(i:Int)(l:List Int)(v:Value):Prop where
 tb:TB h a c g w wr
 mp:bC wr gm (Value.int .i64) (fK l) l.length
 ge:w.heap.size<=gm
 ow:wr.ownsRow w.heap.size 3 1 v l.length (l.map bT)
 nd:l.Nodup
 al:∀x∈l,∃j:Nat,j<h.length/\x=j
 il:i = -1∨∃j:Nat,j<h.length/\i=j
 eq:jg h n i l=bW h i0
 ln:n+l.length=h.length+1
theorem Dp{h:List ae}(i:Int):eH h i = -1∨∃j:Nat,j<h.length/\eH h i=j:=by
 unfold eH
 split
 ·rename_i x _
  unfold eY
  split
  ·exact .inl rfl
  ·rcases find_spec h x.aO with ⟨_,f2⟩ | ⟨j,hj,f1,_,_⟩
   ·exact .inl f2
   ·exact .inr ⟨j,hj,f1⟩
 ·exact .inl rfl
def xn(h:List ae)(i:Int)(w:World)(e:Ending)(w':World):Prop :=
 Below w.heap.size w w'/\∃oa oc,e = .returned (.tuple #[.slice oa (bW h i).1.length oc,.bool (decide (0<=(bW h i).2))])/\w'.ownsRow w.heap.size 3 1 (.slice oa (bW h i).1.length oc) (bW h i).1.length ((bW h i).1.map bT)
set_option maxRecDepth 100000 in
set_option maxHeartbeats 4000000 in
theorem Dm(h:List ae)(a:Option Addr)(c g:Nat)(i0:Int)(hi:i0 = -1∨∃j:Nat,j<h.length/\i0=j)(w:World)(hc:ay w a h)(hl:h.length<=100000)(hg:TabAt w g h) :
 Calls Tryz.prog 173 #[.agg #[.slice a h.length c,.map (some g)],.int .i64 i0] w (xn h i0 w):=by
 have S0:=Lib.hid (TB.start (c:=c) hc hg)
 have HS:Hid (∀(j:Nat) (hj:j<h.length) (w1:World),ay w1 a h->TabAt w1 g h->Calls Tryz.prog 185 #[.agg #[.slice a h.length c,.map (some g)],.int .i64 j] w1 (aj w1 (.int .i64 (eY h h[j])))):=fun j hj w1 h1 h2=>Jz h a c g j hj w1 h1 hl h2
 have HC0:=Lib.hid hc
 have HT0:=Lib.hid hg
 clear hc hg
 go_enter Tryz.func173,Tryz.ntmps173
 go_upto_region 1 with (fail)
 generalize w.alloc _=W at *
 have hWs:=S0.out.hb.size
 go_wp2_with (refine sH rfl 105 rfl jG (Value.int .i64) ?_;intro hmp)
 have R0:Hid (CH h a c g W.heap.size i0 w (W.alloc (.map #[] 0)) (h.length+1) i0 [] (.slice none 0 0)) :=
  ⟨S0.out.below (av ..),by rw[<-Kn];exact hmp,hWs,World.ownsRow_nil _ _ _ _,List.nodup_nil,by simp,hi,rfl,by simp⟩
 generalize hgm:W.heap.size=gm at *
 generalize W.alloc (.map #[] 0)=W1 at *
 clear hmp S0 hgm hWs
 go_loopw[1,4] (fun i v wr=>∃n j l,∃(oa:Option Addr) (oc:Nat),i = .int .i64 j/\v = .slice oa l.length oc/\Hid (CH h a c g gm i0 w wr n j l (.slice oa l.length oc))) (fun _ v _=>h.length+1-Kg v)
 case atStart=>exact⟨_,_,[],none,0,rfl,rfl,R0.out⟩
 case round =>
  clear R0
  obtain⟨n,j,l,oa,oc,rfl,rfl,R⟩:=hrel
  have hll:=rD _ _ R.out.nd R.out.al
  have hln:=R.out.ln
  obtain⟨n,rfl⟩:∃m,n=m+1:=⟨n-1,by omega⟩
  by_cases hj:0<=j
  case neg =>
   have HE:Hid (bW h i0=(l,j)):=by show _=_;rw[<-R.out.eq,qC (fun k=>hj k.1)]
   go_wp2
   refine bodyPost_ret (v:=.tuple #[.slice oa l.length oc,.bool false]) (by simp[results,Tryz.results173,go_sem]) rfl ?_
   exact⟨R.out.tb.hb,oa,oc,by rw[HE.out];simp[hj],by rw[HE.out];exact R.out.ow⟩
  case pos =>
   by_cases hm:j∈l
   case pos =>
    have HE:Hid (bW h i0=(l,j)):=by show _=_;rw[<-R.out.eq,qC (fun k=>k.2 hm)]
    have hlk:(Instr.lookup 105 (.map (some gm)) (.int .i64 j) false).run Tryz.prog wr = .ok (.bool true) wr:=by rw[R.out.mp.lookup j5 jG (lW wr) j false];simp[fK,hm]
    go_wp2
    refine bodyPost_ret (v:=.tuple #[.slice oa l.length oc,.bool true]) (by simp[results,Tryz.results173,go_sem]) rfl ?_
    exact⟨R.out.tb.hb,oa,oc,by rw[HE.out];simp[hj],by rw[HE.out];exact R.out.ow⟩
   case neg =>
    have hlk:(Instr.lookup 105 (.map (some gm)) (.int .i64 j) false).run Tryz.prog wr = .ok (.bool false) wr:=by rw[R.out.mp.lookup j5 jG (lW wr) j false];simp[fK,hm]
    have HE:Hid (jg h n (eH h j) (l++[j])=bW h i0):=by show _=_;rw[<-R.out.eq,uz hj hm]
    obtain⟨k,hk,rfl⟩:∃k:Nat,k<h.length/\j=k:=by
     rcases R.out.il with rfl | h1
     ·omega
     ·exact h1
    have hws:=R.out.tb.hb.size
    go_upto_region 4 with (at_mapUpdate;refine jW rfl _ _ _ _ rfl j5 jG gm rfl R.out.mp (k:Int) rfl (.bool true) rfl ?_;intro w2 hm2 hg2 hs2)
    have hb2:Below w.heap.size w w2:=R.out.tb.hb.grown hg2 hws (fun q hq=>by cases hq;exact R.out.ge)
    have MP2:Hid (bC w2 gm (Value.int .i64) (fK (l++[(k:Int)])) (l.length+1)):=by rw[zY]at hm2;exact hm2
    have OW2:=Lib.hid (oO R.out.ow R.out.mp hg2)
    have X2:=Lib.hid (R.out.tb.b1.grown hg2 (r9 R.out.tb.b1 R.out.mp))
    have HB2:=Lib.hid hb2
    have hs2':w.heap.size<=w2.heap.size:=by omega
    have HN:=Lib.hid R.out.nd
    have HA:=Lib.hid R.out.al
    have hge:=R.out.ge
    clear R hm2 hg2 hb2 hlk hs2
    have O1:=Lib.hid (gL OW2.out (av w2 (.cells #[.int .i64 k] 3)))
    have M1:=Lib.hid (MP2.out.below (av w2 (.cells #[.int .i64 k] 3)))
    have X1:=Lib.hid (X2.out.below (av w2 (.cells #[.int .i64 k] 3)))
    have B1:=Lib.hid (HB2.out.trans ((av w2 (.cells #[.int .i64 k] 3)).mono hs2'))
    go_upto_region 5 with (at_builtin;refine uE rfl _ _ rfl w.heap.size _ l rfl O1.out _ 1 [(k:Int)] rfl (tZ _ _) (by omega) (by simp) (by simp;omega) ?_;intro v' w3 own3 grown3)
    have hb3:Below w.heap.size w w3:=B1.out.grown grown3 (by simp;omega) (fun q hq=>(O1.out.lt q hq).1)
    have M3:=Lib.hid (M1.out.grown grown3 (rq O1.out M1.out))
    have X3:=Lib.hid (X1.out.grown grown3 (gD O1.out X1.out (by decide)))
    have OW3:=Lib.hid own3
    obtain⟨hlen3,oa',oc',rfl,-,-⟩:=jK own3
    have S3:Hid (TB h a c g w w3):=⟨hb3,X3.out,HC0.out.below hb3,HT0.out.below hb3⟩
    clear O1 M1 X1 B1 own3 grown3 hb3 OW2 X2 HB2 MP2 X3
    obtain⟨z0,z1⟩:=S3.out.now (Below.refl _ _)
    go_wp2_with (go_at_call 185;refine(HS.out k hk _ S3.out.hc S3.out.tg).mono ?_;rintro e w4 ⟨rfl,hb4⟩)
    have hsk:eH h (k:Int)=eY h h[k]:=by simp[eH,hk]
    have S4:=Lib.hid (S3.out.below hb4)
    have M4:=Lib.hid (M3.out.below hb4)
    have OW4:=Lib.hid (gL OW3.out hb4)
    go_roundw
    case rel =>
     refine⟨n,eY h h[k],l++[(k:Int)],oa',oc',rfl,by simp,S4.out,by simpa using M4.out,hge,OW4.out,?_,?_,by rw[<-hsk];exact Dp _,by rw[<-hsk];exact HE.out,by simp;omega⟩
     ·rw[List.nodup_append]
      exact⟨HN.out,by simp,fun x hx y hy e=>by rw[List.mem_singleton.1 hy]at e;exact hm (e▸hx)⟩
     ·intro x hx
      rcases List.mem_append.1 hx with hx | hx
      ·exact HA.out x hx
      ·exact⟨k,hk,List.mem_singleton.1 hx⟩
    case measure=>simp[Kg];omega

theorem OG(s:Str)(x:ae):∀(l:List ae) (k:Nat),fw s (l++[x]) k=if 0<=fw s l k then fw s l k else if aD x.name s=true then((k+l.length:Nat):Int)else -1
 |[],k=>by
  show(if aD x.name s=true then(k:Int)else fw s [] (k+1))=_
  rw[if_neg (show ¬ (0:Int)<=fw s [] k by show ¬ (0:Int) <= -1;omega)]
  rfl
 |y::l,k=>by
  show(if aD y.name s=true then(k:Int)else fw s (l++[x]) (k+1))=_
  by_cases h:aD y.name s=true
  ·have e:fw s (y::l) k=k:=by show(if aD y.name s=true then(k:Int)else _)=_;rw[if_pos h]
   rw[if_pos h,e,if_pos (by omega)]
  ·have e:fw s (y::l) k=fw s l (k+1):=by show(if aD y.name s=true then(k:Int)else _)=_;rw[if_neg h]
   rw[if_neg h,e,OG s x l (k+1),List.length_cons]
   have:k+1+l.length=k+(l.length+1):=by omega
   rw[this]
theorem OD(s:Str)(x:ae)(l:List ae):aI (l++[x]) s=if 0<=aI l s then aI l s else if aD x.name s=true then(l.length:Int)else -1:=by
 have:=OG s x l 0
 rw[Nat.zero_add]at this
 exact this
theorem JJ:(fun _:Str=>(none:Option Value))=gU []:=by funext s;rfl
theorem Sa{l:List ae}{x:ae}(h:0<=aI l x.name):gU (l++[x])=gU l:=by
 funext s
 unfold gU
 rw[OD]
 by_cases h1:0<=aI l s
 ·rw[if_pos h1]
 ·rw[if_neg h1,if_neg h1]
  have:aD x.name s=false:=by
   cases hq:aD x.name s with
   |false=>rfl
   |true =>
    have:x.name=s:=Cj hq
    rw[this]at h
    exact absurd h h1
  rw[this];simp
theorem Sb{l:List ae}{x:ae}(h:¬ 0<=aI l x.name):(fun s=>if s=x.name then some (.int .i64 (l.length:Int))else gU l s)=gU (l++[x]):=by
 funext s
 unfold gU
 rw[OD]
 by_cases hs:s=x.name
 ·subst hs
  rw[if_pos rfl,if_neg h,if_pos (show aD x.name x.name=true by simp[aD]),if_pos (by omega)]
 ·rw[if_neg hs]
  have:aD x.name s=false:=by
   cases hq:aD x.name s with
   |false=>rfl
   |true=>exact absurd (Cj hq).symm hs
  rw[this,if_neg (by simp:¬ false=true)]
  by_cases h1:0<=aI l s
  ·simp[h1]
  ·simp[h1]
structure TO(h:List ae)(a:Option Addr)(c:Nat)(w wr:World)(b gm:Nat)(k:Nat):Prop where
 hb:Below w.heap.size w wr
 bx:ah wr w.heap.size #[.slice a h.length c] 24
 rs:ah wr (w.heap.size+1) #[.slice none 0 0,.map none] 206
 tb:ah wr b #[.slice a h.length c,.map (some gm)] 206
 mp:bC wr gm Value.string (gU (h.take k)) k
 gb:w.heap.size+2<=b
 gg:w.heap.size+2<=gm
theorem TO.below{h:List ae}{a:Option Addr}{c:Nat}{w wr w':World}{b gm k:Nat}(x:TO h a c w wr b gm k)(hb:Below wr.heap.size wr w'):TO h a c w w' b gm k :=
 ⟨x.hb.trans (hb.mono x.hb.size),x.bx.below hb,x.rs.below hb,x.tb.below hb,x.mp.below hb,x.gb,x.gg⟩
theorem zT{ops:Array Oper}{rest:List Oper}{o:Oper}{a:Act}{w:World}{Q:Exit->Act->World->Prop}(hgd:o.guard=none)(x y:Operand)(ho:o.op = .store 206 x y)
 (g:Nat) (ad:Option Addr) (n c gm:Nat) (hx:a.eval x = .pointer (some ⟨g,0,none⟩)) (hy:a.eval y = .agg #[.slice ad n c,.map (some gm)])
 (old:Array Value) (hg:ah w g old 206) (hold:old.size=2)
 (h:wpList Tryz.prog ops Q rest (a.put o.dst undef) (w.setRow g #[.slice ad n c,.map (some gm)])):wpList Tryz.prog ops Q (o::rest) a w :=
 wpList_store_row hgd 206 x y ho g _ hx hy 206 old hg (by kernel_rfl) hold (by simp[Value.oneCell']) h
theorem makeHint(n:Nat)(w:World):(Instr.makeMap 76 (some (.int .i64 (n:Int)))).run Tryz.prog w = .ok (.map (some w.heap.size)) (w.alloc (.map #[] 0)):=by
 simp[Instr.makeMap,run_underlying pO,newObj,asInt]
 rfl
def wV(h:List ae)(a:Option Addr)(c:Nat)(w:World)(e:Ending)(w':World):Prop:=Below w.heap.size w w'/\∃g,e = .returned (.agg #[.slice a h.length c,.map (some g)])/\TabAt w' g h/\w.heap.size<=g
end Go.Proofs.YtjnbddedmbhiaaaGreatDoor
