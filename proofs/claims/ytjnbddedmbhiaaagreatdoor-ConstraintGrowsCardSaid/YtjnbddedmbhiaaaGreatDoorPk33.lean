/-
  The constraints of a unit, as a plain list.
-/
import Derived.Test.YtjnbddedmbhiaaaGreatDoorPk32
import Derived.Shelf.SlGeneric
import Derived.Shelf.SlSortCmp.NoneTotal
import Derived.Ground.SlsfProg
namespace Go.ak
structure PC where
 k:Int
 a:Int
 b:Int
 f:Int
 s:List Int
deriving DecidableEq
def Cn.p(c:Cn):PC:=⟨c.k,c.a,c.b,c.f,c.s⟩
end Go.ak
namespace Go.Proofs.YtjnbddedmbhiaaaGreatDoor
open Go.RowKit Go.ak Go.AM

def kX(h:List ae)(L:List Sit)(base x thr:Int)(code:List Ins):Nat->Int->List Int->List PC
 |0,_,_=>[]
 |n+1,i,seen=>if i = -1 then [⟨2,x,thr,0,[]⟩]else if i∈seen then []else match code[i.toNat]? with
  |none=>[]
  |some c=>⟨5,x,base+c.dst,0,dD h L c.cls⟩::kX h L base x thr code n c.aZ (seen++[i])
theorem Uj{h:List ae}{L:List Sit}{base x thr:Int}{code:List Ins}{n:Nat}{seen:List Int}:kX h L base x thr code (n+1) (-1) seen=[⟨2,x,thr,0,[]⟩]:=rfl
theorem Ui{h:List ae}{L:List Sit}{base x thr:Int}{code:List Ins}{n:Nat}{i:Int}{seen:List Int}(h1:i ≠ -1)(h2:i∈seen):kX h L base x thr code (n+1) i seen=[]:=by
 unfold kX;rw[if_neg h1,if_pos h2]
theorem Uh{h:List ae}{L:List Sit}{base x thr:Int}{code:List Ins}{n:Nat}{i:Nat}{seen:List Int}(h2:(i:Int)∉seen)(hi:i<code.length):kX h L base x thr code (n+1) (i:Int) seen=⟨5,x,base+code[i].dst,0,dD h L code[i].cls⟩::kX h L base x thr code n code[i].aZ (seen++[(i:Int)]):=by
 conv=>lhs;unfold kX
 rw[if_neg (by omega),if_neg h2,Int.toNat_natCast,List.getElem?_eq_getElem hi]
def gZ(u:aQ)(L:List Sit)(bs:List Int)(f i:Nat)(x:Int):List PC :=
 match u.fs[f]?,bs[f]? with
 |some g,some b=>match g.code[i]? with
  |some c=>kX u.h L b x (b+g.vars.length+1) g.code (g.code.length+1) c.aZ []
  |none=>[]
 |_,_=>[]
theorem DJ(h:List ae)(L:List Sit)(base x thr:Int)(code:List Ins):∀(n:Nat) (i:Int) (seen:List Int),(kX h L base x thr code n i seen).length<=n
 |0,_,_=>Nat.le_refl _
 |n+1,i,seen=>by
  unfold kX
  split
  ·simp
  ·split
   ·simp
   ·split
    ·simp
    ·have:=DJ h L base x thr code n
     simp only[List.length_cons]
     exact Nat.succ_le_succ (this _ _)
def jb(u:aQ)(L:List Sit)(bs:List Int)(Fs:Int × Int->Option Int)(Ff:Str->Option Int)(g:aA)(base:Int)(f i:Nat)(x:Ins):List PC :=
 if x.op=6 then(if dA g x.dst.toNat=true then []else [⟨1,(Fs ((f:Int),(i:Int))).getD 0,base+x.dst,0,[]⟩])
 else if x.op=3 then(if dA g x.a.toNat=true then []else if dA g x.dst.toNat=true then []else [⟨2,base+x.a,base+x.dst,0,[]⟩])
 else if x.op=7 then(if dA g x.dst.toNat=true then []else [⟨3,base+x.a,base+x.dst,(Ff x.name).getD 0,[]⟩])
 else if x.op=8 then(if dA g x.b.toNat=true then []else [⟨4,base+x.b,base+x.a,(Ff x.name).getD 0,[]⟩])
 else if x.op=13 then(if x.a = -1 then []else if dA g x.a.toNat=true then []else [⟨2,base+x.a,base+g.vars.length,0,[]⟩])
 else if x.op=14 then gZ u L bs f i (base+x.a)
 else []
def fq(u:aQ)(L:List Sit)(bs:List Int)(Fs:Int × Int->Option Int)(Ff:Str->Option Int)(f i:Nat):List PC :=
 match u.fs[f]?,bs[f]? with
 |some g,some b=>match g.code[i]? with
  |some x=>jb u L bs Fs Ff g b f i x
  |none=>[]
 |_,_=>[]
theorem bI.below{κ:Type}[DecidableEq κ]{w w':World}{g:Nat}{enc:κ->Value}{F:κ->Option Value}(h:bI w g enc F)(hb:Below w.heap.size w w'):bI w' g enc F:=h.at (hb.block g h.lt)
theorem bI.grown{κ:Type}[DecidableEq κ]{w w':World}{g:Nat}{enc:κ->Value}{F:κ->Option Value}(h:bI w g enc F){row:Option Nat}(hg:w.grownBy w' row)(hne:some g≠row):bI w' g enc F:=h.at (hg.block g h.lt hne)
theorem bI.ER{κ:Type}[DecidableEq κ]{w:World}{g:Nat}{enc:κ->Value}{F:κ->Option Value}(h:bI w g enc F){base e s n:Nat}{v:Value}{xs:List Value}(ho:w.ownsRow base e s v n xs):some g≠v.ownBlock:=by
 rcases ho.2 with ⟨rfl,_⟩ | ⟨g',cap,cur,rfl,_,hh,_⟩
 ·simp[Value.ownBlock]
 ·simp only[Value.ownBlock,ne_eq,Option.some.injEq]
  rintro rfl
  exact h.cells _ _ _ hh
theorem bI.yu{κ:Type}[DecidableEq κ]{w:World}{g b:Nat}{enc:κ->Value}{F:κ->Option Value}(h:bI w g enc F){cs:Array Value}{t:TypeId}(hb:ah w b cs t):b≠g:=by
 rintro rfl
 unfold ah at hb
 exact h.cells _ _ _ hb
def BQ(D:BD)(P:List PC)(w wr:World):Prop:=∃K ka kc,BM D K ka kc w wr/\K.map Cn.p=P/\∀p∈P,p.s.length<=100000
section
variable {D:BD}{P:List PC}{w wr w':World}
theorem BQ.below(k:BQ D P w wr)(hb:Below wr.heap.size wr w'):BQ D P w w':=by
 obtain⟨K,ka,kc,h1,h2⟩:=k
 exact⟨K,ka,kc,h1.below hb,h2⟩
theorem BQ.cells(k:BQ D P w wr):wr.cell? ⟨D.R,0,none⟩=some (.slice D.ha D.u.h.length D.hc)/\wr.cell? ⟨D.R,1,none⟩=some (.slice D.fa D.u.fs.length D.fc)/\wr.cell? ⟨D.R,2,none⟩=some (.int .i64 D.u.main)/\wr.cell? ⟨D.R,3,none⟩=some (.slice D.sa D.L.length D.sc)/\wr.cell? ⟨D.R,4,none⟩=some (.map (some D.gs))/\wr.cell? ⟨D.R,5,none⟩=some (.slice D.ba D.bs.length D.bc)/\wr.cell? ⟨D.R,6,none⟩=some (.map (some D.gf))/\wr.cell? ⟨D.R,7,none⟩=some (.map (some D.gi))/\wr.cell? ⟨D.R,8,none⟩=some (.map (some D.gr))/\wr.cell? ⟨D.R,9,none⟩=some (.map (some D.gt)):=by
 obtain⟨K,ka,kc,h1,_⟩:=k
 exact h1.cells
theorem BQ.rd(k:BQ D P w wr):dV D.u D.ha D.hc D.fa D.fc D.bs D.ba D.bc D.R wr:=by
 obtain⟨K,ka,kc,h1,_⟩:=k
 exact h1.rd
theorem BQ.hb(k:BQ D P w wr):Below w.heap.size w wr:=by
 obtain⟨K,ka,kc,h1,_⟩:=k
 exact h1.bk.hb
theorem BQ.f0(k:BQ D P w wr):bR w D.fa D.u.fs:=by
 obtain⟨K,ka,kc,h1,_⟩:=k
 exact h1.f
theorem BQ.lo(k:BQ D P w wr):D.lo<=wr.heap.size:=by
 obtain⟨K,ka,kc,h1,_⟩:=k
 exact h1.lo.2.2.2
theorem BQ.cw(k:BQ D P w w'){W:World}(h:aF (mine D W) W w'):∃o:aX D w W,w' = o.u:=by
 obtain⟨K,ka,kc,h1,_⟩:=k
 exact h1.cw h
theorem BQ.iW(k:BQ D P w wr){b:Nat}{cs:Array Value}{t:TypeId}(h:ah wr b cs t)(h1:t≠81)(h2:t≠60):¬ mine D wr b:=by
 obtain⟨K,ka,kc,k1,_⟩:=k
 exact k1.zo h h1 h2
theorem BQ.on(k:BQ D P w wr)(hb:Below wr.heap.size wr w'){g:Nat}(hg:wr.heap.size<=g)(hl:g<w'.heap.size):BQ (D.on g) P w w':=by
 obtain⟨K,ka,kc,h1,h2⟩:=k
 exact⟨K,ka,kc,h1.on hb hg hl,h2⟩
theorem BQ.off{g:Nat}(k:BQ (D.on g) P w wr)(h0:D.ex=none):BQ D P w wr:=by
 obtain⟨K,ka,kc,h1,h2⟩:=k
 exact⟨K,ka,kc,h1.off h0,h2⟩
theorem BQ.other{g:Nat}(k:BQ (D.on g) P w wr)(hg:wr.grownBy w' (some g))(hlo:D.lo<=g)(hbs:w.heap.size<=g){κ:Type}[DecidableEq κ]{enc:κ->Value}{F0:κ->Option Value}(hm:bI wr g enc F0):BQ (D.on g) P w w':=by
 obtain⟨K,ka,kc,h1,h2⟩:=k
 exact⟨K,ka,kc,h1.other hg hlo hbs hm,h2⟩
theorem BQ.tgt(k:BQ D P w wr)(hc:aF (mine D wr) wr w'){g:Nat}{G:Int->Option Value}(hg:D.lo<=g)(h:bI wr g (Value.int .i64) G):bI w' g (Value.int .i64) G:=by
 obtain⟨K,ka,kc,h1,h2⟩:=k
 exact h1.tgt hc hg h
theorem gI.on(o:gI D)(g:Nat):gI (D.on g):=⟨o.b,o.l,o.n,o.v,o.fl,o.vl,o.cl,o.al,o.rg,o.ct,o.rk⟩
theorem Ul(c:Str)(k:BQ D P w wr)(o:gI D) :
 Calls Tryz.prog 76 #[.pointer (some ⟨D.R,0,none⟩),.string c] wr (fun e w'=>∃a cap,e = .returned (.slice a (dD D.u.h D.L c).length cap)/\bK w' a (dD D.u.h D.L c)/\BQ D P w w'/\aF (mine D wr) wr w'):=by
 obtain⟨K,ka,kc,h1,h2⟩:=k
 refine(cOf c h1 o).mono ?_
 rintro e w' ⟨a,cap,e1,e2,e3,e4⟩
 exact⟨a,cap,e1,e2,⟨K,ka,kc,e3,h2⟩,e4⟩
theorem Um(c m:Str)(g:Int)(k:BQ D P w wr)(o:gI D) :
 Calls Tryz.prog 44 #[.pointer (some ⟨D.R,0,none⟩),.agg #[.string c,.string m,.int .i64 g]] wr (fun e w'=>∃a l cap,e = .returned (.slice a l.length cap)/\l.length<=D.L.length/\bK w' a l/\BQ D P w w'/\aF (mine D wr) wr w'):=by
 obtain⟨K,ka,kc,h1,h2⟩:=k
 refine(y0Z c m g h1 o).mono ?_
 rintro e w' ⟨a,l,cap,e1,e2,e3,e4,e5⟩
 exact⟨a,l,cap,e1,e2,e3,⟨K,ka,kc,e4,h2⟩,e5⟩
theorem Un(x:bA)(k:BQ D P w wr)(o:gI D) :
 Calls Tryz.prog 16 #[.pointer (some ⟨D.R,0,none⟩),.agg #[.int .i64 x.f,.int .i64 x.i,.int .i64 x.c]] wr (fun e w'=>∃r:Int,e = .returned (.int .i64 r)/\(r=0->pK D.u x)/\BQ D P w w'/\aF (mine D wr) wr w'):=by
 obtain⟨K,ka,kc,h1,h2⟩:=k
 refine(y1h x h1 o).mono ?_
 rintro e w' ⟨r,e1,e2,e3,e4⟩
 exact⟨r,e1,e2,⟨K,ka,kc,e3,h2⟩,e4⟩
theorem qX(k:BQ D P w wr)(x:Cn)(g:Nat)(hg:ah wr g #[.int .i64 x.k,.int .i64 x.a,.int .i64 x.b,.int .i64 x.f,.slice x.sa x.s.length x.sc] 60)(hx:bK wr x.sa x.s)(hs:x.s.length<=100000)(hP:P.length<=1000000) :
 Calls Tryz.prog 39 #[.pointer (some ⟨D.R,0,none⟩),.slice (some ⟨g,0,none⟩) 1 1] wr (fun e w'=>e = .returned (.tuple #[])/\BQ D (P++[x.p]) w w'/\aF (mine D wr) wr w'):=by
 obtain⟨K,ka,kc,h1,rfl,h3⟩:=k
 refine(y1g h1.bk x g hg hx (by simpa using hP)).mono ?_
 rintro e w' ⟨rfl,ka',kc',hk,hc⟩
 obtain⟨e1,e2⟩:=h1.y2f hk hc
 exact⟨rfl,⟨_,_,_,e1,by simp,fun p hp=>by
  rcases List.mem_append.1 hp with h | h
  ·exact h3 p h
  ·rw[List.mem_singleton.1 h];exact hs⟩,e2⟩
end
end Go.Proofs.YtjnbddedmbhiaaaGreatDoor
namespace Go.Proofs
open Go.Shelf
def Tryz.Sz:Go.Shelf.Ren:=⟨fun | 6=>48 | 15=>60 | 14=>77 | 28=>109 | 29=>110 | 20=>134 | 21=>135 | 22=>136 | 23=>137 | 24=>138 | 25=>139 | 26=>140 | 27=>141 | 46=>186 | 47=>166 | 48=>167 | 49=>187 | 50=>188 | 57=>215 | n=>n,fun | 22=>34 | 24=>60 | 25=>121 | 3=>3 | 39=>115 | 0=>0 | 53=>201 | 55=>203 | 4=>4 | 46=>194 | 45=>193 | 50=>70 | 5=>5 | 9=>9 | 66=>252 | 70=>256 | 76=>279 | 77=>208 | n=>n,fun | n=>n⟩
theorem Tryz.Ka:Go.Proofs.SlLaysF0.n6 Tryz.prog Tryz.Sz:={
 mixed:=by kernel_rfl
 f6:=⟨Tryz.f48.name,by decide,Tryz.func48.trans (congrArg some (by kernel_rfl))⟩
 f14:=⟨Tryz.f77.name,by decide,Tryz.func77.trans (congrArg some (by kernel_rfl))⟩
 f15:=Tryz.func60.trans (congrArg some (by kernel_rfl))
 f20:=⟨Tryz.f134.name,by decide,Tryz.func134.trans (congrArg some (by kernel_rfl))⟩
 f21:=⟨Tryz.f135.name,by decide,Tryz.func135.trans (congrArg some (by kernel_rfl))⟩
 f22:=⟨Tryz.f136.name,by decide,Tryz.func136.trans (congrArg some (by kernel_rfl))⟩
 f23:=⟨Tryz.f137.name,by decide,Tryz.func137.trans (congrArg some (by kernel_rfl))⟩
 f24:=⟨Tryz.f138.name,by decide,Tryz.func138.trans (congrArg some (by kernel_rfl))⟩
 f25:=⟨Tryz.f139.name,by decide,Tryz.func139.trans (congrArg some (by kernel_rfl))⟩
 f26:=⟨Tryz.f140.name,by decide,Tryz.func140.trans (congrArg some (by kernel_rfl))⟩
 f27:=⟨Tryz.f141.name,by decide,Tryz.func141.trans (congrArg some (by kernel_rfl))⟩
 f28:=Tryz.func109.trans (congrArg some (by kernel_rfl))
 f29:=Tryz.func110.trans (congrArg some (by kernel_rfl))
 f46:=⟨Tryz.f186.name,by decide,Tryz.func186.trans (congrArg some (by kernel_rfl))⟩
 f47:=Tryz.func166.trans (congrArg some (by kernel_rfl))
 f48:=Tryz.func167.trans (congrArg some (by kernel_rfl))
 f49:=⟨Tryz.f187.name,by decide,Tryz.func187.trans (congrArg some (by kernel_rfl))⟩
 f50:=⟨Tryz.f188.name,by decide,Tryz.func188.trans (congrArg some (by kernel_rfl))⟩
 f57:=⟨Tryz.f215.name,by decide,Tryz.func215.trans (congrArg some (by kernel_rfl))⟩
 t0:=Tryz.underlying0
 a0:=Tryz.isAgg0
 z0:=Tryz.sizeOf0
 v0:=Tryz.zeroValue0
 t3:=Tryz.underlying3
 a3:=Tryz.isAgg3
 z3:=Tryz.sizeOf3
 v3:=Tryz.zeroValue3
 t4:=Tryz.underlying4
 a4:=Tryz.isAgg4
 z4:=Tryz.sizeOf4
 v4:=Tryz.zeroValue4
 t5:=Tryz.underlying5
 a5:=Tryz.isAgg5
 z5:=Tryz.sizeOf5
 v5:=Tryz.zeroValue5
 t9:=Tryz.underlying9
 a9:=Tryz.isAgg9
 z9:=Tryz.sizeOf9
 v9:=Tryz.zeroValue9
 t22:=Tryz.underlying34
 a22:=Tryz.isAgg34
 z22:=Tryz.sizeOf34
 v22:=Tryz.zeroValue34
 t25:=Tryz.underlying121
 a25:=Tryz.isAgg121
 z25:=Tryz.sizeOf121
 v25:=Tryz.zeroValue121
 t39:=Tryz.underlying115
 a39:=Tryz.isAgg115
 z39:=Tryz.sizeOf115
 v39:=Tryz.zeroValue115
 t45:=Tryz.underlying193
 a45:=Tryz.isAgg193
 z45:=Tryz.sizeOf193
 v45:=Tryz.zeroValue193
 t46:=Tryz.underlying194
 a46:=Tryz.isAgg194
 z46:=Tryz.sizeOf194
 v46:=Tryz.zeroValue194
 t50:=Tryz.underlying70
 a50:=Tryz.isAgg70
 z50:=Tryz.sizeOf70
 v50:=Tryz.zeroValue70
 t53:=Tryz.underlying201
 a53:=Tryz.isAgg201
 z53:=Tryz.sizeOf201
 v53:=Tryz.zeroValue201
 t55:=Tryz.underlying203
 a55:=Tryz.isAgg203
 z55:=Tryz.sizeOf203
 v55:=Tryz.zeroValue203
 t66:=Tryz.underlying252
 a66:=Tryz.isAgg252
 z66:=Tryz.sizeOf252
 v66:=Tryz.zeroValue252
 t70:=Tryz.underlying256
 a70:=Tryz.isAgg256
 z70:=Tryz.sizeOf256
 v70:=Tryz.zeroValue256
 t76:=Tryz.underlying279
 a76:=Tryz.isAgg279
 z76:=Tryz.sizeOf279
 v76:=Tryz.zeroValue279
 t77:=Tryz.underlying208
 a77:=Tryz.isAgg208
 z77:=Tryz.sizeOf208
 v77:=Tryz.zeroValue208 }
end Go.Proofs
namespace Go.ak
def PC.key(x:PC):List Int:=x.k::x.a::x.b::x.f::x.s
theorem PC.key_inj{x y:PC}(h:x.key=y.key):x=y:=by
 obtain⟨a,b,c,d,e⟩:=x
 obtain⟨a',b',c',d',e'⟩:=y
 simp only[PC.key,List.cons.injEq]at h
 obtain⟨h1,h2,h3,h4,h5⟩:=h
 simp[h1,h2,h3,h4,h5]
end Go.ak
namespace Go.Proofs.YtjnbddedmbhiaaaGreatDoor
open Go.RowKit Go.ak Go.AM Go.Sort Go.Shelf

theorem y0f(x y:Int)(a b:List Int):cmpL (x::a) (y::b)=if Lib.compareInt x y=0 then cmpL a b else Lib.compareInt x y:=by
 show(if x<y then(-1:Int)else if y<x then 1 else cmpL a b)=_
 unfold Lib.compareInt
 by_cases h1:x<y
 ·simp[h1]
 ·by_cases h2:y<x
  ·simp[h1,h2]
  ·simp[h1,h2]
theorem Py(x y:Cn):oh x y=cmpL x.p.key y.p.key:=by
 unfold PC.key Cn.p oh
 simp only[y0f,jv]
 by_cases h1:Lib.compareInt x.k y.k=0
 ·by_cases h2:Lib.compareInt x.a y.a=0
  ·by_cases h3:Lib.compareInt x.b y.b=0
   ·by_cases h4:Lib.compareInt x.f y.f=0
    ·simp[h1,h2,h3,h4]
    ·simp[h1,h2,h3,h4]
   ·simp[h1,h2,h3]
  ·simp[h1,h2]
 ·simp[h1]
theorem Px(x y:Cn):oh x y=0↔x.p=y.p:=by
 rw[Py]
 exact⟨fun h=>PC.key_inj (cmpL_eq h),fun h=>by rw[h];exact GM _⟩
abbrev nM(x y:PC):Prop:=yC x.key y.key
theorem qh:qL nM:=⟨fun _=>DV.irrefl _,fun _ _ _=>DV.trans _ _ _,fun _ _ h1 h2=>PC.key_inj (DV.total _ _ h1 h2)⟩
abbrev uN(w:World):Type:={x:Cn // bK w x.sa x.s/\x.s.length<=1000000}
instance (w:World):Inhabited (uN w):=⟨⟨⟨0,0,0,0,none,0,[]⟩,⟨fun k hk=>absurd hk (by simp),fun _ _ _ h=>absurd rfl h⟩,by simp⟩⟩
def rP{w:World}(x:uN w):List Value:=eX x.1
def wF{w:World}(x y:uN w):Int:=oh x.1 y.1
theorem Cf{w:World}(x y:uN w):ltOf wF x y=true↔nM x.1.p y.1.p:=by
 unfold ltOf wF nM yC
 rw[Py];simp
theorem GX{w:World}(x y:uN w):ltOf wF x y=false↔¬ nM x.1.p y.1.p:=by
 rw[<-Cf];simp
theorem Sc(w:World):SWO (ltOf (wF (w:=w))) where
 irrefl x:=(GX _ _).2 (qh.irrefl _)
 trans x y z h1 h2:=(Cf _ _).2 (qh.trans _ _ _ ((Cf _ _).1 h1) ((Cf _ _).1 h2))
 ntrans x y z h1 h2:=by
  rw[GX]at *
  intro h
  by_cases h3:nM y.1.p x.1.p
  ·exact h2 (qh.trans _ _ _ h3 h)
  ·rw[qh.total _ _ h1 h3]at h;exact h2 h
theorem Ov{w:World}(L:List (uN w)):flatK rP 5 L.toArray=(bE (L.map (·.1))).toArray:=by
 refine ext_get! (by simp[uf]) fun t ht=>?_
 have ht':t<L.toArray.size*5:=by simpa using ht
 rw[get_flatK _ _ _ t ht']
 have h1:t / 5<L.length:=by simp at ht';omega
 have h1':t / 5<(L.map (·.1)).length:=by simpa using h1
 have h2:=ug (L.map (·.1)) (t / 5) (t % 5) h1' (Nat.mod_lt _ (by omega))
 have h3:t / 5*5+t % 5=t:=by omega
 rw[h3]at h2
 have h4:L.toArray[t / 5]! = L[t / 5]:=by simp[h1]
 have h5:(L.map (·.1))[t / 5]=L[t / 5].1:=by simp
 rw[h5]at h2
 rw[h4,List.getElem!_toArray,List.getElem!_eq_getElem?_getD,List.getElem!_eq_getElem?_getD,h2]
 rfl
theorem SB(D:List Cn)(a:Option Addr)(c base:Nat)(w:World)(own:w.ownsRow base 60 5 (.slice a D.length c) D.length (bE D))(hl:D.length<=1000000)(hx:∀x∈D,bK w x.sa x.s/\x.s.length<=1000000) :
 Calls Tryz.prog 48 #[.slice a D.length c,.func (.func 46) #[] #[]] w (fun e w'=>e = .returned (.tuple #[])/\w.grownBy w' (Value.slice a D.length c).ownBlock/\∃D':List Cn,D'.Perm D/\(D'.map Cn.p).Pairwise (fun a b=>¬ nM b a)/\w'.ownsRow base 60 5 (.slice a D'.length c) D'.length (bE D')):=by
 have own0:=own
 obtain⟨hln,hown⟩:=own
 rcases hown with ⟨e,h0⟩ | ⟨g,cap,cur,e,hbase,hh,hn,hcap,hsz,ht⟩
 ·have hl0:D=[]:=List.eq_nil_of_length_eq_zero h0
  subst hl0
  cases e
  have h0:=AnyF.slices_SortFunc_none Tryz.Ka none 0 (.func (.func 46) #[] #[]) w
  change Calls Tryz.prog 48 _ _ _ at h0
  refine h0.mono ?_
  rintro e w' ⟨rfl,rfl⟩
  exact⟨rfl,World.grownBy.refl _ _,[],List.Perm.refl _,by simp,own0⟩
 ·cases e
  have hg:g<w.heap.size:=(Array.getElem?_eq_some_iff.1 hh).1
  have eg:∀args w,(callFunc 46 args).run Tryz.prog w = .ok (.enter 46 args) w:=enters_of Tryz.func46 (by kernel_rfl) rfl
  obtain⟨ds,hds⟩:∃ds:List (uN w),ds.map (·.1)=D:=⟨D.attach.map (fun x=>⟨x.1,hx x.1 x.2⟩),by simp⟩
  have hlns:ds.length=D.length:=by rw[<-hds];simp
  have hH:HoldsK rP 5 w g 0 ds.toArray:=by
   unfold HoldsK
   rw[Ov,hds]
   intro j hj
   have hj':j<(bE D).length:=by simpa using hj
   refine⟨?_,by simp[World.frozen?,hh]⟩
   have c:=own0.cells (g:=g) rfl j (bE D)[j] (List.getElem?_eq_getElem hj')
   rw[addr_add]at c
   rw[c]
   simp[hj']
  have hcmp:CmpLays Tryz.prog 46 #[] (rP (w:=w)) 5 wF g 0 ds.toArray.size w:=fun m os dk _ x y=>by
   have hgb:w.grownBy (sortWorldK rP 5 w g 0 m dk os) (some g):=by
    unfold sortWorldK putRowK
    exact N8 _
   have st:∀{a:Option Addr} {l:List Int},bK w a l->bK (sortWorldK rP 5 w g 0 m dk os) a l:=fun h=>h.keep hgb (fun b cs fr hc e=>by
    cases e
    rw[hh]at hc
    simp at hc)
   exact PG x.1 y.1 _ (st x.2.1).1 (st y.2.1).1 x.2.2 y.2.2
  have h:=AnyQ.slices_SortFunc Tryz.Ka 5 Tryz.isAgg60 Tryz.sizeOf60 rP (fun _=>rfl) (fun x v hv=>by simp[rP,eX]at hv;rcases hv with rfl | rfl | rfl | rfl | rfl<;>rfl) wF (Sc w) 46 #[] g 0 c ds.toArray w eg hcmp hH hg (by simp;omega)
  change Calls Tryz.prog 48 _ _ _ at h
  have e1:ds.toArray.size=D.length:=by simp[hlns]
  rw[e1]at h
  refine h.mono ?_
  rintro e w' ⟨rfl,d',n,os,hp,hs,rfl⟩
  obtain⟨hp1,-,hp2⟩:=hp
  have hsz':d'.size=D.length:=by rw[hp1];exact e1
  have hpm:d'.toList.Perm ds:=by simpa[Array.extract_eq_self_of_le,hsz',e1]using hp2
  have e2:sortWorldK rP 5 w g 0 n d' os=grow (putRow id (Sort.ahead w n) g 0 (bE (d'.toList.map (·.1))).toArray) os:=by
   unfold sortWorldK putRowK
   have:=Ov d'.toList
   rw[show d'.toList.toArray=d' by simp]at this
   rw[this]
  rw[e2]
  have hl3:(d'.toList.map (·.1)).length=D.length:=by simp[hsz']
  refine⟨rfl,N8 _,d'.toList.map (·.1),by rw[<-hds];exact hpm.map _,?_,?_⟩
  ·rw[List.map_map,List.pairwise_map,List.pairwise_iff_getElem]
   intro i j hi hj hij
   have h3:=hs i j (Nat.zero_le _) hij (by simpa[hsz']using hj)
   rw[GX,getElem!_pos d' i (by simpa using hi),getElem!_pos d' j (by simpa using hj)]at h3
   simpa using h3
  ·rw[hl3]
   refine⟨by rw[uf,hl3],.inr ⟨g,c,_,rfl,hbase,heap_put _ hh,hn,hcap,by simp[putCells,hsz],?_⟩⟩
   have e3:D.length*5=(bE (d'.toList.map (·.1))).length:=by rw[uf,hl3]
   rw[e3]
   refine R9 cur _ ?_
   rw[uf,hl3,hsz]
   exact Nat.mul_le_mul_right _ hn
end Go.Proofs.YtjnbddedmbhiaaaGreatDoor
namespace Go.Proofs.YtjnbddedmbhiaaaGreatDoor
open Go.RowKit Go.ak Go.AM

structure RW(D:BD)(P:List PC)(g:Nat)(seen:List Int)(w W0 wl:World):Prop where
 bq:BQ (D.on g) P w wl
 mp:bI wl g (Value.int .i64) (fK seen)
 ch:aF (mine D W0) W0 wl
theorem qQ(w:World)(a:Option Addr):bK w a []:=⟨fun k h=>absurd h (by simp),fun _ _ _ h=>absurd rfl h⟩
def rT(R:Nat)(w:World):Nat:=match w.cell? ⟨R,10,none⟩with
 |some (.slice _ n _)=>n
 |_=>0
theorem BQ.rT{D:BD}{P:List PC}{w wr:World}(k:BQ D P w wr):rT D.R wr=P.length:=by
 obtain⟨K,ka,kc,h1,rfl,-⟩:=k
 have c:=h1.bk.rb.cell 10 (by simp)
 simp only[List.getElem_toArray,List.getElem_cons_zero,List.getElem_cons_succ]at c
 unfold Go.Proofs.YtjnbddedmbhiaaaGreatDoor.rT
 rw[c];simp
set_option maxRecDepth 100000 in
set_option maxHeartbeats 16000000 in
theorem rZ{D:BD}{P:List PC}{w w0:World}(f i:Nat)(x:Int)(hf:f<D.u.fs.length)(hi:i<D.u.fs[f].code.length)(k:BQ D P w w0)(o:gI D)(hex:D.ex=none)(hx:0<=x/\x<=2000000000)(hP:P.length<=990000) :
 Calls Tryz.prog 41 #[.pointer (some ⟨D.R,0,none⟩),.int .i64 f,.int .i64 i,.int .i64 x] w0 (fun e w'=>e = .returned (.tuple #[])/\BQ D (P++gZ D.u D.L D.bs f i x) w w'/\aF (mine D w0) w0 w'):=by
 have S:=Lib.hid k
 have HO:=Lib.hid o
 obtain⟨hx0,hx1⟩:=hx
 have hfb:f<D.bs.length:=by rw[o.n];exact hf
 obtain⟨b,off,va,vc,ca,cc,he,-,-,-,-,-,-,m6,-,hins⟩:=k.f0 f hf
 have m6:=cell_below k.hb m6
 have HIN:=Lib.hid hins
 obtain⟨b2,off2,ga,gc,he2,-,-,-,-,-,-,-,-,-,p9,-⟩:=hins i hi
 have p9:=cell_below k.hb p9
 obtain⟨ba2,bo2,heb,pb⟩:=k.rd.b f hfb
 obtain⟨hb0,hb1⟩:=o.v f hfb
 have hcl:=o.cl _ (List.getElem_mem hf)
 have HCT:Hid (∀(j:Nat) (hj:j<D.u.fs[f].code.length),D.u.fs[f].code[j].aZ = -1∨(0<=D.u.fs[f].code[j].aZ/\D.u.fs[f].code[j].aZ<D.u.fs[f].code.length)):=fun j hj=>o.ct _ (List.getElem_mem hf) _ (List.getElem_mem hj)
 have HDS:Hid (∀(j:Nat) (hj:j<D.u.fs[f].code.length),-1<=D.u.fs[f].code[j].dst/\D.u.fs[f].code[j].dst<=1000000):=fun j hj=>(o.rg _ (List.getElem_mem hf) _ (List.getElem_mem hj)).1
 have HTH:Hid (∀w1,dV D.u D.ha D.hc D.fa D.fc D.bs D.ba D.bc D.R w1->Calls Tryz.prog 45 #[.pointer (some ⟨D.R,0,none⟩),.int .i64 f] w1 (aj w1 (.int .i64 (D.bs[f]+D.u.fs[f].vars.length+1)))):=fun w1 h=>Qh D.u D.ha D.hc D.fa D.fc D.bs D.ba D.bc D.R f hf hfb ⟨hb0,hb1⟩ (o.vl _ (List.getElem_mem hf)) w1 h
 have HR:Hid (gZ D.u D.L D.bs f i x=kX D.u.h D.L D.bs[f] x (D.bs[f]+D.u.fs[f].vars.length+1) D.u.fs[f].code (D.u.fs[f].code.length+1) D.u.fs[f].code[i].aZ []):=by
  show _=_
  unfold gZ
  rw[List.getElem?_eq_getElem hf,List.getElem?_eq_getElem hfb]
  simp only
  rw[List.getElem?_eq_getElem hi]
 have HCI:=Lib.hid (HCT.out i hi)
 generalize gZ D.u D.L D.bs f i x=R at *
 generalize hthr:D.bs[f]+(D.u.fs[f].vars.length:Int)+1=thr at *
 generalize hbase:D.bs[f]=base at *
 have hle:=S.out.lo
 have hbs:=S.out.hb.size
 have HL:Hid (∀w':World,Below w.heap.size w w'->dw w' ca D.u.fs[f].code):=fun w' hb=>HIN.out.below hb
 clear hins HIN k o
 generalize D.u.fs[f].code=code at *
 subst he2
 obtain⟨z0,z1,z2,-,-,z5,-,-,-,-⟩:=S.out.cells
 rw[he]at z1
 rw[heb]at z5
 have S1:=Lib.hid (S.out.on (av w0 (.map #[] 0)) (Nat.le_refl _) (by simp))
 have HCB:Hid (aF (mine D w0) w0 (w0.alloc (.map #[] 0))):=aF.of_below (av ..)
 go_enter Tryz.func41,Tryz.ntmps41
 go_upto_region 2 with (refine sH rfl 105 rfl jG (Value.int .i64) ?_;intro hmp)
 have c9:=cell_below (av w0 (.map #[] 0)) p9
 have HMP:Hid (bI (w0.alloc (.map #[] 0)) w0.heap.size (Value.int .i64) (fK [])):=⟨_,hmp⟩
 clear hmp p9 m6 z0 z1 z2 z5 pb
 generalize hgs:w0.heap.size=gs at *
 generalize w0.alloc _=W1 at *
 generalize hci:code[i].aZ=at0 at *
 go_wp2
 go_loopw[10] (fun v wl=>∃(at1:Int) (seen:List Int) (Q:List PC) (n:Nat),v = .int .i64 at1/\(at1 = -1∨(0<=at1/\at1<code.length))/\n+seen.length=code.length+1/\Q.length=seen.length/\seen.Nodup/\(∀y∈seen,∃q:Nat,q<code.length/\y=q)/\Hid (R=Q++kX D.u.h D.L base x thr code n at1 seen)/\Hid (RW D (P++Q) gs seen w w0 wl)) (fun _ w=>P.length+code.length+1-rT D.R w)
 case atStart=>exact⟨at0,[],[],_,rfl,HCI.out,rfl,rfl,List.nodup_nil,by simp,(by show _=_;rw[HR.out];rfl),⟨by simpa using S1.out,HMP.out,HCB.out⟩⟩
 case round =>
  obtain⟨at1,seen,Q,n,rfl,hat,hn,hql,hnd,hrg,HRR,T⟩:=hrel
  have hsl:=rD code.length seen hnd hrg
  obtain⟨n,rfl⟩:∃n',n=n'+1:=⟨n-1,by omega⟩
  have hcn:=T.out.bq.rT
  simp only[List.length_append]at hcn
  rcases hat with rfl | ⟨ha0,ha1⟩
  case inl =>
   have HN:Hid (R=Q++[⟨2,x,thr,0,[]⟩]):=by show _=_;rw[HRR.out,Uj]
   clear HRR hcn
   go_wp2_with fail
   refine(HTH.out _ T.out.bq.rd).mono ?_
   rintro e w2 ⟨rfl,hb2⟩
   have S2:=Lib.hid (T.out.bq.below hb2)
   have C2:Hid (aF (mine D w0) w0 w2):=mine.trans T.out.ch (aF.of_below hb2)
   have S3:=Lib.hid (S2.out.below (av w2 (.cells #[.int .i64 2,.int .i64 x,.int .i64 thr,.int .i64 0,.slice none 0 0] 60)))
   have HG:Hid (ah (w2.alloc (.cells #[.int .i64 2,.int .i64 x,.int .i64 thr,.int .i64 0,.slice none 0 0] 60)) w2.heap.size #[.int .i64 2,.int .i64 x,.int .i64 thr,.int .i64 0,.slice none 0 0] 60):=aL ..
   have C3:Hid (aF (mine D w0) w0 (w2.alloc (.cells #[.int .i64 2,.int .i64 x,.int .i64 thr,.int .i64 0,.slice none 0 0] 60))):=mine.trans C2.out (aF.of_below (av ..))
   have hpq:(P++Q).length<=1000000:=by simp;omega
   clear S2 C2 hb2
   go_wp2_with fail
   refine(qX S3.out ⟨2,x,thr,0,none,0,[]⟩ w2.heap.size HG.out (qQ _ _) (by simp) hpq).mono ?_
   rintro e w4 ⟨rfl,hbq,hch⟩
   have S4:=Lib.hid hbq
   have C4:=Lib.hid (mine.trans C3.out hch)
   clear hbq hch
   go_wp2
   refine bodyPost_end (results_none rfl _ _ _) rfl ?_
   exact⟨rfl,by rw[HN.out,<-List.append_assoc];exact S4.out.off hex,C4.out⟩
  case inr =>
   obtain⟨j,rfl⟩:=Int.eq_ofNat_of_zero_le ha0
   have hj:j<code.length:=by omega
   have t0:((j:Int) == -1)=false:=by simp
   have t1:((j:Int) != -1)=true:=by simp
   have t2:¬ (j:Int) = -1:=by omega
   obtain⟨n4,hm4⟩:=T.out.mp
   have hlk:=hm4.lookup j5 jG (lW wr) (j:Int) false
   have HM4:=Lib.hid hm4
   clear hm4
   by_cases hs:(j:Int)∈seen
   case pos =>
    have HN:Hid (R=Q):=by show _=_;rw[HRR.out,Ui (by omega) hs,List.append_nil]
    have hlk2:(Instr.lookup 105 (.map (some gs)) (.int .i64 (j:Int)) false).run Tryz.prog wr = .ok (.bool true) wr:=by rw[hlk];simp[fK,hs]
    clear hlk HRR hcn ha0 ha1 hs hrg
    go_wp2
    refine bodyPost_end (results_none rfl _ _ _) rfl ?_
    exact⟨rfl,by rw[HN.out];exact T.out.bq.off hex,T.out.ch⟩
   case neg =>
    have hlk2:(Instr.lookup 105 (.map (some gs)) (.int .i64 (j:Int)) false).run Tryz.prog wr = .ok (.bool false) wr:=by rw[hlk];simp[fK,hs]
    have HN:Hid (R=Q++[⟨5,x,base+code[j].dst,0,dD D.u.h D.L code[j].cls⟩]++kX D.u.h D.L base x thr code n code[j].aZ (seen++[(j:Int)])):=by show _=_;rw[HRR.out,Uh hs hj,List.append_assoc];rfl
    have hnd2:(seen++[(j:Int)]).Nodup:=by
     rw[List.nodup_append]
     exact⟨hnd,by simp,fun a ha b hb=>by rw[List.mem_singleton.1 hb];exact fun e=>hs (e▸ha)⟩
    have hrg2:∀y∈seen++[(j:Int)],∃q:Nat,q<code.length/\y=q:=fun y hy=>by
     rcases List.mem_append.1 hy with h | h
     ·exact hrg y h
     ·exact⟨j,hj,List.mem_singleton.1 h⟩
    have HCJ:=Lib.hid (HCT.out j hj)
    obtain⟨hd0,hd1⟩:=HDS.out j hj
    clear HRR hs hrg hnd hlk ha0 ha1
    go_upto_region 5 with (at_mapUpdate;refine jW rfl _ _ _ _ rfl j5 jG gs rfl HM4.out (j:Int) rfl (.bool true) rfl ?_;intro w5 hm5 hg5 hs5)
    rw[zY]at hm5
    have S5:=Lib.hid (T.out.bq.other hg5 hle hbs T.out.mp)
    have M5:Hid (bI w5 gs (Value.int .i64) (fK (seen++[(j:Int)]))):=⟨_,hm5⟩
    have C5:=Lib.hid (mine.fresh T.out.ch hg5 (Nat.le_of_eq hgs))
    obtain⟨b4,off4,ga4,gc4,he4,q0,q1,q2,q3,q4,q5,q6,q7,q8,q9,-⟩:=HL.out w5 S5.out.hb j hj
    cases he4
    clear hm5 hg5 hs5 T HM4 hlk2
    generalize code[j]=c at *
    have BZ:Hid (ah (w5.alloc bV) w5.heap.size _ 53):=aL ..
    go_upto_region 6 with (refine kR rfl rfl _ _ rfl w5.heap.size c ga4 gc4 rfl rfl _ BZ.out rfl ?_)
    have hrow:=bP (av w5 bV) (Nat.le_refl w5.heap.size) #[.int .i64 c.op,.int .i64 c.dst,.int .i64 c.a,.int .i64 c.b,.int .i64 c.n,.string c.cls,.string c.name,.slice ga4 c.args.length gc4,.int .i64 c.goto,.int .i64 c.aZ]
    have B6:=Lib.hid (BZ.out.setRow #[.int .i64 c.op,.int .i64 c.dst,.int .i64 c.a,.int .i64 c.b,.int .i64 c.n,.string c.cls,.string c.name,.slice ga4 c.args.length gc4,.int .i64 c.goto,.int .i64 c.aZ])
    have S6:=Lib.hid (S5.out.below hrow)
    have M6:=Lib.hid (M5.out.at (hrow.block _ M5.out.lt))
    have C6:=Lib.hid (mine.trans C5.out (aF.of_below hrow))
    clear S5 M5 C5 hrow BZ q0 q1 q2 q3 q4 q5 q6 q7 q8 q9
    generalize (w5.alloc bV).setRow w5.heap.size _=W3 at *
    generalize w5.heap.size=n6 at *
    have n1:=S6.out.iW B6.out (by decide) (by decide)
    have i1:=B6.out.cell 1 (by simp)
    have i5:=B6.out.cell 5 (by simp)
    have i9:=B6.out.cell 9 (by simp)
    simp only[List.getElem_toArray,List.getElem_cons_zero,List.getElem_cons_succ]at i1 i5 i9
    have k1:∀o:aX (D.on gs) w W3,o.u.cell? ⟨n6,1,none⟩=some (.int .i64 c.dst):=fun o=>o.old i1 n1
    have k5:∀o:aX (D.on gs) w W3,o.u.cell? ⟨n6,5,none⟩=some (.string c.cls):=fun o=>o.old i5 n1
    have k9:∀o:aX (D.on gs) w W3,o.u.cell? ⟨n6,9,none⟩=some (.int .i64 c.aZ):=fun o=>o.old i9 n1
    have z5:∀o:aX (D.on gs) w W3,o.u.cell? ⟨D.R,5,none⟩=some (.slice (some ⟨ba2,bo2,none⟩) D.bs.length D.bc):=fun o=>by rw[<-heb];exact o.cells.2.2.2.2.2.1
    have kb:∀o:aX (D.on gs) w W3,o.u.cell? ⟨ba2,bo2+f,none⟩=some (.int .i64 base):=fun o=>by
     obtain⟨_,_,_,k⟩:=o.bm
     obtain⟨b',o',e,hc⟩:=k.rd.b f hfb
     have e2:=heb.symm.trans e
     cases e2
     rw[<-hbase]
     exact hc
    have S7:=Lib.hid (S6.out.below (Below.refl _ W3).drew)
    have C7:Hid (aF (mine D W3) W3 W3.drew):=aF.of_below (Below.refl _ W3).drew
    have M7:=Lib.hid (M6.out.at ((Below.refl _ W3).drew.block _ M6.out.lt))
    have hcw:=S7.out.cw C7.out
    have hne:Nonempty (aX (D.on gs) w W3):=hcw.elim fun o _=>⟨o⟩
    have HOF:Hid (Calls Tryz.prog 76 #[.pointer (some ⟨D.R,0,none⟩),.string c.cls] W3.drew (fun e w'=>∃a cap,e = .returned (.slice a (dD D.u.h D.L c.cls).length cap)/\bK w' a (dD D.u.h D.L c.cls)/\BQ (D.on gs) (P++Q) w w'/\aF (mine D W3.drew) W3.drew w')):=Ul c.cls S7.out (HO.out.on gs)
    clear i1 i5 i9 n1
    refine dC (fun w'=>∃o:aX (D.on gs) w W3,w' = o.u) (by kernel_rfl) ?_
    change bO _ _ _ _ _ _ _ _ W3.drew
    generalize W3.drew=V2 at *
    refine af 0 rfl (by kernel_rfl) (fun _ _ _ _ h=>h) hcw (fun K hK=>?_);go_simp;refine hK _ ?_;clear hK K
    refine af 1 rfl (by kernel_rfl) (fun _ _ _ _ h=>h) hcw (fun K hK=>?_);go_simp;refine hK _ ?_;clear hK K
    refine af 2 rfl (by kernel_rfl) (fun _ _ _ _ h=>h) hcw (fun K hK=>?_);go_simp;refine hK _ ?_;clear hK K
    refine af 3 rfl (by kernel_rfl) (fun _ _ _ _ h=>h) hcw (fun K hK=>?_);go_simp;refine hK _ ?_;clear hK K
    refine af 4 rfl (by kernel_rfl) (fun _ _ _ _ h=>h) hcw (fun K hK=>?_);go_simp;refine hK _ ?_;clear hK K
    refine af 5 rfl (by kernel_rfl) (fun _ _ _ _ h=>h) hcw (fun K hK=>?_);go_simp;refine hK _ ?_;clear hK K
    refine af 6 rfl (by kernel_rfl) (fun _ _ _ _ h=>h) hcw (fun K hK=>?_);go_simp;refine hK _ ?_;clear hK K
    refine af 7 rfl (by kernel_rfl) (fun _ _ _ _ h=>h) hcw (fun K hK=>?_);go_simp;refine hK _ ?_;clear hK K
    refine af 8 rfl (by kernel_rfl) (fun _ _ _ _ h=>h) hcw (fun K hK=>?_);go_simp;refine hK _ ?_;clear hK K
    refine af 9 rfl (by kernel_rfl) (fun _ _ _ _ h=>h) hcw (fun K hK=>?_);go_simp;refine hK _ ?_;clear hK K
    refine af 10 rfl (by kernel_rfl) (fun _ _ _ _ h=>h) hcw (fun K hK=>?_);go_simp;refine hK _ ?_;clear hK K
    refine af 11 rfl (by kernel_rfl) (fun _ _ _ _ h=>h) hcw (fun K hK=>?_);go_simp;refine hK _ ?_;clear hK K
    refine af 12 rfl (by kernel_rfl) (fun _ _ _ _ h=>h) hcw (fun K hK=>?_);go_simp;refine hK _ ?_;clear hK K
    refine af 13 rfl (by kernel_rfl) (fun _ _ _ _ h=>h) hcw (fun K hK=>?_);go_simp;refine hK _ ?_;clear hK K
    refine af 14 rfl (by kernel_rfl) (fun _ _ _ _ h=>h) hcw (fun K hK=>?_);go_simp;refine hK _ ?_;clear hK K
    refine aP 15 rfl (by kernel_rfl) ?_
    go_wp2_with fail
    refine HOF.out.mono ?_
    rintro e w7 ⟨a7,cap7,rfl,hset,hbq,hch⟩
    have S8:=Lib.hid hbq
    have M8:=Lib.hid (S7.out.tgt hch hle M7.out)
    have C8:Hid (aF (mine D W3) W3 w7):=mine.trans C7.out hch
    have HS8:=Lib.hid hset
    clear hbq hch hset S7 M7 C7 HOF hcw
    have hcw8:=S8.out.cw C8.out
    go_wp2
    refine⟨hcw8,?_⟩
    refine af 16 rfl (by kernel_rfl) (fun _ _ _ _ h=>h) hcw8 (fun K hK=>?_);go_simp;refine hK _ ?_;clear hK K
    have S9:=Lib.hid (S8.out.below (av w7 (.cells #[.int .i64 5,.int .i64 x,.int .i64 (base+c.dst),.int .i64 0,.slice a7 (dD D.u.h D.L c.cls).length cap7] 60)))
    have M9:=Lib.hid (M8.out.at ((av w7 (.cells #[.int .i64 5,.int .i64 x,.int .i64 (base+c.dst),.int .i64 0,.slice a7 (dD D.u.h D.L c.cls).length cap7] 60)).block _ M8.out.lt))
    have C9:Hid (aF (mine D W3) W3 (w7.alloc (.cells #[.int .i64 5,.int .i64 x,.int .i64 (base+c.dst),.int .i64 0,.slice a7 (dD D.u.h D.L c.cls).length cap7] 60))):=mine.trans C8.out (aF.of_below (av ..))
    have HS9:=Lib.hid (HS8.out.below (av w7 (.cells #[.int .i64 5,.int .i64 x,.int .i64 (base+c.dst),.int .i64 0,.slice a7 (dD D.u.h D.L c.cls).length cap7] 60)))
    have HG:Hid (ah (w7.alloc (.cells #[.int .i64 5,.int .i64 x,.int .i64 (base+c.dst),.int .i64 0,.slice a7 (dD D.u.h D.L c.cls).length cap7] 60)) w7.heap.size _ 60):=aL ..
    have hcw9:=S9.out.cw C9.out
    have hpq:(P++Q).length<=1000000:=by simp;omega
    refine aP 17 rfl (by kernel_rfl) ?_
    go_wp2
    refine⟨hcw9,?_⟩
    clear S8 M8 C8 HS8 hcw8 hcw9
    refine aP 18 rfl (by kernel_rfl) ?_
    go_wp2_with fail
    refine(qX S9.out ⟨5,x,base+c.dst,0,a7,cap7,dD D.u.h D.L c.cls⟩ w7.heap.size HG.out HS9.out (Nat.le_trans (A7 _ _) HO.out.l) hpq).mono ?_
    rintro e wA ⟨rfl,hbq,hch⟩
    have SA:Hid (BQ (D.on gs) (P++(Q++[⟨5,x,base+c.dst,0,dD D.u.h D.L c.cls⟩])) w wA):=by rw[<-List.append_assoc];exact hbq
    have MA:=Lib.hid (S9.out.tgt hch hle M9.out)
    have CA:=Lib.hid (mine.trans C9.out hch)
    have CA0:=Lib.hid (mine.trans C6.out CA.out)
    have hcwA:=SA.out.cw CA.out
    obtain⟨oA,hoA⟩:=id hcwA
    have y9:=k9 oA
    rw[<-hoA]at y9
    clear hoA hbq hch S9 M9 C9 HS9 HG S6 M6 C6 B6
    go_wp2
    refine⟨hcwA,?_⟩
    refine dh (by kernel_rfl) ?_ _
    have hcA:=SA.out.rT
    simp only[List.length_append,List.length_cons,List.length_nil]at hcA
    clear k1 k5 k9 z5 kb hcwA hne
    go_wp2
    go_roundw
    case rel=>exact⟨c.aZ,seen++[(j:Int)],Q++[(⟨5,x,base+c.dst,0,dD D.u.h D.L c.cls⟩:PC)],n,rfl,HCJ.out,by simp;omega,by simp;omega,hnd2,hrg2,HN.out,SA.out,MA.out,CA0.out⟩
    case measure =>
     have h1:rT D.R wr=P.length+Q.length:=hcn
     have h2:rT D.R wA=P.length+(Q.length+(0+1)):=hcA
     omega
end Go.Proofs.YtjnbddedmbhiaaaGreatDoor
