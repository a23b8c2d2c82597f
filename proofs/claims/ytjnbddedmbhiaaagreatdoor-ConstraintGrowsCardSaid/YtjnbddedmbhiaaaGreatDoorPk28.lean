/-
  constraint's builder: what is read of it; isInt, result, thrown.
-/
import Derived.Test.YtjnbddedmbhiaaaGreatDoorPk18
import Derived.Test.YtjnbddedmbhiaaaGreatDoorPk23
import Derived.Test.YtjnbddedmbhiaaaGreatDoorPk27
namespace Go.Proofs.YtjnbddedmbhiaaaGreatDoor
open Go.RowKit Go.ak Go.AM

structure dV(u:aQ)(ha:Option Addr)(hc:Nat)(fa:Option Addr)(fc:Nat)(bs:List Int)(ba:Option Addr)(bc:Nat)(bp:Nat)(w:World):Prop where
 c0:w.cell? ⟨bp,0,none⟩=some (.slice ha u.h.length hc)
 c1:w.cell? ⟨bp,1,none⟩=some (.slice fa u.fs.length fc)
 cb:w.cell? ⟨bp,5,none⟩=some (.slice ba bs.length bc)
 h:ay w ha u.h
 f:bR w fa u.fs
 b:aM w ba bs
def dA(f:aA)(v:Nat):Bool:=(f.vars[v]?.map (·.type.toList)).getD []==[105,110,116]
set_option maxRecDepth 100000 in
set_option maxHeartbeats 2000000 in
theorem qE(u:aQ)(ha:Option Addr)(hc:Nat)(fa:Option Addr)(fc:Nat)(bs:List Int)(ba:Option Addr)(bc bp:Nat)(f v:Nat)(hf:f<u.fs.length)(hv:v<u.fs[f].vars.length)(w:World)(hb:dV u ha hc fa fc bs ba bc bp w) :
 Calls Tryz.prog 38 #[.pointer (some ⟨bp,0,none⟩),.int .i64 f,.int .i64 v] w (Same w (.bool (dA u.fs[f] v))):=by
 have HB:=Lib.hid hb
 clear hb
 have HR:Hid (dA u.fs[f] v=(u.fs[f].vars[v].type.toList==[105,110,116])):=by show _=_;unfold dA;rw[List.getElem?_eq_getElem hv];rfl
 generalize dA u.fs[f] v=R at *
 obtain⟨b,off,va,vc,ca,cc,he,-,-,-,-,m4,-,-,hfv,-⟩:=HB.out.f f hf
 subst he
 obtain⟨b2,o2,he,-,p1⟩:=hfv v hv
 subst he
 have y1:=HB.out.c1
 clear hfv
 generalize u.fs[f]=g at *
 generalize g.vars[v]=x at *
 cases hx:(x.type.toList==[105,110,116])
 all_goals
  have e:=HR.out
  rw[hx]at e
  subst e
  clear HR
  go_enter Tryz.func38,Tryz.ntmps38
  go_wp2
  go_ret
  exact⟨rfl,rfl⟩
set_option maxRecDepth 100000 in
set_option maxHeartbeats 2000000 in
theorem qD(u:aQ)(ha:Option Addr)(hc:Nat)(fa:Option Addr)(fc:Nat)(bs:List Int)(ba:Option Addr)(bc bp:Nat)(f:Nat)(hf:f<u.fs.length)(hl:f<bs.length)(hbd:0<=bs[f]/\bs[f]<=1000000000)(hvl:u.fs[f].vars.length<=1000000)(w:World)(hb:dV u ha hc fa fc bs ba bc bp w) :
 Calls Tryz.prog 40 #[.pointer (some ⟨bp,0,none⟩),.int .i64 f] w (aj w (.int .i64 (bs[f]+u.fs[f].vars.length))):=by
 have HB:=Lib.hid hb
 clear hb
 obtain⟨b,off,va,vc,ca,cc,he,-,-,-,-,m4,-,-,-,-⟩:=HB.out.f f hf
 subst he
 obtain⟨b2,o2,he,p1⟩:=HB.out.b f hl
 subst he
 have y1:=HB.out.c1
 have y5:=HB.out.cb
 obtain⟨h0,h1⟩:=hbd
 generalize bs[f]=z at *
 generalize u.fs[f]=g at *
 go_enter Tryz.func40,Tryz.ntmps40
 go_upto_region 1 with (fail)
 have k1:∀o:WB w,o.u.cell? ⟨bp,1,none⟩=some (.slice (some ⟨b,off,none⟩) u.fs.length fc):=fun o=>cell_below o.h y1
 have k5:∀o:WB w,o.u.cell? ⟨bp,5,none⟩=some (.slice (some ⟨b2,o2,none⟩) bs.length bc):=fun o=>cell_below o.h y5
 have k6:∀o:WB w,o.u.cell? ⟨b2,o2+f,none⟩=some (.int .i64 z):=fun o=>cell_below o.h p1
 have k7:∀o:WB w,o.u.cell? ⟨b,off+f*7+4,none⟩=some (.slice va g.vars.length vc):=fun o=>cell_below o.h m4
 have hne:Nonempty (WB w):=⟨⟨w,Below.refl _ _⟩⟩
 clear y1 y5 p1 m4
 refine bJ w (by kernel_rfl) ?_
 repeat (go_big_quiet_step (fail))
 refine wpQuiet_nil ?_
 intro _ hw'
 obtain⟨o,rfl⟩:=hw'
 have HO:=Lib.hid o.h
 clear hne k1 k5 k6 k7
 go_wp2
 go_ret
 exact⟨rfl,HO.out⟩
set_option maxHeartbeats 1000000 in
theorem Qh(u:aQ)(ha:Option Addr)(hc:Nat)(fa:Option Addr)(fc:Nat)(bs:List Int)(ba:Option Addr)(bc bp:Nat)(f:Nat)(hf:f<u.fs.length)(hl:f<bs.length)(hbd:0<=bs[f]/\bs[f]<=1000000000)(hvl:u.fs[f].vars.length<=1000000)(w:World)(hb:dV u ha hc fa fc bs ba bc bp w) :
 Calls Tryz.prog 45 #[.pointer (some ⟨bp,0,none⟩),.int .i64 f] w (aj w (.int .i64 (bs[f]+u.fs[f].vars.length+1))):=by
 have HC:=Lib.hid (qD u ha hc fa fc bs ba bc bp f hf hl hbd hvl w hb)
 clear hb
 obtain⟨h0,h1⟩:=hbd
 generalize bs[f]=z at *
 generalize u.fs[f].vars.length=n at *
 go_enter Tryz.func45,Tryz.ntmps45
 go_wp2_with (go_at_call 40;refine HC.out.mono ?_;rintro e w1 ⟨rfl,hb1⟩)
 go_ret
 exact⟨rfl,hb1⟩
end Go.Proofs.YtjnbddedmbhiaaaGreatDoor
namespace Go.ak
def jv:List Int->Int
 |[]=>0
 |x::l=>if x=0 then jv l else x
def xS(x y:bA):Int:=jv [Lib.compareInt x.f y.f,Lib.compareInt x.i y.i,Lib.compareInt x.c y.c]
end Go.ak
namespace Go.Proofs.YtjnbddedmbhiaaaGreatDoor
open Go.RowKit Go.ak Go.AM

theorem UR(l:List Int)(k:Nat)(hk:k<l.length):jv (l.drop k)=if l[k]=0 then jv (l.drop (k+1))else l[k]:=by
 rw[List.drop_eq_getElem_cons hk];rfl
set_option maxHeartbeats 1000000 in
theorem Pt(l:List Int)(a:Option Addr)(c:Nat)(w:World)(h:aM w a l)(hl:l.length<=1000000) :
 Calls Tryz.prog 36 #[.slice a l.length c] w (Same w (.int .i64 (jv l))):=by
 have HL:=Lib.hid h
 clear h
 obtain⟨r,hr⟩:∃r,r=jv l:=⟨_,rfl⟩
 rw[<-hr]
 have HR:Hid (r=jv (l.drop 0)):=hr
 clear hr
 go_enter Tryz.func36,Tryz.ntmps36
 go_wp2
 go_loop[8] (fun i=>∃k:Nat,k<=l.length/\i = .int .i64 k/\Hid (r=jv (l.drop k))) (fun i=>l.length-(intOf i).toNat)
 case atStart=>exact⟨0,by omega,rfl,HR.out⟩
 case round =>
  clear HR
  obtain⟨k,hk,rfl,HJ⟩:=hrel
  by_cases hlt:k<l.length
  case neg =>
   have e:r=0:=by rw[HJ.out,List.drop_of_length_le (by omega)];rfl
   subst e
   go_wp2
   go_ret
   exact⟨rfl,rfl⟩
  obtain⟨b,off,he,hc⟩:=HL.out k hlt
  subst he
  have HJ2:=Lib.hid (HJ.out.trans (UR l k hlt))
  clear HJ
  generalize l[k]=z at *
  by_cases hz:z=0
  case pos =>
   have HJ3:=Lib.hid (HJ2.out.trans (if_pos hz))
   subst hz
   clear HJ2
   go_wp2
   go_round
   case rel=>exact⟨k+1,by omega,by go_num,HJ3.out⟩
   case measure=>simp[intOf];omega
  case neg =>
   have HJ3:=Lib.hid (HJ2.out.trans (if_neg hz))
   have t1:(z==0)=false:=by simpa using hz
   clear HJ2
   go_wp2
   go_ret
   exact⟨eO HJ3.out.symm,rfl⟩
theorem XT(W:World)(x y z:Int):aM (W.alloc (.cells #[.int .i64 x,.int .i64 y,.int .i64 z] 3)) (some ⟨W.heap.size,0,none⟩) [x,y,z]:=by
 have hb:ah (W.alloc (.cells #[.int .i64 x,.int .i64 y,.int .i64 z] 3)) W.heap.size #[.int .i64 x,.int .i64 y,.int .i64 z] 3:=aL ..
 intro k hk
 have h0:=hb.cell 0 (by simp)
 have h1:=hb.cell 1 (by simp)
 have h2:=hb.cell 2 (by simp)
 refine⟨W.heap.size,0,rfl,?_⟩
 simp at hk
 rw[Nat.zero_add]
 rcases(show k=0∨k=1∨k=2 by omega)with rfl | rfl | rfl
 ·exact h0
 ·exact h1
 ·exact h2
set_option maxRecDepth 100000 in
set_option maxHeartbeats 4000000 in
theorem UO(x y:bA)(w:World) :
 Calls Tryz.prog 17 #[.agg #[.int .i64 x.f,.int .i64 x.i,.int .i64 x.c],.agg #[.int .i64 y.f,.int .i64 y.i,.int .i64 y.c]] w (aj w (.int .i64 (xS x y))):=by
 obtain⟨x1,x2,x3⟩:=x
 obtain⟨y1,y2,y3⟩:=y
 have H1:Hid (∀w,Calls Tryz.prog 37 #[.int .i64 x1,.int .i64 y1] w (fun e w'=>e = .returned (.int .i64 (Lib.compareInt x1 y1))/\w' = w)):=fun w=>Tryz.cmp_Compare_int x1 y1 w
 have H2:Hid (∀w,Calls Tryz.prog 37 #[.int .i64 x2,.int .i64 y2] w (fun e w'=>e = .returned (.int .i64 (Lib.compareInt x2 y2))/\w' = w)):=fun w=>Tryz.cmp_Compare_int x2 y2 w
 have H3:Hid (∀w,Calls Tryz.prog 37 #[.int .i64 x3,.int .i64 y3] w (fun e w'=>e = .returned (.int .i64 (Lib.compareInt x3 y3))/\w' = w)):=fun w=>Tryz.cmp_Compare_int x3 y3 w
 have HR:Hid (xS ⟨x1,x2,x3⟩ ⟨y1,y2,y3⟩=jv [Lib.compareInt x1 y1,Lib.compareInt x2 y2,Lib.compareInt x3 y3]):=rfl
 generalize xS ⟨x1,x2,x3⟩ ⟨y1,y2,y3⟩=r at *
 generalize Lib.compareInt x1 y1=r1 at *
 generalize Lib.compareInt x2 y2=r2 at *
 generalize Lib.compareInt x3 y3=r3 at *
 have HO:Hid (∀(a:Option Addr) (c:Nat) (w1:World),aM w1 a [r1,r2,r3]->Calls Tryz.prog 36 #[.slice a 3 c] w1 (Same w1 (.int .i64 r))):=fun a c w1 h=>by rw[HR.out];exact Pt [r1,r2,r3] a c w1 h (by simp)
 clear HR
 have HB:=Lib.hid (iH w (.cells #[.int .i64 x1,.int .i64 x2,.int .i64 x3] 56) (.cells #[.int .i64 y1,.int .i64 y2,.int .i64 y3] 56))
 have HX:Hid (ah ((w.alloc (.cells #[.int .i64 x1,.int .i64 x2,.int .i64 x3] 56)).alloc (.cells #[.int .i64 y1,.int .i64 y2,.int .i64 y3] 56)) w.heap.size #[.int .i64 x1,.int .i64 x2,.int .i64 x3] 56):=(aL ..).below (av ..)
 have HY:Hid (ah ((w.alloc (.cells #[.int .i64 x1,.int .i64 x2,.int .i64 x3] 56)).alloc (.cells #[.int .i64 y1,.int .i64 y2,.int .i64 y3] 56)) (w.heap.size+1) #[.int .i64 y1,.int .i64 y2,.int .i64 y3] 56):=gH ..
 simp only
 go_enter Tryz.func17,Tryz.ntmps17
 go_upto_region 1 with (fail)
 generalize (w.alloc _).alloc _=W at *
 have k0:∀o:WB W,o.u.cell? ⟨w.heap.size,0,none⟩=some (.int .i64 x1):=fun o=>(HX.out.below o.h).cell 0 (by simp)
 have k1:∀o:WB W,o.u.cell? ⟨w.heap.size,1,none⟩=some (.int .i64 x2):=fun o=>(HX.out.below o.h).cell 1 (by simp)
 have k2:∀o:WB W,o.u.cell? ⟨w.heap.size,2,none⟩=some (.int .i64 x3):=fun o=>(HX.out.below o.h).cell 2 (by simp)
 have k3:∀o:WB W,o.u.cell? ⟨w.heap.size+1,0,none⟩=some (.int .i64 y1):=fun o=>(HY.out.below o.h).cell 0 (by simp)
 have k4:∀o:WB W,o.u.cell? ⟨w.heap.size+1,1,none⟩=some (.int .i64 y2):=fun o=>(HY.out.below o.h).cell 1 (by simp)
 have k5:∀o:WB W,o.u.cell? ⟨w.heap.size+1,2,none⟩=some (.int .i64 y3):=fun o=>(HY.out.below o.h).cell 2 (by simp)
 have hne:Nonempty (WB W):=⟨⟨W,Below.refl _ _⟩⟩
 have h0:Below W.heap.size W W.drew:=(Below.refl _ _).drew
 refine dC (fun w'=>∃o:WB W,w' = o.u) (by kernel_rfl) ?_
 change bO _ _ _ _ _ _ _ _ W.drew
 generalize W.drew=V0 at *
 refine af 0 rfl (by kernel_rfl) (fun _ _ _ _ h=>h) ⟨⟨_,h0⟩,rfl⟩ (fun K hK=>?_);go_simp;refine hK _ ?_;clear hK K
 refine af 1 rfl (by kernel_rfl) (fun _ _ _ _ h=>h) ⟨⟨_,h0⟩,rfl⟩ (fun K hK=>?_);go_simp;refine hK _ ?_;clear hK K
 refine af 2 rfl (by kernel_rfl) (fun _ _ _ _ h=>h) ⟨⟨_,h0⟩,rfl⟩ (fun K hK=>?_);go_simp;refine hK _ ?_;clear hK K
 refine af 3 rfl (by kernel_rfl) (fun _ _ _ _ h=>h) ⟨⟨_,h0⟩,rfl⟩ (fun K hK=>?_);go_simp;refine hK _ ?_;clear hK K
 refine af 5 rfl (by kernel_rfl) (fun _ _ _ _ h=>h) ⟨⟨_,h0⟩,rfl⟩ (fun K hK=>?_);go_simp;refine hK _ ?_;clear hK K
 refine af 6 rfl (by kernel_rfl) (fun _ _ _ _ h=>h) ⟨⟨_,h0⟩,rfl⟩ (fun K hK=>?_);go_simp;refine hK _ ?_;clear hK K
 refine af 7 rfl (by kernel_rfl) (fun _ _ _ _ h=>h) ⟨⟨_,h0⟩,rfl⟩ (fun K hK=>?_);go_simp;refine hK _ ?_;clear hK K
 refine af 8 rfl (by kernel_rfl) (fun _ _ _ _ h=>h) ⟨⟨_,h0⟩,rfl⟩ (fun K hK=>?_);go_simp;refine hK _ ?_;clear hK K
 refine af 10 rfl (by kernel_rfl) (fun _ _ _ _ h=>h) ⟨⟨_,h0⟩,rfl⟩ (fun K hK=>?_);go_simp;refine hK _ ?_;clear hK K
 refine af 11 rfl (by kernel_rfl) (fun _ _ _ _ h=>h) ⟨⟨_,h0⟩,rfl⟩ (fun K hK=>?_);go_simp;refine hK _ ?_;clear hK K
 refine af 12 rfl (by kernel_rfl) (fun _ _ _ _ h=>h) ⟨⟨_,h0⟩,rfl⟩ (fun K hK=>?_);go_simp;refine hK _ ?_;clear hK K
 refine af 13 rfl (by kernel_rfl) (fun _ _ _ _ h=>h) ⟨⟨_,h0⟩,rfl⟩ (fun K hK=>?_);go_simp;refine hK _ ?_;clear hK K
 refine aP 4 rfl (by kernel_rfl) ?_
 go_wp2_with fail
 refine(H1.out _).mono ?_
 rintro e w2 ⟨rfl,rfl⟩
 go_wp2
 refine⟨⟨⟨_,h0⟩,rfl⟩,?_⟩
 refine aP 9 rfl (by kernel_rfl) ?_
 go_wp2_with fail
 refine(H2.out _).mono ?_
 rintro e w2 ⟨rfl,rfl⟩
 go_wp2
 refine⟨⟨⟨_,h0⟩,rfl⟩,?_⟩
 refine aP 14 rfl (by kernel_rfl) ?_
 go_wp2_with fail
 refine(H3.out _).mono ?_
 rintro e w2 ⟨rfl,rfl⟩
 go_wp2
 refine⟨⟨⟨_,h0⟩,rfl⟩,?_⟩
 refine aP 15 rfl (by kernel_rfl) ?_
 go_wp2
 have h1:Below W.heap.size W (w2.alloc (.cells #[.int .i64 r1,.int .i64 r2,.int .i64 r3] 3)):=h0.trans ((av ..).mono h0.size)
 refine⟨⟨⟨_,h1⟩,rfl⟩,?_⟩
 refine aP 16 rfl (by kernel_rfl) ?_
 go_wp2_with fail
 refine(HO.out (some ⟨w2.heap.size,0,none⟩) 3 _ (XT w2 r1 r2 r3)).mono ?_
 rintro e w3 ⟨rfl,rfl⟩
 go_wp2
 refine⟨⟨⟨_,h1⟩,rfl⟩,?_⟩
 refine aP 17 rfl (by kernel_rfl) ?_
 go_wp2
 refine⟨⟨⟨_,h1⟩,rfl⟩,?_⟩
 refine dh (by kernel_rfl) ?_ _
 go_wp2
 go_ret
 exact⟨rfl,HB.out.trans (h1.mono HB.out.size)⟩
end Go.Proofs.YtjnbddedmbhiaaaGreatDoor
namespace Go.Proofs.YtjnbddedmbhiaaaGreatDoor
open Go.RowKit

structure qL{α:Type}(lt:α->α->Prop):Prop where
 irrefl:∀a,¬ lt a a
 trans:∀a b c,lt a b->lt b c->lt a c
 total:∀a b,¬ lt a b->¬ lt b a->a=b
section
variable {α:Type}[DecidableEq α]{lt:α->α->Prop}[DecidableRel lt]
variable [Inhabited α]
theorem LU(h:qL lt)(d:Array α)(hd:∀i j,i<j->j<d.size->¬ lt d[j]! d[i]!):∀m,m<=d.size->(Lib.compactUpTo d m).Pairwise lt/\(∀x,x∈Lib.compactUpTo d m↔∃j,j<m/\d[j]! = x)
 |0,_=>⟨by simp[Lib.compactUpTo],fun x=>by simp[Lib.compactUpTo]⟩
 |m+1,hm=>by
  obtain⟨h1,h2⟩:=LU h d hd m (by omega)
  rw[Lib.compactUpTo_succ]
  cases hk:Lib.keeps d m with
  |true =>
   rw[if_pos rfl]
   have hlt:∀x∈Lib.compactUpTo d m,lt x d[m]!:=fun x hx=>by
    obtain⟨j,hj,rfl⟩:=(h2 x).1 hx
    have hk':m=0∨d[m]! ≠ d[m-1]!:=by simpa[Lib.keeps]using hk
    rcases hk' with e | e
    ·omega
    ·have h4:lt d[m-1]! d[m]!:=by
      by_cases h5:lt d[m-1]! d[m]!
      ·exact h5
      ·exact absurd (h.total _ _ (hd (m-1) m (by omega) (by omega)) h5) e
     by_cases e3:j=m-1
     ·rw[e3];exact h4
     ·have h6:=hd j (m-1) (by omega) (by omega)
      by_cases h7:lt d[j]! d[m-1]!
      ·exact h.trans _ _ _ h7 h4
      ·rw[h.total _ _ h7 h6];exact h4
   refine⟨?_,fun x=>?_⟩
   ·rw[List.pairwise_append]
    exact⟨h1,by simp,fun a ha b hb=>by rw[List.mem_singleton.1 hb];exact hlt a ha⟩
   ·rw[List.mem_append,h2,List.mem_singleton]
    constructor
    ·rintro(⟨j,hj,e⟩ | e)
     ·exact⟨j,by omega,e⟩
     ·exact⟨m,by omega,e.symm⟩
    ·rintro⟨j,hj,e⟩
     by_cases e2:j<m
     ·exact .inl ⟨j,e2,e⟩
     ·obtain rfl:j=m:=by omega
      exact .inr e.symm
  |false =>
   rw[if_neg (by simp),List.append_nil]
   refine⟨h1,fun x=>?_⟩
   rw[h2]
   have hk':m≠0/\d[m]! = d[m-1]!:=by simpa[Lib.keeps]using hk
   constructor
   ·rintro⟨j,hj,e⟩;exact⟨j,by omega,e⟩
   ·rintro⟨j,hj,e⟩
    by_cases e2:j<m
    ·exact⟨j,e2,e⟩
    ·obtain rfl:j=m:=by omega
     exact⟨j-1,by omega,by rw[<-hk'.2];exact e⟩
theorem EO(h:qL lt)(L:List α)(hs:L.Pairwise (fun a b=>¬ lt b a)):(Lib.compact L).Pairwise lt/\∀x,x∈Lib.compact L↔x∈L:=by
 have hd:∀i j,i<j->j<L.toArray.size->¬ lt L.toArray[j]! L.toArray[i]!:=fun i j hij hj=>by
  have hj':j<L.length:=by simpa using hj
  rw[getElem!_pos _ i (by simp;omega),getElem!_pos _ j (by simpa using hj)]
  simpa using List.pairwise_iff_getElem.1 hs i j (by omega) hj' hij
 obtain⟨h1,h2⟩:=LU h L.toArray hd L.length (by simp)
 refine⟨h1,fun x=>?_⟩
 refine(h2 x).trans ?_
 constructor
 ·rintro⟨j,hj,rfl⟩
  rw[getElem!_pos _ j (by simpa using hj)];simp
 ·intro hx
  obtain⟨j,hj,rfl⟩:=List.getElem_of_mem hx
  exact⟨j,hj,by rw[getElem!_pos _ j (by simpa using hj)];simp⟩
theorem VA(L:List α):(Lib.compact L).length<=L.length:=by
 have h:(Lib.compactUpTo L.toArray L.length).length<=L.length:=by
  unfold Lib.compactUpTo
  rw[List.length_map]
  have:=List.length_filter_le (Lib.keeps L.toArray) (List.range L.length)
  simpa using this
 exact h
end
-- numbers
theorem ordInt:qL (fun a b:Int=>a<b):=⟨fun a h=>by omega,fun a b c h1 h2=>by omega,fun a b h1 h2=>by omega⟩
-- lists of numbers
def cmpL:List Int->List Int->Int
 |[],[]=>0
 |[],_::_=>-1
 |_::_,[]=>1
 |x::a,y::b=>if x<y then -1 else if y<x then 1 else cmpL a b
theorem cmpL_eq:∀{a b:List Int},cmpL a b=0->a=b
 |[],[],_=>rfl
 |[],_::_,h=>by simp[cmpL]at h
 |_::_,[],h=>by simp[cmpL]at h
 |x::a,y::b,h=>by
  unfold cmpL at h
  split at h
  ·omega
  ·split at h
   ·omega
   ·rw[cmpL_eq h,show x=y by omega]
theorem GM:∀a:List Int,cmpL a a=0
 |[]=>rfl
 |x::a=>by unfold cmpL;rw[if_neg (by omega),if_neg (by omega),GM a]
theorem Pw:∀a b:List Int,cmpL b a = - cmpL a b
 |[],[]=>rfl
 |[],_::_=>rfl
 |_::_,[]=>rfl
 |x::a,y::b=>by
  unfold cmpL
  by_cases h1:x<y
  ·rw[if_pos h1,if_neg (by omega),if_pos h1];rfl
  ·by_cases h2:y<x
   ·rw[if_pos h2,if_neg h1,if_pos h2]
   ·rw[if_neg h1,if_neg h2,if_neg h2,if_neg h1,Pw a b]
theorem Pv:∀{a b c:List Int},cmpL a b<0->cmpL b c<0->cmpL a c<0
 |[],[],_,h,_=>by simp[cmpL]at h
 |[],_::_,[],_,h=>by simp[cmpL]at h
 |[],_::_,_::_,_,_=>by simp[cmpL]
 |_::_,[],_,h,_=>by simp[cmpL]at h
 |_::_,_::_,[],_,h=>by simp[cmpL]at h
 |x::a,y::b,z::c,h1,h2=>by
  unfold cmpL at *
  by_cases e1:x<y
  ·by_cases e2:y<z
   ·rw[if_pos (by omega)];omega
   ·rw[if_neg e2]at h2
    by_cases e3:z<y
    ·rw[if_pos e3]at h2;omega
    ·rw[if_pos (by omega)];omega
  ·rw[if_neg e1]at h1
   by_cases e3:y<x
   ·rw[if_pos e3]at h1;omega
   ·rw[if_neg e3]at h1
    by_cases e2:y<z
    ·rw[if_pos (by omega)];omega
    ·rw[if_neg e2]at h2
     by_cases e4:z<y
     ·rw[if_pos e4]at h2;omega
     ·rw[if_neg e4]at h2
      rw[if_neg (by omega),if_neg (by omega)]
      exact Pv h1 h2
abbrev yC(a b:List Int):Prop:=cmpL a b<0
theorem DV:qL yC:=⟨fun a h=>by rw[yC,GM]at h;omega,fun a b c h1 h2=>Pv h1 h2,fun a b h1 h2=>by
 unfold yC at *
 have:=Pw a b
 exact cmpL_eq (by omega)⟩
-- how far two lists agree
theorem GN:∀(a b:List Int) (k:Nat),k<=a.length->k<=b.length->a.take k=b.take k->cmpL a b=cmpL (a.drop k) (b.drop k)
 |_,_,0,_,_,_=>by simp
 |[],_,k+1,h,_,_=>by simp at h
 |_::_,[],k+1,_,h,_=>by simp at h
 |x::a,y::b,k+1,h1,h2,e=>by
  simp only[List.take_succ_cons,List.cons.injEq]at e
  obtain⟨rfl,e⟩:=e
  rw[List.drop_succ_cons,List.drop_succ_cons,<-GN a b k (by simpa using h1) (by simpa using h2) e]
  show(if x<x then(-1:Int)else if x<x then 1 else cmpL a b)=_
  rw[if_neg (by omega),if_neg (by omega)]
theorem y0h{a b:List Int}{k:Nat}(h1:k<a.length)(h2:k<b.length)(e:a.take k=b.take k):cmpL a b=if a[k]<b[k]then -1 else if b[k]<a[k]then 1 else cmpL (a.drop (k+1)) (b.drop (k+1)):=by
 rw[GN a b k (by omega) (by omega) e,List.drop_eq_getElem_cons h1,List.drop_eq_getElem_cons h2]
 rfl
theorem y0g{a b:List Int}{k:Nat}(h1:k<=a.length)(h2:k<=b.length)(e:a.take k=b.take k)(hk:k=a.length∨k=b.length):cmpL a b=if a.length<b.length then -1 else if b.length<a.length then 1 else 0:=by
 rw[GN a b k h1 h2 e]
 by_cases e1:k=a.length
 ·by_cases e2:k=b.length
  ·rw[if_neg (by omega),if_neg (by omega),List.drop_eq_nil_of_le (by omega),List.drop_eq_nil_of_le (by omega)];rfl
  ·rw[if_pos (by omega),List.drop_eq_nil_of_le (by omega),List.drop_eq_getElem_cons (show k<b.length by omega)];rfl
 ·have e2:k=b.length:=by omega
  rw[if_neg (by omega),if_pos (by omega),List.drop_eq_nil_of_le (show b.length<=k by omega),List.drop_eq_getElem_cons (show k<a.length by omega)];rfl

set_option maxRecDepth 100000 in
set_option maxHeartbeats 4000000 in
theorem Z0(a b:List Int)(pa:Option Addr)(ca:Nat)(pb:Option Addr)(cb:Nat)(w:World)(ha:aM w pa a)(hb:aM w pb b)(la:a.length<=1000000)(_lb:b.length<=1000000) :
 Calls Tryz.prog 47 #[.slice pa a.length ca,.slice pb b.length cb] w (Same w (.int .i64 (cmpL a b))):=by
 have HA:=Lib.hid ha
 have HB:=Lib.hid hb
 have HEN:Hid (∀k,k<=a.length->k<=b.length->a.take k=b.take k->(k=a.length∨k=b.length)->cmpL a b=if a.length<b.length then -1 else if b.length<a.length then 1 else 0):=fun k h1 h2 e hk=>y0g h1 h2 e hk
 have HAT:Hid (∀k (h1:k<a.length) (h2:k<b.length),a.take k=b.take k->cmpL a b=if a[k]<b[k]then -1 else if b[k]<a[k]then 1 else cmpL (a.drop (k+1)) (b.drop (k+1))):=fun k h1 h2 e=>y0h h1 h2 e
 have HCM:Hid (∀(x y c:Int),Lib.compareInt x y=c->∀w1,Calls Tryz.prog 37 #[.int .i64 x,.int .i64 y] w1 (Same w1 (.int .i64 c))):=fun x y c e w1=>by
  subst e
  exact(Tryz.cmp_Compare_int x y w1).mono (fun e w' h=>⟨h.1,h.2.symm⟩)
 clear ha hb
 generalize hR:cmpL a b=R at *
 clear hR
 go_enter Tryz.func47,Tryz.ntmps47
 go_wp2
 go_loop[11] (fun i=>∃k:Nat,k<=a.length/\k<=b.length/\i = .int .i64 k/\Hid (a.take k=b.take k)) (fun i=>a.length-(intOf i).toNat)
 case atStart=>exact⟨0,Nat.zero_le _,Nat.zero_le _,rfl,rfl⟩
 case round =>
  obtain⟨k,hk,hkb,rfl,HT⟩:=hrel
  by_cases hlt:k<a.length
  case neg =>
   have hka:k=a.length:=by omega
   have HV:=Lib.hid (HEN.out k hk hkb HT.out (.inl hka))
   clear HEN HAT HCM HT
   by_cases h1:a.length<b.length
   ·have HF:Hid (-1=R):=by show _=_;rw[HV.out,if_pos h1]
    have t1:decide ((a.length:Int)<(b.length:Int))=true:=by simp;omega
    clear HV
    go_wp2
    go_ret
    exact⟨eO HF.out,rfl⟩
   ·have HF:Hid (0=R):=by show _=_;rw[HV.out,if_neg h1,if_neg (by omega)]
    have t1:decide ((a.length:Int)<(b.length:Int))=false:=by simp;omega
    clear HV
    go_wp2
    go_ret
    exact⟨eO HF.out,rfl⟩
  obtain⟨b1,o1,he1,p1⟩:=HA.out k hlt
  subst he1
  by_cases h2:k<b.length
  case neg =>
   have HV:=Lib.hid (HEN.out k hk hkb HT.out (.inr (by omega)))
   have HF:Hid (1=R):=by show _=_;rw[HV.out,if_neg (by omega),if_pos (by omega)]
   have t1:decide ((b.length:Int)<=(k:Int))=true:=by simp;omega
   clear HEN HAT HCM HT HV
   generalize a[k]=x at *
   go_wp2
   go_ret
   exact⟨eO HF.out,rfl⟩
  obtain⟨b2,o2,he2,p2⟩:=HB.out k h2
  subst he2
  have HV:=Lib.hid (HAT.out k hlt h2 HT.out)
  have t1:decide ((b.length:Int)<=(k:Int))=false:=by simp;omega
  have HN:Hid (a[k]=b[k]->a.take (k+1)=b.take (k+1)):=fun e=>by
   rw[List.take_succ_eq_append_getElem hlt,List.take_succ_eq_append_getElem h2,HT.out,e]
  clear HEN HAT HT
  generalize a[k]=x at *
  generalize b[k]=y at *
  by_cases h3:x<y
  ·have HC:=Lib.hid (HCM.out x y (-1) (by unfold Lib.compareInt;rw[if_pos h3]))
   have HF:Hid (-1=R):=by show _=_;rw[HV.out,if_pos h3]
   clear HV HN HCM
   go_wp2_with (go_at_call 37;refine(HC.out _).mono ?_;rintro e w2 ⟨rfl,rfl⟩)
   go_ret
   exact⟨eO HF.out,rfl⟩
  ·by_cases h4:y<x
   ·have HC:=Lib.hid (HCM.out x y 1 (by unfold Lib.compareInt;rw[if_neg h3,if_pos (by omega)]))
    have HF:Hid (1=R):=by show _=_;rw[HV.out,if_neg h3,if_pos h4]
    clear HV HN HCM
    go_wp2_with (go_at_call 37;refine(HC.out _).mono ?_;rintro e w2 ⟨rfl,rfl⟩)
    go_ret
    exact⟨eO HF.out,rfl⟩
   ·have HC:=Lib.hid (HCM.out x y 0 (by unfold Lib.compareInt;rw[if_neg h3,if_neg (by omega)]))
    have HN2:=Lib.hid (HN.out (by omega))
    clear HV HN HCM
    go_wp2_with (go_at_call 37;refine(HC.out _).mono ?_;rintro e w2 ⟨rfl,rfl⟩)
    go_round
    case rel=>exact⟨k+1,by omega,by omega,by go_num,HN2.out⟩
    case measure=>simp[intOf];omega
end Go.Proofs.YtjnbddedmbhiaaaGreatDoor
namespace Go.ak
open Go.Proofs.YtjnbddedmbhiaaaGreatDoor in
def oh(x y:Cn):Int:=if jv [Lib.compareInt x.k y.k,Lib.compareInt x.a y.a,Lib.compareInt x.b y.b,Lib.compareInt x.f y.f]=0 then cmpL x.s y.s else jv [Lib.compareInt x.k y.k,Lib.compareInt x.a y.a,Lib.compareInt x.b y.b,Lib.compareInt x.f y.f]
end Go.ak
namespace Go.Proofs.YtjnbddedmbhiaaaGreatDoor
open Go.RowKit Go.ak Go.AM Go.Sort

theorem XQ(W:World)(x y z u:Int):aM (W.alloc (.cells #[.int .i64 x,.int .i64 y,.int .i64 z,.int .i64 u] 3)) (some ⟨W.heap.size,0,none⟩) [x,y,z,u]:=by
 have hb:ah (W.alloc (.cells #[.int .i64 x,.int .i64 y,.int .i64 z,.int .i64 u] 3)) W.heap.size #[.int .i64 x,.int .i64 y,.int .i64 z,.int .i64 u] 3:=aL ..
 intro k hk
 have h0:=hb.cell 0 (by simp)
 have h1:=hb.cell 1 (by simp)
 have h2:=hb.cell 2 (by simp)
 have h3:=hb.cell 3 (by simp)
 refine⟨W.heap.size,0,rfl,?_⟩
 simp at hk
 rw[Nat.zero_add]
 rcases(show k=0∨k=1∨k=2∨k=3 by omega)with rfl | rfl | rfl | rfl
 ·exact h0
 ·exact h1
 ·exact h2
 ·exact h3
abbrev kz(x:Cn):Value:=.agg #[.int .i64 x.k,.int .i64 x.a,.int .i64 x.b,.int .i64 x.f,.slice x.sa x.s.length x.sc]
abbrev iN(x:Cn):Obj:=.cells #[.int .i64 x.k,.int .i64 x.a,.int .i64 x.b,.int .i64 x.f,.slice x.sa x.s.length x.sc] 60
set_option maxRecDepth 100000 in
set_option maxHeartbeats 8000000 in
theorem PG(x y:Cn)(W:World)(hx:aM W x.sa x.s)(hy:aM W y.sa y.s)(lx:x.s.length<=1000000)(ly:y.s.length<=1000000) :
 Calls Tryz.prog 46 #[kz x,kz y] W (fun e w'=>e = .returned (.int .i64 (oh x y))/\∃q os,w' = grow (W.drewN q) os):=by
 obtain⟨x1,x2,x3,x4,xa,xc,xs⟩:=x
 obtain⟨y1,y2,y3,y4,ya,yc,ys⟩:=y
 have H1:Hid (∀w,Calls Tryz.prog 37 #[.int .i64 x1,.int .i64 y1] w (fun e w'=>e = .returned (.int .i64 (Lib.compareInt x1 y1))/\w' = w)):=fun w=>Tryz.cmp_Compare_int x1 y1 w
 have H2:Hid (∀w,Calls Tryz.prog 37 #[.int .i64 x2,.int .i64 y2] w (fun e w'=>e = .returned (.int .i64 (Lib.compareInt x2 y2))/\w' = w)):=fun w=>Tryz.cmp_Compare_int x2 y2 w
 have H3:Hid (∀w,Calls Tryz.prog 37 #[.int .i64 x3,.int .i64 y3] w (fun e w'=>e = .returned (.int .i64 (Lib.compareInt x3 y3))/\w' = w)):=fun w=>Tryz.cmp_Compare_int x3 y3 w
 have H4:Hid (∀w,Calls Tryz.prog 37 #[.int .i64 x4,.int .i64 y4] w (fun e w'=>e = .returned (.int .i64 (Lib.compareInt x4 y4))/\w' = w)):=fun w=>Tryz.cmp_Compare_int x4 y4 w
 have HS:Hid (∀w1,Below W.heap.size W w1->Calls Tryz.prog 47 #[.slice xa xs.length xc,.slice ya ys.length yc] w1 (Same w1 (.int .i64 (cmpL xs ys)))):=fun w1 hb=>Z0 xs ys xa xc ya yc w1 (hx.below hb) (hy.below hb) lx ly
 clear hx hy lx ly
 have HR:Hid (oh ⟨x1,x2,x3,x4,xa,xc,xs⟩ ⟨y1,y2,y3,y4,ya,yc,ys⟩=if jv [Lib.compareInt x1 y1,Lib.compareInt x2 y2,Lib.compareInt x3 y3,Lib.compareInt x4 y4]=0 then cmpL xs ys else jv [Lib.compareInt x1 y1,Lib.compareInt x2 y2,Lib.compareInt x3 y3,Lib.compareInt x4 y4]):=rfl
 generalize oh ⟨x1,x2,x3,x4,xa,xc,xs⟩ ⟨y1,y2,y3,y4,ya,yc,ys⟩=r at *
 generalize Lib.compareInt x1 y1=r1 at *
 generalize Lib.compareInt x2 y2=r2 at *
 generalize Lib.compareInt x3 y3=r3 at *
 generalize Lib.compareInt x4 y4=r4 at *
 generalize cmpL xs ys=r5 at *
 have HO:Hid (∀(a:Option Addr) (c:Nat) (w1:World),aM w1 a [r1,r2,r3,r4]->Calls Tryz.prog 36 #[.slice a 4 c] w1 (Same w1 (.int .i64 (jv [r1,r2,r3,r4])))):=fun a c w1 h=>Pt [r1,r2,r3,r4] a c w1 h (by simp)
 generalize jv [r1,r2,r3,r4]=r0 at *
 have HX:Hid (ah ((W.alloc (iN ⟨x1,x2,x3,x4,xa,xc,xs⟩)).alloc (iN ⟨y1,y2,y3,y4,ya,yc,ys⟩)) W.heap.size #[.int .i64 x1,.int .i64 x2,.int .i64 x3,.int .i64 x4,.slice xa xs.length xc] 60):=(aL ..).below (av ..)
 have HY:Hid (ah ((W.alloc (iN ⟨x1,x2,x3,x4,xa,xc,xs⟩)).alloc (iN ⟨y1,y2,y3,y4,ya,yc,ys⟩)) (W.heap.size+1) #[.int .i64 y1,.int .i64 y2,.int .i64 y3,.int .i64 y4,.slice ya ys.length yc] 60):=gH ..
 have HG:Hid (∃os,(W.alloc (iN ⟨x1,x2,x3,x4,xa,xc,xs⟩)).alloc (iN ⟨y1,y2,y3,y4,ya,yc,ys⟩)=grow W os):=⟨_,by rw[alloc_eq_grow,alloc_eq_grow,grow_grow]⟩
 have HB:=Lib.hid (iH W (iN ⟨x1,x2,x3,x4,xa,xc,xs⟩) (iN ⟨y1,y2,y3,y4,ya,yc,ys⟩))
 go_enter Tryz.func46,Tryz.ntmps46
 go_upto_region 1 with (fail)
 generalize (W.alloc _).alloc _=W1 at *
 have k0:∀o:GR W1,o.u.cell? ⟨W.heap.size,0,none⟩=some (.int .i64 x1):=fun o=>(HX.out.below o.below).cell 0 (by simp)
 have j0:∀o:GR W1,o.u.cell? ⟨W.heap.size+1,0,none⟩=some (.int .i64 y1):=fun o=>(HY.out.below o.below).cell 0 (by simp)
 have k1:∀o:GR W1,o.u.cell? ⟨W.heap.size,1,none⟩=some (.int .i64 x2):=fun o=>(HX.out.below o.below).cell 1 (by simp)
 have j1:∀o:GR W1,o.u.cell? ⟨W.heap.size+1,1,none⟩=some (.int .i64 y2):=fun o=>(HY.out.below o.below).cell 1 (by simp)
 have k2:∀o:GR W1,o.u.cell? ⟨W.heap.size,2,none⟩=some (.int .i64 x3):=fun o=>(HX.out.below o.below).cell 2 (by simp)
 have j2:∀o:GR W1,o.u.cell? ⟨W.heap.size+1,2,none⟩=some (.int .i64 y3):=fun o=>(HY.out.below o.below).cell 2 (by simp)
 have k3:∀o:GR W1,o.u.cell? ⟨W.heap.size,3,none⟩=some (.int .i64 x4):=fun o=>(HX.out.below o.below).cell 3 (by simp)
 have j3:∀o:GR W1,o.u.cell? ⟨W.heap.size+1,3,none⟩=some (.int .i64 y4):=fun o=>(HY.out.below o.below).cell 3 (by simp)
 have hcur:∃q os,W1.drew=grow (W1.drewN q) os:=⟨1,#[],by rw[grow_empty];rfl⟩
 have hne:Nonempty (GR W1):=⟨⟨_,hcur⟩⟩
 refine dC (fun w'=>∃o:GR W1,w' = o.u) (by kernel_rfl) ?_
 change bO _ _ _ _ _ _ _ _ W1.drew
 refine af 0 rfl (by kernel_rfl) (fun _ _ _ _ h=>h) ⟨⟨_,hcur⟩,rfl⟩ (fun K hK=>?_);go_simp;refine hK _ ?_;clear hK K
 refine af 1 rfl (by kernel_rfl) (fun _ _ _ _ h=>h) ⟨⟨_,hcur⟩,rfl⟩ (fun K hK=>?_);go_simp;refine hK _ ?_;clear hK K
 refine af 2 rfl (by kernel_rfl) (fun _ _ _ _ h=>h) ⟨⟨_,hcur⟩,rfl⟩ (fun K hK=>?_);go_simp;refine hK _ ?_;clear hK K
 refine af 3 rfl (by kernel_rfl) (fun _ _ _ _ h=>h) ⟨⟨_,hcur⟩,rfl⟩ (fun K hK=>?_);go_simp;refine hK _ ?_;clear hK K
 refine af 5 rfl (by kernel_rfl) (fun _ _ _ _ h=>h) ⟨⟨_,hcur⟩,rfl⟩ (fun K hK=>?_);go_simp;refine hK _ ?_;clear hK K
 refine af 6 rfl (by kernel_rfl) (fun _ _ _ _ h=>h) ⟨⟨_,hcur⟩,rfl⟩ (fun K hK=>?_);go_simp;refine hK _ ?_;clear hK K
 refine af 7 rfl (by kernel_rfl) (fun _ _ _ _ h=>h) ⟨⟨_,hcur⟩,rfl⟩ (fun K hK=>?_);go_simp;refine hK _ ?_;clear hK K
 refine af 8 rfl (by kernel_rfl) (fun _ _ _ _ h=>h) ⟨⟨_,hcur⟩,rfl⟩ (fun K hK=>?_);go_simp;refine hK _ ?_;clear hK K
 refine af 10 rfl (by kernel_rfl) (fun _ _ _ _ h=>h) ⟨⟨_,hcur⟩,rfl⟩ (fun K hK=>?_);go_simp;refine hK _ ?_;clear hK K
 refine af 11 rfl (by kernel_rfl) (fun _ _ _ _ h=>h) ⟨⟨_,hcur⟩,rfl⟩ (fun K hK=>?_);go_simp;refine hK _ ?_;clear hK K
 refine af 12 rfl (by kernel_rfl) (fun _ _ _ _ h=>h) ⟨⟨_,hcur⟩,rfl⟩ (fun K hK=>?_);go_simp;refine hK _ ?_;clear hK K
 refine af 13 rfl (by kernel_rfl) (fun _ _ _ _ h=>h) ⟨⟨_,hcur⟩,rfl⟩ (fun K hK=>?_);go_simp;refine hK _ ?_;clear hK K
 refine af 15 rfl (by kernel_rfl) (fun _ _ _ _ h=>h) ⟨⟨_,hcur⟩,rfl⟩ (fun K hK=>?_);go_simp;refine hK _ ?_;clear hK K
 refine af 16 rfl (by kernel_rfl) (fun _ _ _ _ h=>h) ⟨⟨_,hcur⟩,rfl⟩ (fun K hK=>?_);go_simp;refine hK _ ?_;clear hK K
 refine af 17 rfl (by kernel_rfl) (fun _ _ _ _ h=>h) ⟨⟨_,hcur⟩,rfl⟩ (fun K hK=>?_);go_simp;refine hK _ ?_;clear hK K
 refine af 18 rfl (by kernel_rfl) (fun _ _ _ _ h=>h) ⟨⟨_,hcur⟩,rfl⟩ (fun K hK=>?_);go_simp;refine hK _ ?_;clear hK K
 refine aP 4 rfl (by kernel_rfl) ?_
 go_wp2_with fail
 refine(H1.out _).mono ?_
 rintro e w2 ⟨rfl,rfl⟩
 go_wp2
 refine⟨⟨⟨_,hcur⟩,rfl⟩,?_⟩
 refine aP 9 rfl (by kernel_rfl) ?_
 go_wp2_with fail
 refine(H2.out _).mono ?_
 rintro e w2 ⟨rfl,rfl⟩
 go_wp2
 refine⟨⟨⟨_,hcur⟩,rfl⟩,?_⟩
 refine aP 14 rfl (by kernel_rfl) ?_
 go_wp2_with fail
 refine(H3.out _).mono ?_
 rintro e w2 ⟨rfl,rfl⟩
 go_wp2
 refine⟨⟨⟨_,hcur⟩,rfl⟩,?_⟩
 refine aP 19 rfl (by kernel_rfl) ?_
 go_wp2_with fail
 refine(H4.out _).mono ?_
 rintro e w2 ⟨rfl,rfl⟩
 go_wp2
 refine⟨⟨⟨_,hcur⟩,rfl⟩,?_⟩
 refine aP 20 rfl (by kernel_rfl) ?_
 go_wp2
 have hcur2:∃q os,(W1.alloc (.cells #[.int .i64 r1,.int .i64 r2,.int .i64 r3,.int .i64 r4] 3)).drew=grow (W1.drewN q) os:=⟨1,_,by rw[alloc_eq_grow];rfl⟩
 refine⟨⟨⟨_,hcur2⟩,rfl⟩,?_⟩
 refine aP 21 rfl (by kernel_rfl) ?_
 go_wp2_with fail
 refine(HO.out (some ⟨W1.heap.size,0,none⟩) 4 _ ((XQ W1 r1 r2 r3 r4).below ((Go.RowKit.Below.refl _ _).drew))).mono ?_
 rintro e w2 ⟨rfl,rfl⟩
 go_wp2
 refine⟨⟨⟨_,hcur2⟩,rfl⟩,?_⟩
 refine aP 22 rfl (by kernel_rfl) ?_
 go_wp2
 refine⟨⟨⟨_,hcur2⟩,rfl⟩,?_⟩
 refine dh (by kernel_rfl) ?_ _
 have HW:Hid (∃q os,(W1.alloc (.cells #[.int .i64 r1,.int .i64 r2,.int .i64 r3,.int .i64 r4] 3)).drew=grow (W.drewN q) os):=by
  obtain⟨os,hos⟩:=HG.out
  exact⟨1,_,by rw[hos,alloc_eq_grow,grow_grow];rfl⟩
 have HBB:Hid (Below W1.heap.size W1 (W1.alloc (.cells #[.int .i64 r1,.int .i64 r2,.int .i64 r3,.int .i64 r4] 3)).drew):=(av ..).drew
 clear hcur hcur2 hne k0 k1 k2 k3 j0 j1 j2 j3 HG H1 H2 H3 H4 HO
 generalize (W1.alloc _).drew=W2 at *
 by_cases h0:r0=0
 case neg =>
  have HV:Hid (r=r0):=by show _=_;rw[HR.out,if_neg h0]
  clear HR HS
  go_wp2
  go_ret
  exact⟨eO HV.out.symm,HW.out⟩
 case pos =>
  have HV:Hid (r=r5):=by show _=_;rw[HR.out,if_pos h0]
  subst h0
  have c1:=(HX.out.below HBB.out).cell 4 (by simp)
  have c2:=(HY.out.below HBB.out).cell 4 (by simp)
  simp only[List.getElem_toArray,List.getElem_cons_zero,List.getElem_cons_succ]at c1 c2
  have HS2:=Lib.hid (HS.out W2 (HB.out.trans (HBB.out.mono HB.out.size)))
  clear HR HS
  go_wp2_with (go_at_call 47;refine HS2.out.mono ?_;rintro e w3 ⟨rfl,rfl⟩)
  go_ret
  exact⟨eO HV.out.symm,HW.out⟩
end Go.Proofs.YtjnbddedmbhiaaaGreatDoor
namespace Go.Proofs.YtjnbddedmbhiaaaGreatDoor
open Go.RowKit Go.ak Go.AM

def bK(w:World)(a:Option Addr)(l:List Int):Prop:=aM w a l/\∀b off,a=some ⟨b,off,none⟩->l≠[]->∃cs fr,w.heap[b]? = some (.cells cs 3 fr)
theorem bK.below{w w':World}{a:Option Addr}{l:List Int}(h:bK w a l)(hb:Below w.heap.size w w'):bK w' a l :=
 ⟨h.1.below hb,fun b off e hl=>by
   obtain⟨cs,fr,hc⟩:=h.2 b off e hl
   exact⟨cs,fr,by rw[hb.block b (Array.getElem?_eq_some_iff.1 hc).1];exact hc⟩⟩
theorem zZ{w:World}{base n d:Nat}{b:Option Addr}{l:List Int}(h:w.ownsRow base 3 1 (.slice b n d) n (l.map bT)):bK w b l:=by
 refine⟨(Al h).2,fun b' off e hl=>?_⟩
 rcases h.2 with ⟨e2,h0⟩ | ⟨g,cap,cur,e2,hb,hh,_⟩
 ·exfalso
  have:=h.1
  simp at this
  apply hl
  exact List.eq_nil_of_length_eq_zero (by omega)
 ·cases e2
  cases e
  exact⟨_,_,hh⟩

structure aF(P:Nat->Prop)(w w':World):Prop where
 sz:w.heap.size<=w'.heap.size
 eq:∀k,k<w.heap.size->¬ P k->w'.heap[k]? = w.heap[k]?
structure BV where
 v0:Value
 v1:Value
 v2:Value
 v3:Value
 v4:Value
 v5:Value
 v6:Value
 v7:Value
 v8:Value
 v9:Value
abbrev BV.row(v:BV)(ka:Option Addr)(n kc:Nat):Array Value:=#[v.v0,v.v1,v.v2,v.v3,v.v4,v.v5,v.v6,v.v7,v.v8,v.v9,.slice ka n kc]
structure BK(v:BV)(R:Nat)(K:List Cn)(ka:Option Addr)(kc:Nat)(w wr:World):Prop where
 hb:Below w.heap.size w wr
 rb:ah wr R (v.row ka K.length kc) 81
 ow:wr.ownsRow w.heap.size 60 5 (.slice ka K.length kc) K.length (bE K)
 hk:∀x∈K,bK wr x.sa x.s
 hR:w.heap.size<=R
theorem BK.below{v:BV}{R:Nat}{K:List Cn}{ka:Option Addr}{kc:Nat}{w wr w':World}(k:BK v R K ka kc w wr)(hb:Below wr.heap.size wr w'):BK v R K ka kc w w' :=
 ⟨k.hb.trans (hb.mono k.hb.size),k.rb.below hb,gL k.ow hb,fun x hx=>(k.hk x hx).below hb,k.hR⟩
theorem bK.keep{w w':World}{a:Option Addr}{l:List Int}(h:bK w a l){row:Option Nat}(hg:w.grownBy w' row)(hne:∀b cs fr,w.heap[b]? = some (.cells cs 3 fr)->some b≠row):bK w' a l:=by
 cases l with
 |nil=>exact⟨fun k hk=>absurd hk (by simp),fun b off e hl=>absurd rfl hl⟩
 |cons x l =>
  obtain⟨b,off,he,_⟩:=h.1 0 (by simp)
  obtain⟨cs,fr,hc⟩:=h.2 b off he (by simp)
  have hb:b<w.heap.size:=(Array.getElem?_eq_some_iff.1 hc).1
  have hk:=hg.block b hb (hne b cs fr hc)
  refine⟨fun k hk2=>?_,fun b' off' e _=>?_⟩
  ·obtain⟨b',off',e,hcell⟩:=h.1 k hk2
   have e2:=he.symm.trans e
   cases e2
   refine⟨b,off,he,?_⟩
   rw[<-hcell]
   unfold World.cell?
   rw[hk]
  ·rw[he]at e;cases e;exact⟨cs,fr,by rw[hk];exact hc⟩
theorem BK.slot{v:BV}{R:Nat}{K:List Cn}{ka:Option Addr}{kc:Nat}{w wr w1:World}(k:BK v R K ka kc w wr){x:Cn}{ka':Option Addr}{kc':Nat}(hx:bK wr x.sa x.s)(own:w1.ownsRow w.heap.size 60 5 (.slice ka' (K++[x]).length kc') (K++[x]).length (bE (K++[x])))(hg:wr.grownBy w1 (Value.slice ka K.length kc).ownBlock) :
 BK v R (K++[x]) ka' kc' w (w1.setCell ⟨R,10,none⟩ (.slice ka' (K++[x]).length kc'))/\aF (fun q=>q=R∨(Value.slice ka K.length kc).ownBlock=some q) wr (w1.setCell ⟨R,10,none⟩ (.slice ka' (K++[x]).length kc')):=by
 have hb1:=k.hb.grown hg k.hb.size (fun q hq=>(k.ow.lt q hq).1)
 have rb1:=k.rb.grown hg (gD k.ow k.rb (by decide))
 have hs:=vY w1 R 10 (.slice ka' (K++[x]).length kc')
 have keep:∀{a:Option Addr} {l:List Int},bK wr a l->bK (w1.setCell ⟨R,10,none⟩ (.slice ka' (K++[x]).length kc')) a l:=fun h =>
  (h.keep hg (fun b cs fr hc=>gD k.ow hc (by decide))).keep hs (fun b cs fr hc e=>by
    cases e
    have:=rb1
    unfold ah at this
    rw[hc]at this
    simp at this)
 refine⟨⟨hb1.grown hs hb1.size (fun q hq=>by cases hq;exact k.hR),by simpa using rb1.set 10 (.slice ka' (K++[x]).length kc'),own.kept hs (.inr (fun e=>gD own rb1 (by decide) e.symm)),fun y hy=>?_,k.hR⟩,Nat.le_trans hg.size hs.size,fun q hq hp=>?_⟩
 ·rcases List.mem_append.1 hy with h | h
  ·exact keep (k.hk y h)
  ·rw[List.mem_singleton.1 h];exact keep hx
 ·rw[hs.block q (Nat.lt_of_lt_of_le hq hg.size) (fun e=>hp (.inl (by cases e;rfl))),hg.block q hq (fun e=>hp (.inr e.symm))]
set_option maxRecDepth 100000 in
set_option maxHeartbeats 4000000 in
theorem y1g{v:BV}{R:Nat}{K:List Cn}{ka:Option Addr}{kc:Nat}{w wr:World}(k:BK v R K ka kc w wr)(x:Cn)(g:Nat)(hg:ah wr g #[.int .i64 x.k,.int .i64 x.a,.int .i64 x.b,.int .i64 x.f,.slice x.sa x.s.length x.sc] 60)(hx:bK wr x.sa x.s)(hK:K.length<=1000000) :
 Calls Tryz.prog 39 #[.pointer (some ⟨R,0,none⟩),.slice (some ⟨g,0,none⟩) 1 1] wr (fun e w'=>e = .returned (.tuple #[])/\∃ka' kc',BK v R (K++[x]) ka' kc' w w'/\aF (fun q=>q=R∨(Value.slice ka K.length kc).ownBlock=some q) wr w'):=by
 have S:=Lib.hid k
 have HX:=Lib.hid hx
 have HGB:=Lib.hid hg
 clear k hx hg
 have hbs:=S.out.hb.size
 have c10:=S.out.rb.cell 10 (by simp)
 simp only[List.getElem_toArray,List.getElem_cons_zero,List.getElem_cons_succ]at c10
 go_enter Tryz.func39,Tryz.ntmps39
 go_wp2_with (at_builtin;refine y1W rfl _ _ rfl w.heap.size _ K rfl S.out.ow g x rfl HGB.out hK hbs ?_;intro v7 W7 own7 hg7;obtain⟨-,ka7,kc7,he7,-,-⟩:=Lc own7;subst he7;have R7:=S.out.rb.grown hg7 (gD S.out.ow S.out.rb (by decide));have q1:=R7.cell 10 (by simp);have q2:=R7.free 10;simp only[List.getElem_toArray,List.getElem_cons_zero,List.getElem_cons_succ]at q1)
 refine bodyPost_end (results_none rfl _ _ _) rfl ?_
 have R8:=BK.slot S.out HX.out own7 hg7
 have hln:(K++[x]).length=K.length+1:=by simp
 rw[hln]at R8
 exact⟨rfl,ka7,kc7,R8.1,R8.2⟩
end Go.Proofs.YtjnbddedmbhiaaaGreatDoor
