/-
  The reference's Check of a unit.
-/
import Derived.Test.YtjnbddedmbhiaaaGreatDoorPk15
namespace Go.Proofs.YtjnbddedmbhiaaaGreatDoor
open Go.RowKit Go.ak

structure Ir(u:aQ):Prop where
 h:QK u.h
 l:u.fs.length<=100000
 f:∀f∈u.fs,y2u f
theorem sJ{ops:Array Oper}{rest:List Oper}{o:Oper}{a:Act}{w:World}{Q:Exit->Act->World->Prop}(hgd:o.guard=none)(hd:o.dst=none)(x y:Operand)(ho:o.op = .store 45 x y)
 (g:Nat) (k:ae) (fa:Option Addr) (fc:Nat) (ma:Option Addr) (mc:Nat) (hx:a.eval x = .pointer (some ⟨g,0,none⟩)) (hy:a.eval y = .agg #[.string k.name,.string k.aO,.slice fa k.fields.length fc,.slice ma k.methods.length mc])
 (old:Array Value) (hg:ah w g old 45) (hold:old.size=4)
 (h:wpList Tryz.prog ops Q rest a (w.setRow g #[.string k.name,.string k.aO,.slice fa k.fields.length fc,.slice ma k.methods.length mc])):wpList Tryz.prog ops Q (o::rest) a w :=
 wpList_store_row hgd 45 x y ho g _ hx hy 45 old hg (by kernel_rfl) hold (by simp[Value.oneCell']) (by rw[hd];exact h)
abbrev gT:Obj:=.cells #[.string ⟨#[]⟩,.string ⟨#[]⟩,.slice none 0 0,.slice none 0 0] 45
set_option maxRecDepth 100000 in
set_option maxHeartbeats 4000000 in
theorem Zf(u:aQ)(ha:Option Addr)(hc:Nat)(fa:Option Addr)(fc:Nat)(most:Nat)(w:World)(h:ay w ha u.h)(f:bR w fa u.fs)(hmo:most<=1000) :
 Calls Tryz.prog 4 #[bZ u ha hc fa fc,.int .i64 most] w (QL (fun b=>b=true->mW u most) w):=by
 have S0:=Lib.hid (UB.start (hc:=hc) (fc:=fc) h f)
 have HK:Hid (∀h1 h2 h3 h4 h5,mW u most):=fun h1 h2 h3 h4 h5=>⟨h1,h2,h3,h4,h5⟩
 clear h f
 unfold bZ
 generalize mW u most=R at *
 go_enter Tryz.func4,Tryz.ntmps4
 go_upto_region 1 with (fail)
 generalize w.alloc _=W at *
 obtain⟨z0,z1,z2⟩:=S0.out.cells
 by_cases h1:20<u.fs.length
 ·have t1:decide ((20:Int)<(u.fs.length:Int))=true:=by simp;omega
  clear h1
  go_wp2
  go_ret
  exact⟨S0.out.hb,_,rfl,fun e=>by cases e⟩
 have t1:decide ((20:Int)<(u.fs.length:Int))=false:=by simp;omega
 by_cases h2:12<u.h.length
 ·have t2:decide ((12:Int)<(u.h.length:Int))=true:=by simp;omega
  clear h1 h2
  go_wp2
  go_ret
  exact⟨S0.out.hb,_,rfl,fun e=>by cases e⟩
 have t2:decide ((12:Int)<(u.h.length:Int))=false:=by simp;omega
 have hf20:u.fs.length<=20:=by omega
 have hc12:u.h.length<=12:=by omega
 clear h1 h2
 replace HK:=Lib.hid (HK.out hf20 hc12)
 go_wp2
 clear t1 t2 z0 z1 z2
 go_loopw[5] (fun i wr=>∃q:Nat,q<=u.h.length/\i = .int .i64 q/\Hid (∀j (h:j<u.h.length),j<q->zG u.h[j])/\Hid (UB u ha hc fa fc w wr)) (fun i _=>u.h.length-(intOf i).toNat)
 case atStart=>exact⟨0,Nat.zero_le _,rfl,(fun j h hj=>absurd hj (by omega)),S0.out⟩
 case round =>
  clear S0
  obtain⟨q,hq,rfl,HI,S⟩:=hrel
  obtain⟨z0,z1,z2⟩:=S.out.cells
  by_cases hlt:q<u.h.length
  case pos =>
   obtain⟨b,off,fa',fc',ma,mc,he,m0,m1,m2,m3,-,hs⟩:=S.out.h q hlt
   subst he
   have HS:=Lib.hid hs
   have HNX:Hid (zG u.h[q]->∀j (h:j<u.h.length),j<q+1->zG u.h[j]):=fun e j h hj=>by
    by_cases e2:j<q
    ·exact HI.out j h e2
    ·obtain rfl:j=q:=by omega
     exact e
   generalize u.h[q]=x at *
   have BZ:Hid (ah (wr.alloc gT) wr.heap.size _ 45):=aL ..
   have hsz:wr.heap.size<=wr.heap.size:=Nat.le_refl _
   clear hs
   go_upto_region 7 with (refine sJ rfl rfl _ _ rfl wr.heap.size x fa' fc' ma mc rfl rfl _ BZ.out rfl ?_)
   have HB2:=Lib.hid (bP (av wr gT) hsz #[.string x.name,.string x.aO,.slice fa' x.fields.length fc',.slice ma x.methods.length mc])
   have B2:=Lib.hid (BZ.out.setRow #[.string x.name,.string x.aO,.slice fa' x.fields.length fc',.slice ma x.methods.length mc])
   have S2:=Lib.hid (S.out.below HB2.out)
   have HS2:=Lib.hid (HS.out.below HB2.out)
   clear S BZ HB2 HS m0 m1 m2 m3 z0 z1 z2 hsz
   generalize (wr.alloc gT).setRow wr.heap.size _=W2 at *
   generalize wr.heap.size=n2 at *
   have y2:=B2.out.cell 2 (by simp)
   have y3:=B2.out.cell 3 (by simp)
   simp only[List.getElem_toArray,List.getElem_cons_zero,List.getElem_cons_succ]at y2 y3
   by_cases h1:20<x.fields.length
   ·have t1:decide ((20:Int)<(x.fields.length:Int))=true:=by simp;omega
    clear h1
    go_wp2
    go_ret
    exact⟨S2.out.hb,_,rfl,fun e=>by cases e⟩
   have t1:decide ((20:Int)<(x.fields.length:Int))=false:=by simp;omega
   by_cases h2:20<x.methods.length
   ·have t2:decide ((20:Int)<(x.methods.length:Int))=true:=by simp;omega
    clear h1 h2
    go_wp2
    go_ret
    exact⟨S2.out.hb,_,rfl,fun e=>by cases e⟩
   have t2:decide ((20:Int)<(x.methods.length:Int))=false:=by simp;omega
   have hxf:x.fields.length<=20:=by omega
   have hxm:x.methods.length<=20:=by omega
   clear h1 h2
   go_wp2
   clear t1 t2 y2
   go_loop[7] (fun i=>∃k:Nat,k<=x.methods.length/\i = .int .i64 k/\Hid (∀j (h:j<x.methods.length),j<k->x.methods[j].params.length<=20)) (fun i=>x.methods.length-(intOf i).toNat)
   case atStart=>exact⟨0,Nat.zero_le _,rfl,fun j h hj=>absurd hj (by omega)⟩
   case round =>
    obtain⟨k,hk,rfl,HJ⟩:=hrel
    by_cases hkl:k<x.methods.length
    case neg =>
     have HNN:=Lib.hid (HNX.out ⟨hxf,hxm,fun m hm=>by
      obtain⟨j,hj,rfl⟩:=List.getElem_of_mem hm
      exact HJ.out j hj (by omega)⟩)
     go_wp2
     go_roundw
     case rel=>exact⟨q+1,by omega,by go_num,HNN.out,S2.out⟩
     case measure=>simp[intOf];omega
    obtain⟨b3,o3,pa,pc,he,-,-,p2,-,-⟩:=HS2.out k hkl
    subst he
    have HN:Hid (x.methods[k].params.length<=20->∀j (h:j<x.methods.length),j<k+1->x.methods[j].params.length<=20):=fun e j h hj=>by
     by_cases e2:j<k
     ·exact HJ.out j h e2
     ·obtain rfl:j=k:=by omega
      exact e
    generalize x.methods[k].params.length=pl at *
    by_cases h1:20<pl
    ·have t1:decide ((20:Int)<(pl:Int))=true:=by simp;omega
     clear h1
     go_wp2
     go_ret
     exact⟨S2.out.hb,_,rfl,fun e=>by cases e⟩
    have t1:decide ((20:Int)<(pl:Int))=false:=by simp;omega
    have HNN:=Lib.hid (HN.out (by omega))
    clear h1
    go_wp2
    go_round
    case rel=>exact⟨k+1,by omega,by go_num,HNN.out⟩
    case measure=>simp[intOf];omega
  have HCC:Hid (∀x∈u.h,zG x):=fun x hx=>by
   obtain⟨j,hj,rfl⟩:=List.getElem_of_mem hx
   exact HI.out j hj (by omega)
  replace HK:=Lib.hid (HK.out HCC.out)
  have HSS:Hid (∀k (hk:k<u.fs.length),lZ (u.fs.take (k+1))=lZ (u.fs.take k)+u.fs[k].code.length):=fun k hk=>Dt hk
  clear HI HCC
  go_wp2
  go_loop[8,9] (fun s i=>∃q p:Nat,q<=u.fs.length/\p<=q*1000/\s = .int .i64 p/\i = .int .i64 q/\Hid (p=lZ (u.fs.take q))/\Hid (∀j (h:j<u.fs.length),j<q->zF most u.fs[j])) (fun _ i=>u.fs.length-(intOf i).toNat)
  case atStart=>exact⟨0,0,Nat.zero_le _,Nat.zero_le _,rfl,rfl,(by show _=_;simp[lZ]),(fun j h hj=>absurd hj (by omega))⟩
  case round =>
   obtain⟨q,p,hq,hp,rfl,rfl,HP,HI⟩:=hrel
   obtain⟨z0,z1,z2⟩:=S.out.cells
   by_cases hqf:q<u.fs.length
   case neg =>
    have HFF:Hid (∀f∈u.fs,zF most f):=fun x hx=>by
     obtain⟨j,hj,rfl⟩:=List.getElem_of_mem hx
     exact HI.out j hj (by omega)
    have HPS:Hid (p=lZ u.fs):=by show _=_;rw[HP.out,List.take_of_length_le (by omega)]
    have HR:=Lib.hid (fun e:p<=most=>HK.out HFF.out (by rw[<-HPS.out];exact e))
    clear HI HP
    by_cases h1:p<=most
    ·have t1:decide (p<=most)=true:=by simp;omega
     have HRR:=Lib.hid (HR.out h1)
     clear h1
     go_wp2
     go_ret
     exact⟨S.out.hb,_,rfl,fun _=>HRR.out⟩
    ·have t1:decide (p<=most)=false:=by simp;omega
     clear h1
     go_wp2
     go_ret
     exact⟨S.out.hb,_,rfl,fun e=>by cases e⟩
   obtain⟨b,off,va,vc,ca,cc,he,-,-,-,-,m4,-,m6,-,hi⟩:=S.out.f q hqf
   subst he
   have HC:=Lib.hid hi
   have HSQ:=Lib.hid (HSS.out q hqf)
   have HNX:Hid (zF most u.fs[q]->∀j (h:j<u.fs.length),j<q+1->zF most u.fs[j]):=fun e j h hj=>by
    by_cases e2:j<q
    ·exact HI.out j h e2
    ·obtain rfl:j=q:=by omega
     exact e
   generalize u.fs[q]=x at *
   clear hi
   by_cases h1:most<x.code.length
   ·have t1:decide (most<x.code.length)=true:=by simp;omega
    clear h1
    go_wp2
    go_ret
    exact⟨S.out.hb,_,rfl,fun e=>by cases e⟩
   have t1:decide (most<x.code.length)=false:=by simp;omega
   by_cases h2:most<x.vars.length
   ·have t2:decide (most<x.vars.length)=true:=by simp;omega
    clear h1 h2
    go_wp2
    go_ret
    exact⟨S.out.hb,_,rfl,fun e=>by cases e⟩
   have t2:decide (most<x.vars.length)=false:=by simp;omega
   have hxc:x.code.length<=most:=by omega
   have hxv:x.vars.length<=most:=by omega
   clear h1 h2
   have HPN:Hid (p+x.code.length=lZ (u.fs.take (q+1))):=by show _=_;rw[HSQ.out,HP.out]
   go_wp2
   clear t1 t2 m4 m6
   go_loop[11] (fun i=>∃k:Nat,k<=x.code.length/\i = .int .i64 k/\Hid (∀j (h:j<x.code.length),j<k->x.code[j].args.length<=20)) (fun i=>x.code.length-(intOf i).toNat)
   case atStart=>exact⟨0,Nat.zero_le _,rfl,fun j h hj=>absurd hj (by omega)⟩
   case round =>
    obtain⟨k,hk,rfl,HJ⟩:=hrel
    by_cases hkl:k<x.code.length
    case neg =>
     have HNN:=Lib.hid (HNX.out ⟨hxc,hxv,fun m hm=>by
      obtain⟨j,hj,rfl⟩:=List.getElem_of_mem hm
      exact HJ.out j hj (by omega)⟩)
     go_wp2
     go_round
     case rel=>exact⟨q+1,p+x.code.length,by omega,by omega,by go_num,by go_num,HPN.out,HNN.out⟩
     case measure=>simp[intOf];omega
    obtain⟨b3,o3,ga,gc,he,-,-,-,-,-,-,-,p7,-⟩:=HC.out k hkl
    subst he
    have HN:Hid (x.code[k].args.length<=20->∀j (h:j<x.code.length),j<k+1->x.code[j].args.length<=20):=fun e j h hj=>by
     by_cases e2:j<k
     ·exact HJ.out j h e2
     ·obtain rfl:j=k:=by omega
      exact e
    generalize x.code[k].args.length=pl at *
    by_cases h1:20<pl
    ·have t1:decide ((20:Int)<(pl:Int))=true:=by simp;omega
     clear h1
     go_wp2
     go_ret
     exact⟨S.out.hb,_,rfl,fun e=>by cases e⟩
    have t1:decide ((20:Int)<(pl:Int))=false:=by simp;omega
    have HNN:=Lib.hid (HN.out (by omega))
    clear h1
    go_wp2
    go_round
    case rel=>exact⟨k+1,by omega,by go_num,HNN.out⟩
    case measure=>simp[intOf];omega

theorem OB{u:aQ}{most:Nat}(h:mW u most)(hm:most<=1000):Ir u :=
 ⟨⟨by have:=h.nc;omega,fun x hx=>by have:=(h.c x hx).f;omega,fun x hx=>by have:=(h.c x hx).m;omega,fun x hx y hy=>by have:=(h.c x hx).p y hy;omega⟩,by have:=h.nf;omega,
   fun f hf=>⟨by have:=(h.f f hf).v;omega,by have:=(h.f f hf).c;omega,fun x hx=>by have:=(h.f f hf).a x hx;omega⟩⟩
end Go.Proofs.YtjnbddedmbhiaaaGreatDoor
