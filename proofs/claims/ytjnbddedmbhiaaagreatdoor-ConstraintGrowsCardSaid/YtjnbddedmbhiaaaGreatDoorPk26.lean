/-
  The program's ir.Check, exactly.
-/
import Derived.Test.YtjnbddedmbhiaaaGreatDoorPk25
namespace Go.ak
abbrev T3:=Int × Int × Int
def jc(fs:List aA)(g:Nat):aA:=(fs[g]?).getD ⟨⟨#[]⟩,⟨#[]⟩,false,0,[],⟨#[]⟩,[]⟩
def fB:List Ins->Nat
 |[]=>0
 |x::l=>(if x.op=6 then 1 else 0)+fB l
open Go.Proofs.YtjnbddedmbhiaaaGreatDoor in
def lG(h:List ae)(f:aA)(g:Nat)(K:T3):List Ins->Nat->T3
 |[],_=>K
 |x::l,i=>if iA h f i x=0 then lG h f g K l (i+1)else((g:Int),(i:Int),iA h f i x)
def jS(h:List ae)(fs:List aA)(cls:Str)(K:Nat->Nat->T3):List aH->Nat->Nat->T3
 |[],g,n=>K g n
 |m::l,g,n=>if mE cls m h (jc fs g)=0 then lG h (jc fs g) g (jS h fs cls K l (g+1) (n+fB (jc fs g).code)) (jc fs g).code 0 else((g:Int),-1,mE cls m h (jc fs g))
def lH(h:List ae)(fs:List aA):List ae->Nat->Nat->T3
 |[],_,n=>if 1024<n then(-1,-1,3)else(0,0,0)
 |x::l,g,n=>jS h fs x.name (fun g n=>lH h fs l g n) x.methods g n
def iD(u:aQ):T3:=if jF u=0 then lH u.h u.fs u.h 0 0 else(-1,-1,jF u)
end Go.ak
namespace Go.Proofs.YtjnbddedmbhiaaaGreatDoor
open Go.RowKit Go.ak Go.AM

theorem y0s(h:List ae)(f:aA)(g:Nat)(K:T3)(l:List Ins)(k:Nat)(hk:k<l.length):lG h f g K (l.drop k) k=if iA h f k l[k]=0 then lG h f g K (l.drop (k+1)) (k+1)else((g:Int),(k:Int),iA h f k l[k]):=by
 rw[List.drop_eq_getElem_cons hk];rfl
theorem y0r(h:List ae)(fs:List aA)(cls:Str)(K:Nat->Nat->T3)(l:List aH)(k g n:Nat)(hk:k<l.length)(hg:g<fs.length):jS h fs cls K (l.drop k) g n=if mE cls l[k] h fs[g]=0 then lG h fs[g] g (jS h fs cls K (l.drop (k+1)) (g+1) (n+fB fs[g].code)) fs[g].code 0 else((g:Int),-1,mE cls l[k] h fs[g]):=by
 have e:jc fs g=fs[g]:=by unfold jc;rw[List.getElem?_eq_getElem hg];rfl
 rw[List.drop_eq_getElem_cons hk,<-e];rfl
theorem y0t(h:List ae)(fs:List aA)(l:List ae)(k g n:Nat)(hk:k<l.length):lH h fs (l.drop k) g n=jS h fs l[k].name (fun g n=>lH h fs (l.drop (k+1)) g n) l[k].methods g n:=by
 rw[List.drop_eq_getElem_cons hk];rfl
theorem y0d(a b:List Ins):fB (a++b)=fB a+fB b:=by
 induction a with
 |nil=>simp[fB]
 |cons x a ih=>simp only[List.cons_append,fB,ih];omega
theorem y0c(l:List Ins)(k:Nat)(hk:k<l.length):fB (l.take (k+1))=fB (l.take k)+(if l[k].op=6 then 1 else 0):=by
 rw[List.take_succ_eq_append_getElem hk,y0d];simp[fB]
theorem Pp(l:List Ins):fB l<=l.length:=by
 induction l with
 |nil=>simp[fB]
 |cons x l ih=>simp only[fB,List.length_cons];split<;>omega
theorem Dg{u:aQ}(e:jF u=0):u.fs.length<=256/\u.fs.length=bG u.h:=by
 unfold jF at e
 split at e
 ·split at e
  ·cases e
  ·split at e
   ·rename_i h1 h2;exact⟨by omega,by omega⟩
   ·cases e
 ·rename_i h1;exact absurd e h1
theorem Sj(l:List ae)(k:Nat):bG (l.take k)<=bG l:=by
 have e:bG l=bG (l.take k)+bG (l.drop k):=by
  conv=>lhs;rw[<-List.take_append_drop k l]
  unfold bG
  rw[List.map_append,List.sum_append]
 omega
structure UC(u:aQ)(ha:Option Addr)(hc:Nat)(fa:Option Addr)(fc:Nat)(w wr:World):Prop where
 ub:UB u ha hc fa fc w wr
 kw:KW wr
 fm:FM wr
structure UD(u:aQ)(ha:Option Addr)(hc:Nat)(fa:Option Addr)(fc:Nat)(n1:Nat)(x:ae)(xa:Option Addr)(xc:Nat)(ma:Option Addr)(mc:Nat)(w wr:World):Prop where
 uc:UC u ha hc fa fc w wr
 cb:ah wr n1 #[.string x.name,.string x.aO,.slice xa x.fields.length xc,.slice ma x.methods.length mc] 45
 ml:kH wr ma x.methods
structure UF(u:aQ)(ha:Option Addr)(hc:Nat)(fa:Option Addr)(fc:Nat)(n1:Nat)(x:ae)(xa:Option Addr)(xc:Nat)(ma:Option Addr)(mc:Nat)(n3:Nat)(f:aA)(va:Option Addr)(vc:Nat)(ca:Option Addr)(cc:Nat)(w wr:World):Prop where
 ud:UD u ha hc fa fc n1 x xa xc ma mc w wr
 fb:ah wr n3 #[.string f.cls,.string f.name,.bool f.stat,.int .i64 f.params,.slice va f.vars.length vc,.string f.result,.slice ca f.code.length cc] 51
 fv:aK wr va f.vars
 fi:dw wr ca f.code
section
variable {u:aQ}{ha:Option Addr}{hc:Nat}{fa:Option Addr}{fc n1:Nat}{x:ae}{xa:Option Addr}{xc:Nat}{ma:Option Addr}{mc n3:Nat}{f:aA}{va:Option Addr}{vc:Nat}{ca:Option Addr}{cc:Nat}{w wr w':World}
theorem UC.below(k:UC u ha hc fa fc w wr)(hb:Below wr.heap.size wr w'):UC u ha hc fa fc w w':=⟨k.ub.below hb,k.kw.below hb,k.fm.below hb⟩
theorem UD.below(k:UD u ha hc fa fc n1 x xa xc ma mc w wr)(hb:Below wr.heap.size wr w'):UD u ha hc fa fc n1 x xa xc ma mc w w':=⟨k.uc.below hb,k.cb.below hb,k.ml.below hb⟩
theorem UF.below(k:UF u ha hc fa fc n1 x xa xc ma mc n3 f va vc ca cc w wr)(hb:Below wr.heap.size wr w'):UF u ha hc fa fc n1 x xa xc ma mc n3 f va vc ca cc w w':=⟨k.ud.below hb,k.fb.below hb,k.fv.below hb,k.fi.below hb⟩
theorem UF.fn(k:UF u ha hc fa fc n1 x xa xc ma mc n3 f va vc ca cc w wr):wr.cell? ⟨n3,0,none⟩=some (.string f.cls)/\wr.cell? ⟨n3,1,none⟩=some (.string f.name)/\wr.cell? ⟨n3,2,none⟩=some (.bool f.stat)/\wr.cell? ⟨n3,3,none⟩=some (.int .i64 f.params)/\wr.cell? ⟨n3,4,none⟩=some (.slice va f.vars.length vc)/\wr.cell? ⟨n3,5,none⟩=some (.string f.result)/\wr.cell? ⟨n3,6,none⟩=some (.slice ca f.code.length cc) :=
 ⟨k.fb.cell 0 (by simp),k.fb.cell 1 (by simp),k.fb.cell 2 (by simp),k.fb.cell 3 (by simp),k.fb.cell 4 (by simp),k.fb.cell 5 (by simp),k.fb.cell 6 (by simp)⟩
theorem UD.cls(k:UD u ha hc fa fc n1 x xa xc ma mc w wr):wr.cell? ⟨n1,0,none⟩=some (.string x.name)/\wr.cell? ⟨n1,3,none⟩=some (.slice ma x.methods.length mc):=⟨k.cb.cell 0 (by simp),k.cb.cell 3 (by simp)⟩
end
set_option maxRecDepth 100000 in
set_option maxHeartbeats 16000000 in
theorem XO(u:aQ)(ha:Option Addr)(hc:Nat)(fa:Option Addr)(fc:Nat)(hl:u.h.length<=100000)(hz1:∀x∈u.h,x.fields.length<=100000)(hz:∀x∈u.h,x.methods.length<=100000)(hzp:∀x∈u.h,∀s∈x.methods,s.params.length<=100000)
 (hcl:∀f∈u.fs,f.code.length<=1000000) (hal:∀f∈u.fs,∀x∈f.code,x.args.length<=1000000)
 (w:World) (hh:ay w ha u.h) (hf:bR w fa u.fs) (hkw:KW w) (hfm:FM w) :
 Calls Tryz.prog 14 #[bZ u ha hc fa fc] w (aj w (.tuple #[.int .i64 (iD u).1,.int .i64 (iD u).2.1,.int .i64 (iD u).2.2])):=by
 have S0:Hid (UC u ha hc fa fc w (w.alloc (kN u ha hc fa fc))):=⟨UB.start (hc:=hc) (fc:=fc) hh hf,hkw.below (av w _),hfm.below (av w _)⟩
 have HUE:Hid (∀w1,ay w1 ha u.h->bR w1 fa u.fs->KW w1->Calls Tryz.prog 31 #[bZ u ha hc fa fc] w1 (aj w1 (.int .i64 (jF u)))):=fun w1 h1 h2 h3=>Rf u ha hc fa fc hl (fun x hx=>by have:=hz1 x hx;omega) (fun x hx=>by have:=hz x hx;omega) (fun x hx s hs=>by have:=hzp x hx s hs;omega) w1 h1 h2 h3
 have HFE:Hid (∀(cls:Str) (m:aH) (f:aA) va vc ca cc pa pc w1,m.params.length<=100000->ay w1 ha u.h->bF w1 pa m.params->aK w1 va f.vars->dw w1 ca f.code->KW w1->Calls Tryz.prog 32 #[.agg #[.slice ha u.h.length hc],.string cls,fF m pa pc,eQ f va vc ca cc] w1 (aj w1 (.int .i64 (mE cls m u.h f)))):=fun cls m f va vc ca cc pa pc w1 h0 h1 h2 h3 h4 h5=>YI u.h ha hc f va vc ca cc cls m pa pc w1 h1 h2 h3 h4 h5 hl h0
 have HIE:Hid (∀f∈u.fs,∀(i:Nat) (hi:i<f.code.length) va vc ca cc w1,ay w1 ha u.h->aK w1 va f.vars->dw w1 ca f.code->FM w1->Calls Tryz.prog 33 #[.agg #[.slice ha u.h.length hc],eQ f va vc ca cc,.int .i64 i] w1 (aj w1 (.int .i64 (iA u.h f i f.code[i])))):=fun f hf i hi va vc ca cc w1 h1 h2 h3 h4=>XW u.h ha hc f va vc ca cc i hi w1 h1 h2 h3 hl hz1 hz hzp (hal f hf _ (List.getElem_mem hi)) (hcl f hf) h4
 have HZ:=Lib.hid hz
 have HZP:=Lib.hid hzp
 have HCLN:=Lib.hid hcl
 have HST:Hid (∀k (hk:k<u.h.length),bG (u.h.take (k+1))=bG (u.h.take k)+u.h[k].methods.length):=fun k hk=>JM u.h k hk
 have HSP:Hid (jF u=0->∀k,bG (u.h.take k)<=u.fs.length):=fun e k=>by rw[(Dg e).2];exact Sj u.h k
 have HS0:Hid (bG (u.h.take 0)=0):=rfl
 have HFL:Hid (jF u=0->u.fs.length<=256):=fun e=>(Dg e).1
 have HRE:Hid (iD u=if jF u=0 then lH u.h u.fs u.h 0 0 else(-1,-1,jF u)):=rfl
 clear hh hf hkw hfm hz1 hz hzp hcl hal
 unfold bZ at *
 generalize iD u=R at *
 generalize jF u=UE at *
 obtain⟨SM,hSM⟩:∃SM:Nat->Nat,SM=fun k=>bG (u.h.take k):=⟨_,rfl⟩
 have HSS:Hid (∀k,bG (u.h.take k)=SM k):=fun k=>by rw[hSM]
 clear hSM
 simp only[HSS.out]at HST HSP HS0
 clear HSS
 go_enter Tryz.func14,Tryz.ntmps14
 go_upto_region 1 with (fail)
 generalize w.alloc _=W at *
 obtain⟨z0,z1,z2⟩:=S0.out.ub.cells
 have HC:=Lib.hid (HUE.out _ S0.out.ub.h S0.out.ub.f S0.out.kw)
 clear HUE
 by_cases h0:UE=0
 case neg =>
  have e:R=(-1,-1,UE):=by rw[HRE.out,if_neg h0]
  subst e
  clear HRE HST HSP HS0 HFE HIE HFL
  go_wp2_with (go_at_call 31;refine HC.out.mono ?_;rintro e w1 ⟨rfl,hb1⟩)
  refine bodyPost_ret (v:=.tuple #[.int .i64 (-1),.int .i64 (-1),.int .i64 UE]) (by simp[results,Tryz.results14,go_sem]) rfl ?_
  exact⟨rfl,S0.out.ub.hb.trans (hb1.mono S0.out.ub.hb.size)⟩
 have HR2:Hid (R=lH u.h u.fs (u.h.drop 0) 0 0):=by show _=_;rw[HRE.out,if_pos h0];rfl
 have HSP2:=Lib.hid (HSP.out h0)
 have hfl:=HFL.out h0
 subst h0
 clear HRE HSP HFL
 go_upto_region 4 with (go_at_call 31;refine HC.out.mono ?_;rintro e w1 ⟨rfl,hb1⟩)
 have S1:=Lib.hid (S0.out.below hb1)
 clear S0 hb1 HC z0 z1 z2
 obtain⟨z0,z1,z2⟩:=S1.out.ub.cells
 go_wp2
 clear z0 z1 z2
 go_loopw[6,7,25] (fun gv nv v wr=>∃q n:Nat,q<=u.h.length/\n<=SM q*1000000/\gv = .int .i64 (SM q:Nat)/\nv = .int .i64 (n:Nat)/\v = .int .i64 q/\Hid (R=lH u.h u.fs (u.h.drop q) (SM q) n)/\Hid (UC u ha hc fa fc w wr)) (fun _ _ v _=>u.h.length-(intOf v).toNat)
 case atStart=>exact⟨0,0,Nat.zero_le _,Nat.zero_le _,by rw[HS0.out];rfl,rfl,rfl,by show _=_;rw[HS0.out];exact HR2.out,S1.out⟩
 case round =>
  clear S1 HR2 HS0
  obtain⟨q,n,hq,hn,rfl,rfl,rfl,HJ,S⟩:=hrel
  obtain⟨z0,z1,z2⟩:=S.out.ub.cells
  by_cases hlt:q<u.h.length
  case neg =>
   have HJ2:Hid (R=if 1024<n then(-1,-1,3)else(0,0,0)):=by show _=_;rw[HJ.out,List.drop_of_length_le (by omega)];rfl
   clear HJ HST HFE HIE HSP2
   by_cases h5:1024<n
   case pos =>
    have e:R=(-1,-1,3):=by rw[HJ2.out,if_pos h5]
    subst e
    have t1:decide ((1024:Int)<n)=true:=by simp;omega
    clear HJ2
    go_wp2
    refine bodyPost_ret (v:=.tuple #[.int .i64 (-1),.int .i64 (-1),.int .i64 3]) (by simp[results,Tryz.results14,go_sem]) rfl ?_
    exact⟨rfl,S.out.ub.hb⟩
   have e:R=(0,0,0):=by rw[HJ2.out,if_neg h5]
   subst e
   have t1:decide ((1024:Int)<n)=false:=by simp;omega
   clear HJ2
   go_wp2
   refine bodyPost_ret (v:=.tuple #[.int .i64 0,.int .i64 0,.int .i64 0]) (by simp[results,Tryz.results14,go_sem]) rfl ?_
   exact⟨rfl,S.out.ub.hb⟩
  have hsq:=HST.out q hlt
  have hsl:=HSP2.out (q+1)
  have HJ2:=Lib.hid (HJ.out.trans (y0t u.h u.fs u.h q (SM q) n hlt))
  obtain⟨b,off,xa,xc,ma,mc,he,m0,m1,m2,m3,-,hms⟩:=S.out.ub.h q hlt
  subst he
  have HML:=Lib.hid hms
  have hxm:=HZ.out _ (List.getElem_mem hlt)
  have HXP:=Lib.hid (HZP.out _ (List.getElem_mem hlt))
  clear hms HJ
  obtain⟨KC,hKC⟩:∃KC:Nat->Nat->T3,KC=fun g n=>lH u.h u.fs (u.h.drop (q+1)) g n:=⟨_,rfl⟩
  have HKC:Hid (∀g n,KC g n=lH u.h u.fs (u.h.drop (q+1)) g n):=fun g n=>by rw[hKC]
  rw[<-hKC]at HJ2
  clear hKC
  generalize u.h[q]=x at *
  have BZ:Hid (ah (wr.alloc gT) wr.heap.size #[.string ⟨#[]⟩,.string ⟨#[]⟩,.slice none 0 0,.slice none 0 0] 45):=aL ..
  have hY:=Lib.hid (bP (av wr gT) (Nat.le_refl _) #[.string x.name,.string x.aO,.slice xa x.fields.length xc,.slice ma x.methods.length mc])
  go_upto_region 8 with (refine sJ rfl rfl _ _ rfl wr.heap.size x xa xc ma mc rfl rfl _ BZ.out rfl ?_)
  have S2:Hid (UD u (some ⟨b,off,none⟩) hc fa fc wr.heap.size x xa xc ma mc w _):=⟨S.out.below hY.out,BZ.out.setRow #[.string x.name,.string x.aO,.slice xa x.fields.length xc,.slice ma x.methods.length mc],HML.out.below hY.out⟩
  clear S BZ hY HML m0 m1 m2 m3 z0 z1 z2
  generalize (wr.alloc gT).setRow wr.heap.size #[.string x.name,.string x.aO,.slice xa x.fields.length xc,.slice ma x.methods.length mc]=W2 at *
  generalize wr.heap.size=n1 at *
  have HJ3:Hid (R=jS u.h u.fs x.name KC (x.methods.drop 0) (SM q+0) n):=HJ2.out
  clear HJ2
  obtain⟨x0,x3⟩:=S2.out.cls
  go_wp2
  clear x0 x3
  generalize SM q=s0 at *
  go_loopw[6,7,32] (fun gv nv v wr=>∃k n:Nat,k<=x.methods.length/\n<=(s0+k)*1000000/\gv = .int .i64 ((s0+k:Nat):Int)/\nv = .int .i64 (n:Nat)/\v = .int .i64 k/\Hid (R=jS u.h u.fs x.name KC (x.methods.drop k) (s0+k) n)/\Hid (UD u (some ⟨b,off,none⟩) hc fa fc n1 x xa xc ma mc w wr)) (fun _ _ v _=>x.methods.length-(intOf v).toNat)
  case atStart=>exact⟨0,n,Nat.zero_le _,by omega,rfl,rfl,rfl,HJ3.out,S2.out⟩
  case round =>
   clear S2 HJ3 hn
   obtain⟨k,n2,hk,hn,rfl,rfl,rfl,HJ,S⟩:=hrel
   obtain⟨x0,x3⟩:=S.out.cls
   obtain⟨z0,z1,z2⟩:=S.out.uc.ub.cells
   by_cases hlk:k<x.methods.length
   case neg =>
    have ek:k=x.methods.length:=by omega
    have HJ2:Hid (R=lH u.h u.fs (u.h.drop (q+1)) (SM (q+1)) n2):=by
     show _=_
     rw[HJ.out,List.drop_of_length_le (by omega),hsq,<-ek]
     exact HKC.out _ _
    have hn2:n2<=SM (q+1)*1000000:=by rw[hsq,<-ek];exact hn
    have hs3:s0+k=SM (q+1):=by rw[hsq,ek]
    clear HJ HKC HST HFE HIE HXP HSP2
    rw[hs3]
    go_wp2
    go_roundw
    case rel=>exact⟨q+1,n2,by omega,hn2,rfl,rfl,by go_num,HJ2.out,S.out.uc⟩
    case measure=>simp[intOf];omega
   have hg:s0+k<u.fs.length:=by omega
   obtain⟨b2,o2,pa,pc,he,p0,p1,p2,p3,hps⟩:=S.out.ml k hlk
   subst he
   obtain⟨b3,o3,va,vc,ca,cc,he,f0,f1,f2,f3,f4,f5,f6,hfv,hfi⟩:=S.out.uc.ub.f (s0+k) hg
   subst he
   have HP0:=Lib.hid hps
   have HV0:=Lib.hid hfv
   have HI0:=Lib.hid hfi
   have HJ2:=Lib.hid (HJ.out.trans (y0r u.h u.fs x.name KC x.methods k (s0+k) n2 hlk hg))
   have hmp:=HXP.out _ (List.getElem_mem hlk)
   have HFI:Hid (∀(i:Nat) (hi:i<u.fs[s0+k].code.length) va vc ca cc w1,ay w1 (some ⟨b,off,none⟩) u.h->aK w1 va u.fs[s0+k].vars->dw w1 ca u.fs[s0+k].code->FM w1->Calls Tryz.prog 33 #[.agg #[.slice (some ⟨b,off,none⟩) u.h.length hc],eQ u.fs[s0+k] va vc ca cc,.int .i64 i] w1 (aj w1 (.int .i64 (iA u.h u.fs[s0+k] i u.fs[s0+k].code[i])))):=HIE.out _ (List.getElem_mem hg)
   have hcn:=HCLN.out _ (List.getElem_mem hg)
   have hc6:=Pp u.fs[s0+k].code
   clear hps hfv hfi HJ x3
   generalize u.fs[s0+k]=f at *
   generalize x.methods[k]=m at *
   have BM0:Hid (ah (wr.alloc pM) wr.heap.size #[.string ⟨#[]⟩,.bool false,.slice none 0 0,.string ⟨#[]⟩] 48):=aL ..
   have hY:=Lib.hid (bP (av wr pM) (Nat.le_refl _) #[.string m.name,.bool m.stat,.slice pa m.params.length pc,.string m.result])
   go_upto_region 11 with (refine l5 rfl rfl _ _ rfl wr.heap.size m pa pc rfl rfl _ BM0.out rfl ?_)
   have BM:=Lib.hid (BM0.out.setRow #[.string m.name,.bool m.stat,.slice pa m.params.length pc,.string m.result])
   have S2:=Lib.hid (S.out.below hY.out)
   have HP2:=Lib.hid (HP0.out.below hY.out)
   have HV2:=Lib.hid (HV0.out.below hY.out)
   have HI2:=Lib.hid (HI0.out.below hY.out)
   replace f0:=cell_below hY.out f0
   replace f1:=cell_below hY.out f1
   replace f2:=cell_below hY.out f2
   replace f3:=cell_below hY.out f3
   replace f4:=cell_below hY.out f4
   replace f5:=cell_below hY.out f5
   replace f6:=cell_below hY.out f6
   clear S BM0 hY HP0 HV0 HI0 p0 p1 p2 p3 x0 z0 z1 z2
   generalize (wr.alloc pM).setRow wr.heap.size #[.string m.name,.bool m.stat,.slice pa m.params.length pc,.string m.result]=W4 at *
   generalize wr.heap.size=n4 at *
   obtain⟨z0,z1,z2⟩:=S2.out.uc.ub.cells
   have BF0:Hid (ah (W4.alloc jE) W4.heap.size #[.string ⟨#[]⟩,.string ⟨#[]⟩,.bool false,.int .i64 0,.slice none 0 0,.string ⟨#[]⟩,.slice none 0 0] 51):=aL ..
   have hY:=Lib.hid (bP (av W4 jE) (Nat.le_refl _) #[.string f.cls,.string f.name,.bool f.stat,.int .i64 f.params,.slice va f.vars.length vc,.string f.result,.slice ca f.code.length cc])
   go_upto_region 12 with (refine xD rfl rfl _ _ rfl W4.heap.size f va vc ca cc rfl rfl _ BF0.out rfl ?_)
   have S5:Hid (UF u (some ⟨b,off,none⟩) hc (some ⟨b3,o3,none⟩) fc n1 x xa xc (some ⟨b2,o2,none⟩) mc W4.heap.size f va vc ca cc w _):=⟨S2.out.below hY.out,BF0.out.setRow #[.string f.cls,.string f.name,.bool f.stat,.int .i64 f.params,.slice va f.vars.length vc,.string f.result,.slice ca f.code.length cc],HV2.out.below hY.out,HI2.out.below hY.out⟩
   have BM5:=Lib.hid (BM.out.below hY.out)
   have HP5:=Lib.hid (HP2.out.below hY.out)
   clear S2 BF0 BM hY HP2 HV2 HI2 f0 f1 f2 f3 f4 f5 f6 z0 z1 z2
   generalize (W4.alloc jE).setRow W4.heap.size #[.string f.cls,.string f.name,.bool f.stat,.int .i64 f.params,.slice va f.vars.length vc,.string f.result,.slice ca f.code.length cc]=W5 at *
   generalize W4.heap.size=n5 at *
   obtain⟨z0,z1,z2⟩:=S5.out.ud.uc.ub.cells
   obtain⟨x0,x3⟩:=S5.out.ud.cls
   obtain⟨g0,g1,g2,g3,g4,g5,g6⟩:=S5.out.fn
   have q0:=BM5.out.cell 0 (by simp)
   have q1:=BM5.out.cell 1 (by simp)
   have q2:=BM5.out.cell 2 (by simp)
   have q3:=BM5.out.cell 3 (by simp)
   simp only[List.getElem_toArray,List.getElem_cons_zero,List.getElem_cons_succ]at q0 q1 q2 q3
   have HC:=Lib.hid (HFE.out x.name m f va vc ca cc pa pc _ hmp S5.out.ud.uc.ub.h HP5.out S5.out.fv S5.out.fi S5.out.ud.uc.kw)
   unfold fF eQ at HC
   unfold eQ at HFI
   generalize mE x.name m u.h f=FE at *
   by_cases e0:FE=0
   case neg =>
    have e:R=(((s0+k:Nat):Int),-1,FE):=by rw[HJ2.out,if_neg e0]
    subst e
    clear HJ2 HFE HIE HST HSP2 HKC HFI HXP
    go_wp2_with (go_at_call 32;refine HC.out.mono ?_;rintro e w6 ⟨rfl,hb6⟩)
    refine bodyPost_ret (v:=.tuple #[.int .i64 ((s0+k:Nat):Int),.int .i64 (-1),.int .i64 FE]) (by simp[results,Tryz.results14,go_sem]) rfl ?_
    exact⟨rfl,S5.out.ud.uc.ub.hb.trans (hb6.mono S5.out.ud.uc.ub.hb.size)⟩
   have HJ3:=Lib.hid (HJ2.out.trans (if_pos e0))
   subst e0
   clear HJ2
   go_upto_region 15 with (go_at_call 32;refine HC.out.mono ?_;rintro e w6 ⟨rfl,hb6⟩)
   have S6:=Lib.hid (S5.out.below hb6)
   clear S5 BM5 HP5 hb6 HC x0 x3 g0 g1 g2 g3 g4 g5 g6 q0 q1 q2 q3 z0 z1 z2
   obtain⟨KR,HKR⟩:∃KR:T3,Hid (KR=jS u.h u.fs x.name KC (x.methods.drop (k+1)) (s0+k+1) (n2+fB f.code)):=⟨_,rfl⟩
   have HJ4:Hid (R=lG u.h f (s0+k) KR (f.code.drop 0) 0):=by show _=_;rw[HJ3.out,HKR.out];rfl
   clear HJ3
   obtain⟨g0,g1,g2,g3,g4,g5,g6⟩:=S6.out.fn
   go_wp2
   clear g0 g1 g2 g3 g4 g5 g6
   have H6T:Hid (∀i (hi:i<f.code.length),fB (f.code.take (i+1))=fB (f.code.take i)+(if f.code[i].op=6 then 1 else 0)):=fun i hi=>y0c f.code i hi
   have H60:Hid (fB (f.code.take 0)=0):=rfl
   have H6E:Hid (fB (f.code.take f.code.length)=fB f.code):=by show _=_;rw[List.take_length]
   have H6B:Hid (∀i,fB (f.code.take i)<=1000000):=fun i=>by
    have h1:=Pp (f.code.take i)
    have h2:=List.length_take_le' i f.code
    omega
   obtain⟨C6,hC6⟩:∃C6:Nat->Nat,C6=fun i=>fB (f.code.take i):=⟨_,rfl⟩
   have HCC:Hid (∀i,fB (f.code.take i)=C6 i):=fun i=>by rw[hC6]
   clear hC6
   simp only[HCC.out]at H6T H60 H6E H6B
   clear HCC
   go_loopw[7,55] (fun nv v wr=>∃i:Nat,i<=f.code.length/\nv = .int .i64 ((n2+C6 i:Nat):Int)/\v = .int .i64 i/\Hid (R=lG u.h f (s0+k) KR (f.code.drop i) i)/\Hid (UF u (some ⟨b,off,none⟩) hc (some ⟨b3,o3,none⟩) fc n1 x xa xc (some ⟨b2,o2,none⟩) mc n5 f va vc ca cc w wr)) (fun _ v _=>f.code.length-(intOf v).toNat)
   case atStart=>exact⟨0,Nat.zero_le _,by rw[H60.out];rfl,rfl,HJ4.out,S6.out⟩
   case round =>
    clear S6 HJ4 H60
    obtain⟨i,hi,rfl,rfl,HJ,S⟩:=hrel
    obtain⟨g0,g1,g2,g3,g4,g5,g6⟩:=S.out.fn
    obtain⟨z0,z1,z2⟩:=S.out.ud.uc.ub.cells
    by_cases hli:i<f.code.length
    case neg =>
     have ei:i=f.code.length:=by omega
     have HJ2:Hid (R=jS u.h u.fs x.name KC (x.methods.drop (k+1)) (s0+(k+1)) (n2+C6 i)):=by
      show _=_
      rw[HJ.out,List.drop_of_length_le (by omega),ei,H6E.out]
      exact HKR.out
     have hb6:=H6B.out i
     have hn3:n2+C6 i<=(s0+(k+1))*1000000:=by omega
     clear HJ HKR HKC HFE HIE HFI HST HSP2 H6T H6E H6B
     generalize C6 i=ci at *
     go_wp2
     go_roundw
     case rel=>exact⟨k+1,n2+ci,by omega,hn3,by go_num,rfl,by go_num,HJ2.out,S.out.ud⟩
     case measure=>simp[intOf];omega
    have HC:=Lib.hid (HFI.out i hli va vc ca cc _ S.out.ud.uc.ub.h S.out.fv S.out.fi S.out.ud.uc.fm)
    have HJ2:=Lib.hid (HJ.out.trans (y0s u.h f (s0+k) KR f.code i hli))
    have h6:=H6T.out i hli
    have hb6:=H6B.out i
    obtain⟨b4,o4,ga,gc,he,p0,-⟩:=S.out.fi i hli
    subst he
    clear HJ
    generalize iA u.h f i f.code[i]=IE at *
    generalize f.code[i]=y at *
    by_cases e0:IE=0
    case neg =>
     have e:R=(((s0+k:Nat):Int),(i:Int),IE):=by rw[HJ2.out,if_neg e0]
     subst e
     clear HJ2 HFE HIE HST HSP2 HKC HKR HFI HXP H6T H6E H6B h6 hb6
     generalize C6 i=ci at *
     go_wp2_with (go_at_call 33;refine HC.out.mono ?_;rintro e w6 ⟨rfl,hb6⟩)
     refine bodyPost_ret (v:=.tuple #[.int .i64 ((s0+k:Nat):Int),.int .i64 i,.int .i64 IE]) (by simp[results,Tryz.results14,go_sem]) rfl ?_
     exact⟨rfl,S.out.ud.uc.ub.hb.trans (hb6.mono S.out.ud.uc.ub.hb.size)⟩
    have HJ3:=Lib.hid (HJ2.out.trans (if_pos e0))
    subst e0
    clear HJ2
    go_upto_region 21 with (go_at_call 33;refine HC.out.mono ?_;rintro e w6 ⟨rfl,hb7⟩)
    have S7:=Lib.hid (S.out.below hb7)
    have p0':=cell_below hb7 p0
    clear S hb7 HC g0 g1 g2 g3 g4 g5 g6 z0 z1 z2 p0
    obtain⟨g0,g1,g2,g3,g4,g5,g6⟩:=S7.out.fn
    cases e6:(y.op==6)
    case true =>
     have e6':y.op=6:=by simpa using e6
     rw[if_pos e6']at h6
     clear e6' HFE HIE HST HSP2 HKC HKR HFI HXP H6T H6E H6B
     go_wp2
     go_roundw
     case rel=>exact⟨i+1,by omega,by rw[h6];go_num,by go_num,HJ3.out,S7.out⟩
     case measure=>simp[intOf];omega
    case false =>
     have e6':¬ y.op=6:=by simpa using e6
     rw[if_neg e6']at h6
     clear e6' HFE HIE HST HSP2 HKC HKR HFI HXP H6T H6E H6B
     go_wp2
     go_roundw
     case rel=>exact⟨i+1,by omega,by rw[h6];rfl,by go_num,HJ3.out,S7.out⟩
     case measure=>simp[intOf];omega
end Go.Proofs.YtjnbddedmbhiaaaGreatDoor
namespace Go.ak
open Go.Proofs.YtjnbddedmbhiaaaGreatDoor
structure zD(h:List ae)(cls:Str)(m:aH)(f:aA):Prop where
 e:mE cls m h f=0
 i:∀j (hj:j<f.code.length),iA h f j f.code[j]=0
structure CU(u:aQ):Prop where
 ue:jF u=0
 fe:∀i (hi:i<u.h.length) k (hk:k<u.h[i].methods.length),zD u.h u.h[i].name u.h[i].methods[k] (jc u.fs (bG (u.h.take i)+k))
theorem PM{h:List ae}{f:aA}{g:Nat}{K:T3}:∀(l:List Ins) (i:Nat),(lG h f g K l i).2.2=0->(∀j (hj:j<l.length),iA h f (i+j) l[j]=0)/\lG h f g K l i=K
 |[],_,_=>⟨fun _ hj=>absurd hj (by simp),rfl⟩
 |x::l,i,e=>by
  by_cases h0:iA h f i x=0
  ·have e1:lG h f g K (x::l) i=lG h f g K l (i+1):=if_pos h0
   rw[e1]at e ⊢
   obtain⟨k1,k2⟩:=PM l (i+1) e
   refine⟨fun j hj=>?_,k2⟩
   cases j with
   |zero=>exact h0
   |succ j =>
    have:=k1 j (by simpa using hj)
    rw[show i+(j+1)=i+1+j by omega];exact this
  ·have e1:lG h f g K (x::l) i=((g:Int),(i:Int),iA h f i x):=if_neg h0
   rw[e1]at e
   exact absurd e h0
theorem PL{h:List ae}{fs:List aA}{cls:Str}{K:Nat->Nat->T3}:∀(l:List aH) (g n:Nat),(jS h fs cls K l g n).2.2=0->(∀k (hk:k<l.length),zD h cls l[k] (jc fs (g+k)))/\∃n',jS h fs cls K l g n=K (g+l.length) n'
 |[],_,n,_=>⟨fun _ hk=>absurd hk (by simp),n,rfl⟩
 |m::l,g,n,e=>by
  by_cases h0:mE cls m h (jc fs g)=0
  ·have e1:jS h fs cls K (m::l) g n=lG h (jc fs g) g (jS h fs cls K l (g+1) (n+fB (jc fs g).code)) (jc fs g).code 0:=if_pos h0
   rw[e1]at e ⊢
   obtain⟨k1,k2⟩:=PM _ _ e
   rw[k2]at e ⊢
   obtain⟨k3,n',k4⟩:=PL l _ _ e
   refine⟨fun k hk=>?_,n',by rw[k4,List.length_cons,show g+1+l.length=g+(l.length+1) by omega]⟩
   cases k with
   |zero=>exact⟨h0,fun j hj=>by have:=k1 j hj;rwa [Nat.zero_add]at this⟩
   |succ k =>
    have:=k3 k (by simpa using hk)
    rw[show g+(k+1)=g+1+k by omega];exact this
  ·have e1:jS h fs cls K (m::l) g n=((g:Int),-1,mE cls m h (jc fs g)):=if_neg h0
   rw[e1]at e
   exact absurd e h0
theorem PO{h:List ae}{fs:List aA}:∀(l:List ae) (g n:Nat),(lH h fs l g n).2.2=0->∀i (hi:i<l.length) k (hk:k<l[i].methods.length),zD h l[i].name l[i].methods[k] (jc fs (g+bG (l.take i)+k))
 |[],_,_,_=>fun _ hi=>absurd hi (by simp)
 |x::l,g,n,e=>by
  have e1:lH h fs (x::l) g n=jS h fs x.name (fun g n=>lH h fs l g n) x.methods g n:=rfl
  rw[e1]at e
  obtain⟨k1,n',k2⟩:=PL _ _ _ e
  rw[k2]at e
  intro i hi k hk
  cases i with
  |zero =>
   have:=k1 k hk
   rw[show g+bG ((x::l).take 0)+k=g+k by simp[bG]];exact this
  |succ i =>
   have:=PO l _ _ e i (by simpa using hi) k (by simpa using hk)
   have e2:bG ((x::l).take (i+1))=x.methods.length+bG (l.take i):=by simp[bG]
   rw[e2,show g+(x.methods.length+bG (l.take i))+k=g+x.methods.length+bG (l.take i)+k by omega]
   exact this
theorem y0u{u:aQ}(e:(iD u).2.2=0):CU u:=by
 unfold iD at e
 split at e
 ·rename_i h0
  refine⟨h0,fun i hi k hk=>?_⟩
  have:=PO u.h 0 0 e i hi k hk
  rwa [Nat.zero_add]at this
 ·rename_i h0;exact absurd e h0
theorem JO:∀(l:List ae) (g:Nat),g<bG l->∃i,∃(hi:i<l.length),∃k,k<l[i].methods.length/\g=bG (l.take i)+k
 |[],g,h=>by simp[bG]at h
 |x::l,g,h=>by
  have e:bG (x::l)=x.methods.length+bG l:=by simp[bG]
  by_cases h1:g<x.methods.length
  ·exact⟨0,by simp,g,h1,by simp[bG]⟩
  ·obtain⟨i,hi,k,hk,hg⟩:=JO l (g-x.methods.length) (by omega)
   refine⟨i+1,by simpa using hi,k,by simpa using hk,?_⟩
   have:bG ((x::l).take (i+1))=x.methods.length+bG (l.take i):=by simp[bG]
   omega
theorem CU.fn{u:aQ}(c:CU u){g:Nat}(hg:g<u.fs.length):∃x∈u.h,∃m∈x.methods,zD u.h x.name m u.fs[g]:=by
 have h1:=(Dg c.ue).2
 obtain⟨i,hi,k,hk,e⟩:=JO u.h g (by omega)
 have h2:=c.fe i hi k hk
 rw[<-e]at h2
 have e2:jc u.fs g=u.fs[g]:=by unfold jc;rw[List.getElem?_eq_getElem hg];rfl
 rw[e2]at h2
 exact⟨_,List.getElem_mem hi,_,List.getElem_mem hk,h2⟩
end Go.ak
namespace Go.ak
open Go.Proofs.YtjnbddedmbhiaaaGreatDoor
structure y2q(h:List ae)(f:aA)(j:Nat)(x:Ins):Prop where
 k:tT x=false
 z:lX x=true
 r:lN f x
 c:qB f j x=true
 e:bY h f x=0
theorem X0{h:List ae}{f:aA}{j:Nat}{x:Ins}(e:iA h f j x=0):y2q h f j x:=by
 unfold iA at e
 cases h1:tT x with
 |true=>rw[h1]at e;cases e
 |false =>
  cases h2:lX x with
  |false=>rw[h1,h2]at e;cases e
  |true =>
   cases h3:jI f x with
   |false=>rw[h1,h2,h3]at e;cases e
   |true =>
    cases h4:qB f j x with
    |false=>rw[h1,h2,h3,h4]at e;cases e
    |true =>
     rw[h1,h2,h3,h4]at e
     exact⟨h1,h2,Ag h3,h4,e⟩
structure y2r(cls:Str)(m:aH)(h:List ae)(f:aA):Prop where
 b:qG cls m f=true
 v:f.vars.length<=256
 c:f.code.length<=1024
 c0:f.code≠[]
 n:∀k (hk:k<f.vars.length),oP f.stat k f.vars[k]=false/\nC h f.vars[k]=false
theorem Jk{h:List ae}{f:aA}:∀(l:List bQ) (k:Nat),jY h f l k=0->f.code≠[]/\∀j (hj:j<l.length),oP f.stat (k+j) l[j]=false/\nC h l[j]=false
 |[],k,e=>by
  refine⟨fun hc=>?_,fun _ hj=>absurd hj (by simp)⟩
  have:jY h f [] k=1:=by show(if ((f.code.length:Int)==0)=true then(1:Int)else 0)=1;rw[hc];rfl
  rw[this]at e;cases e
 |v::l,k,e=>by
  have e1:jY h f (v::l) k=if oP f.stat k v=true then 5 else if nC h v=true then 8 else jY h f l (k+1):=rfl
  rw[e1]at e
  cases h1:oP f.stat k v with
  |true=>rw[h1]at e;cases e
  |false =>
   cases h2:nC h v with
   |true=>rw[h1,h2]at e;cases e
   |false =>
    rw[h1,h2]at e
    obtain⟨k1,k2⟩:=Jk l (k+1) e
    refine⟨k1,fun j hj=>?_⟩
    cases j with
    |zero=>exact⟨h1,h2⟩
    |succ j =>
     have:=k2 j (by simpa using hj)
     rw[show k+(j+1)=k+1+j by omega];exact this
theorem YK{cls:Str}{m:aH}{h:List ae}{f:aA}(e:mE cls m h f=0):y2r cls m h f:=by
 unfold mE yN at e
 cases h1:qG cls m f with
 |false=>rw[h1]at e;cases e
 |true =>
  rw[h1]at e
  by_cases h2:256<f.vars.length
  ·simp[h2]at e
  ·by_cases h3:1024<f.code.length
   ·simp[h2,h3]at e
   ·simp only[if_true,if_neg h2,if_neg h3]at e
    obtain⟨k1,k2⟩:=Jk _ _ e
    refine⟨h1,by omega,by omega,k1,fun k hk=>?_⟩
    have:=k2 k hk
    rwa [Nat.zero_add]at this
structure y2v(cls:Str)(g:aH)(f:aA):Prop where
 c:f.cls=cls
 n:f.name=g.name
 s:f.stat=g.stat
 r:f.result=g.result
 p:f.params=((fO cls g++g.params).length:Int)
 l:(fO cls g++g.params).length<=f.vars.length
theorem y1F{cls:Str}{g:aH}{f:aA}(e:qG cls g f=true):y2v cls g f:=by
 unfold qG at e
 cases h1:(f.cls.toList==cls.toList)with
 |false=>rw[h1]at e;cases e
 |true =>
  cases h2:(f.name.toList==g.name.toList)with
  |false=>rw[h1,h2]at e;cases e
  |true =>
   cases h3:(f.stat==g.stat)with
   |false=>rw[h1,h2,h3]at e;cases e
   |true =>
    cases h4:(f.result.toList==g.result.toList)with
    |false=>rw[h1,h2,h3,h4]at e;cases e
    |true =>
     rw[h1,h2,h3,h4]at e
     simp only[if_true]at e
     unfold Ct at e
     by_cases h5:f.params=((fO cls g++g.params).length:Int)
     ·by_cases h6:f.vars.length<(fO cls g++g.params).length
      ·rw[if_pos h5,if_pos h6]at e;cases e
      ·exact⟨toList_inj (by simpa using h1),toList_inj (by simpa using h2),by simpa using h3,toList_inj (by simpa using h4),h5,by omega⟩
     ·rw[if_neg h5]at e;cases e
end Go.ak
