/-
  The program's funcError, with belongs left open.
-/
import Derived.Test.YtjnbddedmbhiaaaGreatDoorPk21
namespace Go.ak
def oP(st:Bool)(k:Nat)(v:bQ):Bool:=if nz v.name=true then false else if (v.name.toList != [116,104,105,115])=true then true else if decide (0<k)=true then true else st
def nC(h:List ae)(v:bQ):Bool:=if (v.type.toList != [105,110,116])=true then(if (v.type.toList != [110,117,108,108])=true then decide (aI h v.type<0)else false)else false
def jY(h:List ae)(f:aA):List bQ->Nat->Int
 |[],_=>if ((f.code.length:Int)==0)=true then 1 else 0
 |v::l,k=>if oP f.stat k v=true then 5 else if nC h v=true then 8 else jY h f l (k+1)
def yN(bel:Bool)(h:List ae)(f:aA):Int:=if bel=true then(if 256<f.vars.length then 3 else if 1024<f.code.length then 3 else jY h f f.vars 0)else 20
end Go.ak
namespace Go.Proofs.YtjnbddedmbhiaaaGreatDoor
open Go.RowKit Go.ak

theorem JV{ops:Array Oper}{rest:List Oper}{o:Oper}{a:Act}{w:World}{Q:Exit->Act->World->Prop}(hgd:o.guard=none)(hd:o.dst=none)(x y:Operand)(ho:o.op = .store 92 x y)
 (g:Nat) (s t:ByteArray) (hx:a.eval x = .pointer (some ⟨g,0,none⟩)) (hy:a.eval y = .agg #[.string s,.string t])
 (old:Array Value) (hg:ah w g old 92) (hold:old.size=2)
 (h:wpList Tryz.prog ops Q rest a (w.setRow g #[.string s,.string t])):wpList Tryz.prog ops Q (o::rest) a w :=
 wpList_store_row hgd 92 x y ho g _ hx hy 92 old hg (by kernel_rfl) hold (by simp[Value.oneCell']) (by rw[hd];exact h)
abbrev uP:Obj:=.cells #[.string ⟨#[]⟩,.string ⟨#[]⟩] 92
theorem Q6(h:List ae)(f:aA)(k:Nat)(hk:k<f.vars.length):jY h f (f.vars.drop k) k=if oP f.stat k f.vars[k]=true then 5 else if nC h f.vars[k]=true then 8 else jY h f (f.vars.drop (k+1)) (k+1):=by
 rw[List.drop_eq_getElem_cons hk];rfl
theorem Q5(h:List ae)(f:aA)(k:Nat)(hk:f.vars.length<=k):jY h f (f.vars.drop k) k=if ((f.code.length:Int)==0)=true then 1 else 0:=by
 rw[List.drop_of_length_le hk];rfl
structure FE(h:List ae)(a:Option Addr)(c:Nat)(f:aA)(va:Option Addr)(vc:Nat)(ca:Option Addr)(cc:Nat)(g:aH)(pa:Option Addr)(pc:Nat)(w wr:World):Prop where
 bh:ah wr w.heap.size #[.slice a h.length c] 24
 hc:ay wr a h
 sb:ah wr (w.heap.size+1) #[.string g.name,.bool g.stat,.slice pa g.params.length pc,.string g.result] 48
 ps:bF wr pa g.params
 f:FW f va vc ca cc (w.heap.size+2) w wr
 kw:KW wr
section
variable {h:List ae}{a:Option Addr}{c:Nat}{f:aA}{va:Option Addr}{vc:Nat}{ca:Option Addr}{cc:Nat}{g:aH}{pa:Option Addr}{pc:Nat}{w wr w':World}
theorem FE.below(k:FE h a c f va vc ca cc g pa pc w wr)(hb:Below wr.heap.size wr w'):FE h a c f va vc ca cc g pa pc w w':=⟨k.bh.below hb,k.hc.below hb,k.sb.below hb,k.ps.below hb,k.f.below hb,k.kw.below hb⟩
theorem FE.start(hc:ay w a h)(hp:bF w pa g.params)(hv:aK w va f.vars)(hi:dw w ca f.code)(hk:KW w) :
 FE h a c f va vc ca cc g pa pc w (((w.alloc (fZ h a c)).alloc (jr g pa pc)).alloc (dP f va vc ca cc)):=by
 have hb:=xB w (fZ h a c) (jr g pa pc) (dP f va vc ca cc)
 have h1:ah (w.alloc (fZ h a c)) w.heap.size #[.slice a h.length c] 24:=aL ..
 have h2:ah ((w.alloc (fZ h a c)).alloc (jr g pa pc)) (w.heap.size+1) #[.string g.name,.bool g.stat,.slice pa g.params.length pc,.string g.result] 48:=gH ..
 exact⟨(h1.below (av ..)).below (av ..),hc.below hb,h2.below (av ..),hp.below hb,⟨hb,wN ..,hv.below hb,hi.below hb⟩,hk.below hb⟩
end
set_option maxRecDepth 100000 in
set_option maxHeartbeats 16000000 in
theorem YJ(h:List ae)(a:Option Addr)(c:Nat)(f:aA)(va:Option Addr)(vc:Nat)(ca:Option Addr)(cc:Nat)(cls:Str)(g:aH)(pa:Option Addr)(pc:Nat)(bel:Bool)(w:World)(hc:ay w a h)(hp:bF w pa g.params)(hv:aK w va f.vars)(hi:dw w ca f.code)(hk:KW w)(hl:h.length<=100000)
 (hb:∀w1,aK w1 va f.vars->dw w1 ca f.code->bF w1 pa g.params->Calls Tryz.prog 64 #[.string cls,fF g pa pc,eQ f va vc ca cc] w1 (aj w1 (.bool bel))) :
 Calls Tryz.prog 32 #[.agg #[.slice a h.length c],.string cls,fF g pa pc,eQ f va vc ca cc] w (aj w (.int .i64 (yN bel h f))):=by
 have S0:Hid (FE h a c f va vc ca cc g pa pc w _):=FE.start (c:=c) (vc:=vc) (cc:=cc) (pc:=pc) hc hp hv hi hk
 have HBL:=Lib.hid hb
 have HVN:Hid (∀s w1,KW w1->Calls Tryz.prog 65 #[.string s] w1 (Same w1 (.bool (nz s)))):=fun s w1 h1=>Q7 s w1 h1
 have HFI:Hid (∀s w1,ay w1 a h->Calls Tryz.prog 66 #[.agg #[.slice a h.length c],.string s] w1 (aj w1 (.int .i64 (aI h s)))):=fun s w1 h1=>yL h a c s w1 h1 (by omega)
 have HR:Hid (yN bel h f=if bel=true then(if 256<f.vars.length then 3 else if 1024<f.code.length then 3 else jY h f f.vars 0)else 20):=rfl
 clear hc hp hv hi hk hl hb
 unfold eQ fF at *
 generalize yN bel h f=R at *
 go_enter Tryz.func32,Tryz.ntmps32
 go_upto_region 1 with (fail)
 generalize ((w.alloc _).alloc _).alloc _=W at *
 obtain⟨y0,y1,y2,y3,y4,y5,y6⟩:=S0.out.f.cells
 have s0:=S0.out.sb.cell 0 (by simp)
 have s1:=S0.out.sb.cell 1 (by simp)
 have s2:=S0.out.sb.cell 2 (by simp)
 have s3:=S0.out.sb.cell 3 (by simp)
 go_wp2_with fail
 refine(HBL.out _ S0.out.f.hv S0.out.f.hc S0.out.ps).mono ?_
 rintro e w1 ⟨rfl,hb1⟩
 have S1:=Lib.hid (S0.out.below hb1)
 clear S0 hb1 HBL y0 y1 y2 y3 y4 y5 y6 s0 s1 s2 s3
 cases bel with
 |false =>
  have e:R=20:=HR.out
  subst e
  clear HR HVN HFI
  go_wp2
  go_ret
  exact⟨rfl,S1.out.f.hb⟩
 |true =>
  change Hid (R=if 256<f.vars.length then 3 else if 1024<f.code.length then 3 else jY h f f.vars 0)at HR
  obtain⟨y0,y1,y2,y3,y4,y5,y6⟩:=S1.out.f.cells
  by_cases h1:256<f.vars.length
  case pos =>
   have e:R=3:=by rw[HR.out,if_pos h1]
   subst e
   have t1:decide ((256:Int)<f.vars.length)=true:=by simp;omega
   clear HR HVN HFI
   go_wp2
   go_ret
   exact⟨rfl,S1.out.f.hb⟩
  case neg =>
   have t1:decide ((256:Int)<f.vars.length)=false:=by simp;omega
   by_cases h2:1024<f.code.length
   case pos =>
    have e:R=3:=by rw[HR.out,if_neg h1,if_pos h2]
    subst e
    have t2:decide ((1024:Int)<f.code.length)=true:=by simp;omega
    clear HR HVN HFI
    go_wp2
    go_ret
    exact⟨rfl,S1.out.f.hb⟩
   case neg =>
    have t2:decide ((1024:Int)<f.code.length)=false:=by simp;omega
    have HR2:Hid (R=jY h f f.vars 0):=by show _=_;rw[HR.out,if_neg h1,if_neg h2]
    clear HR
    go_wp2
    clear t1 t2 y0 y1 y2 y3 y4 y5 y6
    go_loopw[29] (fun i wr=>∃k:Nat,k<=f.vars.length/\i = .int .i64 k/\Hid (R=jY h f (f.vars.drop k) k)/\Hid (FE h a c f va vc ca cc g pa pc w wr)) (fun i _=>f.vars.length-(intOf i).toNat)
    case atStart=>exact⟨0,Nat.zero_le _,rfl,HR2.out,S1.out⟩
    case round =>
     clear S1 HR2
     obtain⟨k,hk,rfl,HJ,S⟩:=hrel
     obtain⟨y0,y1,y2,y3,y4,y5,y6⟩:=S.out.f.cells
     by_cases hlt:k<f.vars.length
     case neg =>
      have e2:Hid (R=if ((f.code.length:Int)==0)=true then 1 else 0):=by show _=_;rw[HJ.out,Q5 h f k (by omega)]
      clear HJ HVN HFI
      cases hz:((f.code.length:Int)==0)
      case true =>
       have e:R=1:=by rw[e2.out,hz];rfl
       subst e
       clear e2
       go_wp2
       go_ret
       exact⟨rfl,S.out.f.hb⟩
      case false =>
       have e:R=0:=by rw[e2.out,hz];rfl
       subst e
       clear e2
       go_wp2
       go_ret
       exact⟨rfl,S.out.f.hb⟩
     case pos =>
      have HJ2:=Lib.hid (HJ.out.trans (Q6 h f k hlt))
      obtain⟨b,off,rfl,m0,m1⟩:=S.out.f.hv k hlt
      generalize f.vars[k]=v at *
      have BZ:Hid (ah (wr.alloc uP) wr.heap.size #[.string ⟨#[]⟩,.string ⟨#[]⟩] 92):=aL ..
      have hY:=bP (av wr uP) (Nat.le_refl _) #[.string v.name,.string v.type]
      have S2:=Lib.hid (S.out.below hY)
      have B2:=Lib.hid (BZ.out.setRow #[.string v.name,.string v.type])
      clear HJ S hY
      go_upto_region 8 with (refine JV rfl rfl _ _ rfl wr.heap.size v.name v.type rfl rfl _ BZ.out rfl ?_)
      clear BZ m0 m1 y0 y1 y2 y3 y4 y5 y6
      generalize (wr.alloc uP).setRow wr.heap.size #[.string v.name,.string v.type]=W2 at *
      generalize wr.heap.size=n2 at *
      have n0:=B2.out.cell 0 (by simp)
      have n1:=B2.out.cell 1 (by simp)
      obtain⟨y0,y1,y2,y3,y4,y5,y6⟩:=S2.out.f.cells
      go_cut[50] (fun q wx=>q = .bool (oP f.stat k v)/\W2=wx)
      case first =>
       have HV:=Lib.hid (HVN.out v.name W2 S2.out.kw)
       have HN:Hid (oP f.stat k v=if nz v.name=true then false else if (v.name.toList != [116,104,105,115])=true then true else if decide (0<k)=true then true else f.stat):=rfl
       clear HVN HFI HJ2
       generalize oP f.stat k v=NB at *
       generalize nz v.name=vn at *
       generalize hth:(v.name.toList != [116,104,105,115])=t at *
       generalize hz:decide (0<k)=z at *
       generalize f.stat=st at *
       cases vn<;>cases t<;>cases z<;>cases st
       all_goals
        have e:=HN.out
        simp only[if_true,Bool.false_eq_true,if_false]at e
        subst e
        clear HN
        go_wp2_with (go_at_call 65;(with_reducible refine HV.out.mono ?_);rintro e w2 ⟨rfl,rfl⟩)
        all_goals go_meet
        all_goals first | exact⟨rfl,rfl⟩ | (exfalso;simp_all;done)
      case rest =>
       obtain⟨rfl,rfl⟩:=hcut
       clear HVN
       generalize oP f.stat k v=NB at *
       cases NB with
       |true =>
        have e:R=5:=HJ2.out
        subst e
        clear HJ2 HFI
        go_wp2
        go_ret
        exact⟨rfl,S2.out.f.hb⟩
       |false =>
        change Hid (R=if nC h v=true then 8 else jY h f (f.vars.drop (k+1)) (k+1))at HJ2
        have z0:=S2.out.bh.cell 0 (by simp)
        go_upto_region 10 with (fail)
        go_cut[65] (fun q wx=>q = .bool (nC h v)/\Hid (Below W2.heap.size W2 wx))
        case first =>
         have HF:=Lib.hid (HFI.out v.type W2 S2.out.hc)
         have HT:Hid (nC h v=if (v.type.toList != [105,110,116])=true then(if (v.type.toList != [110,117,108,108])=true then decide (aI h v.type<0)else false)else false):=rfl
         have BR:Hid (Below W2.heap.size W2 W2):=Below.refl _ _
         clear HFI HJ2
         generalize nC h v=TB at *
         generalize aI h v.type=n at *
         generalize hti:(v.type.toList != [105,110,116])=t at *
         generalize htn:(v.type.toList != [110,117,108,108])=u at *
         generalize hn:decide (n<0)=z at *
         cases t<;>cases u<;>cases z
         all_goals
          have e:=HT.out
          simp only[if_true,Bool.false_eq_true,if_false]at e
          subst e
          clear HT
          go_wp2_with (go_at_call 66;(with_reducible refine HF.out.mono ?_);rintro e w2 ⟨rfl,hb2⟩;replace BR:=Lib.hid hb2;clear hb2)
          all_goals go_meet
          all_goals first | exact⟨rfl,BR.out⟩ | exact⟨by simp_all,BR.out⟩ | (exfalso;simp_all;done)
        case rest =>
         obtain⟨rfl,HB⟩:=hcut
         have S3:=Lib.hid (S2.out.below HB.out)
         clear S2 B2 HFI n0 n1 y0 y1 y2 y3 y4 y5 y6 z0
         generalize nC h v=TB at *
         cases TB with
         |true =>
          have e:R=8:=HJ2.out
          subst e
          clear HJ2
          go_wp2
          go_ret
          exact⟨rfl,S3.out.f.hb⟩
         |false =>
          go_wp2
          go_roundw
          case rel=>exact⟨k+1,by omega,by go_num,HJ2.out,S3.out⟩
          case measure=>simp[intOf];omega
end Go.Proofs.YtjnbddedmbhiaaaGreatDoor
namespace Go.ak
def fO(cls:Str)(g:aH):List Str:=if g.stat=true then []else [cls]
def qF(st:Bool)(vs:List bQ):List Str->Nat->Bool
 |[],_=>if st=true then true else((vs[0]?.map (·.name.toList)).getD []==[116,104,105,115])
 |s::l,k=>if ((vs[k]?.map (·.type.toList)).getD []==s.toList)=true then qF st vs l (k+1)else false
def Ct(f:aA)(st:Bool)(l:List Str):Bool:=if f.params=(l.length:Int)then(if f.vars.length<l.length then false else qF st f.vars l 0)else false
def qG(cls:Str)(g:aH)(f:aA):Bool :=
 if (f.cls.toList==cls.toList)=true then(if (f.name.toList==g.name.toList)=true then(if (f.stat==g.stat)=true then(if (f.result.toList==g.result.toList)=true then Ct f g.stat (fO cls g++g.params)else false)else false)else false)else false
end Go.ak
namespace Go.Proofs.YtjnbddedmbhiaaaGreatDoor
open Go.RowKit Go.ak

structure BE(f:aA)(va:Option Addr)(vc:Nat)(ca:Option Addr)(cc:Nat)(g:aH)(pa:Option Addr)(pc:Nat)(w wr:World):Prop where
 sb:ah wr w.heap.size #[.string g.name,.bool g.stat,.slice pa g.params.length pc,.string g.result] 48
 ps:bF wr pa g.params
 f:FW f va vc ca cc (w.heap.size+1) w wr
section
variable {f:aA}{va:Option Addr}{vc:Nat}{ca:Option Addr}{cc:Nat}{g:aH}{pa:Option Addr}{pc:Nat}{w wr w':World}
theorem BE.below(k:BE f va vc ca cc g pa pc w wr)(hb:Below wr.heap.size wr w'):BE f va vc ca cc g pa pc w w':=⟨k.sb.below hb,k.ps.below hb,k.f.below hb⟩
theorem BE.start(hp:bF w pa g.params)(hv:aK w va f.vars)(hi:dw w ca f.code) :
 BE f va vc ca cc g pa pc w ((w.alloc (jr g pa pc)).alloc (dP f va vc ca cc)):=by
 have hb:=iH w (jr g pa pc) (dP f va vc ca cc)
 have h1:ah (w.alloc (jr g pa pc)) w.heap.size #[.string g.name,.bool g.stat,.slice pa g.params.length pc,.string g.result] 48:=aL ..
 exact⟨h1.below (av ..),hp.below hb,⟨hb,gH ..,hv.below hb,hi.below hb⟩⟩
theorem BE.sig(k:BE f va vc ca cc g pa pc w wr):wr.cell? ⟨w.heap.size,0,none⟩=some (.string g.name)/\wr.cell? ⟨w.heap.size,1,none⟩=some (.bool g.stat)/\wr.cell? ⟨w.heap.size,2,none⟩=some (.slice pa g.params.length pc)/\wr.cell? ⟨w.heap.size,3,none⟩=some (.string g.result) :=
 ⟨k.sb.cell 0 (by simp),k.sb.cell 1 (by simp),k.sb.cell 2 (by simp),k.sb.cell 3 (by simp)⟩
end
theorem y1E(st:Bool)(vs:List bQ)(l:List Str)(k:Nat)(hk:k<l.length)(hv:k<vs.length):qF st vs (l.drop k) k=if (vs[k].type.toList==l[k].toList)=true then qF st vs (l.drop (k+1)) (k+1)else false:=by
 rw[List.drop_eq_getElem_cons hk]
 show(if ((vs[k]?.map (·.type.toList)).getD []==l[k].toList)=true then _ else _)=_
 rw[List.getElem?_eq_getElem hv];rfl
theorem y1D(st:Bool)(vs:List bQ)(l:List Str)(k:Nat)(hk:l.length<=k):qF st vs (l.drop k) k=if st=true then true else((vs[0]?.map (·.name.toList)).getD []==[116,104,105,115]):=by
 rw[List.drop_of_length_le hk];rfl
set_option maxRecDepth 100000 in
set_option maxHeartbeats 4000000 in
theorem y1C(cls:Str)(g:aH)(pa:Option Addr)(pc:Nat)(f:aA)(va:Option Addr)(vc:Nat)(ca:Option Addr)(cc:Nat)(w:World)(hp:bF w pa g.params)(hv:aK w va f.vars)(hi:dw w ca f.code)(hl:g.params.length<=100000) :
 Calls Tryz.prog 64 #[.string cls,fF g pa pc,eQ f va vc ca cc] w (aj w (.bool (qG cls g f))):=by
 have S0:Hid (BE f va vc ca cc g pa pc w _):=BE.start (vc:=vc) (cc:=cc) (pc:=pc) hp hv hi
 have HR:Hid (qG cls g f=if (f.cls.toList==cls.toList)=true then(if (f.name.toList==g.name.toList)=true then(if (f.stat==g.stat)=true then(if (f.result.toList==g.result.toList)=true then Ct f g.stat (fO cls g++g.params)else false)else false)else false)else false):=rfl
 clear hp hv hi
 unfold eQ fF at *
 generalize qG cls g f=R at *
 go_enter Tryz.func64,Tryz.ntmps64
 go_upto_region 1 with (fail)
 generalize (w.alloc _).alloc _=W at *
 generalize Value.agg #[Value.string g.name,Value.bool g.stat,Value.slice pa g.params.length pc,Value.string g.result]=SV
 generalize Value.agg #[Value.string f.cls,Value.string f.name,Value.bool f.stat,Value.int IntKind.i64 f.params,Value.slice va f.vars.length vc,Value.string f.result,Value.slice ca f.code.length cc]=FV
 obtain⟨y0,y1,y2,y3,y4,y5,y6⟩:=S0.out.f.cells
 obtain⟨s0,s1,s2,s3⟩:=S0.out.sig
 cases h1:(f.cls.toList==cls.toList)
 case false =>
  have e:R=false:=by rw[HR.out,h1];rfl
  subst e
  clear HR
  go_wp2
  go_ret
  exact⟨rfl,S0.out.f.hb⟩
 cases h2:(f.name.toList==g.name.toList)
 case false =>
  have e:R=false:=by rw[HR.out,h1,h2];rfl
  subst e
  clear HR
  go_wp2
  go_ret
  exact⟨rfl,S0.out.f.hb⟩
 cases h3:(f.stat==g.stat)
 case false =>
  have e:R=false:=by rw[HR.out,h1,h2,h3];rfl
  subst e
  clear HR
  have h3':¬ f.stat=g.stat:=by simpa using h3
  go_wp2
  go_ret
  exact⟨rfl,S0.out.f.hb⟩
 cases h4:(f.result.toList==g.result.toList)
 case false =>
  have e:R=false:=by rw[HR.out,h1,h2,h3,h4];rfl
  subst e
  clear HR
  have h3':f.stat=g.stat:=by simpa using h3
  go_wp2
  go_ret
  exact⟨rfl,S0.out.f.hb⟩
 have HR1:Hid (R=Ct f g.stat (fO cls g++g.params)):=by show _=_;rw[HR.out,h1,h2,h3,h4];rfl
 clear HR
 have h3':f.stat=g.stat:=by simpa using h3
 go_upto_if 37 with (fail)
 have HBW:Hid (Below W.heap.size W W):=Below.refl _ _
 have hll:(fO cls g).length<=1:=by unfold fO;split<;>simp
 go_cut[7] (fun v wc=>∃(la:Option Addr) (lc:Nat),v = .slice la (fO cls g).length lc/\Hid (Below W.heap.size W wc)/\Hid (wc.ownsRow W.heap.size 9 1 (.slice la (fO cls g).length lc) (fO cls g).length ((fO cls g).map Value.string)))
 case first =>
  cases hs:g.stat
  case true =>
   have HP:Hid (fO cls g=[]):=by show _=_;unfold fO;rw[hs];rfl
   go_wp2
   go_meet
   refine⟨none,0,(by rw[HP.out];rfl),HBW.out,?_⟩
   rw[HP.out]
   exact⟨rfl,.inl ⟨rfl,rfl⟩⟩
  case false =>
   have HP:Hid (fO cls g=[cls]):=by show _=_;unfold fO;rw[hs];rfl
   have B1:Hid (ah (W.alloc (.cells #[.string cls] 9)) W.heap.size #[.string cls] 9):=aL ..
   have HB1:=Lib.hid (av W (.cells #[.string cls] 9))
   have OA:Hid ((W.alloc (.cells #[.string cls] 9)).ownsRow W.heap.size 9 1 (.slice none 0 0) ([]:List ByteArray).length (([]:List ByteArray).map Value.string)):=⟨rfl,.inl ⟨rfl,rfl⟩⟩
   have hbs:=HB1.out.size
   go_wp2_with (at_builtin;refine Cz rfl _ _ rfl W.heap.size _ [] rfl OA.out W.heap.size cls rfl B1.out (by simp) hbs ?_;intro v' w3 own3 grown3;obtain⟨-,oa3,oc3,rfl,-,-⟩:=qZ own3)
   have HB3:=Lib.hid (HB1.out.grown grown3 hbs (fun q hq=>(OA.out.lt q hq).1))
   go_meet
   refine⟨oa3,oc3,(by rw[HP.out];rfl),HB3.out,?_⟩
   rw[HP.out]
   exact own3
 case rest =>
 obtain⟨la,lc,rfl,HB1,OA⟩:=hcut
 have HNE:Hid (g.stat=false->0<(fO cls g++g.params).length):=fun e=>by unfold fO;rw[e];simp
 generalize hL:fO cls g=l0 at *
 have hsg:g.params.length<=1000000:=by omega
 have hl1:l0.length<=1000000:=by omega
 have hbs1:=HB1.out.size
 have S1:=Lib.hid (S0.out.below HB1.out)
 have SX:=S0
 clear S0 y0 y1 y2 y3 y4 y5 y6 s0 s1 s2 s3 h1 h2 h3 h4 h3' HBW
 obtain⟨y0,y1,y2,y3,y4,y5,y6⟩:=S1.out.f.cells
 obtain⟨s0,s1,s2,s3⟩:=S1.out.sig
 have PP:=Lib.hid S1.out.ps
 go_upto_region 7 with (at_builtin;refine y1T rfl _ _ rfl W.heap.size _ l0 rfl OA.out pa pc g.params rfl PP.out hl1 hsg hbs1 ?_;intro v' w3 own3 grown3;obtain⟨-,oa3,oc3,rfl,-,-⟩:=qZ own3)
 have HB3:=Lib.hid (HB1.out.grown grown3 hbs1 (fun q hq=>(OA.out.lt q hq).1))
 have OL:=Lib.hid (vC own3).2
 have S3:=Lib.hid (SX.out.below HB3.out)
 have hL3:(l0++g.params).length<=200000:=by rw[List.length_append];omega
 clear own3 grown3 OA HB1 HB3 S1 SX PP y0 y1 y2 y3 y4 y5 y6 s0 s1 s2 s3 hl1 hsg hll hbs1
 rw[<-List.length_append]
 generalize l0++g.params=L at *
 generalize w3=W3 at *
 have HRL:Hid (R=if f.params=(L.length:Int)then(if f.vars.length<L.length then false else qF g.stat f.vars L 0)else false):=HR1.out
 clear HR1
 obtain⟨y0,y1,y2,y3,y4,y5,y6⟩:=S3.out.f.cells
 obtain⟨s0,s1,s2,s3⟩:=S3.out.sig
 by_cases hq:f.params=(L.length:Int)
 case neg =>
  have e:R=false:=by rw[HRL.out,if_neg hq]
  subst e
  clear HRL
  go_wp2
  go_ret
  exact⟨rfl,S3.out.f.hb⟩
 by_cases hv:f.vars.length<L.length
 case pos =>
  have e:R=false:=by rw[HRL.out,if_pos hq,if_pos hv]
  subst e
  have t1:decide ((f.vars.length:Int)<L.length)=true:=by simp;omega
  clear HRL
  rw[hq]at y3
  go_wp2
  go_ret
  exact⟨rfl,S3.out.f.hb⟩
 have HJ0:Hid (R=qF g.stat f.vars (L.drop 0) 0):=by show _=_;rw[HRL.out,if_pos hq,if_neg hv,List.drop_zero]
 have t1:decide ((f.vars.length:Int)<L.length)=false:=by simp;omega
 rw[hq]at y3
 clear HRL
 go_wp2
 clear t1
 go_loopw[61] (fun i wr=>∃k:Nat,k<=L.length/\i = .int .i64 k/\W3=wr/\Hid (R=qF g.stat f.vars (L.drop k) k)) (fun i _=>L.length-(intOf i).toNat)
 case atStart=>exact⟨0,Nat.zero_le _,rfl,rfl,HJ0.out⟩
 case round =>
  clear HJ0
  obtain⟨k,hk,rfl,rfl,HJ⟩:=hrel
  by_cases hlt:k<L.length
  case neg =>
   have HE:=Lib.hid (HJ.out.trans (y1D g.stat f.vars L k (by omega)))
   clear HJ
   cases hs:g.stat
   case true =>
    have e:R=true:=by rw[HE.out,hs];rfl
    subst e
    clear HE
    go_wp2
    go_ret
    exact⟨rfl,S3.out.f.hb⟩
   case false =>
    have hv0:0<f.vars.length:=by have:=HNE.out hs;omega
    have HE2:Hid (R=(f.vars[0].name.toList==[116,104,105,115])):=by
     show _=_
     rw[HE.out,hs,List.getElem?_eq_getElem hv0]
     rfl
    obtain⟨b2,off2,rfl,m2,m3⟩:=S3.out.f.hv 0 hv0
    clear HE
    generalize f.vars[0]=v at *
    rw[Nat.zero_mul,Nat.add_zero]at m2
    clear m3
    cases hx:(v.name.toList==[116,104,105,115])
    all_goals
     have e:=HE2.out
     rw[hx]at e
     subst e
     clear HE2
     go_wp2
     go_ret
     exact⟨rfl,S3.out.f.hb⟩
  case pos =>
   have hkv:k<f.vars.length:=by omega
   have HE:=Lib.hid (HJ.out.trans (y1E g.stat f.vars L k hlt hkv))
   clear HJ
   obtain⟨b,off,rfl,m1⟩:=OL.out k hlt
   obtain⟨b2,off2,rfl,m2,m3⟩:=S3.out.f.hv k hkv
   generalize f.vars[k]=v at *
   generalize L[k]=x at *
   cases hx:(v.type.toList==x.toList)
   case false =>
    have e:R=false:=by rw[HE.out,hx];rfl
    subst e
    clear HE
    go_wp2
    go_ret
    exact⟨rfl,S3.out.f.hb⟩
   case true =>
    have HE2:Hid (R=qF g.stat f.vars (L.drop (k+1)) (k+1)):=by show _=_;rw[HE.out,hx];rfl
    clear HE
    go_wp2
    go_roundw
    case rel=>exact⟨k+1,by omega,by go_num,trivial,HE2.out⟩
    case measure=>simp[intOf];omega
end Go.Proofs.YtjnbddedmbhiaaaGreatDoor
namespace Go.ak
def mE(cls:Str)(g:aH)(h:List ae)(f:aA):Int:=yN (qG cls g f) h f
def iM(h:List ae)(s:Str):Bool:=if (s.toList==[105,110,116])=true then true else decide (0<=aI h s)
def nI(m o:aH):Bool:=if m.stat=true then false else if o.stat=true then false else if (m.result.toList==o.result.toList)=true then decide (m.params=o.params)else false
end Go.ak
namespace Go.Proofs.YtjnbddedmbhiaaaGreatDoor
open Go.RowKit Go.ak
theorem YI(h:List ae)(a:Option Addr)(c:Nat)(f:aA)(va:Option Addr)(vc:Nat)(ca:Option Addr)(cc:Nat)(cls:Str)(g:aH)(pa:Option Addr)(pc:Nat)(w:World)(hc:ay w a h)(hp:bF w pa g.params)(hv:aK w va f.vars)(hi:dw w ca f.code)(hk:KW w)(hl:h.length<=100000)(hg:g.params.length<=100000) :
 Calls Tryz.prog 32 #[.agg #[.slice a h.length c],.string cls,fF g pa pc,eQ f va vc ca cc] w (aj w (.int .i64 (mE cls g h f))) :=
 YJ h a c f va vc ca cc cls g pa pc (qG cls g f) w hc hp hv hi hk hl fun w1 h1 h2 h3=>y1C cls g pa pc f va vc ca cc w1 h3 h1 h2 hg
set_option maxRecDepth 100000 in
set_option maxHeartbeats 4000000 in
theorem equalS(a b:List Str)(pa:Option Addr)(ca:Nat)(pb:Option Addr)(cb:Nat)(w:World)(ha:bF w pa a)(hb:bF w pb b)(la:a.length<=1000000)(lb:b.length<=1000000) :
 Calls Tryz.prog 231 #[.slice pa a.length ca,.slice pb b.length cb] w (aj w (.bool (decide (a=b)))):=by
 have HA:=Lib.hid ha
 have HB:=Lib.hid hb
 clear ha hb
 by_cases hl:a.length=b.length
 case neg =>
  have e:decide (a=b)=false:=decide_eq_false fun e=>hl (by rw[e])
  rw[e]
  have t1:¬ (a.length:Int)=(b.length:Int):=by omega
  clear e HA HB
  go_enter Tryz.func231,Tryz.ntmps231
  go_wp2
  go_ret
  exact⟨rfl,Go.RowKit.Below.refl _ _⟩
 have HEN:Hid (∀k,k=a.length->a.take k=b.take k->true=decide (a=b)):=fun k hk e=>by
  subst hk
  rw[List.take_length]at e
  rw[hl,List.take_length]at e
  exact(decide_eq_true e).symm
 have HNE:Hid (∀k (h1:k<a.length) (h2:k<b.length),a[k]≠b[k]->false=decide (a=b)):=fun k h1 h2 e=>(decide_eq_false fun e2=>e (by subst e2;rfl)).symm
 generalize decide (a=b)=R at *
 rw[<-hl]
 go_enter Tryz.func231,Tryz.ntmps231
 go_wp2
 go_loopw[13] (fun i wr=>∃k:Nat,k<=a.length/\i = .int .i64 k/\Hid (a.take k=b.take k)/\Hid (Go.RowKit.Below w.heap.size w wr)) (fun i _=>a.length-(intOf i).toNat)
 case atStart=>exact⟨0,Nat.zero_le _,rfl,rfl,Go.RowKit.Below.refl _ _⟩
 case round =>
  obtain⟨k,hk,rfl,HT,HW⟩:=hrel
  by_cases h1:k<a.length
  case neg =>
   have HV:=Lib.hid (HEN.out k (by omega) HT.out)
   clear HEN HNE HT HA HB
   go_wp2
   go_ret
   exact⟨ed HV.out,HW.out⟩
  have h2:k<b.length:=by omega
  obtain⟨b1,o1,he1,p1⟩:=HA.out.below HW.out k h1
  subst he1
  obtain⟨b2,o2,he2,p2⟩:=HB.out.below HW.out k h2
  subst he2
  have HN:Hid (a[k]=b[k]->a.take (k+1)=b.take (k+1)):=fun e=>by
   rw[List.take_succ_eq_append_getElem h1,List.take_succ_eq_append_getElem h2,HT.out,e]
  have HV:=Lib.hid (HNE.out k h1 h2)
  clear HEN HNE HT
  generalize a[k]=x at *
  generalize b[k]=y at *
  have hne:Nonempty (WB wr):=⟨⟨wr,Go.RowKit.Below.refl _ _⟩⟩
  have k0:∀o:WB wr,o.u.cell? ⟨b1,o1+k,none⟩=some (.string x):=fun o=>cell_below o.h p1
  have k1:∀o:WB wr,o.u.cell? ⟨b2,o2+k,none⟩=some (.string y):=fun o=>cell_below o.h p2
  clear p1 p2
  go_upto_region 6 with (fail)
  cases h3:(x.toList==y.toList)
  case true =>
   have h4:x=y:=toList_inj (by simpa using h3)
   have HN2:=Lib.hid (HN.out h4)
   clear h4
   clear HV HN HA HB
   refine bJ wr (by kernel_rfl) ?_
   repeat (go_big_quiet_step (fail))
   refine wpQuiet_nil ?_
   intro _ hw'
   obtain⟨o,rfl⟩:=hw'
   have HB3:=Lib.hid (HW.out.trans (o.h.mono HW.out.size))
   clear k0 k1
   go_wp2
   go_roundw
   case rel=>exact⟨k+1,by omega,by go_num,HN2.out,HB3.out⟩
   case measure=>simp[intOf];omega
  case false =>
   have HF:=Lib.hid (HV.out (fun e=>by rw[e]at h3;simp at h3))
   clear HV HN HA HB
   refine bJ wr (by kernel_rfl) ?_
   repeat (go_big_quiet_step (fail))
   refine wpQuiet_nil ?_
   intro _ hw'
   obtain⟨o,rfl⟩:=hw'
   have HB3:=Lib.hid (HW.out.trans (o.h.mono HW.out.size))
   clear k0 k1
   go_wp2
   go_ret
   exact⟨ed HF.out,HB3.out⟩
set_option maxHeartbeats 1000000 in
theorem Nu(h:List ae)(s:Str)(a:Option Addr)(c g:Nat)(w:World)(hc:ay w a h)(hg:TabAt w g h) :
 Calls Tryz.prog 212 #[.agg #[.slice a h.length c,.map (some g)],.string s] w (aj w (.bool (iM h s))):=by
 have S:=Lib.hid (TB.start (c:=c) hc hg)
 have HR:Hid (iM h s=if (s.toList==[105,110,116])=true then true else decide (0<=aI h s)):=rfl
 have HF:Hid (∀(w1:World),TabAt w1 g h->Calls Tryz.prog 114 #[.agg #[.slice a h.length c,.map (some g)],.string s] w1 (aj w1 (.int .i64 (aI h s)))):=fun w1 h1=>uW h s a c g w1 h1
 clear hc hg
 generalize iM h s=R at *
 generalize aI h s=r at *
 go_enter Tryz.func212,Tryz.ntmps212
 go_upto_region 1 with (fail)
 generalize w.alloc _=W at *
 obtain⟨y0,y1⟩:=S.out.now (Below.refl _ _)
 cases h1:(s.toList==[105,110,116])
 case true =>
  have e:R=true:=by rw[HR.out,h1];rfl
  subst e
  clear HR HF
  go_wp2
  go_ret
  exact⟨rfl,S.out.hb⟩
 case false =>
  have HR2:Hid (R=decide (0<=r)):=by show _=_;rw[HR.out,h1];rfl
  have HF2:=Lib.hid (HF.out _ S.out.tg)
  clear HR HF
  go_wp2_with (go_at_call 114;refine HF2.out.mono ?_;rintro e w1 ⟨rfl,hb1⟩)
  go_ret
  exact⟨ed HR2.out.symm,S.out.hb.trans (hb1.mono S.out.hb.size)⟩
set_option maxRecDepth 100000 in
set_option maxHeartbeats 2000000 in
theorem UM(m o:aH)(pa:Option Addr)(pc:Nat)(qa:Option Addr)(qc:Nat)(w:World)(hp:bF w pa m.params)(hq:bF w qa o.params)(lp:m.params.length<=1000000)(lq:o.params.length<=1000000) :
 Calls Tryz.prog 213 #[fF m pa pc,fF o qa qc] w (aj w (.bool (nI m o))):=by
 have HB:=Lib.hid (iH w (jr m pa pc) (jr o qa qc))
 have B1:Hid (ah (w.alloc (jr m pa pc)) w.heap.size #[.string m.name,.bool m.stat,.slice pa m.params.length pc,.string m.result] 48):=aL ..
 have B1':=Lib.hid (B1.out.below (av _ (jr o qa qc)))
 have B2:Hid (ah ((w.alloc (jr m pa pc)).alloc (jr o qa qc)) (w.heap.size+1) #[.string o.name,.bool o.stat,.slice qa o.params.length qc,.string o.result] 48):=gH ..
 have HEQ:=Lib.hid (equalS m.params o.params pa pc qa qc _ (hp.below HB.out) (hq.below HB.out) lp lq)
 have HR:Hid (nI m o=if m.stat=true then false else if o.stat=true then false else if (m.result.toList==o.result.toList)=true then decide (m.params=o.params)else false):=rfl
 clear hp hq lp lq B1
 unfold fF at *
 generalize nI m o=R at *
 generalize decide (m.params=o.params)=d at *
 go_enter Tryz.func213,Tryz.ntmps213
 go_upto_region 1 with (fail)
 generalize (w.alloc _).alloc _=W at *
 have s1:=B1'.out.cell 1 (by simp)
 have s2:=B1'.out.cell 2 (by simp)
 have s3:=B1'.out.cell 3 (by simp)
 have r1:=B2.out.cell 1 (by simp)
 have r2:=B2.out.cell 2 (by simp)
 have r3:=B2.out.cell 3 (by simp)
 clear B1' B2
 generalize m.stat=ms at *
 generalize o.stat=os at *
 cases ms
 case true =>
  have e:R=false:=HR.out
  subst e
  clear HR HEQ
  go_wp2
  go_ret
  exact⟨rfl,HB.out⟩
 cases os
 case true =>
  have e:R=false:=HR.out
  subst e
  clear HR HEQ
  go_wp2
  go_ret
  exact⟨rfl,HB.out⟩
 cases h1:(m.result.toList==o.result.toList)
 case false =>
  have e:R=false:=by rw[HR.out,h1];rfl
  subst e
  clear HR HEQ
  go_wp2
  go_ret
  exact⟨rfl,HB.out⟩
 case true =>
  have HR2:Hid (R=d):=by show _=_;rw[HR.out,h1];rfl
  clear HR
  go_wp2_with (go_at_call 231;refine HEQ.out.mono ?_;rintro e w1 ⟨rfl,hb1⟩)
  go_ret
  exact⟨ed HR2.out.symm,HB.out.trans (hb1.mono HB.out.size)⟩
end Go.Proofs.YtjnbddedmbhiaaaGreatDoor
