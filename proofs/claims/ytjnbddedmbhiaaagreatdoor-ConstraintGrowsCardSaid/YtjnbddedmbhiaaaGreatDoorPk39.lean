/-
  Equality of lists of numbers and of constraints, as the law's own functions decide it.
-/
import Derived.Test.YtjnbddedmbhiaaaGreatDoorPk33
namespace Go.Proofs.YtjnbddedmbhiaaaGreatDoor
open Go.RowKit Go.ak Go.AM

set_option maxHeartbeats 2000000 in
theorem Tj(l m:List Int)(hlm:l.length=m.length)(pa:Option Addr)(ca:Nat)(pb:Option Addr)(cb:Nat)(w:World)(ha:aM w pa l)(hb:aM w pb m)(hll:l.length<=1000000) :
 Calls Tryz.prog 23 #[.slice pa l.length ca,.slice pb l.length cb] w (aj w (.bool (decide (l=m)))):=by
 have HA:=Lib.hid ha
 have HB:=Lib.hid hb
 have HD:Hid (decide (l=m)=decide (l=m)):=rfl
 generalize hd:decide (l=m)=d at *
 have HN:Hid (∀k (h1:k<l.length) (h2:k<m.length),l[k]≠m[k]->d=false):=fun k h1 h2 h3=>by
  rw[<-hd,decide_eq_false_iff_not]
  intro e
  subst e
  exact h3 rfl
 have HY:Hid ((∀k (h1:k<l.length) (h2:k<m.length),l[k]=m[k])->d=true):=fun h=>by
  rw[<-hd,decide_eq_true_iff]
  exact List.ext_getElem hlm h
 have HL:=Lib.hid hlm
 clear ha hb HD hd hlm
 go_enter Tryz.func23,Tryz.ntmps23
 go_wp2
 go_loopw[13] (fun i wr=>∃k:Nat,k<=l.length/\i = .int .i64 k/\Hid (∀j (h1:j<l.length) (h2:j<m.length),j<k->l[j]=m[j])/\Hid (Below w.heap.size w wr)) (fun i _=>l.length-(intOf i).toNat)
 case atStart=>exact⟨0,Nat.zero_le _,rfl,fun j _ _ h=>absurd h (by omega),Below.refl _ _⟩
 case round =>
  obtain⟨k,hk,rfl,HE,HW⟩:=hrel
  by_cases hlt:k<l.length
  case neg =>
   have HT:Hid (d=true):=HY.out fun j h1 h2=>HE.out j h1 h2 (by omega)
   go_wp2
   go_ret
   exact⟨by rw[HT.out]<;>rfl,HW.out⟩
  have hlt2:k<m.length:=by rw[<-HL.out];exact hlt
  obtain⟨b1,o1,he1,p1⟩:=(HA.out.below HW.out) k hlt
  obtain⟨b2,o2,he2,p2⟩:=(HB.out.below HW.out) k hlt2
  subst he1
  subst he2
  have HNK:=Lib.hid (HN.out k hlt hlt2)
  have HEK:Hid (l[k]=m[k]->∀j (h1:j<l.length) (h2:j<m.length),j<k+1->l[j]=m[j]):=fun e j h1 h2 h3=>by
   by_cases e2:j=k
   ·subst e2;exact e
   ·exact HE.out j h1 h2 (by omega)
  clear HN HY HE
  generalize l[k]=x at *
  generalize m[k]=y at *
  have hne:Nonempty (WB wr):=⟨⟨wr,Below.refl _ _⟩⟩
  have k0:∀o:WB wr,o.u.cell? ⟨b1,o1+k,none⟩=some (.int .i64 x):=fun o=>cell_below o.h p1
  have k1:∀o:WB wr,o.u.cell? ⟨b2,o2+k,none⟩=some (.int .i64 y):=fun o=>cell_below o.h p2
  by_cases hxy:x=y
  case pos =>
   have HK2:=Lib.hid (HEK.out hxy)
   subst hxy
   clear HNK HEK
   go_upto_region 6 with (fail)
   clear p1 p2
   refine bJ wr (by kernel_rfl) ?_
   repeat (go_big_quiet_step (fail))
   refine wpQuiet_nil ?_
   intro _ hw'
   obtain⟨o,rfl⟩:=hw'
   have HW3:=Lib.hid (HW.out.trans (o.h.mono HW.out.size))
   clear k0 k1
   go_wp2
   go_roundw
   case rel=>exact⟨k+1,by omega,by go_num,HK2.out,HW3.out⟩
   case measure=>simp[intOf];omega
  case neg =>
   have HF:=Lib.hid (HNK.out hxy)
   have t1:(x != y)=true:=by simpa using hxy
   clear HNK HEK hxy
   go_upto_region 6 with (fail)
   clear p1 p2
   refine bJ wr (by kernel_rfl) ?_
   repeat (go_big_quiet_step (fail))
   refine wpQuiet_nil ?_
   intro _ hw'
   obtain⟨o,rfl⟩:=hw'
   have HW3:=Lib.hid (HW.out.trans (o.h.mono HW.out.size))
   clear k0 k1
   go_wp2
   go_ret
   exact⟨by rw[HF.out]<;>rfl,HW3.out⟩
theorem Tk(l m:List Int)(pa:Option Addr)(ca:Nat)(pb:Option Addr)(cb:Nat)(w:World)(ha:aM w pa l)(hb:aM w pb m)(hll:l.length<=1000000) :
 Calls Tryz.prog 23 #[.slice pa l.length ca,.slice pb m.length cb] w (aj w (.bool (decide (l=m)))):=by
 by_cases hlm:l.length=m.length
 ·rw[<-hlm]
  exact Tj l m hlm pa ca pb cb w ha hb hll
 ·have hd:decide (l=m)=false:=by
   rw[decide_eq_false_iff_not]
   rintro rfl
   exact hlm rfl
  rw[hd]
  clear hd ha hb hll
  generalize l.length=p at *
  generalize m.length=q at *
  have t1:((p:Int) != (q:Int))=true:=by simp;omega
  have t1':(p != q)=true:=by simpa using hlm
  clear hlm
  go_enter Tryz.func23,Tryz.ntmps23
  go_wp2
  go_ret
  exact⟨rfl,Below.refl _ _⟩
structure uM(w:World)(b off:Nat)(x:Cn):Prop where
 ck:w.cell? ⟨b,off,none⟩=some (.int .i64 x.k)
 ca:w.cell? ⟨b,off+1,none⟩=some (.int .i64 x.a)
 cb:w.cell? ⟨b,off+2,none⟩=some (.int .i64 x.b)
 cf:w.cell? ⟨b,off+3,none⟩=some (.int .i64 x.f)
 cs:w.cell? ⟨b,off+4,none⟩=some (.slice x.sa x.s.length x.sc)
 cl:aM w x.sa x.s
theorem uM.below{w w':World}{b off:Nat}{x:Cn}(k:uM w b off x)(hb:Below w.heap.size w w'):uM w' b off x :=
 ⟨cell_below hb k.ck,cell_below hb k.ca,cell_below hb k.cb,cell_below hb k.cf,cell_below hb k.cs,k.cl.below hb⟩
set_option maxRecDepth 100000 in
set_option maxHeartbeats 8000000 in
theorem Tn(x y:Cn)(b1 o1 c1 b2 o2 c2:Nat)(w:World)(hx:uM w b1 o1 x)(hy:uM w b2 o2 y)(hll:x.s.length<=1000000) :
 Calls Tryz.prog 7 #[.slice (some ⟨b1,o1,none⟩) 1 c1,.slice (some ⟨b2,o2,none⟩) 1 c2] w (aj w (.bool (decide (x.p=y.p)))):=by
 have HX:=Lib.hid hx
 have HY:=Lib.hid hy
 have HSI:Hid (∀w1,Below w.heap.size w w1->Calls Tryz.prog 23 #[.slice x.sa x.s.length x.sc,.slice y.sa y.s.length y.sc] w1 (aj w1 (.bool (decide (x.s=y.s))))):=fun w1 hb=>Tk x.s y.s x.sa x.sc y.sa y.sc w1 (hx.cl.below hb) (hy.cl.below hb) hll
 have HD:Hid (∀d:Bool,(x.k=y.k/\x.a=y.a/\x.b=y.b/\x.f=y.f/\x.s=y.s↔d=true)->decide (x.p=y.p)=d):=fun d h=>by
  rw[Bool.eq_iff_iff,decide_eq_true_iff,<-h]
  unfold Cn.p
  simp
 clear hx hy hll
 generalize hd:decide (x.p=y.p)=d at *
 go_enter Tryz.func7,Tryz.ntmps7
 go_wp2
 clear hd
 go_loopw[13] (fun i wr=>((i = .int .i64 0)∨(i = .int .i64 1/\Hid (d=true)))/\Hid (Below w.heap.size w wr)) (fun i _=>1-(intOf i).toNat)
 case atStart=>exact⟨.inl rfl,Below.refl _ _⟩
 case round =>
  obtain⟨hi,HW⟩:=hrel
  rcases hi with rfl | ⟨rfl,HT⟩
  case inr =>
   go_wp2
   go_ret
   exact⟨by rw[HT.out]<;>rfl,HW.out⟩
  obtain⟨p1,p2,p3,p4,p5,-⟩:=HX.out.below HW.out
  obtain⟨q1,q2,q3,q4,q5,-⟩:=HY.out.below HW.out
  have hne:Nonempty (WB wr):=⟨⟨wr,Below.refl _ _⟩⟩
  have k0:∀o:WB wr,o.u.cell? ⟨b1,o1,none⟩=some (.int .i64 x.k):=fun o=>cell_below o.h p1
  have k1:∀o:WB wr,o.u.cell? ⟨b1,o1+1,none⟩=some (.int .i64 x.a):=fun o=>cell_below o.h p2
  have k2:∀o:WB wr,o.u.cell? ⟨b1,o1+2,none⟩=some (.int .i64 x.b):=fun o=>cell_below o.h p3
  have k3:∀o:WB wr,o.u.cell? ⟨b1,o1+3,none⟩=some (.int .i64 x.f):=fun o=>cell_below o.h p4
  have k4:∀o:WB wr,o.u.cell? ⟨b1,o1+4,none⟩=some (.slice x.sa x.s.length x.sc):=fun o=>cell_below o.h p5
  have m0:∀o:WB wr,o.u.cell? ⟨b2,o2,none⟩=some (.int .i64 y.k):=fun o=>cell_below o.h q1
  have m1:∀o:WB wr,o.u.cell? ⟨b2,o2+1,none⟩=some (.int .i64 y.a):=fun o=>cell_below o.h q2
  have m2:∀o:WB wr,o.u.cell? ⟨b2,o2+2,none⟩=some (.int .i64 y.b):=fun o=>cell_below o.h q3
  have m3:∀o:WB wr,o.u.cell? ⟨b2,o2+3,none⟩=some (.int .i64 y.f):=fun o=>cell_below o.h q4
  have m4:∀o:WB wr,o.u.cell? ⟨b2,o2+4,none⟩=some (.slice y.sa y.s.length y.sc):=fun o=>cell_below o.h q5
  have HC:Hid (∀o:WB wr,Calls Tryz.prog 23 #[.slice x.sa x.s.length x.sc,.slice y.sa y.s.length y.sc] o.u (aj o.u (.bool (decide (x.s=y.s))))):=fun o=>HSI.out _ (HW.out.trans (o.h.mono HW.out.size))
  clear p1 p2 p3 p4 p5 q1 q2 q3 q4 q5 HSI HX HY
  have hcs:Hid (d=(decide (x.k=y.k)&&decide (x.a=y.a)&&decide (x.b=y.b)&&decide (x.f=y.f)&&decide (x.s=y.s))):=by
   show _=_
   refine HD.out _ ?_
   simp[and_assoc]
  clear HD
  generalize x.k=xk at *
  generalize x.a=xa at *
  generalize x.b=xb at *
  generalize x.f=xf at *
  generalize y.k=yk at *
  generalize y.a=ya at *
  generalize y.b=yb at *
  generalize y.f=yf at *
  generalize x.s.length=xl at *
  generalize y.s.length=yl at *
  generalize x.sa=xsa at *
  generalize y.sa=ysa at *
  generalize x.sc=xsc at *
  generalize y.sc=ysc at *
  generalize decide (x.s=y.s)=ds at *
  by_cases hk:xk=yk
  case neg =>
   have tk:(xk != yk)=true:=by simpa using hk
   have HF:Hid (d=false):=by show _=_;rw[hcs.out];simp[hk]
   clear hk hcs
   go_upto_region 6 with (fail)
   refine bJ wr (by kernel_rfl) ?_
   repeat (go_big_quiet_step ((rename_i o;exact(HC.out o).mono (fun _ _ h=>aj.bu h))))
   refine wpQuiet_nil ?_
   intro _ hw'
   obtain⟨o,rfl⟩:=hw'
   have HW3:=Lib.hid (HW.out.trans (o.h.mono HW.out.size))
   clear k0 k1 k2 k3 k4 m0 m1 m2 m3 m4
   go_wp2
   go_ret
   exact⟨by rw[HF.out]<;>rfl,HW3.out⟩
  have tk:(xk != yk)=false:=by simp[hk]
  by_cases ha:xa=ya
  case neg =>
   have ta:(xa != ya)=true:=by simpa using ha
   have HF:Hid (d=false):=by show _=_;rw[hcs.out];simp[ha]
   clear ha hcs
   go_upto_region 6 with (fail)
   refine bJ wr (by kernel_rfl) ?_
   repeat (go_big_quiet_step ((rename_i o;exact(HC.out o).mono (fun _ _ h=>aj.bu h))))
   refine wpQuiet_nil ?_
   intro _ hw'
   obtain⟨o,rfl⟩:=hw'
   have HW3:=Lib.hid (HW.out.trans (o.h.mono HW.out.size))
   clear k0 k1 k2 k3 k4 m0 m1 m2 m3 m4
   go_wp2
   go_ret
   exact⟨by rw[HF.out]<;>rfl,HW3.out⟩
  have ta:(xa != ya)=false:=by simp[ha]
  by_cases hb:xb=yb
  case neg =>
   have tb:(xb != yb)=true:=by simpa using hb
   have HF:Hid (d=false):=by show _=_;rw[hcs.out];simp[hb]
   clear hb hcs
   go_upto_region 6 with (fail)
   refine bJ wr (by kernel_rfl) ?_
   repeat (go_big_quiet_step ((rename_i o;exact(HC.out o).mono (fun _ _ h=>aj.bu h))))
   refine wpQuiet_nil ?_
   intro _ hw'
   obtain⟨o,rfl⟩:=hw'
   have HW3:=Lib.hid (HW.out.trans (o.h.mono HW.out.size))
   clear k0 k1 k2 k3 k4 m0 m1 m2 m3 m4
   go_wp2
   go_ret
   exact⟨by rw[HF.out]<;>rfl,HW3.out⟩
  have tb:(xb != yb)=false:=by simp[hb]
  by_cases hf:xf=yf
  case neg =>
   have tf:(xf != yf)=true:=by simpa using hf
   have HF:Hid (d=false):=by show _=_;rw[hcs.out];simp[hf]
   clear hf hcs
   go_upto_region 6 with (fail)
   refine bJ wr (by kernel_rfl) ?_
   repeat (go_big_quiet_step ((rename_i o;exact(HC.out o).mono (fun _ _ h=>aj.bu h))))
   refine wpQuiet_nil ?_
   intro _ hw'
   obtain⟨o,rfl⟩:=hw'
   have HW3:=Lib.hid (HW.out.trans (o.h.mono HW.out.size))
   clear k0 k1 k2 k3 k4 m0 m1 m2 m3 m4
   go_wp2
   go_ret
   exact⟨by rw[HF.out]<;>rfl,HW3.out⟩
  have tf:(xf != yf)=false:=by simp[hf]
  have HF:Hid (d=ds):=by show _=_;rw[hcs.out];simp[hk,ha,hb,hf]
  clear hk ha hb hf hcs
  cases ds
  case false =>
   go_upto_region 6 with (fail)
   refine bJ wr (by kernel_rfl) ?_
   repeat (go_big_quiet_step ((rename_i o;exact(HC.out o).mono (fun _ _ h=>aj.bu h))))
   refine wpQuiet_nil ?_
   intro _ hw'
   obtain⟨o,rfl⟩:=hw'
   have HW3:=Lib.hid (HW.out.trans (o.h.mono HW.out.size))
   clear k0 k1 k2 k3 k4 m0 m1 m2 m3 m4
   go_wp2
   go_ret
   exact⟨by rw[HF.out]<;>rfl,HW3.out⟩
  case true =>
   go_upto_region 6 with (fail)
   refine bJ wr (by kernel_rfl) ?_
   repeat (go_big_quiet_step ((rename_i o;exact(HC.out o).mono (fun _ _ h=>aj.bu h))))
   refine wpQuiet_nil ?_
   intro _ hw'
   obtain⟨o,rfl⟩:=hw'
   have HW3:=Lib.hid (HW.out.trans (o.h.mono HW.out.size))
   clear k0 k1 k2 k3 k4 m0 m1 m2 m3 m4
   go_wp2
   go_roundw
   case rel=>exact⟨.inr ⟨by go_num,HF.out⟩,HW3.out⟩
   case measure=>simp[intOf]
end Go.Proofs.YtjnbddedmbhiaaaGreatDoor
