/-
  A typer's instr, whole.
-/
import Derived.Test.YtjnbddedmbhiaaaGreatDoorPk18
namespace Go.ak
structure lN(f:aA)(x:Ins):Prop where
 d:bS x.op 100=true->(0<=x.dst/\x.dst<f.vars.length)∨(bS x.op 108=true/\x.dst = -1)
 a:bS x.op 97=true->(0<=x.a/\x.a<f.vars.length)∨(x.op=13/\x.a = -1)
 b:bS x.op 98=true->0<=x.b/\x.b<f.vars.length
 g:∀v∈x.args,0<=v/\v<f.vars.length
theorem lN.dst{f:aA}{x:Ins}(k:lN f x)(h1:bS x.op 100=true)(h2:bS x.op 108=false):0<=x.dst/\x.dst<f.vars.length:=by
 rcases k.d h1 with e | ⟨e,-⟩
 ·exact e
 ·rw[h2]at e;cases e
theorem lN.Gz{f:aA}{x:Ins}(k:lN f x)(h1:bS x.op 100=true):¬ x.dst = -1->0<=x.dst/\x.dst<f.vars.length:=by
 intro e0
 rcases k.d h1 with e | ⟨-,e⟩
 ·exact e
 ·exact absurd e e0
theorem lN.ra{f:aA}{x:Ins}(k:lN f x)(h1:bS x.op 97=true)(h2:x.op≠13):0<=x.a/\x.a<f.vars.length:=by
 rcases k.a h1 with e | ⟨e,-⟩
 ·exact e
 ·exact absurd e h2
theorem lN.KY{f:aA}{x:Ins}(k:lN f x)(h1:bS x.op 97=true):¬ x.a = -1->0<=x.a/\x.a<f.vars.length:=by
 intro e0
 rcases k.a h1 with e | ⟨-,e⟩
 ·exact e
 ·exact absurd e e0
end Go.ak
namespace Go.Proofs.YtjnbddedmbhiaaaGreatDoor
open Go.RowKit Go.ak

def bY(h:List ae)(f:aA)(x:Ins):Int :=
 if x.op=1 then tE (aD (vt f x.dst) aY)else
 if x.op=5 then tE (aD (vt f x.dst) aY)else
 if x.op=2 then tE (!aD (vt f x.dst) aY)else
 if x.op=3 then tE (dm h (vt f x.a) (vt f x.dst))else
 if x.op=16 then tE (aD (vt f x.a) aY&&aD (vt f x.dst) aY)else
 if x.op=11 then tE (aD (vt f x.a) aY)else
 if x.op=14 then tE (!aD (vt f x.a) aY)else
 if x.op=4 then tE (aD (vt f x.dst) aY&&(aD (vt f x.a) aY&&aD (vt f x.b) aY||x.n==5 && !aD (vt f x.a) aY && !aD (vt f x.b) aY))else
 if x.op=6 then(if aI h x.cls<0 then 6 else tE (dm h x.cls (vt f x.dst)))else
 if x.op=15 then(if aI h x.cls<0 then 6 else tE (dm h x.cls (vt f x.dst)))else
 if x.op=7 then nY h f x else
 if x.op=8 then nY h f x else
 if x.op=9 then uB h f x else
 if x.op=10 then sK h f x else
 if x.op=13 then xN h f x else
 0
theorem Rk(h:List ae)(ha:Option Addr)(hc:Nat)(f:aA)(va:Option Addr)(vc:Nat)(ca:Option Addr)(cc:Nat)(x:Ins)(ga:Option Addr)(gc:Nat)(w:World)(h0:ay w ha h)(hv:aK w va f.vars)(hg:aM w ga x.args)(hl:h.length<=100000)(hf:∀c∈h,c.fields.length<=100000)(hm:∀c∈h,c.methods.length<=100000)(hp:∀c∈h,∀y∈c.methods,y.params.length<=100000)(hal:x.args.length<=1000000)(k:lN f x) :
 Calls Tryz.prog 71 #[aR h ha hc f va vc ca cc,bN x ga gc] w (aj w (.int .i64 (bY h f x))):=by
 by_cases ho:x.op=1
 ·have e:bY h f x=tE (aD (vt f x.dst) aY):=by simp[bY,ho]
  rw[e]
  exact RA h ha hc f va vc ca cc x ga gc w h0 hv hg ho (k.dst (by rw[ho];simp only[bH];kernel_rfl) (by rw[ho];simp only[bH];kernel_rfl))
 have n1:=ho
 clear ho
 by_cases ho:x.op=5
 ·have e:bY h f x=tE (aD (vt f x.dst) aY):=by simp[bY,ho]
  rw[e]
  exact Rp h ha hc f va vc ca cc x ga gc w h0 hv hg ho (k.dst (by rw[ho];simp only[bH];kernel_rfl) (by rw[ho];simp only[bH];kernel_rfl))
 have n5:=ho
 clear ho
 by_cases ho:x.op=2
 ·have e:bY h f x=tE (!aD (vt f x.dst) aY):=by simp[bY,ho]
  rw[e]
  exact Rt h ha hc f va vc ca cc x ga gc w h0 hv hg ho (k.dst (by rw[ho];simp only[bH];kernel_rfl) (by rw[ho];simp only[bH];kernel_rfl))
 have n2:=ho
 clear ho
 by_cases ho:x.op=3
 ·have e:bY h f x=tE (dm h (vt f x.a) (vt f x.dst)):=by simp[bY,ho]
  rw[e]
  exact Rs h ha hc f va vc ca cc x ga gc w h0 hv hg ho hl (k.ra (by rw[ho];simp only[bH];kernel_rfl) (by rw[ho];decide)) (k.dst (by rw[ho];simp only[bH];kernel_rfl) (by rw[ho];simp only[bH];kernel_rfl))
 have n3:=ho
 clear ho
 by_cases ho:x.op=16
 ·have e:bY h f x=tE (aD (vt f x.a) aY&&aD (vt f x.dst) aY):=by simp[bY,ho]
  rw[e]
  exact Ru h ha hc f va vc ca cc x ga gc w h0 hv hg ho (k.ra (by rw[ho];simp only[bH];kernel_rfl) (by rw[ho];decide)) (k.dst (by rw[ho];simp only[bH];kernel_rfl) (by rw[ho];simp only[bH];kernel_rfl))
 have n16:=ho
 clear ho
 by_cases ho:x.op=11
 ·have e:bY h f x=tE (aD (vt f x.a) aY):=by simp[bY,ho]
  rw[e]
  exact Ry h ha hc f va vc ca cc x ga gc w h0 hv hg ho (k.ra (by rw[ho];simp only[bH];kernel_rfl) (by rw[ho];decide))
 have n11:=ho
 clear ho
 by_cases ho:x.op=14
 ·have e:bY h f x=tE (!aD (vt f x.a) aY):=by simp[bY,ho]
  rw[e]
  exact Rw h ha hc f va vc ca cc x ga gc w h0 hv hg ho (k.ra (by rw[ho];simp only[bH];kernel_rfl) (by rw[ho];decide))
 have n14:=ho
 clear ho
 by_cases ho:x.op=4
 ·have e:bY h f x=tE (aD (vt f x.dst) aY&&(aD (vt f x.a) aY&&aD (vt f x.b) aY||x.n==5 && !aD (vt f x.a) aY && !aD (vt f x.b) aY)):=by simp[bY,ho]
  rw[e]
  exact Rq h ha hc f va vc ca cc x ga gc w h0 hv hg ho (k.ra (by rw[ho];simp only[bH];kernel_rfl) (by rw[ho];decide)) (k.b (by rw[ho];simp only[bH];kernel_rfl)) (k.dst (by rw[ho];simp only[bH];kernel_rfl) (by rw[ho];simp only[bH];kernel_rfl))
 have n4:=ho
 clear ho
 by_cases ho:x.op=6
 ·have e:bY h f x=(if aI h x.cls<0 then 6 else tE (dm h x.cls (vt f x.dst))):=by simp[bY,ho]
  rw[e]
  exact Ro h ha hc f va vc ca cc x ga gc w h0 hv hg ho hl (k.dst (by rw[ho];simp only[bH];kernel_rfl) (by rw[ho];simp only[bH];kernel_rfl))
 have n6:=ho
 clear ho
 by_cases ho:x.op=15
 ·have e:bY h f x=(if aI h x.cls<0 then 6 else tE (dm h x.cls (vt f x.dst))):=by simp[bY,ho]
  rw[e]
  exact Rv h ha hc f va vc ca cc x ga gc w h0 hv hg ho hl (k.dst (by rw[ho];simp only[bH];kernel_rfl) (by rw[ho];simp only[bH];kernel_rfl))
 have n15:=ho
 clear ho
 by_cases ho:x.op=7
 ·have e:bY h f x=nY h f x:=by simp[bY,ho]
  rw[e]
  exact Rn h ha hc f va vc ca cc x ga gc w h0 hv hg ho hl hf (k.ra (by rw[ho];simp only[bH];kernel_rfl) (by rw[ho];decide)) (k.dst (by rw[ho];simp only[bH];kernel_rfl) (by rw[ho];simp only[bH];kernel_rfl))
 have n7:=ho
 clear ho
 by_cases ho:x.op=8
 ·have e:bY h f x=nY h f x:=by simp[bY,ho]
  rw[e]
  exact Rm h ha hc f va vc ca cc x ga gc w h0 hv hg ho hl hf (k.ra (by rw[ho];simp only[bH];kernel_rfl) (by rw[ho];decide)) (k.b (by rw[ho];simp only[bH];kernel_rfl))
 have n8:=ho
 clear ho
 by_cases ho:x.op=9
 ·have e:bY h f x=uB h f x:=by simp[bY,ho]
  rw[e]
  exact Rl h ha hc f va vc ca cc x ga gc w h0 hv hg ho hl hm hp hal (k.ra (by rw[ho];simp only[bH];kernel_rfl) (by rw[ho];decide)) k.g (k.Gz (by rw[ho];simp only[bH];kernel_rfl))
 have n9:=ho
 clear ho
 by_cases ho:x.op=10
 ·have e:bY h f x=sK h f x:=by simp[bY,ho]
  rw[e]
  exact Rz h ha hc f va vc ca cc x ga gc w h0 hv hg ho hl hm hal k.g (k.Gz (by rw[ho];simp only[bH];kernel_rfl))
 have n10:=ho
 clear ho
 by_cases ho:x.op=13
 ·have e:bY h f x=xN h f x:=by simp[bY,ho]
  rw[e]
  exact Rx h ha hc f va vc ca cc x ga gc w h0 hv hg ho hl (k.KY (by rw[ho];simp only[bH];kernel_rfl))
 have n13:=ho
 clear ho
 have e:bY h f x=0:=by simp[bY,n1,n5,n2,n3,n16,n11,n14,n4,n6,n15,n7,n8,n9,n10,n13]
 rw[e]
 exact RD h ha hc f va vc ca cc x ga gc w h0 hv hg (by simp[n1,n5,n2,n3,n16,n11,n14,n4,n6,n15,n7,n8,n9,n10,n13])
end Go.Proofs.YtjnbddedmbhiaaaGreatDoor
