/-
  A result of a pointer analysis in memory; the reference's Few.
  The reference's Few: a result's lists are short.
  The numbers of variables, results and thrown exceptions: program and reference.
  The number of a function's first variable, as the program counts it.
  Var, Result and Thrown of the program and of the reference: the same numbers.
  The sites of a variable: the reference's Of.
-/
import Derived.Test.YtffcklfigpmlgaaGreatDoorWA
import Derived.Test.YtffcklfigpmlgaaGreatDoorGA
import Derived.Test.YtffcklfigpmlgaaGreatDoorWF
import Derived.Test.YtffcklfigpmlgaaGreatDoorUA
import Derived.IntWalk
namespace Go.Unit0
open Go.Proofs.YtffcklfigpmlgaaGreatDoor
structure Rsl where
 reached:Nat
 calls:List Cal
 vars:List (List Int)
 cells:List (List Int)
structure FewOk (r:Rsl):Prop where
 cs:r.calls.length≤200
 v:r.vars.length≤400
 c:r.cells.length≤800
 vl:∀ l ∈ r.vars,l.length≤4000
 cl:∀ l ∈ r.cells,l.length≤4000
end Go.Unit0
namespace Go.Proofs.YtffcklfigpmlgaaGreatDoor
open Go.RowKit Go.Unit0

def RowsAt (w:World) (a:Option Addr) (ls:List (List Int)):Prop :=
 ∀ k (h:k < ls.length),∃ b off ra rc,a=some ⟨b,off,none⟩∧w.cell? ⟨b,off + k,none⟩=some (.slice ra ls[k].length rc)∧IntsAt w ra ls[k]
theorem RowsAt.below {w w':World} {a:Option Addr} {ls:List (List Int)} (h:RowsAt w a ls) (hb:Below w.heap.size w w'):RowsAt w' a ls:=by
 intro k hk
 obtain ⟨b,off,ra,rc,ha,h0,h1⟩:=h k hk
 exact ⟨b,off,ra,rc,ha,cell_below hb h0,h1.below hb⟩
structure RP where
 ra:Option Addr
 rc:Nat
 ca:Option Addr
 cc:Nat
 va:Option Addr
 vc:Nat
 xa:Option Addr
 xc:Nat
abbrev rsC (r:Rsl) (p:RP):Obj:=.cells #[.slice p.ra r.reached p.rc,.slice p.ca r.calls.length p.cc,.slice p.va r.vars.length p.vc,.slice p.xa r.cells.length p.xc] 34
def rsV (r:Rsl) (p:RP):Value:=.agg #[.slice p.ra r.reached p.rc,.slice p.ca r.calls.length p.cc,.slice p.va r.vars.length p.vc,.slice p.xa r.cells.length p.xc]
structure RslAt (w:World) (p:RP) (r:Rsl):Prop where
 v:RowsAt w p.va r.vars
 c:RowsAt w p.xa r.cells
 s:CalsAt w p.ca r.calls
theorem RslAt.below {w w':World} {p:RP} {r:Rsl} (h:RslAt w p r) (hb:Below w.heap.size w w'):RslAt w' p r:=⟨h.v.below hb,h.c.below hb,h.s.below hb⟩
structure RB8 (r:Rsl) (p:RP) (g:Nat) (w wr:World):Prop where
 hb:Below w.heap.size w wr
 b1:Blk wr g #[.slice p.ra r.reached p.rc,.slice p.ca r.calls.length p.cc,.slice p.va r.vars.length p.vc,.slice p.xa r.cells.length p.xc] 34
 m:RslAt wr p r
section
variable {r:Rsl} {p:RP} {g:Nat} {w wr w':World}
theorem RB8.below (k:RB8 r p g w wr) (hb:Below wr.heap.size wr w'):RB8 r p g w w':=⟨k.hb.trans (hb.mono k.hb.size),k.b1.below hb,k.m.below hb⟩
theorem RB8.start (h:RslAt w p r):RB8 r p w.heap.size w (w.alloc (rsC r p)):=⟨one_below ..,blk_new ..,h.below (one_below ..)⟩
theorem RB8.cells (k:RB8 r p g w wr):wr.cell? ⟨g,0,none⟩=some (.slice p.ra r.reached p.rc)∧wr.cell? ⟨g,1,none⟩=some (.slice p.ca r.calls.length p.cc)∧wr.cell? ⟨g,2,none⟩=some (.slice p.va r.vars.length p.vc)∧wr.cell? ⟨g,3,none⟩=some (.slice p.xa r.cells.length p.xc) :=
 ⟨k.b1.cell 0 (by simp),k.b1.cell 1 (by simp),k.b1.cell 2 (by simp),k.b1.cell 3 (by simp)⟩
end
end Go.Proofs.YtffcklfigpmlgaaGreatDoor
namespace Go.Proofs.YtffcklfigpmlgaaGreatDoor
open Go.RowKit Go.Unit0

set_option maxRecDepth 100000 in
set_option maxHeartbeats 4000000 in
theorem few21 (r:Rsl) (p:RP) (w:World) (h:RslAt w p r) :
 Calls Tryz.prog 5 #[rsV r p] w (BPost (fun b=>b=true→FewOk r) w):=by
 have S0:=Lib.hid (RB8.start h)
 have HK:Hid (r.calls.length≤200→∀ h1 h2 h3 h4,FewOk r):=fun h0 h1 h2 h3 h4=>⟨h0,h1,h2,h3,h4⟩
 clear h
 unfold rsV
 generalize FewOk r=R at *
 go_enter Tryz.func5,Tryz.ntmps5
 go_upto_region 1 with (fail)
 generalize w.alloc _=W at *
 obtain ⟨z0,z1,z2,z3⟩:=S0.out.cells
 by_cases h1:60 < r.reached
 ·have t1:decide ((60:Int) < (r.reached:Int))=true:=by simp;omega
  clear h1
  go_wp2
  go_ret
  exact ⟨S0.out.hb,_,rfl,fun e=>by cases e⟩
 have t1:decide ((60:Int) < (r.reached:Int))=false:=by simp;omega
 by_cases h2:200 < r.calls.length
 ·have t2:decide ((200:Int) < (r.calls.length:Int))=true:=by simp;omega
  clear h1 h2
  go_wp2
  go_ret
  exact ⟨S0.out.hb,_,rfl,fun e=>by cases e⟩
 have t2:decide ((200:Int) < (r.calls.length:Int))=false:=by simp;omega
 by_cases h3:400 < r.vars.length
 ·have t3:decide ((400:Int) < (r.vars.length:Int))=true:=by simp;omega
  clear h1 h2 h3
  go_wp2
  go_ret
  exact ⟨S0.out.hb,_,rfl,fun e=>by cases e⟩
 have t3:decide ((400:Int) < (r.vars.length:Int))=false:=by simp;omega
 by_cases h4:800 < r.cells.length
 ·have t4:decide ((800:Int) < (r.cells.length:Int))=true:=by simp;omega
  clear h1 h2 h3 h4
  go_wp2
  go_ret
  exact ⟨S0.out.hb,_,rfl,fun e=>by cases e⟩
 have t4:decide ((800:Int) < (r.cells.length:Int))=false:=by simp;omega
 have hcs:r.calls.length≤200:=by omega
 have hv:r.vars.length≤400:=by omega
 have hc:r.cells.length≤800:=by omega
 clear h1 h2 h3 h4
 replace HK:=Lib.hid (HK.out hcs hv hc)
 go_wp2
 clear t1 t2 t3 t4
 go_loop [3,4] (fun s i=>∃ n k:Nat,k≤r.vars.length∧n≤k * 5000∧s = .int .i64 n∧i = .int .i64 k∧Hid (n≤4000→∀ j (h:j < r.vars.length),j < k→r.vars[j].length≤4000)) (fun _ i=>r.vars.length - (intOf i).toNat)
 case atStart=>exact ⟨0,0,Nat.zero_le _,Nat.zero_le _,rfl,rfl,fun _ j h hj=>absurd hj (by omega)⟩
 case round =>
  obtain ⟨n,k,hk,hn,rfl,rfl,HI⟩:=hrel
  by_cases hlt:k < r.vars.length
  case pos =>
   obtain ⟨b,off,xa,xc,he,c0,-⟩:=S0.out.m.v k hlt
   have HN:Hid (n + min r.vars[k].length 5000≤4000→∀ j (h:j < r.vars.length),j < k + 1→r.vars[j].length≤4000):=fun e j h hj=>by
    by_cases e2:j < k
    ·exact HI.out (by omega) j h e2
    ·obtain rfl:j=k:=by omega
     omega
   generalize r.vars[k].length=m at *
   rw [he] at z2
   clear he HI
   by_cases hm:m≤5000
   ·rw [Nat.min_eq_left hm] at HN
    have t1:decide ((m:Int)≤5000)=true:=by simp;omega
    have t2:decide ((5000:Int) < m)=false:=by simp;omega
    go_wp2
    go_round
    case rel=>exact ⟨n + m,k + 1,by omega,by omega,by go_num,by go_num,HN.out⟩
    case measure=>simp [intOf];omega
   ·rw [Nat.min_eq_right (by omega)] at HN
    have t1:decide ((m:Int)≤5000)=false:=by simp;omega
    have t2:decide ((5000:Int) < m)=true:=by simp;omega
    go_wp2
    go_round
    case rel=>exact ⟨n + 5000,k + 1,by omega,by omega,by go_num,by go_num,HN.out⟩
    case measure=>simp [intOf];omega
  case neg =>
   have HV:Hid (n≤4000→∀ l ∈ r.vars,l.length≤4000):=fun e l hl=>by
    obtain ⟨j,hj,rfl⟩:=List.getElem_of_mem hl
    exact HI.out e j hj (by omega)
   clear HI
   go_wp2
   go_loop [3,5] (fun s i=>∃ n k:Nat,k≤r.cells.length∧n≤(k + 400) * 5000∧s = .int .i64 n∧i = .int .i64 k∧Hid (n≤4000→(∀ l ∈ r.vars,l.length≤4000)∧∀ j (h:j < r.cells.length),j < k→r.cells[j].length≤4000)) (fun _ i=>r.cells.length - (intOf i).toNat)
   case atStart=>exact ⟨n,0,Nat.zero_le _,by omega,rfl,rfl,fun e=>⟨HV.out e,fun j h hj=>absurd hj (by omega)⟩⟩
   case round =>
    clear HV
    obtain ⟨n,k,hk,hn,rfl,rfl,HI⟩:=hrel
    by_cases hlt:k < r.cells.length
    case pos =>
     obtain ⟨b,off,xa,xc,he,c0,-⟩:=S0.out.m.c k hlt
     have HN:Hid (n + min r.cells[k].length 5000≤4000→(∀ l ∈ r.vars,l.length≤4000)∧∀ j (h:j < r.cells.length),j < k + 1→r.cells[j].length≤4000):=fun e=>⟨(HI.out (by omega)).1,fun j h hj=>by
      by_cases e2:j < k
      ·exact (HI.out (by omega)).2 j h e2
      ·obtain rfl:j=k:=by omega
       omega⟩
     generalize r.cells[k].length=m at *
     rw [he] at z3
     clear he HI
     by_cases hm:m≤5000
     ·rw [Nat.min_eq_left hm] at HN
      have t1:decide ((m:Int)≤5000)=true:=by simp;omega
      have t2:decide ((5000:Int) < m)=false:=by simp;omega
      go_wp2
      go_round
      case rel=>exact ⟨n + m,k + 1,by omega,by omega,by go_num,by go_num,HN.out⟩
      case measure=>simp [intOf];omega
     ·rw [Nat.min_eq_right (by omega)] at HN
      have t1:decide ((m:Int)≤5000)=false:=by simp;omega
      have t2:decide ((5000:Int) < m)=true:=by simp;omega
      go_wp2
      go_round
      case rel=>exact ⟨n + 5000,k + 1,by omega,by omega,by go_num,by go_num,HN.out⟩
      case measure=>simp [intOf];omega
    case neg =>
     have HR:Hid (n≤4000→R):=fun e=>HK.out (HI.out e).1 fun l hl=>by
      obtain ⟨j,hj,rfl⟩:=List.getElem_of_mem hl
      exact (HI.out e).2 j hj (by omega)
     clear HI
     by_cases hn4:n≤4000
     ·have t1:decide ((n:Int)≤4000)=true:=by simp;omega
      go_wp2
      go_ret
      exact ⟨S0.out.hb,_,rfl,fun _=>HR.out hn4⟩
     ·have t1:decide ((n:Int)≤4000)=false:=by simp;omega
      go_wp2
      go_ret
      exact ⟨S0.out.hb,_,rfl,fun e=>by cases e⟩
end Go.Proofs.YtffcklfigpmlgaaGreatDoor
namespace Go.Proofs.YtffcklfigpmlgaaGreatDoor
open Go.RowKit Go.Unit0

def baseP (l:List Fnc) (k:Nat):Nat:=((l.take k).map (fun f=>f.vars.length + 2)).sum
theorem baseP_snoc {l:List Fnc} {k:Nat} (hk:k < l.length):baseP l (k + 1)=baseP l k + (l[k].vars.length + 2):=by
 have e:l.take (k + 1)=l.take k ++ [l[k]]:=List.take_succ_eq_append_getElem hk
 unfold baseP
 rw [e,List.map_append,List.sum_append];simp
theorem baseP_le {l:List Fnc} (h:∀ f ∈ l,f.vars.length≤1000):∀ {k:Nat},k≤l.length→baseP l k≤k * 1002
 | 0,_=>by simp [baseP]
 | k + 1,hk=>by
   have ih:=baseP_le h (k:=k) (by omega)
   rw [baseP_snoc (by omega)]
   have:=h _ (List.getElem_mem (show k < l.length by omega))
   omega
set_option maxRecDepth 100000 in
set_option maxHeartbeats 4000000 in
theorem base73 (u:Unt) (ha:Option Addr) (hc:Nat) (fa:Option Addr) (fc:Nat) (k:Nat) (w:World) (h:ClssAt w ha u.h) (f:FncsAt w fa u.fs) (hk:k≤u.fs.length) (hl:u.fs.length≤1000) (hv:∀ f ∈ u.fs,f.vars.length≤1000) :
 Calls Tryz.prog 120 #[unV u ha hc fa fc,.int .i64 k] w (Ret w (.int .i64 (baseP u.fs k))):=by
 have S0:=Lib.hid (UB.start (hc:=hc) (fc:=fc) h f)
 have HS:Hid (∀ q (hq:q < u.fs.length),baseP u.fs (q + 1)=baseP u.fs q + (u.fs[q].vars.length + 2)):=fun q hq=>baseP_snoc hq
 have HV:=Lib.hid hv
 clear h f hv
 unfold unV
 go_enter Tryz.func120,Tryz.ntmps120
 go_wp2
 generalize w.alloc _=W at *
 obtain ⟨z0,z1,z2⟩:=S0.out.cells
 go_loop [5,6] (fun s i=>∃ q p:Nat,q≤k∧p≤q * 1002∧s = .int .i64 p∧i = .int .i64 q∧Hid (p=baseP u.fs q)) (fun _ i=>k - (intOf i).toNat)
 case atStart=>exact ⟨0,0,Nat.zero_le _,Nat.zero_le _,rfl,rfl,rfl⟩
 case round =>
  obtain ⟨q,p,hq,hp,rfl,rfl,HI⟩:=hrel
  by_cases hlt:q < k
  case neg =>
   obtain rfl:q=k:=by omega
   go_wp2
   go_ret
   exact ⟨ret_int (by rw [HI.out]),S0.out.hb⟩
  have hql:q < u.fs.length:=by omega
  obtain ⟨b,off,va,vc,ca,cc,he,-,-,-,-,m4,-,-,-,-⟩:=S0.out.f q hql
  subst he
  have HSQ:=Lib.hid (HS.out q hql)
  have hvl:=HV.out _ (List.getElem_mem hql)
  generalize u.fs[q].vars.length=vl at *
  go_wp2
  go_round
  case rel=>exact ⟨q + 1,p + vl + 2,by omega,by omega,by go_num,by go_num,(by show _=_;rw [HSQ.out,HI.out,Nat.add_assoc])⟩
  case measure=>simp [intOf];omega
end Go.Proofs.YtffcklfigpmlgaaGreatDoor
namespace Go.Proofs.YtffcklfigpmlgaaGreatDoor
open Go.RowKit Go.Unit0

set_option maxRecDepth 100000 in
set_option maxHeartbeats 4000000 in
theorem first72 (u:Unt) (ha:Option Addr) (hc:Nat) (fa:Option Addr) (fc:Nat) (k:Nat) (w:World) (h:ClssAt w ha u.h) (f:FncsAt w fa u.fs) (hk:k≤u.fs.length) (hl:u.fs.length≤1000) (hcap:u.fs.length≤fc) (hv:∀ f ∈ u.fs,f.vars.length≤1000) :
 Calls Tryz.prog 97 #[unV u ha hc fa fc,.int .i64 k] w (Ret w (.int .i64 (baseP u.fs k))):=by
 have S0:=Lib.hid (UB.start (hc:=hc) (fc:=fc) h f)
 have HS:Hid (∀ q (hq:q < u.fs.length),baseP u.fs (q + 1)=baseP u.fs q + (u.fs[q].vars.length + 2)):=fun q hq=>baseP_snoc hq
 have HV:=Lib.hid hv
 clear h f hv
 unfold unV
 go_enter Tryz.func97,Tryz.ntmps97
 go_upto_region 2 with (fail)
 generalize w.alloc _=W at *
 obtain ⟨z0,z1,z2⟩:=S0.out.cells
 have hkc:k≤fc:=by omega
 go_wp2
 clear z0 z1 z2
 go_loopw [5,13] (fun s i wr=>∃ q p:Nat,q≤k∧p≤q * 1002∧s = .int .i64 p∧i = .int .i64 q∧Hid (p=baseP u.fs q)∧Hid (UB u ha hc fa fc w wr)) (fun _ i _=>k - (intOf i).toNat)
 case atStart=>exact ⟨0,0,Nat.zero_le _,Nat.zero_le _,rfl,rfl,rfl,S0.out⟩
 case round =>
  clear S0
  obtain ⟨q,p,hq,hp,rfl,rfl,HI,S⟩:=hrel
  by_cases hlt:q < k
  case neg =>
   obtain rfl:q=k:=by omega
   go_wp2
   go_ret
   exact ⟨ret_int (by rw [HI.out]),S.out.hb⟩
  have hql:q < u.fs.length:=by omega
  obtain ⟨b,off,va,vc,ca,cc,he,m0,m1,m2,m3,m4,m5,m6,-,-⟩:=S.out.f q hql
  subst he
  have HSQ:=Lib.hid (HS.out q hql)
  have hvl:=HV.out _ (List.getElem_mem hql)
  generalize u.fs[q]=f at *
  have BZ:Hid (Blk (wr.alloc zFnC) wr.heap.size _ 90):=blk_new ..
  have hsz:wr.heap.size≤wr.heap.size:=Nat.le_refl _
  go_upto_region 5 with (refine storeFunc rfl rfl _ _ rfl wr.heap.size f va vc ca cc rfl rfl _ BZ.out rfl ?_)
  have HB2:=Lib.hid (below_row (one_below wr zFnC) hsz #[.string f.cls,.string f.name,.bool f.stat,.int .i64 f.params,.slice va f.vars.length vc,.string f.result,.slice ca f.code.length cc])
  have B2:=Lib.hid (BZ.out.setRow #[.string f.cls,.string f.name,.bool f.stat,.int .i64 f.params,.slice va f.vars.length vc,.string f.result,.slice ca f.code.length cc])
  have S2:=Lib.hid (S.out.below HB2.out)
  clear S BZ HB2 m0 m1 m2 m3 m4 m5 m6 hsz
  generalize (wr.alloc zFnC).setRow wr.heap.size _=W2 at *
  generalize wr.heap.size=n2 at *
  have y4:=B2.out.cell 4 (by simp)
  simp only [List.getElem_toArray,List.getElem_cons_zero,List.getElem_cons_succ] at y4
  generalize f.vars.length=vl at *
  go_wp2
  go_roundw
  case rel=>exact ⟨q + 1,p + (vl + 2),by omega,by omega,by go_num,by go_num,(by show _=_;rw [HSQ.out,HI.out]),S2.out⟩
  case measure=>simp [intOf];omega
end Go.Proofs.YtffcklfigpmlgaaGreatDoor
namespace Go.Proofs.YtffcklfigpmlgaaGreatDoor
open Go.RowKit Go.Unit0

def nvars (l:List Fnc) (k:Nat):Nat:=if h:k < l.length then l[k].vars.length else 0
def varP (u:Unt) (f v:Int):Int:=if f < 0 then -1 else if (u.fs.length:Int)≤f then -1 else if v < 0 then -1 else if (nvars u.fs f.toNat:Int)≤v then -1 else baseP u.fs f.toNat + v
theorem FncsAt.nv {w:World} {fa:Option Addr} {l:List Fnc} (f:FncsAt w fa l) {k:Nat} (hk:k < l.length):∃ b off va vc,fa=some ⟨b,off,none⟩∧w.cell? ⟨b,off + k * 7 + 4,none⟩=some (.slice va (nvars l k) vc):=by
 obtain ⟨b,off,va,vc,ca,cc,he,-,-,-,-,m4,-⟩:=f k hk
 exact ⟨b,off,va,vc,he,by unfold nvars;rw [dif_pos hk];exact m4⟩
theorem nvars_le {l:List Fnc} {m:Nat} (h:∀ f ∈ l,f.vars.length≤m) (k:Nat):nvars l k≤m:=by
 unfold nvars
 split
 ·exact h _ (List.getElem_mem ‹_›)
 ·omega
set_option maxRecDepth 100000 in
set_option maxHeartbeats 4000000 in
theorem varPconstraint (u:Unt) (ha:Option Addr) (hc:Nat) (fa:Option Addr) (fc:Nat) (f v:Int) (w:World) (h:ClssAt w ha u.h) (hf:FncsAt w fa u.fs) (hl:u.fs.length≤1000) (hcap:u.fs.length≤fc) (hv:∀ f ∈ u.fs,f.vars.length≤1000) :
 Calls Tryz.prog 53 #[unV u ha hc fa fc,.int .i64 f,.int .i64 v] w (Ret w (.int .i64 (varP u f v))):=by
 have S0:=Lib.hid (UB.start (hc:=hc) (fc:=fc) h hf)
 have HBA:Hid (∀ k,k≤u.fs.length→∀ w1,ClssAt w1 ha u.h→FncsAt w1 fa u.fs→Calls Tryz.prog 97 #[unV u ha hc fa fc,.int .i64 k] w1 (Ret w1 (.int .i64 (baseP u.fs k)))):=fun k hk w1 h1 h2=>first72 u ha hc fa fc k w1 h1 h2 hk hl hcap hv
 have HBL:Hid (∀ k,k≤u.fs.length→baseP u.fs k≤k * 1002):=fun k hk=>baseP_le hv hk
 have HNV:Hid (∀ k,nvars u.fs k≤1000):=fun k=>nvars_le hv k
 obtain ⟨R,hR⟩:∃ R,R=varP u f v:=⟨_,rfl⟩
 rw [← hR]
 have HE:=Lib.hid hR
 clear hR
 unfold varP at HE
 clear h hf hv
 unfold unV at *
 go_enter Tryz.func53,Tryz.ntmps53
 go_upto_region 1 with (fail)
 generalize w.alloc _=W at *
 obtain ⟨z0,z1,z2⟩:=S0.out.cells
 by_cases h1:f < 0
 ·have HF:Hid (R = -1):=by have:=HE.out;rw [if_pos h1] at this;exact this
  have t1:decide (f < 0)=true:=by simp;omega
  clear h1
  go_wp2
  go_ret
  exact ⟨ret_int HF.out.symm,S0.out.hb⟩
 have t1:decide (f < 0)=false:=by simp;omega
 rw [if_neg h1] at HE
 by_cases h2:(u.fs.length:Int)≤f
 ·have HF:Hid (R = -1):=by have:=HE.out;rw [if_pos h2] at this;exact this
  have t2:decide ((u.fs.length:Int)≤f)=true:=by simp;omega
  clear h1 h2
  go_wp2
  go_ret
  exact ⟨ret_int HF.out.symm,S0.out.hb⟩
 have t2:decide ((u.fs.length:Int)≤f)=false:=by simp;omega
 rw [if_neg h2] at HE
 obtain ⟨k,rfl⟩:∃ k:Nat,f=k:=⟨f.toNat,by omega⟩
 have hkl:k < u.fs.length:=by omega
 rw [Int.toNat_natCast] at HE
 clear h1 h2 t1 t2
 obtain ⟨b,off,va,vc,he,m4⟩:=S0.out.f.nv hkl
 subst he
 have hnv:=HNV.out k
 have hbl:=HBL.out k (by omega)
 have HB:=Lib.hid (HBA.out k (by omega))
 clear HNV HBL HBA
 generalize nvars u.fs k=nv at *
 generalize baseP u.fs k=bs at *
 by_cases h3:v < 0
 ·have HF:Hid (R = -1):=by have:=HE.out;rw [if_pos h3] at this;exact this
  have t3:decide (v < 0)=true:=by simp;omega
  clear h3
  go_wp2
  go_ret
  exact ⟨ret_int HF.out.symm,S0.out.hb⟩
 have t3:decide (v < 0)=false:=by simp;omega
 rw [if_neg h3] at HE
 by_cases h4:(nv:Int)≤v
 ·have HF:Hid (R = -1):=by have:=HE.out;rw [if_pos h4] at this;exact this
  have t4:decide ((nv:Int)≤v)=true:=by simp;omega
  clear h3 h4
  go_wp2
  go_ret
  exact ⟨ret_int HF.out.symm,S0.out.hb⟩
 have t4:decide ((nv:Int)≤v)=false:=by simp;omega
 rw [if_neg h4] at HE
 have hv1:0≤v:=by omega
 have hv2:v < nv:=by omega
 clear h3 h4
 go_wp2_with fail
 refine (HB.out _ S0.out.h S0.out.f).mono ?_
 rintro e w' ⟨rfl,hb'⟩
 have S1:=Lib.hid (S0.out.below hb')
 clear S0 hb' z0 z1 z2 m4 t3 t4
 go_wp2
 go_ret
 exact ⟨ret_int HE.out.symm,S1.out.hb⟩
set_option maxRecDepth 100000 in
set_option maxHeartbeats 4000000 in
theorem varPr17 (u:Unt) (ha:Option Addr) (hc:Nat) (fa:Option Addr) (fc:Nat) (f v:Int) (w:World) (h:ClssAt w ha u.h) (hf:FncsAt w fa u.fs) (hl:u.fs.length≤1000) (hv:∀ f ∈ u.fs,f.vars.length≤1000) :
 Calls Tryz.prog 63 #[unV u ha hc fa fc,.int .i64 f,.int .i64 v] w (Ret w (.int .i64 (varP u f v))):=by
 have S0:=Lib.hid (UB.start (hc:=hc) (fc:=fc) h hf)
 have HBA:Hid (∀ k,k≤u.fs.length→∀ w1,ClssAt w1 ha u.h→FncsAt w1 fa u.fs→Calls Tryz.prog 120 #[unV u ha hc fa fc,.int .i64 k] w1 (Ret w1 (.int .i64 (baseP u.fs k)))):=fun k hk w1 h1 h2=>base73 u ha hc fa fc k w1 h1 h2 hk hl hv
 have HBL:Hid (∀ k,k≤u.fs.length→baseP u.fs k≤k * 1002):=fun k hk=>baseP_le hv hk
 have HNV:Hid (∀ k,nvars u.fs k≤1000):=fun k=>nvars_le hv k
 obtain ⟨R,hR⟩:∃ R,R=varP u f v:=⟨_,rfl⟩
 rw [← hR]
 have HE:=Lib.hid hR
 clear hR
 unfold varP at HE
 clear h hf hv
 unfold unV at *
 go_enter Tryz.func63,Tryz.ntmps63
 go_upto_region 1 with (fail)
 generalize w.alloc _=W at *
 obtain ⟨z0,z1,z2⟩:=S0.out.cells
 by_cases h1:f < 0
 ·have HF:Hid (R = -1):=by have:=HE.out;rw [if_pos h1] at this;exact this
  have t1:decide (f < 0)=true:=by simp;omega
  clear h1
  go_wp2
  go_ret
  exact ⟨ret_int HF.out.symm,S0.out.hb⟩
 have t1:decide (f < 0)=false:=by simp;omega
 rw [if_neg h1] at HE
 by_cases h2:(u.fs.length:Int)≤f
 ·have HF:Hid (R = -1):=by have:=HE.out;rw [if_pos h2] at this;exact this
  have t2:decide ((u.fs.length:Int)≤f)=true:=by simp;omega
  clear h1 h2
  go_wp2
  go_ret
  exact ⟨ret_int HF.out.symm,S0.out.hb⟩
 have t2:decide ((u.fs.length:Int)≤f)=false:=by simp;omega
 rw [if_neg h2] at HE
 obtain ⟨k,rfl⟩:∃ k:Nat,f=k:=⟨f.toNat,by omega⟩
 have hkl:k < u.fs.length:=by omega
 rw [Int.toNat_natCast] at HE
 clear h1 h2 t1 t2
 obtain ⟨b,off,va,vc,he,m4⟩:=S0.out.f.nv hkl
 subst he
 have hnv:=HNV.out k
 have hbl:=HBL.out k (by omega)
 have HB:=Lib.hid (HBA.out k (by omega))
 clear HNV HBL HBA
 generalize nvars u.fs k=nv at *
 generalize baseP u.fs k=bs at *
 by_cases h3:v < 0
 ·have HF:Hid (R = -1):=by have:=HE.out;rw [if_pos h3] at this;exact this
  have t3:decide (v < 0)=true:=by simp;omega
  clear h3
  go_wp2
  go_ret
  exact ⟨ret_int HF.out.symm,S0.out.hb⟩
 have t3:decide (v < 0)=false:=by simp;omega
 rw [if_neg h3] at HE
 by_cases h4:(nv:Int)≤v
 ·have HF:Hid (R = -1):=by have:=HE.out;rw [if_pos h4] at this;exact this
  have t4:decide ((nv:Int)≤v)=true:=by simp;omega
  clear h3 h4
  go_wp2
  go_ret
  exact ⟨ret_int HF.out.symm,S0.out.hb⟩
 have t4:decide ((nv:Int)≤v)=false:=by simp;omega
 rw [if_neg h4] at HE
 have hv1:0≤v:=by omega
 have hv2:v < nv:=by omega
 clear h3 h4
 go_wp2_with fail
 refine (HB.out _ S0.out.h S0.out.f).mono ?_
 rintro e w' ⟨rfl,hb'⟩
 have S1:=Lib.hid (S0.out.below hb')
 clear S0 hb' z0 z1 z2 m4 t3 t4
 go_wp2
 go_ret
 exact ⟨ret_int HE.out.symm,S1.out.hb⟩
end Go.Proofs.YtffcklfigpmlgaaGreatDoor
namespace Go.Unit0
open Go.Proofs.YtffcklfigpmlgaaGreatDoor in
def ofP (u:Unt) (r:Rsl) (f v:Int):List Int:=if varP u f v < 0 then [] else (r.vars[(varP u f v).toNat]?).getD []
end Go.Unit0
namespace Go.Proofs.YtffcklfigpmlgaaGreatDoor
open Go.RowKit Go.Unit0

def NumsPost (l:List Int) (w:World) (e:Ending) (w':World):Prop:=Below w.heap.size w w'∧∃ (a:Option Addr) (c:Nat),e = .returned (.slice a l.length c)∧IntsAt w' a l
set_option maxRecDepth 100000 in
set_option maxHeartbeats 4000000 in
theorem ofR21 (u:Unt) (ha:Option Addr) (hc:Nat) (fa:Option Addr) (fc:Nat) (r:Rsl) (p:RP) (f v:Int) (w:World) (h:ClssAt w ha u.h) (hf:FncsAt w fa u.fs) (hr:RslAt w p r) (hl:u.fs.length≤1000) (hv:∀ f ∈ u.fs,f.vars.length≤1000) :
 Calls Tryz.prog 33 #[unV u ha hc fa fc,rsV r p,.int .i64 f,.int .i64 v] w (NumsPost (ofP u r f v) w):=by
 have S0:Hid (UB u ha hc fa fc w ((w.alloc (unC u ha hc fa fc)).alloc (rsC r p))):=(UB.start (hc:=hc) (fc:=fc) h hf).below (one_below ..)
 have R0:Hid (RB8 r p (w.heap.size + 1) w ((w.alloc (unC u ha hc fa fc)).alloc (rsC r p))):=⟨two_below ..,blk_new2 ..,hr.below (two_below ..)⟩
 have HVA:Hid (∀ w1,ClssAt w1 ha u.h→FncsAt w1 fa u.fs→Calls Tryz.prog 63 #[unV u ha hc fa fc,.int .i64 f,.int .i64 v] w1 (Ret w1 (.int .i64 (varP u f v)))):=fun w1 h1 h2=>varPr17 u ha hc fa fc f v w1 h1 h2 hl hv
 have HO:Hid (ofP u r f v=if varP u f v < 0 then [] else (r.vars[(varP u f v).toNat]?).getD []):=rfl
 clear h hf hr hv
 generalize ofP u r f v=L at *
 generalize varP u f v=n at *
 unfold unV rsV at *
 go_enter Tryz.func33,Tryz.ntmps33
 go_upto_region 1 with (fail)
 generalize (w.alloc _).alloc _=W at *
 obtain ⟨z0,z1,z2⟩:=S0.out.cells
 go_wp2_with fail
 refine (HVA.out _ S0.out.h S0.out.f).mono ?_
 rintro e w1 ⟨rfl,hb⟩
 have R1:=Lib.hid (R0.out.below hb)
 clear S0 R0 hb z0 z1 z2 HVA
 obtain ⟨z0,z1,z2,z3⟩:=R1.out.cells
 by_cases g1:n < 0
 case pos =>
  have t1:=decide_eq_true g1
  have HL:Hid (L = []):=by show _=_;rw [HO.out,if_pos g1]
  clear g1
  go_wp2
  go_ret
  rw [HL.out]
  exact ⟨R1.out.hb,none,0,rfl,fun k hk=>by simp at hk⟩
 have t1:=decide_eq_false g1
 by_cases g2:(r.vars.length:Int)≤n
 case pos =>
  have t2:=decide_eq_true g2
  have HL:Hid (L = []):=by show _=_;rw [HO.out,if_neg g1,List.getElem?_eq_none (by omega)];rfl
  clear g1 g2
  go_wp2
  go_ret
  rw [HL.out]
  exact ⟨R1.out.hb,none,0,rfl,fun k hk=>by simp at hk⟩
 have t2:=decide_eq_false g2
 obtain ⟨k,rfl⟩:∃ k:Nat,n=k:=⟨n.toNat,by omega⟩
 have hk:k < r.vars.length:=by omega
 have HL:Hid (L=r.vars[k]):=by show _=_;rw [HO.out,if_neg g1,Int.toNat_natCast,List.getElem?_eq_getElem hk];rfl
 obtain ⟨b,off,xa,xc,he,c0,hi⟩:=R1.out.m.v k hk
 rw [he] at z2
 rw [← HL.out] at c0 hi
 have HI:=Lib.hid hi
 clear g1 g2 he hi
 go_wp2
 go_ret
 exact ⟨R1.out.hb,xa,xc,rfl,HI.out⟩
end Go.Proofs.YtffcklfigpmlgaaGreatDoor
