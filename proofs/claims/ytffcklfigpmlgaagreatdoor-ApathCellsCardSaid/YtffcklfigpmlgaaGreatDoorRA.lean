/-
  Plain: sites, instances, receivers.
  Rows of sites. (Printed by genrows.py.)
  The program's allocation sites.
  The reference's allocation sites.
-/
import Derived.Test.YtffcklfigpmlgaaGreatDoorHA
import Derived.Test.YtffcklfigpmlgaaGreatDoorUA
import Derived.Test.YtffcklfigpmlgaaGreatDoorGA
import Derived.Test.YtffcklfigpmlgaaGreatDoorTD
import Derived.Test.YtffcklfigpmlgaaGreatDoorWF
import Derived.Test.YtffcklfigpmlgaaGreatDoorHK
namespace Go.Proofs.YtffcklfigpmlgaaGreatDoor
open Go.RowKit Go.Unit0 Go.AM

structure Sit where
 f:Int
 i:Int
 c:Str
def sitI (f i:Nat) (c:Ins):List Sit:=if c.op=6 then [⟨f,i,c.cls⟩] else []
def sitF (f:Nat) (code:List Ins) (n:Nat):List Sit:=(List.range n).flatMap (fun i=>code[i]?.elim [] (sitI f i))
def sitU (fs:List Fnc) (m:Nat):List Sit:=(List.range m).flatMap (fun f=>fs[f]?.elim [] (fun x=>sitF f x.code x.code.length))
theorem sitF_succ {f:Nat} {code:List Ins} {n:Nat} (hn:n < code.length):sitF f code (n + 1)=sitF f code n ++ sitI f n code[n]:=by
 unfold sitF;rw [List.range_succ,List.flatMap_append];simp [hn]
theorem sitU_succ {fs:List Fnc} {m:Nat} (hm:m < fs.length):sitU fs (m + 1)=sitU fs m ++ sitF m fs[m].code fs[m].code.length:=by
 unfold sitU;rw [List.range_succ,List.flatMap_append];simp [hm]
theorem sitI_len (f i:Nat) (c:Ins):(sitI f i c).length≤1:=by unfold sitI;split <;> simp
theorem sitF_len {f:Nat} {code:List Ins}:∀ {n:Nat},n≤code.length→(sitF f code n).length≤n
 | 0,_=>by simp [sitF]
 | n + 1,hn=>by
   rw [sitF_succ (by omega),List.length_append]
   have:=sitF_len (f:=f) (code:=code) (n:=n) (by omega)
   have:=sitI_len f n code[n]
   omega
theorem sitU_len {fs:List Fnc}:∀ {m:Nat},m≤fs.length→(sitU fs m).length≤sumC (fs.take m)
 | 0,_=>by simp [sitU]
 | m + 1,hm=>by
   rw [sitU_succ (by omega),List.length_append,sumC_snoc (by omega)]
   have:=sitU_len (fs:=fs) (m:=m) (by omega)
   have:=sitF_len (f:=m) (code:=fs[m].code) (n:=fs[m].code.length) (Nat.le_refl _)
   omega
def sitL (u:Unt):List Sit:=sitU u.fs u.fs.length
end Go.Proofs.YtffcklfigpmlgaaGreatDoor
namespace Go.Proofs.YtffcklfigpmlgaaGreatDoor
open Go.RowKit Go.Unit0 Go.AM

def SitsAt (w:World) (a:Option Addr) (l:List Sit):Prop :=
 ∀ k (h:k < l.length),∃ b off,a=some ⟨b,off,none⟩∧w.cell? ⟨b,off + k * 3,none⟩=some (.int .i64 l[k].f)∧w.cell? ⟨b,off + k * 3 + 1,none⟩=some (.int .i64 l[k].i)∧w.cell? ⟨b,off + k * 3 + 2,none⟩=some (.string l[k].c)
theorem SitsAt.below {w w':World} {a:Option Addr} {l:List Sit} (h:SitsAt w a l) (hb:Below w.heap.size w w'):SitsAt w' a l:=by
 intro k hk
 obtain ⟨b,off,ha,h0,h1,h2⟩:=h k hk
 exact ⟨b,off,ha,cell_below hb h0,cell_below hb h1,cell_below hb h2⟩
def encS (e:Sit):List Value:=[.int .i64 e.f,.int .i64 e.i,.string e.c]
def flatS (L:List Sit):List Value:=L.flatMap encS
theorem flatS_len (L:List Sit):(flatS L).length=L.length * 3:=by
 unfold flatS
 rw [List.length_flatMap]
 induction L with
 | nil=>rfl
 | cons x L ih=>rw [List.map_cons,List.sum_cons,ih,List.length_cons];simp [encS];omega
theorem flatS_get:∀ (L:List Sit) (j r:Nat) (hj:j < L.length),r < 3→(flatS L)[j * 3 + r]? = (encS L[j])[r]?
 | x :: L,0,r,_,hr=>by
   show (encS x ++ flatS L)[0 * 3 + r]? = _
   rw [List.getElem?_append_left (by simp [encS];omega)]
   simp
 | x :: L,j + 1,r,hj,hr=>by
   have ih:=flatS_get L j r (by simpa using hj) hr
   show (encS x ++ flatS L)[(j + 1) * 3 + r]? = _
   rw [List.getElem?_append_right (by simp [encS];omega)]
   have e:(j + 1) * 3 + r - (encS x).length=j * 3 + r:=by simp [encS];omega
   rw [e,ih]
   simp
theorem flatS_app (L:List Sit) (e:Sit):flatS (L ++ [e])=flatS L ++ encS e:=by
 unfold flatS
 rw [List.flatMap_append]
 simp
theorem infoS:(Tryz.prog.info? 112).map (fun i=>(i.zero,i.size,i.bytes))=some (some (.agg #[.int .i64 0,.int .i64 0,.string ⟨#[]⟩]),3,32):=by kernel_rfl
theorem ownsS {w:World} {base:Nat} {v:Value} {l:List Sit} {n:Nat} (h:w.ownsRow base 112 3 v n (flatS l)):n=l.length∧∃ a cap,v = .slice a n cap∧n≤cap∧SitsAt w a l:=by
 have hl:n=l.length:=by have:=h.1;rw [flatS_len] at this;omega
 refine ⟨hl,?_⟩
 rcases h.2 with ⟨rfl,h0⟩ | ⟨g,cap,cur,rfl,hb,hh,hn,_,hsz,ht⟩
 ·exact ⟨none,0,by rw [h0],by omega,fun k hk=>by omega⟩
 ·refine ⟨_,_,rfl,hn,fun k hk=>⟨g,0,rfl,?_,?_,?_⟩⟩
  ·have c:=h.cells (g:=g) rfl (k * 3 + 0) (.int .i64 l[k].f) (by rw [flatS_get l k 0 hk (by omega)];rfl)
   rw [addr_add] at c
   exact c
  ·have c:=h.cells (g:=g) rfl (k * 3 + 1) (.int .i64 l[k].i) (by rw [flatS_get l k 1 hk (by omega)];rfl)
   rw [addr_add] at c
   exact c
  ·have c:=h.cells (g:=g) rfl (k * 3 + 2) (.string l[k].c) (by rw [flatS_get l k 2 hk (by omega)];rfl)
   rw [addr_add] at c
   exact c
theorem ownsS' {w:World} {base n d:Nat} {b:Option Addr} {l:List Sit} (h:w.ownsRow base 112 3 (.slice b n d) n (flatS l)):n≤d∧SitsAt w b l:=by
 obtain ⟨_,a,cap,he,h1,h2⟩:=ownsS h
 cases he
 exact ⟨h1,h2⟩
theorem appS {ops:Array Oper} {rest:List Oper} {o:Oper} {a:Act} {Q:Exit→Act→World→Prop} {w:World} (hgd:o.guard=none) (s x:Operand)
 (ho:o.op = .call { callee:=.builtin .append,args:=#[s,x],argTypes:=#[62,62] })
 (base:Nat) (v:Value) (l:List Sit) (hs:a.eval s=v) (hown:w.ownsRow base 112 3 v l.length (flatS l))
 (g:Nat) (y:Sit) (hx:a.eval x = .slice (some ⟨g,0,none⟩) 1 1) (hg:Blk w g #[.int .i64 y.f,.int .i64 y.i,.string y.c] 112)
 (hn:l.length≤1000000) (hbase:base≤w.heap.size)
 (h:∀ v' w',w'.ownsRow base 112 3 v' (l ++ [y]).length (flatS (l ++ [y]))→w.grownBy w' v.ownBlock→wpList Tryz.prog ops Q rest (a.put o.dst v') w'):wpList Tryz.prog ops Q (o :: rest) a w:=by
 obtain ⟨i0,hi,hz0,hz1,hz2⟩:=info_parts infoS
 refine wpList_append_own w hgd s x 62 ho base 112 i0 (.agg #[.int .i64 0,.int .i64 0,.string ⟨#[]⟩]) 3 32 Tryz.underlying62 hi hz0 hz1 hz2 rfl (by decide) v l.length (flatS l) hs hown ⟨g,0,none⟩ 1 1 [.int .i64 y.f,.int .i64 y.i,.string y.c] hx rfl ?_ (by intro u hu;simp at hu;rcases hu with rfl | rfl | rfl <;> rfl) (by unfold maxLen;omega) (by omega) hbase ?_
 ·intro j u hu
  rw [addr_add,Nat.zero_add,cell_of_row _ _ _ _ _ _ hg]
  simpa using hu
 ·intro v' w' h1 h2 _
  refine h v' w' ?_ h2
  rw [flatS_app,List.length_append]
  exact h1
end Go.Proofs.YtffcklfigpmlgaaGreatDoor
namespace Go.Proofs.YtffcklfigpmlgaaGreatDoor
open Go.RowKit Go.Unit0 Go.AM

def SitsPost (L:List Sit) (w:World) (e:Ending) (w':World):Prop :=
 Below w.heap.size w w'∧∃ a c,e = .returned (.slice a L.length c)∧w'.ownsRow w.heap.size 112 3 (.slice a L.length c) L.length (flatS L)
structure SE (u:Unt) (ha:Option Addr) (hc:Nat) (fa:Option Addr) (fc:Nat) (out:List Sit) (oa:Option Addr) (oc:Nat) (w wr:World):Prop where
 ub:UB u ha hc fa fc w wr
 ow:wr.ownsRow (w.heap.size + 1) 112 3 (.slice oa out.length oc) out.length (flatS out)
section
variable {u:Unt} {ha:Option Addr} {hc:Nat} {fa:Option Addr} {fc:Nat} {out:List Sit} {oa:Option Addr} {oc:Nat} {w wr w':World}
theorem SE.below (k:SE u ha hc fa fc out oa oc w wr) (hb:Below wr.heap.size wr w'):SE u ha hc fa fc out oa oc w w':=⟨k.ub.below hb,owns_below k.ow hb⟩
theorem SE.grow {out':List Sit} {oa':Option Addr} {oc':Nat} (h:ClssAt w ha u.h) (f:FncsAt w fa u.fs) (k:SE u ha hc fa fc out oa oc w wr) (own:w'.ownsRow (w.heap.size + 1) 112 3 (.slice oa' out'.length oc') out'.length (flatS out')) (hg:wr.grownBy w' (Value.slice oa out.length oc).ownBlock):SE u ha hc fa fc out' oa' oc' w w' :=
 ⟨k.ub.grow h f hg (fun q hq=>by have:=(k.ow.lt q hq).1;omega),own⟩
end
set_option maxRecDepth 100000 in
set_option maxHeartbeats 8000000 in
theorem sitesP (u:Unt) (ha:Option Addr) (hc:Nat) (fa:Option Addr) (fc:Nat) (w:World) (h:ClssAt w ha u.h) (hf:FncsAt w fa u.fs) (hb:FitOk u 150) :
 Calls Tryz.prog 20 #[unV u ha hc fa fc] w (SitsPost (sitL u) w):=by
 have S0:Hid (SE u ha hc fa fc [] none 0 w (w.alloc (unC u ha hc fa fc))):=⟨UB.start h hf,World.ownsRow_nil _ _ _ _⟩
 have HM:Hid (ClssAt w ha u.h∧FncsAt w fa u.fs):=⟨h,hf⟩
 have hn:=hb.nf
 have HCL:Hid (∀ x ∈ u.fs,x.code.length≤150):=fun x hx=>(hb.f x hx).c
 have HE0:Hid ([]=sitU u.fs 0):=by show _=_;simp [sitU]
 have HLL:Hid (sitL u=sitU u.fs u.fs.length):=rfl
 clear h hf hb
 generalize sitL u=R at *
 unfold unV at *
 go_enter Tryz.func20,Tryz.ntmps20
 go_upto_region 1 with (fail)
 generalize w.alloc _=W at *
 obtain ⟨z0,z1,z2⟩:=S0.out.ub.cells
 go_wp2
 clear z0 z1 z2
 go_loopw [3,11] (fun v i wr=>∃ (m:Nat) (out:List Sit) (oa:Option Addr) (oc:Nat),m≤u.fs.length∧out.length≤m * 150∧v = .slice oa out.length oc∧i = .int .i64 m∧Hid (out=sitU u.fs m)∧Hid (SE u ha hc fa fc out oa oc w wr)) (fun _ i _=>u.fs.length - (intOf i).toNat)
 case atStart=>exact ⟨0,[],none,0,Nat.zero_le _,Nat.zero_le _,rfl,rfl,HE0.out,S0.out⟩
 case round =>
  clear S0 HE0
  obtain ⟨m,out,oa,oc,hm,hol,rfl,rfl,HI,S⟩:=hrel
  by_cases hlt:m < u.fs.length
  case neg =>
   have HF:Hid (out=R):=by show _=_;rw [HLL.out,HI.out,show m=u.fs.length by omega]
   go_wp2
   go_ret
   have hbs:=S.out.ub.hb
   exact ⟨hbs,oa,oc,by rw [← HF.out] <;> rfl,by rw [← HF.out];exact owns_mono S.out.ow (Nat.le_succ _)⟩
  have HUM:=Lib.hid (@sitU_succ u.fs m hlt)
  have hcl:=HCL.out _ (List.getElem_mem hlt)
  obtain ⟨b,off,va,vc,ca,cc,he,m0,m1,m2,m3,m4,m5,m6,-,-⟩:=S.out.ub.f m hlt
  subst he
  have HCC:Hid (∀ wx,Below w.heap.size w wx→InssAt wx ca u.fs[m].code):=fun wx hx=>by
   obtain ⟨b',off',va',vc',ca',cc',he,-,-,-,-,-,-,n6,-,hcode⟩:=HM.out.2 m hlt
   cases he
   have:=cell_below S.out.ub.hb n6
   rw [m6] at this
   cases this
   exact hcode.below hx
  have HSF:Hid (∀ q (hq:q < u.fs[m].code.length),sitF m u.fs[m].code (q + 1)=sitF m u.fs[m].code q ++ sitI m q u.fs[m].code[q]):=fun q hq=>sitF_succ hq
  generalize u.fs[m]=f at *
  have BZ:Hid (Blk (wr.alloc zFnC) wr.heap.size _ 90):=blk_new ..
  go_upto_region 5 with (refine storeFunc rfl rfl _ _ rfl wr.heap.size f va vc ca cc rfl rfl _ BZ.out rfl ?_)
  have hrow:=below_row (one_below wr zFnC) (Nat.le_refl wr.heap.size) #[.string f.cls,.string f.name,.bool f.stat,.int .i64 f.params,.slice va f.vars.length vc,.string f.result,.slice ca f.code.length cc]
  have B2:=Lib.hid (BZ.out.setRow #[.string f.cls,.string f.name,.bool f.stat,.int .i64 f.params,.slice va f.vars.length vc,.string f.result,.slice ca f.code.length cc])
  have S2:=Lib.hid (S.out.below hrow)
  clear S BZ hrow m0 m1 m2 m3 m4 m5 m6
  generalize (wr.alloc zFnC).setRow wr.heap.size _=W2 at *
  generalize wr.heap.size=n2 at *
  have y6:=B2.out.cell 6 (by simp)
  simp only [List.getElem_toArray,List.getElem_cons_zero,List.getElem_cons_succ] at y6
  go_wp2
  clear y6 B2
  obtain ⟨wo,rfl⟩:∃ wo,wo=W2:=⟨_,rfl⟩
  go_loopw [3,19] (fun v i wr=>∃ (q:Nat) (out:List Sit) (oa:Option Addr) (oc:Nat),q≤f.code.length∧out.length≤m * 150 + q∧v = .slice oa out.length oc∧i = .int .i64 q∧Hid (out=sitU u.fs m ++ sitF m f.code q)∧Hid (SE u ha hc (some ⟨b,off,none⟩) fc out oa oc w wr)) (fun _ i _=>f.code.length - (intOf i).toNat)
  case atStart=>exact ⟨0,out,oa,oc,Nat.zero_le _,by omega,rfl,rfl,(by show _=_;rw [HI.out];simp [sitF]),S2.out⟩
  case round =>
   clear S2 HI
   obtain ⟨q,out,oa,oc,hq,hol,rfl,rfl,HI,S⟩:=hrel
   by_cases hql:q < f.code.length
   case neg =>
    have HN:Hid (out=sitU u.fs (m + 1)):=by show _=_;rw [HUM.out,HI.out,show q=f.code.length by omega]
    go_wp2
    go_roundw
    case rel=>exact ⟨m + 1,out,oa,oc,by omega,by omega,rfl,by go_num,HN.out,S.out⟩
    case measure=>simp [intOf];omega
   obtain ⟨b2,off2,ga,gc,he,m0,m1,m2,m3,m4,m5,m6,m7,m8,m9,-⟩:=HCC.out _ S.out.ub.hb q hql
   subst he
   have HSQ:=Lib.hid (HSF.out q hql)
   have HSI:Hid (sitI m q f.code[q]=if f.code[q].op=6 then [⟨m,q,f.code[q].cls⟩] else []):=rfl
   generalize f.code[q]=x at *
   have BZ:Hid (Blk (wr.alloc zInC) wr.heap.size _ 92):=blk_new ..
   go_upto_region 8 with (refine storeInstr rfl rfl _ _ rfl wr.heap.size x ga gc rfl rfl _ BZ.out rfl ?_)
   have hrow:=below_row (one_below wr zInC) (Nat.le_refl wr.heap.size) #[.int .i64 x.op,.int .i64 x.dst,.int .i64 x.a,.int .i64 x.b,.int .i64 x.n,.string x.cls,.string x.name,.slice ga x.args.length gc,.int .i64 x.goto,.int .i64 x.catch_]
   have B2:=Lib.hid (BZ.out.setRow #[.int .i64 x.op,.int .i64 x.dst,.int .i64 x.a,.int .i64 x.b,.int .i64 x.n,.string x.cls,.string x.name,.slice ga x.args.length gc,.int .i64 x.goto,.int .i64 x.catch_])
   have S2:=Lib.hid (S.out.below hrow)
   clear S BZ hrow m0 m1 m2 m3 m4 m5 m6 m7 m8 m9
   generalize (wr.alloc zInC).setRow wr.heap.size _=W2 at *
   generalize wr.heap.size=n3 at *
   have y0:=B2.out.cell 0 (by simp)
   have y5:=B2.out.cell 5 (by simp)
   simp only [List.getElem_toArray,List.getElem_cons_zero,List.getElem_cons_succ] at y0 y5
   cases h6:(x.op == 6)
   case false =>
    have HN:Hid (out=sitU u.fs m ++ sitF m f.code (q + 1)):=by show _=_;rw [HSQ.out,HSI.out,if_neg (by simpa using h6),List.append_nil];exact HI.out
    clear HI
    go_wp2
    go_roundw
    case rel=>exact ⟨q + 1,out,oa,oc,by omega,by omega,rfl,by go_num,HN.out,S2.out⟩
    case measure=>simp [intOf];omega
   case true =>
    have HN:Hid (out ++ [⟨(m:Int),(q:Int),x.cls⟩]=sitU u.fs m ++ sitF m f.code (q + 1)):=by show _=_;rw [HSQ.out,HSI.out,if_pos (by simpa using h6),HI.out,List.append_assoc]
    clear HI
    generalize x.cls=xc at *
    have S1:=Lib.hid (S2.out.below (one_below W2 (.cells #[.int .i64 m,.int .i64 q,.string xc] 112)))
    have B1:Hid (Blk (W2.alloc (.cells #[.int .i64 m,.int .i64 q,.string xc] 112)) W2.heap.size #[.int .i64 m,.int .i64 q,.string xc] 112):=blk_new ..
    have hbs:w.heap.size + 1≤(W2.alloc (.cells #[.int .i64 m,.int .i64 q,.string xc] 112)).heap.size:=Nat.succ_le_of_lt S1.out.ub.b1.lt
    have hoc:out.length≤1000000:=by omega
    go_wp2_with (at_builtin;refine appS rfl _ _ rfl (w.heap.size + 1) _ out rfl S1.out.ow W2.heap.size ⟨(m:Int),(q:Int),xc⟩ rfl B1.out hoc hbs ?_;intro v7 W7 own7 hg7;obtain ⟨-,oa7,oc7,rfl,-,-⟩:=ownsS own7)
    have S7:=Lib.hid (SE.grow HM.out.1 HM.out.2 S1.out own7 hg7)
    clear own7 hg7 S1 B1 S2 B2 y0 y5
    have hlen:(out ++ [(⟨(m:Int),(q:Int),xc⟩:Sit)]).length=out.length + 1:=by simp
    go_roundw
    case rel=>exact ⟨q + 1,out ++ [(⟨(m:Int),(q:Int),xc⟩:Sit)],oa7,oc7,by omega,by omega,(by first | rfl | simp),by go_num,HN.out,S7.out⟩
    case measure=>simp [intOf];omega
end Go.Proofs.YtffcklfigpmlgaaGreatDoor
namespace Go.Proofs.YtffcklfigpmlgaaGreatDoor
open Go.RowKit Go.Unit0 Go.AM

set_option maxRecDepth 100000 in
set_option maxHeartbeats 8000000 in
theorem sitesR (u:Unt) (ha:Option Addr) (hc:Nat) (fa:Option Addr) (fc:Nat) (w:World) (h:ClssAt w ha u.h) (hf:FncsAt w fa u.fs) (hb:FitOk u 150) :
 Calls Tryz.prog 32 #[unV u ha hc fa fc] w (SitsPost (sitL u) w):=by
 have S0:Hid (SE u ha hc fa fc [] none 0 w (w.alloc (unC u ha hc fa fc))):=⟨UB.start h hf,World.ownsRow_nil _ _ _ _⟩
 have HM:Hid (ClssAt w ha u.h∧FncsAt w fa u.fs):=⟨h,hf⟩
 have hn:=hb.nf
 have HCL:Hid (∀ x ∈ u.fs,x.code.length≤150):=fun x hx=>(hb.f x hx).c
 have HE0:Hid ([]=sitU u.fs 0):=by show _=_;simp [sitU]
 have HLL:Hid (sitL u=sitU u.fs u.fs.length):=rfl
 clear h hf hb
 generalize sitL u=R at *
 unfold unV at *
 go_enter Tryz.func32,Tryz.ntmps32
 go_upto_region 1 with (fail)
 generalize w.alloc _=W at *
 go_wp2
 go_loopw [3,4] (fun v i wr=>∃ (m:Nat) (out:List Sit) (oa:Option Addr) (oc:Nat),m≤u.fs.length∧out.length≤m * 150∧v = .slice oa out.length oc∧i = .int .i64 m∧Hid (out=sitU u.fs m)∧Hid (SE u ha hc fa fc out oa oc w wr)) (fun _ i _=>u.fs.length - (intOf i).toNat)
 case atStart=>exact ⟨0,[],none,0,Nat.zero_le _,Nat.zero_le _,rfl,rfl,HE0.out,S0.out⟩
 case round =>
  clear S0 HE0
  obtain ⟨m,out,oa,oc,hm,hol,rfl,rfl,HI,S⟩:=hrel
  obtain ⟨z0,z1,z2⟩:=S.out.ub.cells
  by_cases hlt:m < u.fs.length
  case neg =>
   have HF:Hid (out=R):=by show _=_;rw [HLL.out,HI.out,show m=u.fs.length by omega]
   go_wp2
   go_ret
   have hbs:=S.out.ub.hb
   exact ⟨hbs,oa,oc,by rw [← HF.out] <;> rfl,by rw [← HF.out];exact owns_mono S.out.ow (Nat.le_succ _)⟩
  have HUM:=Lib.hid (@sitU_succ u.fs m hlt)
  have hcl:=HCL.out _ (List.getElem_mem hlt)
  obtain ⟨b,off,va,vc,ca,cc,he,-,-,-,-,-,-,m6,-,hcode⟩:=HM.out.2 m hlt
  subst he
  have HCC:Hid (∀ wx,Below w.heap.size w wx→wx.cell? ⟨b,off + m * 7 + 6,none⟩=some (.slice ca u.fs[m].code.length cc)∧InssAt wx ca u.fs[m].code):=fun wx hx=>⟨cell_below hx m6,hcode.below hx⟩
  have HSF:Hid (∀ q (hq:q < u.fs[m].code.length),sitF m u.fs[m].code (q + 1)=sitF m u.fs[m].code q ++ sitI m q u.fs[m].code[q]):=fun q hq=>sitF_succ hq
  clear m6 hcode
  generalize u.fs[m]=f at *
  go_wp2
  clear z0 z1 z2
  obtain ⟨wo,rfl⟩:∃ wo,wo=wr:=⟨_,rfl⟩
  go_loopw [3,5] (fun v i wr=>∃ (q:Nat) (out:List Sit) (oa:Option Addr) (oc:Nat),q≤f.code.length∧out.length≤m * 150 + q∧v = .slice oa out.length oc∧i = .int .i64 q∧Hid (out=sitU u.fs m ++ sitF m f.code q)∧Hid (SE u ha hc (some ⟨b,off,none⟩) fc out oa oc w wr)) (fun _ i _=>f.code.length - (intOf i).toNat)
  case atStart=>exact ⟨0,out,oa,oc,Nat.zero_le _,by omega,rfl,rfl,(by show _=_;rw [HI.out];simp [sitF]),S.out⟩
  case round =>
   clear S HI
   obtain ⟨q,out,oa,oc,hq,hol,rfl,rfl,HI,S⟩:=hrel
   obtain ⟨z0,z1,z2⟩:=S.out.ub.cells
   obtain ⟨m6,hins⟩:=HCC.out _ S.out.ub.hb
   by_cases hql:q < f.code.length
   case neg =>
    have HN:Hid (out=sitU u.fs (m + 1)):=by show _=_;rw [HUM.out,HI.out,show q=f.code.length by omega]
    clear hins
    go_wp2
    go_roundw
    case rel=>exact ⟨m + 1,out,oa,oc,by omega,by omega,rfl,by go_num,HN.out,S.out⟩
    case measure=>simp [intOf];omega
   obtain ⟨b2,off2,ga,gc,he,n0,-,-,-,-,n5,-⟩:=hins q hql
   subst he
   have HSQ:=Lib.hid (HSF.out q hql)
   have HSI:Hid (sitI m q f.code[q]=if f.code[q].op=6 then [⟨m,q,f.code[q].cls⟩] else []):=rfl
   clear hins
   generalize f.code[q]=x at *
   cases h6:(x.op == 6)
   case false =>
    have HN:Hid (out=sitU u.fs m ++ sitF m f.code (q + 1)):=by show _=_;rw [HSQ.out,HSI.out,if_neg (by simpa using h6),List.append_nil];exact HI.out
    clear HI
    go_wp2
    go_roundw
    case rel=>exact ⟨q + 1,out,oa,oc,by omega,by omega,rfl,by go_num,HN.out,S.out⟩
    case measure=>simp [intOf];omega
   case true =>
    have HN:Hid (out ++ [⟨(m:Int),(q:Int),x.cls⟩]=sitU u.fs m ++ sitF m f.code (q + 1)):=by show _=_;rw [HSQ.out,HSI.out,if_pos (by simpa using h6),HI.out,List.append_assoc]
    clear HI
    generalize x.cls=xc at *
    have S1:=Lib.hid (S.out.below (one_below wr (.cells #[.int .i64 m,.int .i64 q,.string xc] 112)))
    have B1:Hid (Blk (wr.alloc (.cells #[.int .i64 m,.int .i64 q,.string xc] 112)) wr.heap.size #[.int .i64 m,.int .i64 q,.string xc] 112):=blk_new ..
    have hbs:w.heap.size + 1≤(wr.alloc (.cells #[.int .i64 m,.int .i64 q,.string xc] 112)).heap.size:=Nat.succ_le_of_lt S1.out.ub.b1.lt
    have hoc:out.length≤1000000:=by omega
    go_wp2_with (at_builtin;refine appS rfl _ _ rfl (w.heap.size + 1) _ out rfl S1.out.ow wr.heap.size ⟨(m:Int),(q:Int),xc⟩ rfl B1.out hoc hbs ?_;intro v7 W7 own7 hg7;obtain ⟨-,oa7,oc7,rfl,-,-⟩:=ownsS own7)
    have S7:=Lib.hid (SE.grow HM.out.1 HM.out.2 S1.out own7 hg7)
    clear own7 hg7 S1 B1 S z0 z1 z2 m6 n0 n5
    have hlen:(out ++ [(⟨(m:Int),(q:Int),xc⟩:Sit)]).length=out.length + 1:=by simp
    go_roundw
    case rel=>exact ⟨q + 1,out ++ [(⟨(m:Int),(q:Int),xc⟩:Sit)],oa7,oc7,by omega,by omega,(by first | rfl | simp),by go_num,HN.out,S7.out⟩
    case measure=>simp [intOf];omega
end Go.Proofs.YtffcklfigpmlgaaGreatDoor
