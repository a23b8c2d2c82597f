/-
  Constraints compacted by the library. (Printed by gjh.py.)
-/
import Derived.Test.YtjnbddedmbhiaaaGreatDoorPk33
import Derived.Great.BuildSlice
namespace Go.Proofs.YtjnbddedmbhiaaaGreatDoor
open Go.RowKit Go.ak Go.AM Go.Sort Go.Lib

theorem Oy:∀(D:List Cn) (kk:Nat) (z:Cn),kk<D.length->bE (D.set kk z)=(bE D).take (kk*5)++eX z++(bE D).drop (kk*5+5)
 |x::D,0,z,_=>by simp[bE,eX]
 |x::D,kk+1,z,h=>by
  have ih:=Oy D kk z (by simpa using h)
  have e1:bE (x::D) = .int .i64 x.k :: .int .i64 x.a :: .int .i64 x.b :: .int .i64 x.f :: .slice x.sa x.s.length x.sc::bE D:=rfl
  have e2:bE ((x::D).set (kk+1) z) = .int .i64 x.k :: .int .i64 x.a :: .int .i64 x.b :: .int .i64 x.f :: .slice x.sa x.s.length x.sc::bE (D.set kk z):=rfl
  rw[e1,e2,ih,show(kk+1)*5=kk*5+1+1+1+1+1 by omega]
  rfl
theorem Ow(D:List Cn)(m:Nat):bE (D.take m)=(bE D).take (m*5):=by
 induction D generalizing m with
 |nil=>simp[bE]
 |cons x D ih =>
  cases m with
  |zero=>simp[bE]
  |succ m =>
   have e1:bE (x::D) = .int .i64 x.k :: .int .i64 x.a :: .int .i64 x.b :: .int .i64 x.f :: .slice x.sa x.s.length x.sc::bE D:=rfl
   have e2:bE ((x::D).take (m+1)) = .int .i64 x.k :: .int .i64 x.a :: .int .i64 x.b :: .int .i64 x.f :: .slice x.sa x.s.length x.sc::bE (D.take m):=rfl
   rw[e1,e2,ih,show(m+1)*5=m*5+1+1+1+1+1 by omega]
   rfl
abbrev lC:Value:=.func (.func 46) #[] #[]
theorem YB(W:World)(q:Nat)(os:Array Obj):Go.RowKit.Below W.heap.size W (grow (W.drewN q) os):=⟨rfl,rfl,rfl,by simp[grow],fun k hk=>heap_grow_old _ _ (by simpa using hk)⟩
set_option maxRecDepth 100000 in
set_option maxHeartbeats 8000000 in
theorem y0n(x y:Cn)(gc:Nat)(t:TypeId)(w:World)(hf:ah w gc #[lC] t)(hx:aM w x.sa x.s)(hy:aM w y.sa y.s)(lx:x.s.length<=1000000)(ly:y.s.length<=1000000) :
 Calls Tryz.prog 50 #[kz x,kz y,.pointer (some ⟨gc,0,none⟩)] w (aj w (.bool (decide (x.p=y.p)))):=by
 have HB:=Lib.hid (iH w (iN x) (iN y))
 have HF:=Lib.hid (hf.below HB.out)
 have HC:Hid (Calls Tryz.prog 46 #[kz x,kz y] ((w.alloc (iN x)).alloc (iN y)) (fun e w'=>e = .returned (.int .i64 (oh x y))/\∃q os,w' = grow (((w.alloc (iN x)).alloc (iN y)).drewN q) os)):=PG x y _ (hx.below HB.out) (hy.below HB.out) lx ly
 have HR:Hid (decide (x.p=y.p)=(oh x y==0)):=by
  show _=_
  by_cases h:oh x y=0
  ·rw[decide_eq_true ((Px x y).1 h),h];rfl
  ·rw[decide_eq_false (fun e=>h ((Px x y).2 e))];symm;simpa using h
 have HX:Hid (ah ((w.alloc (iN x)).alloc (iN y)) w.heap.size #[.int .i64 x.k,.int .i64 x.a,.int .i64 x.b,.int .i64 x.f,.slice x.sa x.s.length x.sc] 60):=(aL ..).below (av ..)
 have HY:Hid (ah ((w.alloc (iN x)).alloc (iN y)) (w.heap.size+1) #[.int .i64 y.k,.int .i64 y.a,.int .i64 y.b,.int .i64 y.f,.slice y.sa y.s.length y.sc] 60):=gH ..
 clear hf hx hy lx ly
 rw[HR.out]
 generalize oh x y=r at *
 go_enter Tryz.func50,Tryz.ntmps50
 go_upto_region 1 with (fail)
 generalize (w.alloc _).alloc _=W at *
 have c0:=HF.out.cell 0 (by simp)
 have x0:=HX.out.cell 0 (by simp)
 have x1:=HX.out.cell 1 (by simp)
 have x2:=HX.out.cell 2 (by simp)
 have x3:=HX.out.cell 3 (by simp)
 have x4:=HX.out.cell 4 (by simp)
 have y0:=HY.out.cell 0 (by simp)
 have y1:=HY.out.cell 1 (by simp)
 have y2:=HY.out.cell 2 (by simp)
 have y3:=HY.out.cell 3 (by simp)
 have y4:=HY.out.cell 4 (by simp)
 simp only[List.getElem_toArray,List.getElem_cons_zero,List.getElem_cons_succ]at c0 x0 x1 x2 x3 x4 y0 y1 y2 y3 y4
 go_wp2_with fail
 refine HC.out.mono ?_
 rintro e w2 ⟨rfl,q,os,rfl⟩
 have HW:=Lib.hid (HB.out.trans ((YB W q os).mono HB.out.size))
 go_wp2
 go_ret
 exact⟨rfl,HW.out⟩
structure fI(gc:Nat)(t:TypeId)(base g c:Nat)(D:List Cn)(w:World)(cur:Array Value):Prop where
 hb:base<=g
 bk:ah w g cur 60
 le:D.length<=c
 cm:c<=maxLen
 sz:cur.size=c*5
 ht:cur.toList.take (D.length*5)=bE D
 ok:∀x∈D,bK w x.sa x.s/\x.s.length<=1000000
 fn:ah w gc #[lC] t
 fg:gc≠g
section
variable {gc:Nat}{t:TypeId}{base g c off:Nat}{D D':List Cn}{w w':World}{cur:Array Value}
theorem fI.owns(k:fI gc t base g c D w cur):w.ownsRow base 60 5 (.slice (some ⟨g,0,none⟩) D.length c) D.length (bE D) :=
 ⟨uf D,.inr ⟨g,c,cur,rfl,k.hb,k.bk,k.le,k.cm,k.sz,k.ht⟩⟩
theorem fI.below(k:fI gc t base g c D w cur)(hb:Go.RowKit.Below w.heap.size w w'):fI gc t base g c D w' cur:=⟨k.hb,k.bk.below hb,k.le,k.cm,k.sz,k.ht,fun x hx=>⟨(k.ok x hx).1.below hb,(k.ok x hx).2⟩,k.fn.below hb,k.fg⟩
theorem fI.keep(k:fI gc t base g c D w cur)(hg:w.grownBy w' (some g)):(∀x,bK w x.sa x.s/\x.s.length<=1000000->bK w' (Cn.sa x) x.s/\x.s.length<=1000000)/\ah w' gc #[lC] t :=
 ⟨fun x h=>⟨h.1.keep hg (fun b cs fr hc e=>by
   cases e
   have:=k.bk
   unfold ah at this
   rw[hc]at this
   simp at this),h.2⟩,k.fn.grown hg (fun e=>k.fg (by cases e;rfl))⟩
theorem fI.store(k:fI gc t base g c D w cur)(i:Nat)(vs:List Value)(hi:i+vs.length<=D.length*5)(hl:D'.length=D.length)(hD:∀x∈D',x∈D)(hf:bE D' = (bE D).take i++vs++(bE D).drop (i+vs.length)) :
 fI gc t base g c D' (w.setRow g (cur.toList.take i++vs++cur.toList.drop (i+vs.length)).toArray) (cur.toList.take i++vs++cur.toList.drop (i+vs.length)).toArray:=by
 have hle:=k.le
 have hsz:=k.sz
 have hcl:cur.toList.length=c*5:=by simpa using hsz
 obtain⟨h1,h2⟩:=k.keep (oW w g (cur.toList.take i++vs++cur.toList.drop (i+vs.length)).toArray)
 refine⟨k.hb,k.bk.setRow _,by omega,k.cm,?_,?_,fun x hx=>h1 x (k.ok x (hD x hx)),h2,k.fg⟩
 ·simp
  omega
 ·show List.take (D'.length*5) (cur.toList.take i++vs++cur.toList.drop (i+vs.length))=_
  have e1:cur.toList.take i=(bE D).take i:=by rw[<-k.ht,List.take_take,Nat.min_eq_left (by omega)]
  have e2:(cur.toList.drop (i+vs.length)).take (D.length*5-(i+vs.length))=(bE D).drop (i+vs.length):=by rw[<-k.ht,List.drop_take]
  have hA:(cur.toList.take i++vs).length=i+vs.length:=by simp;omega
  rw[hf,hl,show D.length*5=(cur.toList.take i++vs).length+(D.length*5-(i+vs.length)) by omega,List.take_length_add_append,e2,e1]
theorem fI.at(k:fI gc t base g c D w cur)(ho:off=0){j:Nat}(hj:j<D.length):w.cell? ⟨g,off+j*5,none⟩=some (.int .i64 D[j].k)/\w.cell? ⟨g,off+j*5+1,none⟩=some (.int .i64 D[j].a)/\w.cell? ⟨g,off+j*5+2,none⟩=some (.int .i64 D[j].b)/\w.cell? ⟨g,off+j*5+3,none⟩=some (.int .i64 D[j].f)/\w.cell? ⟨g,off+j*5+4,none⟩=some (.slice D[j].sa D[j].s.length D[j].sc):=by
 subst ho
 obtain⟨b,off,he,h0,h1,h2,h3,h4⟩:=(Am k.owns).2 j hj
 cases he
 exact⟨h0,h1,h2,h3,h4⟩
end
theorem Sn{ops:Array Oper}{rest:List Oper}{o:Oper}{a:Act}{w:World}{Q:Exit->Act->World->Prop}(hgd:o.guard=none)(hd:o.dst=none)(x y:Operand)(ho:o.op = .store 60 x y)
 (g i:Nat) (z:Cn) (hx:a.eval x = .pointer (some ⟨g,i,none⟩)) (hy:a.eval y=kz z)
 (cur:Array Value) (hg:ah w g cur 60) (hi:i+5<=cur.size)
 (h:wpList Tryz.prog ops Q rest a (w.setRow g (cur.toList.take i++eX z++cur.toList.drop (i+5)).toArray)):wpList Tryz.prog ops Q (o::rest) a w:=by
 obtain⟨i0,hi0,hz0,hz1,hz2⟩:=info_parts NL
 refine wpList_plain hgd fun _ hK=>?_
 have hst:=run_storeCells_at Tryz.prog g i 60 (eX z) 0 cur w hg (by simpa[eX]using hi) (by intro v hv;simp[eX]at hv;rcases hv with rfl | rfl | rfl | rfl | rfl<;>rfl)
 rw[Nat.add_zero]at hst
 have hst2:(storeCells ⟨g,i,none⟩ [.int .i64 z.k,.int .i64 z.a,.int .i64 z.b,.int .i64 z.f,.slice z.sa z.s.length z.sc] 0).run Tryz.prog w = .ok () (w.setRow g (cur.toList.take i++eX z++cur.toList.drop (i+5)).toArray):=hst
 have hsv:(storeVar 60 ⟨g,i,none⟩ (kz z)).run Tryz.prog w = .ok () (w.setRow g (cur.toList.take i++eX z++cur.toList.drop (i+5)).toArray):=by
  simp[storeVar,sizeOf,typeInfo,hi0,Value.cells,hz1,hst2]
 unfold Oper.wp execOp
 simp only[ho,hx,hy,Instr.storeAt,Instr.sureAddr,Sem.run_bind,Sem.run_pure,Result.andThen_ok,hsv]
 exact hK _ _ (by rw[hd];exact h)
set_option maxRecDepth 100000 in
theorem Ps(g off n c m:Nat)(hm:m<n)(hc:n<=c)(w:World):(Instr.slice 34 (.slice (some ⟨g,off,none⟩) n c) (some (.int .i64 (m:Int))) none none).run Tryz.prog w = .ok (.slice (some ⟨g,off+m*5,none⟩) (n-m) (c-m)) w:=by
 have hs:(sizeOf (Tryz.prog.elem 34)).run Tryz.prog w = .ok 5 w:=by kernel_rfl
 rw[run_slice_l w 34 (some ⟨g,off,none⟩) n c Tryz.underlying34 .i64 (m:Int) (by omega) (by omega),hs]
 have:¬ c=m:=by omega
 simp[Result.andThen,sliced,this,addr_add]
theorem Iz(n:Nat):(Builtin.zeroCells #[.int .i64 0,.int .i64 0,.int .i64 0,.int .i64 0,.slice none 0 0] n).toList.length=n*5:=by simp[Builtin.zeroCells]
theorem QN(n:Nat):∀v∈(Builtin.zeroCells #[.int .i64 0,.int .i64 0,.int .i64 0,.int .i64 0,.slice none 0 0] n).toList,v.oneCell' = true:=by
 intro v hv
 simp[Builtin.zeroCells]at hv
 obtain⟨i,hi,rfl⟩:=hv
 rcases(show i % 5=0∨i % 5=1∨i % 5=2∨i % 5=3∨i % 5=4 by omega)with e | e | e | e | e
 all_goals (simp[e];rfl)
set_option maxRecDepth 100000 in
theorem y0e(a:Option Addr)(n cap k:Nat)(h:k<=cap)(w:World):(Instr.slice 34 (.slice a n cap) none (some (.int .i64 (k:Int))) none).run Tryz.prog w = .ok (.slice a k cap) w:=by
 have hs:(sizeOf (Tryz.prog.elem 34)).run Tryz.prog w = .ok 5 w:=by kernel_rfl
 rw[run_slice_h w 34 a n cap Tryz.underlying34 .i64 (k:Int) (by omega) (by omega),hs]
 have e:a.map (fun x=>x.add 0)=a:=by
  cases a with
  |none=>rfl
  |some x=>simp[Addr.add]
 simp[Result.andThen,sliced,e]
theorem y0o{gc:Nat}{t:TypeId}{base g c off:Nat}{D:List Cn}{w:World}{cur:Array Value}(k:fI gc t base g c D w cur)(ho:off=0)(m:Nat)(hm:m<D.length) :
 ∃w' cur',(∀ty,(Builtin.clear_ #[34] ty #[.slice (some ⟨g,off+m*5,none⟩) (D.length-m) (c-m)]).run Tryz.prog w = .ok (.tuple #[]) w')/\fI gc t base g c (D.take m) w' cur'/\w.grownBy w' (some g):=by
 subst ho
 have hle:=k.le
 have hsz:=k.sz
 obtain⟨q,hq⟩:∃q,D.length-m=q+1:=⟨D.length-m-1,by omega⟩
 have hst:=run_storeCells_at Tryz.prog g (0+m*5) 60 (Builtin.zeroCells #[.int .i64 0,.int .i64 0,.int .i64 0,.int .i64 0,.slice none 0 0] (q+1)).toList 0 cur w k.bk (by rw[Iz];omega) (QN _)
 rw[Nat.add_zero]at hst
 obtain⟨g1,g2⟩:=k.keep (oW w g (cur.toList.take (0+m*5)++(Builtin.zeroCells #[.int .i64 0,.int .i64 0,.int .i64 0,.int .i64 0,.slice none 0 0] (q+1)).toList++cur.toList.drop (0+m*5+(Builtin.zeroCells #[.int .i64 0,.int .i64 0,.int .i64 0,.int .i64 0,.slice none 0 0] (q+1)).toList.length)).toArray)
 refine⟨w.setRow g (cur.toList.take (0+m*5)++(Builtin.zeroCells #[.int .i64 0,.int .i64 0,.int .i64 0,.int .i64 0,.slice none 0 0] (q+1)).toList++cur.toList.drop (0+m*5+(Builtin.zeroCells #[.int .i64 0,.int .i64 0,.int .i64 0,.int .i64 0,.slice none 0 0] (q+1)).toList.length)).toArray,(cur.toList.take (0+m*5)++(Builtin.zeroCells #[.int .i64 0,.int .i64 0,.int .i64 0,.int .i64 0,.slice none 0 0] (q+1)).toList++cur.toList.drop (0+m*5+(Builtin.zeroCells #[.int .i64 0,.int .i64 0,.int .i64 0,.int .i64 0,.slice none 0 0] (q+1)).toList.length)).toArray,fun ty=>?_,?_,oW w g _⟩
 ·rw[hq]
  have h2:=hst
  simp[Nat.zero_add]at h2
  simp[Builtin.clear_,run_underlying Tryz.underlying34,Value.cells]
  rw[h2]
  rfl
 ·have hl:(D.take m).length=m:=by simp;omega
  have hcl:cur.toList.length=c*5:=by simpa using hsz
  refine⟨k.hb,k.bk.setRow _,by omega,k.cm,?_,?_,fun x hx=>g1 x (k.ok x (List.mem_of_mem_take hx)),g2,k.fg⟩
  ·simp only[List.size_toArray,List.length_append,List.length_take,List.length_drop,Iz]
   omega
  ·rw[hl,Ow,<-k.ht]
   simp only[Nat.zero_add,List.append_assoc]
   rw[List.take_append_of_le_length (by simp;omega),List.take_take,List.take_take,Nat.min_self,Nat.min_eq_left (by omega)]
instance:Inhabited PC:=⟨⟨0,0,0,0,[]⟩⟩
def gB(D:List Cn):Array PC:=(D.map Cn.p).toArray
theorem Ai{D:List Cn}{j:Nat}(hj:j<D.length):(gB D)[j]! = D[j].p:=by
 unfold gB
 rw[getElem!_pos _ j (by simpa using hj)];simp
theorem Uw(D:List Cn)(k:Nat)(z:Cn):gB (D.set k z)=(gB D).setIfInBounds k z.p:=by
 simp[gB,List.map_set]
set_option maxRecDepth 100000 in
set_option maxHeartbeats 16000000 in
theorem Z4(gc:Nat)(t:TypeId)(base g c off:Nat)(D:List Cn)(w:World)(cur0:Array Value)(hR:fI gc t base g c D w cur0)(ho:off=0)(h2:2<=D.length)(hl:D.length<=1000000) :
 Calls Tryz.prog 49 #[.slice (some ⟨g,off,none⟩) D.length c,.func (.func 50) #[] #[.pointer (some ⟨gc,0,none⟩)]] w (fun e w'=>∃D' cur,e = .returned (.slice (some ⟨g,off,none⟩) D'.length c)/\w.grownBy w' (some g)/\D'.map Cn.p=compactUpTo (gB D) D.length/\fI gc t base g c D' w' cur):=by
 have R0:=Lib.hid hR
 have HO:=Lib.hid ho
 have hcap:D.length<=c:=hR.le
 have HALL:Hid ((∀j,j<D.length->keeps (gB D) j=true)->D.map Cn.p=compactUpTo (gB D) D.length):=fun h=>by
  have e:(gB D).size=D.length:=by simp[gB]
  rw[<-e]at h ⊢
  rw[compactUpTo_all _ _ h,range_map_get];simp[gB]
 have HEQ:Hid (∀(wq:World) (x y:Cn),ah wq gc #[lC] t->aM wq x.sa x.s->aM wq y.sa y.s->x.s.length<=1000000->y.s.length<=1000000->Calls Tryz.prog 50 #[kz x,kz y,.pointer (some ⟨gc,0,none⟩)] wq (aj wq (.bool (decide (x.p=y.p))))):=fun wq x y h0 h1 h2 h3 h4=>y0n x y gc t wq h0 h1 h2 h3 h4
 have HSZ:Hid ((gB D).size=D.length):=by show _=_;simp[gB]
 have HGT:Hid (∀j (hj:j<D.length),(gB D)[j]! = D[j].p):=fun j hj=>Ai hj
 clear hR ho
 generalize hd:gB D=d at *
 have HLD:=Lib.hid hd
 clear hd
 go_enter Tryz.func49,Tryz.ntmps49
 go_wp2
 go_loopw[5] (fun s3 wr=>∃k:Nat,1<=k/\k<=D.length/\s3 = .int .i64 k/\Hid (fI gc t base g c D wr cur0)/\Hid (w.grownBy wr (some g))/\Hid (∀j,j<k->keeps d j=true)) (fun s3 _=>D.length-(intOf s3).toNat)
 case atStart=>exact⟨1,Nat.le_refl _,by omega,rfl,R0.out,World.grownBy.refl _ _,keeps_lt_one _⟩
 case round =>
  clear R0
  obtain⟨k,hk1,hk,rfl,R,HG,HA⟩:=hrel
  by_cases hlt:k<D.length
  case neg =>
   obtain rfl:k=D.length:=by omega
   have HE:=Lib.hid (HALL.out HA.out)
   go_wp2
   go_ret
   exact⟨D,cur0,rfl,HG.out,HE.out,R.out⟩
  have hlt1:k-1<D.length:=by omega
  have c0:=R.out.at HO.out hlt
  have p0:=R.out.at HO.out hlt1
  have hne:Nonempty (WB wr):=⟨⟨wr,Go.RowKit.Below.refl _ _⟩⟩
  have HXY:Hid (∀o:WB wr,Calls Tryz.prog 50 #[kz D[k],kz D[k-1],.pointer (some ⟨gc,0,none⟩)] o.u (aj o.u (.bool (decide (D[k].p=D[k-1].p))))):=fun o=>by
   have h1:=R.out.ok _ (List.getElem_mem hlt)
   have h2:=R.out.ok _ (List.getElem_mem hlt1)
   exact HEQ.out o.u D[k] D[k-1] (R.out.fn.below o.h) (h1.1.1.below o.h) (h2.1.1.below o.h) h1.2 h2.2
  have B:Hid (d[k]! = D[k].p/\d[k-1]! = D[k-1].p):=⟨HGT.out k hlt,HGT.out (k-1) hlt1⟩
  generalize D[k]=x at *
  generalize D[k-1]=y at *
  have ka0:∀o:WB wr,o.u.cell? ⟨g,off+k*5,none⟩=some (.int .i64 x.k):=fun o=>cell_below o.h c0.1
  have ka1:∀o:WB wr,o.u.cell? ⟨g,off+k*5+1,none⟩=some (.int .i64 x.a):=fun o=>cell_below o.h c0.2.1
  have ka2:∀o:WB wr,o.u.cell? ⟨g,off+k*5+2,none⟩=some (.int .i64 x.b):=fun o=>cell_below o.h c0.2.2.1
  have ka3:∀o:WB wr,o.u.cell? ⟨g,off+k*5+3,none⟩=some (.int .i64 x.f):=fun o=>cell_below o.h c0.2.2.2.1
  have ka4:∀o:WB wr,o.u.cell? ⟨g,off+k*5+4,none⟩=some (.slice x.sa x.s.length x.sc):=fun o=>cell_below o.h c0.2.2.2.2
  have kb0:∀o:WB wr,o.u.cell? ⟨g,off+(k-1)*5,none⟩=some (.int .i64 y.k):=fun o=>cell_below o.h p0.1
  have kb1:∀o:WB wr,o.u.cell? ⟨g,off+(k-1)*5+1,none⟩=some (.int .i64 y.a):=fun o=>cell_below o.h p0.2.1
  have kb2:∀o:WB wr,o.u.cell? ⟨g,off+(k-1)*5+2,none⟩=some (.int .i64 y.b):=fun o=>cell_below o.h p0.2.2.1
  have kb3:∀o:WB wr,o.u.cell? ⟨g,off+(k-1)*5+3,none⟩=some (.int .i64 y.f):=fun o=>cell_below o.h p0.2.2.2.1
  have kb4:∀o:WB wr,o.u.cell? ⟨g,off+(k-1)*5+4,none⟩=some (.slice y.sa y.s.length y.sc):=fun o=>cell_below o.h p0.2.2.2.2
  clear c0 p0
  by_cases hdup:x.p=y.p
  case neg =>
   rw[decide_eq_false hdup]at HXY
   have HA2:Hid (∀j,j<k+1->keeps d j=true):=fun j hj=>by
    by_cases e:j=k
    ·subst e
     exact keeps_pos (by rw[B.out.1,B.out.2];exact hdup)
    ·exact HA.out j (by omega)
   clear HA hdup HEQ HALL B
   go_upto_region 6 with (fail)
   refine bJ wr (by kernel_rfl) ?_
   repeat (go_big_quiet_step ((rename_i o;exact(HXY.out o).mono (fun _ _ h=>aj.bu h))))
   refine wpQuiet_nil ?_
   intro _ hw'
   obtain⟨o,rfl⟩:=hw'
   have R3:=Lib.hid (R.out.below o.h)
   have HG3:=Lib.hid (Ba HG.out o.h)
   clear ka0 ka1 ka2 ka3 ka4 kb0 kb1 kb2 kb3 kb4 HXY R HG
   go_wp2
   go_roundw
   case rel=>exact⟨k+1,by omega,by omega,by go_num,R3.out,HG3.out,HA2.out⟩
   case measure=>simp[intOf];omega
  rw[decide_eq_true hdup]at HXY
  have HST:Hid (CompInv d (k+1) k d):=CompInv.start HA.out (keeps_neg (by omega) (by rw[B.out.1,B.out.2];exact hdup))
  clear hdup HA HALL B
  go_upto_region 6 with (fail)
  refine bJ wr (by kernel_rfl) ?_
  repeat (go_big_quiet_step ((rename_i o;exact(HXY.out o).mono (fun _ _ h=>aj.bu h))))
  refine wpQuiet_nil ?_
  intro _ hw'
  obtain⟨o,rfl⟩:=hw'
  have R3:=Lib.hid (R.out.below o.h)
  have HG3:=Lib.hid (Ba HG.out o.h)
  clear ka0 ka1 ka2 ka3 ka4 kb0 kb1 kb2 kb3 kb4 HXY R HG hne
  generalize o.u=W3 at *
  have hsl:=Ps g off D.length c k hlt hcap
  go_wp2
  clear hsl
  go_loopw[5,7] (fun s3 s5 wr=>∃(kk k2:Nat) (dk:List Cn) (cur:Array Value),s3 = .int .i64 kk/\s5 = .int .i64 k2/\1<=k2/\k+k2<=D.length/\kk<k+k2/\dk.length=D.length/\Hid (fI gc t base g c dk wr cur)/\Hid (CompInv d (k+k2) kk (gB dk))/\Hid (w.grownBy wr (some g))) (fun _ s5 _=>D.length-(intOf s5).toNat)
  case atStart=>exact⟨k,1,D,cur0,rfl,rfl,Nat.le_refl _,by omega,by omega,rfl,R3.out,by rw[HLD.out];exact HST.out,HG3.out⟩
  case round =>
   clear R3 HST HG3
   obtain⟨kk,k2,dk,cur,rfl,rfl,h1,hle,hkk,hds,R,HI,HG⟩:=hrel
   by_cases hlt2:k+k2<D.length
   case neg =>
    have hend:k+k2=D.length:=by omega
    have HI2:Hid (CompInv d D.length kk (gB dk)):=by rw[<-hend];exact HI.out
    have hkd:kk<dk.length:=by omega
    obtain⟨w',cur',hcl,hcr,hgr⟩:=y0o R.out HO.out kk hkd
    have HC:Hid ((dk.take kk).map Cn.p=compactUpTo d D.length):=by
     have hi:=HI2.out
     show _=_
     apply List.ext_getElem?
     intro j
     by_cases hj:j<kk
     ·rw[hi.low j hj,Ai (by omega),List.getElem?_map,List.getElem?_take_of_lt hj,List.getElem?_eq_getElem (by omega)];rfl
     ·rw[List.getElem?_eq_none (by simp;omega),List.getElem?_eq_none (by rw[hi.len];omega)]
    have HL:Hid ((dk.take kk).length=kk):=by show _=_;simp;omega
    rw[hds]at hcl
    have HCR:=Lib.hid hcr
    have HGR:=Lib.hid (N7 HG.out hgr (fun q hq=>.inr hq))
    have hsl:=Ps g off D.length c kk (by omega) hcap
    have hsh:=y0e (some ⟨g,off,none⟩) D.length c kk (by omega)
    clear hcr hgr HI HI2 R HG hkd hend HEQ
    go_wp2
    go_ret
    exact⟨dk.take kk,cur',by rw[HL.out];rfl,HGR.out,HC.out,HCR.out⟩
   have hl1:k+k2<dk.length:=by omega
   have hl3:k+k2-1<dk.length:=by omega
   have c0:=R.out.at HO.out hl1
   have p0:=R.out.at HO.out hl3
   rw[show off+(k+k2)*5=off+k*5+k2*5 by omega]at c0
   rw[show off+(k+k2-1)*5=off+k*5+(k2-1)*5 by omega]at p0
   have hne:Nonempty (WB wr):=⟨⟨wr,Go.RowKit.Below.refl _ _⟩⟩
   have HXY:Hid (∀o:WB wr,Calls Tryz.prog 50 #[kz dk[k+k2],kz dk[k+k2-1],.pointer (some ⟨gc,0,none⟩)] o.u (aj o.u (.bool (decide (dk[k+k2].p=dk[k+k2-1].p))))):=fun o=>by
    have h1:=R.out.ok _ (List.getElem_mem hl1)
    have h2:=R.out.ok _ (List.getElem_mem hl3)
    exact HEQ.out o.u dk[k+k2] dk[k+k2-1] (R.out.fn.below o.h) (h1.1.1.below o.h) (h2.1.1.below o.h) h1.2 h2.2
   have HB:Hid (d[k+k2]! = dk[k+k2].p/\d[k+k2-1]! = dk[k+k2-1].p):=by
    rw[<-Ai hl1,<-Ai hl3]
    exact⟨(HI.out.high (k+k2) (by omega)).symm,(HI.out.high (k+k2-1) (by omega)).symm⟩
   have HXM:Hid (dk[k+k2]∈dk):=List.getElem_mem hl1
   generalize dk[k+k2]=x at *
   generalize dk[k+k2-1]=y at *
   have ka0:∀o:WB wr,o.u.cell? ⟨g,off+k*5+k2*5,none⟩=some (.int .i64 x.k):=fun o=>cell_below o.h c0.1
   have ka1:∀o:WB wr,o.u.cell? ⟨g,off+k*5+k2*5+1,none⟩=some (.int .i64 x.a):=fun o=>cell_below o.h c0.2.1
   have ka2:∀o:WB wr,o.u.cell? ⟨g,off+k*5+k2*5+2,none⟩=some (.int .i64 x.b):=fun o=>cell_below o.h c0.2.2.1
   have ka3:∀o:WB wr,o.u.cell? ⟨g,off+k*5+k2*5+3,none⟩=some (.int .i64 x.f):=fun o=>cell_below o.h c0.2.2.2.1
   have ka4:∀o:WB wr,o.u.cell? ⟨g,off+k*5+k2*5+4,none⟩=some (.slice x.sa x.s.length x.sc):=fun o=>cell_below o.h c0.2.2.2.2
   have kb0:∀o:WB wr,o.u.cell? ⟨g,off+k*5+(k2-1)*5,none⟩=some (.int .i64 y.k):=fun o=>cell_below o.h p0.1
   have kb1:∀o:WB wr,o.u.cell? ⟨g,off+k*5+(k2-1)*5+1,none⟩=some (.int .i64 y.a):=fun o=>cell_below o.h p0.2.1
   have kb2:∀o:WB wr,o.u.cell? ⟨g,off+k*5+(k2-1)*5+2,none⟩=some (.int .i64 y.b):=fun o=>cell_below o.h p0.2.2.1
   have kb3:∀o:WB wr,o.u.cell? ⟨g,off+k*5+(k2-1)*5+3,none⟩=some (.int .i64 y.f):=fun o=>cell_below o.h p0.2.2.2.1
   have kb4:∀o:WB wr,o.u.cell? ⟨g,off+k*5+(k2-1)*5+4,none⟩=some (.slice y.sa y.s.length y.sc):=fun o=>cell_below o.h p0.2.2.2.2
   clear c0 p0
   have hk2:k2<D.length-k:=by omega
   by_cases huv:x.p=y.p
   case pos =>
    rw[decide_eq_true huv]at HXY
    have HI2:Hid (CompInv d (k+(k2+1)) kk (gB dk)):=HI.out.skip (keeps_neg (by omega) (by rw[HB.out.1,HB.out.2];exact huv))
    clear HI huv HB HEQ
    go_upto_region 11 with (fail)
    refine bJ wr (by kernel_rfl) ?_
    repeat (go_big_quiet_step ((rename_i o;exact(HXY.out o).mono (fun _ _ h=>aj.bu h))))
    refine wpQuiet_nil ?_
    intro _ hw'
    obtain⟨o,rfl⟩:=hw'
    have R3:=Lib.hid (R.out.below o.h)
    have HG3:=Lib.hid (Ba HG.out o.h)
    clear ka0 ka1 ka2 ka3 ka4 kb0 kb1 kb2 kb3 kb4 HXY R HG
    go_wp2
    go_roundw
    case rel=>exact⟨kk,k2+1,dk,cur,rfl,by go_num,by omega,by omega,by omega,hds,R3.out,HI2.out,HG3.out⟩
    case measure=>simp[intOf];omega
   rw[decide_eq_false huv]at HXY
   have HI2:Hid (CompInv d (k+(k2+1)) (kk+1) (gB (dk.set kk x))):=by
    have hsd:k+k2<d.size:=by rw[HSZ.out];omega
    have:=HI.out.keep hsd (keeps_pos (by rw[HB.out.1,HB.out.2];exact huv))
    rw[HB.out.1]at this
    rw[Uw]
    exact this
   have hkl:kk<dk.length:=by omega
   clear HI huv HB HEQ
   go_upto_region 11 with (fail)
   refine bJ wr (by kernel_rfl) ?_
   repeat (go_big_quiet_step ((rename_i o;exact(HXY.out o).mono (fun _ _ h=>aj.bu h))))
   refine wpQuiet_nil ?_
   intro _ hw'
   obtain⟨o,rfl⟩:=hw'
   have R3:=Lib.hid (R.out.below o.h)
   have HG3:=Lib.hid (Ba HG.out o.h)
   have j0:=ka0 o
   have j1:=ka1 o
   have j2:=ka2 o
   have j3:=ka3 o
   have j4:=ka4 o
   clear ka0 ka1 ka2 ka3 ka4 kb0 kb1 kb2 kb3 kb4 HXY R HG hne
   generalize o.u=W4 at *
   have R5:Hid (fI gc t base g c (dk.set kk x) (W4.setRow g (cur.toList.take (off+kk*5)++eX x++cur.toList.drop (off+kk*5+5)).toArray) (cur.toList.take (off+kk*5)++eX x++cur.toList.drop (off+kk*5+5)).toArray):=by
    have h0:=HO.out
    subst h0
    have:=R3.out.store (D':=dk.set kk x) (0+kk*5) (eX x) (by simp[eX];omega) (by simp) (fun y hy=>by
     rcases List.mem_or_eq_of_mem_set hy with h | h
     ·exact h
     ·rw[h];exact HXM.out) (by
     rw[Oy _ _ _ hkl,Nat.zero_add];rfl)
    exact this
   have hcs:off+kk*5+5<=cur.size:=by
    have h0:=HO.out
    have h1:=R3.out.sz
    have h2:=R3.out.le
    omega
   have HG5:=Lib.hid (N7 HG3.out (oW W4 g (cur.toList.take (off+kk*5)++eX x++cur.toList.drop (off+kk*5+5)).toArray) (fun q hq=>.inr hq))
   have hkd:kk<D.length:=by omega
   go_wp2_with (refine Sn rfl rfl _ _ rfl g (off+kk*5) x rfl rfl cur R3.out.bk hcs ?_)
   clear j0 j1 j2 j3 j4 R3 HG3 hcs
   rw[List.append_assoc]at R5 HG5
   generalize W4.setRow _ _=W5 at *
   go_roundw
   case rel=>exact⟨kk+1,k2+1,dk.set kk x,_,by go_num,by go_num,by omega,by omega,by omega,by simpa using hds,R5.out,HI2.out,HG5.out⟩
   case measure=>simp[intOf];omega

theorem Ux(D:List Cn):compactUpTo (gB D) D.length=Lib.compact (D.map Cn.p):=by
 unfold Lib.compact gB
 rw[List.length_map]
set_option maxHeartbeats 2000000 in
theorem Z6(gc:Nat)(t:TypeId)(ht:t≠60)(D:List Cn)(a:Option Addr)(c base:Nat)(w:World)(own:w.ownsRow base 60 5 (.slice a D.length c) D.length (bE D))(hl:D.length<=1000000)(hx:∀x∈D,bK w x.sa x.s/\x.s.length<=1000000)(hf:ah w gc #[lC] t) :
 Calls Tryz.prog 49 #[.slice a D.length c,.func (.func 50) #[] #[.pointer (some ⟨gc,0,none⟩)]] w (fun e w'=>∃D':List Cn,e = .returned (.slice a D'.length c)/\w.grownBy w' (Value.slice a D.length c).ownBlock/\D'.map Cn.p=Lib.compact (D.map Cn.p)/\(∀x∈D',bK w' x.sa x.s/\x.s.length<=1000000)/\w'.ownsRow base 60 5 (.slice a D'.length c) D'.length (bE D')):=by
 have own0:=own
 by_cases h2:D.length<2
 ·have HE:Hid (Lib.compact (D.map Cn.p)=D.map Cn.p):=compact_all _ fun j hj=>keeps_lt_one _ j (by simp at hj;omega)
  have HO:=Lib.hid own0
  have HX:=Lib.hid hx
  have HD:Hid (∃n,n=D.length):=⟨_,rfl⟩
  clear own own0 hx
  go_enter Tryz.func49,Tryz.ntmps49
  go_wp2
  go_ret
  exact⟨D,rfl,World.grownBy.refl _ _,HE.out.symm,HX.out,HO.out⟩
 ·rcases own.2 with ⟨e,h0⟩ | ⟨g,cap,cur,e,hbase,hh,hn,hcap,hsz,hts⟩
  ·omega
  ·cases e
   have hg:gc≠g:=by
    rintro rfl
    unfold ah at hf
    rw[hh]at hf
    simp at hf
    exact ht hf.2.symm
   have hR:fI gc t base g c D w cur:=⟨hbase,hh,hn,hcap,hsz,hts,hx,hf,hg⟩
   refine(Z4 gc t base g c 0 D w cur hR rfl (by omega) hl).mono ?_
   rintro e w' ⟨D',cur',rfl,hgr,hm,hR'⟩
   rw[Ux]at hm
   exact⟨D',rfl,hgr,hm,hR'.ok,hR'.owns⟩
structure QM(D:BD)(P:List PC)(C:List Cn)(ca:Option Addr)(cc:Nat)(w w':World):Prop where
 hb:Below w.heap.size w w'
 ow:w'.ownsRow w.heap.size 60 5 (.slice ca C.length cc) C.length (bE C)
 ok:∀x∈C,bK w' x.sa x.s/\x.s.length<=1000000
 st:(C.map Cn.p).Pairwise nM
 mm:∀p,p∈C.map Cn.p↔p∈P
 ln:C.length<=P.length
 c3:w'.cell? ⟨D.R,3,none⟩=some (.slice D.sa D.L.length D.sc)
 c6:w'.cell? ⟨D.R,6,none⟩=some (.map (some D.gf))
 rn:∀b,(∃cs t fr,w'.heap[b]? = some (.cells cs t fr)/\t≠81)->b≠D.R
 mf:bI w' D.gf Value.string (fQ D.Ff)
structure wU(R n3:Nat)(v:Value) where
 u:World
 c0:u.cell? ⟨R,10,none⟩=some v
 c1:u.cell? ⟨n3,0,none⟩=some lC
set_option maxRecDepth 100000 in
set_option maxHeartbeats 16000000 in
theorem y1f{D:BD}{P:List PC}{w wr:World}(k:BQ D P w wr)(hP:P.length<=1000000) :
 Calls Tryz.prog 21 #[.pointer (some ⟨D.R,0,none⟩)] wr (fun e w'=>∃(C:List Cn) (ca:Option Addr) (cc:Nat),e = .returned (.slice ca C.length cc)/\QM D P C ca cc w w'):=by
 obtain⟨K,ka,kc,k1,rfl,hs⟩:=k
 have S:=Lib.hid k1
 have HKS:Hid (∀x∈K,x.s.length<=100000):=fun x hx=>hs _ (List.mem_map.2 ⟨x,hx,rfl⟩)
 have hK:K.length<=1000000:=by simpa using hP
 clear k1 hs hP
 go_enter Tryz.func21,Tryz.ntmps21
 have B0:ah (wr.alloc (.cells #[.nilFunc] 121)) wr.heap.size #[.nilFunc] 121:=aL ..
 go_upto_region 2 with (refine wpList_store_oneTo rfl 121 _ _ rfl rfl wr.heap.size lC rfl rfl rfl 121 .nilFunc B0 (by kernel_rfl) ?_)
 have BF:Hid (ah ((wr.alloc (.cells #[.nilFunc] 121)).setRow wr.heap.size #[lC]) wr.heap.size #[lC] 121):=B0.setRow #[lC]
 have HB1:Hid (Below wr.heap.size wr ((wr.alloc (.cells #[.nilFunc] 121)).setRow wr.heap.size #[lC])):=bP (av wr _) (Nat.le_refl wr.heap.size) #[lC]
 have S1:=Lib.hid (S.out.below HB1.out)
 clear B0 S HB1
 generalize (wr.alloc _).setRow _ _=W at *
 generalize wr.heap.size=n3 at *
 have z10:=S1.out.bk.rb.cell 10 (by simp)
 have zf:=BF.out.cell 0 (by simp)
 simp only[List.getElem_toArray,List.getElem_cons_zero,List.getElem_cons_succ]at z10 zf
 have k0:∀o:wU D.R n3 (.slice ka K.length kc),o.u.cell? ⟨D.R,10,none⟩=some (.slice ka K.length kc):=fun o=>o.c0
 have k1:∀o:wU D.R n3 (.slice ka K.length kc),o.u.cell? ⟨n3,0,none⟩=some lC:=fun o=>o.c1
 have hne:Nonempty (wU D.R n3 (.slice ka K.length kc)):=⟨⟨W,z10,zf⟩⟩
 have h0:Below W.heap.size W W.drew:=(Below.refl _ _).drew
 have S2:=Lib.hid (S1.out.below h0)
 have BF2:=Lib.hid (BF.out.below h0)
 have hcw:∃o:wU D.R n3 (.slice ka K.length kc),W.drew=o.u:=⟨⟨W.drew,cell_below h0 z10,cell_below h0 zf⟩,rfl⟩
 clear z10 zf
 refine dC (fun w'=>∃o:wU D.R n3 (.slice ka K.length kc),w' = o.u) (by kernel_rfl) ?_
 change bO _ _ _ _ _ _ _ _ W.drew
 generalize W.drew=V0 at *
 refine af 0 rfl (by kernel_rfl) (fun _ _ _ _ h=>h) hcw (fun K hK=>?_);go_simp;refine hK _ ?_;clear hK K
 refine af 1 rfl (by kernel_rfl) (fun _ _ _ _ h=>h) hcw (fun K hK=>?_);go_simp;refine hK _ ?_;clear hK K
 refine af 2 rfl (by kernel_rfl) (fun _ _ _ _ h=>h) hcw (fun K hK=>?_);go_simp;refine hK _ ?_;clear hK K
 refine af 3 rfl (by kernel_rfl) (fun _ _ _ _ h=>h) hcw (fun K hK=>?_);go_simp;refine hK _ ?_;clear hK K
 refine af 4 rfl (by kernel_rfl) (fun _ _ _ _ h=>h) hcw (fun K hK=>?_);go_simp;refine hK _ ?_;clear hK K
 refine aP 5 rfl (by kernel_rfl) ?_
 have HS:=Lib.hid (SB K ka kc w.heap.size V0 S2.out.bk.ow hK (fun x hx=>⟨S2.out.bk.hk x hx,by have:=HKS.out x hx;omega⟩))
 clear k0 k1 hne h0 hcw
 go_wp2_with fail
 refine HS.out.mono ?_
 rintro e w2 ⟨rfl,hgr,D',hperm,hpw,own2⟩
 have hlen:D'.length=K.length:=hperm.length_eq
 have rb2:=S2.out.bk.rb.grown hgr (gD S2.out.bk.ow S2.out.bk.rb (by decide))
 have BF3:=Lib.hid (BF2.out.grown hgr (gD S2.out.bk.ow BF2.out (by decide)))
 have mf2:=S2.out.mf.grown hgr (S2.out.mf.ER S2.out.bk.ow)
 have hb2:=S2.out.bk.hb.grown hgr S2.out.bk.hb.size (fun q hq=>(S2.out.bk.ow.lt q hq).1)
 have hx2:∀x∈D',bK w2 x.sa x.s/\x.s.length<=1000000:=fun x hx=>by
  have hxK:=hperm.mem_iff.1 hx
  exact⟨(S2.out.bk.hk x hxK).keep hgr (fun b cs fr hc=>gD S2.out.bk.ow hc (by decide)),by have:=HKS.out x hxK;omega⟩
 have HR2:=Lib.hid rb2
 have HO2:=Lib.hid own2
 have HX2:=Lib.hid hx2
 have HM2:=Lib.hid mf2
 have HB2:=Lib.hid hb2
 have HP:=Lib.hid hperm
 have HPW:=Lib.hid hpw
 have hl2:D'.length<=1000000:=by omega
 have HC:=Z6 n3 121 (by decide) D' ka kc w.heap.size w2 HO2.out hl2 HX2.out BF3.out
 rw[hlen]at HC
 have HC:=Lib.hid HC
 have z10:=rb2.cell 10 (by simp)
 simp only[List.getElem_toArray,List.getElem_cons_zero,List.getElem_cons_succ]at z10
 have lV:Hid (∃o:wU D.R n3 (.slice ka K.length kc),w2=o.u):=⟨⟨w2,z10,BF3.out.cell 0 (by simp)⟩,rfl⟩
 clear hperm hpw own2 hgr rb2 mf2 hb2 hx2 hlen S1 BF HS
 go_wp2
 refine⟨lV.out,?_⟩
 refine dh (by kernel_rfl) ?_ _
 go_wp2_with fail
 refine HC.out.mono ?_
 rintro e w3 ⟨C,rfl,hgr,hmap,hok,own3⟩
 have hlen:D'.length=K.length:=HP.out.length_eq
 have own2:=HO2.out
 rw[hlen]at own2
 have rb3:=HR2.out.grown hgr (gD own2 HR2.out (by decide))
 have mf3:=HM2.out.grown hgr (HM2.out.ER own2)
 have hb3:=HB2.out.grown hgr HB2.out.size (fun q hq=>(own2.lt q hq).1)
 obtain⟨sp1,sp2⟩:=EO qh (D'.map Cn.p) (HPW.out.imp (fun {a b} h=>by show ¬ (cmpL b.key a.key<0);omega))
 have hcl:=VA (D'.map Cn.p)
 rw[<-hmap]at sp1 sp2 hcl
 have HF:Hid (QM D (K.map Cn.p) C ka kc w w3):=by
  refine⟨hb3,own3,hok,sp1,fun p=>?_,by simpa[hlen]using hcl,rb3.cell 3 (by simp),rb3.cell 6 (by simp),fun b hb e=>?_,mf3⟩
  ·rw[sp2,List.mem_map,List.mem_map]
   exact⟨fun⟨x,h1,h2⟩=>⟨x,HP.out.mem_iff.1 h1,h2⟩,fun⟨x,h1,h2⟩=>⟨x,HP.out.mem_iff.2 h1,h2⟩⟩
  ·obtain⟨cs,t,fr,h1,h2⟩:=hb
   subst e
   unfold ah at rb3
   rw[h1]at rb3
   simp at rb3
   exact h2 rb3.2.1
 clear rb3 mf3 hb3 sp1 sp2 hcl own2 hlen hmap hok own3 hgr
 go_wp2
 go_ret
 exact⟨C,ka,kc,rfl,HF.out⟩
end Go.Proofs.YtjnbddedmbhiaaaGreatDoor
