/-
  Maps: how many entries there are, and how many are still to come, as numbers that the world tells.
-/
import Derived.Test.YtjnbddedmbhiaaaGreatDoorPk15
import Derived.Sort.OwnSortedInts
namespace Go.AM
open Go.RowKit
section
variable {κ:Type}[DecidableEq κ]
end
section
variable {P:Program}{κ:Type}[DecidableEq κ]{ops:Array Oper}{rest:List Oper}{o:Oper}{a:Act}{Q:Exit->Act->World->Prop}{w:World}
theorem QX(hg:o.guard=none)(m x v:Operand)(t:TypeId)(hop:o.op = .insert t m x v){kt e:TypeId}{enc:κ->Value}(K:lU P kt enc)(hu:P.underlying t=some (.map kt e))(g:Nat){F:κ->Option Value}{n:Nat}
 (hm:a.eval m = .map (some g)) (hown:bC w g enc F n) (k:κ) (hx:a.eval x=enc k) (val:Value) (hv:a.eval v=val)
 (hK:∀w',bC w' g enc (fun k'=>if k' = k then some val else F k') (n+1)->w.grownBy w' (some g)->w'.heap.size=w.heap.size->wpList P ops Q rest (a.put o.dst undef) w'):wpList P ops Q (o::rest) a w:=by
 refine wpList_plain hg fun K' hK'=>?_
 obtain⟨ar,c,hrun,r1⟩:=hown.update K hu k val
 unfold Oper.wp
 simp[execOp,hop,hm,hx,hv,hrun,Result.andThen]
 exact hK' _ _ (hK _ r1 (NZ _) (by show(w.heap.setIfInBounds g _).size=_;simp))
end
end Go.AM
namespace Go.Proofs.YtjnbddedmbhiaaaGreatDoor
open Go.RowKit Go.ak Go.AM

def mZ(w:World)(a:Option Addr)(l:List bA):Prop :=
 ∀k (h:k<l.length),∃b off,a=some ⟨b,off,none⟩/\w.cell? ⟨b,off+k*3,none⟩=some (.int .i64 l[k].f)/\w.cell? ⟨b,off+k*3+1,none⟩=some (.int .i64 l[k].i)/\w.cell? ⟨b,off+k*3+2,none⟩=some (.int .i64 l[k].c)
theorem mZ.below{w w':World}{a:Option Addr}{l:List bA}(h:mZ w a l)(hb:Below w.heap.size w w'):mZ w' a l:=by
 intro k hk
 obtain⟨b,off,ha,h0,h1,h2⟩:=h k hk
 exact⟨b,off,ha,cell_below hb h0,cell_below hb h1,cell_below hb h2⟩
theorem Al{w:World}{base n d:Nat}{b:Option Addr}{l:List Int}(h:w.ownsRow base 3 1 (.slice b n d) n (l.map bT)):n<=d/\aM w b l:=by
 obtain⟨_,a,cap,he,h1,h2⟩:=jK h
 cases he
 exact⟨h1,h2⟩
theorem y1S(w:World)(base:Nat)(t ty e:TypeId)(i:TypeInfo)(z:Value)(size bytes:Nat)(ht:Tryz.prog.underlying t=some (.slice e))(hi:Tryz.prog.info? e=some i)(hz:i.zero=some z)
 (hsize:i.size=size) (hby:i.bytes=bytes)
 (v:Value) (n:Nat) (xs:List Value) (hown:w.ownsRow base e size v n xs)
 (a:Addr) (m c:Nat) (hm:0<m) (news:List Value) (hl:news.length=m*size) (hnews:∀j u,news[j]? = some u->w.cell? (a.add j)=some u) (h1:∀u∈news,u.oneCell' = true)
 (h63:n+m<=maxLen) (hbytes:(n+m)*bytes<=140737488355328) {v':Value} {w':World} (hr:(Builtin.append_ #[t,t] ty #[v,.slice (some a) m c]).run Tryz.prog w = .ok v' w') :
 v'.ownBlock=v.ownBlock∨v'.ownBlock=some w.heap.size:=by
 subst hsize
 subst hby
 have hsmall:n+m<=9223372036854775807:=by simp only[maxLen]at h63;omega
 rcases hown.2 with ⟨rfl,rfl⟩ | ⟨g,cap,cur,rfl,hbg,hg,hnc,hcm,hcs,htake⟩
 ·have h:=run_append_nil (P:=Tryz.prog) w t ty e i z ht hi hz a m c news hl hnews hm (by omega) (by have hb:=hbytes;simp only[Nat.zero_add]at hb;omega)
  rw[h]at hr
  cases hr
  exact .inr rfl
 ·by_cases hroom:n+m<=cap
  ·have h:=run_append_room (P:=Tryz.prog) w t ty e i ht hi g n cap cur hg a m c news hl hnews h1 hroom (by rw[hl,hcs,<-Nat.add_mul];exact Nat.mul_le_mul_right _ hroom)
   rw[h]at hr
   cases hr
   exact .inl rfl
  ·have holds:∀j u,xs[j]? = some u->w.cell? ((⟨g,0,none⟩:Addr).add j)=some u:=hown.cells (g:=g) rfl
   have h:=run_append_grow (P:=Tryz.prog) w t ty e i z ht hi hz ⟨g,0,none⟩ n cap xs hown.1 holds a m c news hl hnews (by omega) (by omega) (growslice_fits (by omega) hbytes)
   rw[h]at hr
   cases hr
   exact .inr rfl
theorem y1U{ops:Array Oper}{rest:List Oper}{o:Oper}{a:Act}{Q:Exit->Act->World->Prop}{w:World}(hgd:o.guard=none)(s x:Operand)
 (ho:o.op = .call { callee:=.builtin .append,args:=#[s,x],argTypes:=#[28,28] })
 (base:Nat) (v:Value) (l:List Int) (hs:a.eval s=v) (hown:w.ownsRow base 3 1 v l.length (l.map bT))
 (g:Nat) (y:Int) (hx:a.eval x = .slice (some ⟨g,0,none⟩) 1 1) (hg:ah w g #[.int .i64 y] 3)
 (hn:l.length<=1000000) (hbase:base<=w.heap.size)
 (h:∀v' w',w'.ownsRow base 3 1 v' (l++[y]).length ((l++[y]).map bT)->w.grownBy w' v.ownBlock->(v'.ownBlock=v.ownBlock∨v'.ownBlock=some w.heap.size)->wpList Tryz.prog ops Q rest (a.put o.dst v') w'):wpList Tryz.prog ops Q (o::rest) a w:=by
 obtain⟨i0,hi,hz0,hz1,hz2⟩:=info_parts NJ
 refine wpList_plain hgd fun K hK=>?_
 have hnews:∀j u,[bT y][j]? = some u->w.cell? ((⟨g,0,none⟩:Addr).add j)=some u:=by
  intro j u hu
  rw[addr_add,Nat.zero_add,cell_of_row _ _ _ _ _ _ hg]
  simpa[bT]using hu
 have h1:∀u∈[bT y],u.oneCell' = true:=by intro u hu;rw[List.mem_singleton.1 hu];rfl
 obtain⟨v',w',hr,h2,h3,_⟩:=run_append_own (P:=Tryz.prog) w base 28 o.type 3 i0 (.int .i64 0) 1 8 Tryz.underlying28 hi hz0 hz1 hz2 rfl (by decide) v l.length (l.map bT) hown ⟨g,0,none⟩ 1 1 [bT y] rfl hnews h1 (by unfold maxLen;omega) (by omega) hbase
 have h4:=y1S w base 28 o.type 3 i0 (.int .i64 0) 1 8 Tryz.underlying28 hi hz0 hz1 hz2 v l.length (l.map bT) hown ⟨g,0,none⟩ 1 1 (by omega) [bT y] rfl hnews h1 (by unfold maxLen;omega) (by omega) hr
 unfold Oper.wp execOp
 simp only[ho,resolve,invoke,builtin,Sem.run_bind,Sem.run_pure,Result.andThen_ok,List.map_toArray,List.map_cons,List.map_nil,hs,hx,hr]
 refine hK _ _ (h v' w' ?_ h3 h4)
 rw[List.map_append,List.length_append]
 exact h2
theorem y0l(l:List Str)(a:Option Addr)(c:Nat)(w:World)(hs:bF w a l)(hl:l.length<=1000000):Calls Tryz.prog 115 #[.slice a l.length c] w (zA l w):=by
 by_cases h0:0<l.length
 ·obtain⟨b,off,rfl,_⟩:=hs 0 h0
  refine(Tryz.slices_Clone_string b off l.length c l w (Nat.le_refl _) (by omega) (fun j hj=>?_)).mono ?_
  ·obtain⟨b',off',he,hc⟩:=hs j hj
   cases he
   rw[hc,List.getD_eq_getElem?_getD,List.getElem?_eq_getElem hj];rfl
  ·rintro e w' ⟨v,rfl,own,_,hb⟩
   rw[List.take_length]at own
   obtain⟨-,a',c',rfl,-,-⟩:=qZ own
   exact⟨hb,a',c',rfl,own⟩
 ·have hl0:l=[]:=List.eq_nil_of_length_eq_zero (by omega)
  subst hl0
  cases a with
  |none =>
   refine(Tryz.slices_Clone_string_nil 0 c w).mono ?_
   rintro e w' ⟨rfl,rfl⟩
   exact⟨Below.refl _ _,none,0,rfl,World.ownsRow_nil _ _ _ _⟩
  |some ad =>
   refine(Tryz.slices_Clone_string_zero ad c w).mono ?_
   rintro e w' ⟨v,rfl,own,_,hb⟩
   obtain⟨-,a',c',rfl,-,-⟩:=qZ (l:=[]) own
   exact⟨hb,a',c',rfl,own⟩
theorem y1B{W o:World}{g:Nat}{cs:Array Value}{t:TypeId}(hb:Below W.heap.size W o)(h:ah W g cs t):Below W.heap.size W (o.setRow g cs):=by
 refine⟨hb.os,hb.tape,hb.output,?_,fun k hk=>?_⟩
 ·simpa[World.setRow]using hb.size
 ·by_cases e:k=g
  ·subst e
   rw[setRow_heap o k cs cs t (0,0) (h.below hb)]
   exact h.symm
  ·rw[setRow_other o g k cs e]
   exact hb.block k hk
theorem Hg{w:World}{g1 g2:Nat}{c1 c2:Array Value}{t1 t2:TypeId}(h1:ah w g1 c1 t1)(h2:ah w g2 c2 t2)(hne:t1≠t2):some g1≠some g2:=by
 intro e
 cases e
 unfold ah at h1 h2
 rw[h1]at h2
 simp only[Option.some.injEq,Obj.cells.injEq]at h2
 exact hne h2.2.1
structure LQ(h:List ae)(a:Option Addr)(c g tb:Nat)(cs:Array Value)(w wr:World):Prop where
 hb:Below w.heap.size w wr
 bt:ah wr tb #[.slice a h.length c,.map (some g)] 206
 rs:ah wr (w.heap.size+1) cs 48
 hc:ay wr a h
 tg:TabAt wr g h
 sz:w.heap.size+1<wr.heap.size
theorem LQ.below{h:List ae}{a:Option Addr}{c g tb:Nat}{cs:Array Value}{w wr w':World}(k:LQ h a c g tb cs w wr)(hb:Below wr.heap.size wr w'):LQ h a c g tb cs w w' :=
 ⟨k.hb.trans (hb.mono k.hb.size),k.bt.below hb,k.rs.below hb,k.hc.below hb,k.tg.below hb,Nat.lt_of_lt_of_le k.sz hb.size⟩
def Ii(r:Option (Str × aH))(w:World)(e:Ending)(w':World):Prop:=Below w.heap.size w w' /\
 ((r=none/\e = .returned (.tuple #[.string ⟨#[]⟩,.agg #[.string ⟨#[]⟩,.bool false,.slice none 0 0,.string ⟨#[]⟩],.bool false])) ∨
  ∃x g pa pc,r=some (x,g)/\e = .returned (.tuple #[.string x,.agg #[.string g.name,.bool g.stat,.slice pa g.params.length pc,.string g.result],.bool true])/\bF w' pa g.params)
set_option maxRecDepth 100000 in
set_option maxHeartbeats 8000000 in
theorem MG(h:List ae)(s t:Str)(a:Option Addr)(c:Nat)(w:World)(hc:ay w a h)(hl:h.length<=100000)(hm:∀x∈h,x.methods.length<=100000)(hp:∀x∈h,∀y∈x.methods,y.params.length<=100000) :
 Calls Tryz.prog 62 #[.agg #[.slice a h.length c],.string s,.string t] w (Ii (dN h s t) w):=by
 have HB:=Lib.hid (iH w (.cells #[.slice a h.length c] 24) (.cells #[.string ⟨#[]⟩,.bool false,.slice none 0 0,.string ⟨#[]⟩] 48))
 have HX:Hid (ah ((w.alloc (.cells #[.slice a h.length c] 24)).alloc (.cells #[.string ⟨#[]⟩,.bool false,.slice none 0 0,.string ⟨#[]⟩] 48)) w.heap.size #[.slice a h.length c] 24):=(aL ..).below (av ..)
 have RS:Hid (ah ((w.alloc (.cells #[.slice a h.length c] 24)).alloc (.cells #[.string ⟨#[]⟩,.bool false,.slice none 0 0,.string ⟨#[]⟩] 48)) (w.heap.size+1) #[.string ⟨#[]⟩,.bool false,.slice none 0 0,.string ⟨#[]⟩] 48):=gH ..
 have HC0:=Lib.hid hc
 have HM:=Lib.hid hm
 have HPA:=Lib.hid hp
 have HT:Hid (∀w1,ay w1 a h->Calls Tryz.prog 112 #[.agg #[.slice a h.length c]] w1 (wV h a c w1)):=fun w1 h1=>xC h a c w1 h1 hl
 have HF:Hid (∀g w1,TabAt w1 g h->Calls Tryz.prog 114 #[.agg #[.slice a h.length c,.map (some g)],.string s] w1 (aj w1 (.int .i64 (aI h s)))):=fun g w1 h1=>uW h s a c g w1 h1
 have HLK:Hid (∀g w1,ay w1 a h->TabAt w1 g h->Calls Tryz.prog 113 #[.agg #[.slice a h.length c,.map (some g)],.int .i64 (aI h s),.string t] w1 (aj w1 (.tuple #[.int .i64 (eP h (aI h s) t).1,.int .i64 (eP h (aI h s) t).2]))):=fun g w1 h1 h2=>JE h t a c g _ (wu h s) w1 h1 hl hm h2
 have HR:=Lib.hid (WR h s t)
 have HRS:=Tryz.results62
 clear hc hm hp
 generalize dN h s t=R at *
 generalize eP h (aI h s) t=p at *
 generalize aI h s=i0 at *
 obtain⟨p1,p2⟩:=p
 simp only at HLK
 go_enter Tryz.func62,Tryz.ntmps62
 go_upto_region 1 with (fail)
 generalize (w.alloc _).alloc _=W at *
 have x0:=HX.out.cell 0 (by simp)
 go_upto_region 2 with (go_at_call 112;refine(HT.out _ (HC0.out.below HB.out)).mono ?_;rintro e w1 ⟨hb1,g,rfl,tg,hgg⟩)
 have hws:=HB.out.size
 have hb1':Below w.heap.size w w1:=HB.out.trans (hb1.mono hws)
 have hb2:=hb1'.trans ((av w1 (.cells #[.slice a h.length c,.map (some g)] 206)).mono hb1'.size)
 have hob:=av w1 (.cells #[.slice a h.length c,.map (some g)] 206)
 have S2:Hid (LQ h a c g w1.heap.size #[.string ⟨#[]⟩,.bool false,.slice none 0 0,.string ⟨#[]⟩] w (w1.alloc (.cells #[.slice a h.length c,.map (some g)] 206))) :=
  ⟨hb2,aL ..,(RS.out.below hb1).below hob,HC0.out.below hb2,tg.below hob,((RS.out.below hb1).below hob).lt⟩
 clear hb1 hb1' hb2 hob tg HX x0 RS HB hws HT
 replace HF:=Lib.hid (HF.out g)
 replace HLK:=Lib.hid (HLK.out g)
 generalize w1.heap.size=tb at *
 generalize w1.alloc _=W2 at *
 have k0:∀o:WB W2,o.u.cell? ⟨tb,0,none⟩=some (.slice a h.length c):=fun o=>(S2.out.below o.h).bt.cell 0 (by simp)
 have k1:∀o:WB W2,o.u.cell? ⟨tb,1,none⟩=some (.map (some g)):=fun o=>(S2.out.below o.h).bt.cell 1 (by simp)
 have hne:Nonempty (WB W2):=⟨⟨W2,Below.refl _ _⟩⟩
 refine bJ W2 (by kernel_rfl) ?_
 repeat (go_big_quiet_step ((first | (go_at_call 114;rename_i o;exact(HF.out _ (S2.out.below o.h).tg).mono (fun _ _ h=>aj.bu h)) | (go_at_call 113;rename_i o;exact(HLK.out _ (S2.out.below o.h).hc (S2.out.below o.h).tg).mono (fun _ _ h=>aj.bu h)))))
 refine wpQuiet_nil ?_
 intro _ hw'
 obtain⟨o,rfl⟩:=hw'
 have S3:=Lib.hid (S2.out.below o.h)
 clear k0 k1 S2 hne HF HLK
 generalize o.u=W3 at *
 rcases HR.out with ⟨e1,e2⟩ | ⟨j,m,hj,hml,_,e2,e1⟩
 ·simp only[Prod.mk.injEq]at e2
  obtain⟨rfl,rfl⟩:=e2
  have HN:=Lib.hid e1
  clear e1 HR
  go_wp2_with (refine Dv rfl _ _ rfl (w.heap.size+1) _ _ _ _ _ _ rfl rfl _ S3.out.rs rfl ?_)
  refine bodyPost_ret (v:=.tuple #[.string ⟨#[]⟩,.agg #[.string ⟨#[]⟩,.bool false,.slice none 0 0,.string ⟨#[]⟩],.bool false]) (KI HRS _ _ (w.heap.size+1) _ _ _ _ rfl rfl rfl (S3.out.rs.setRow _) Tryz.underlying48 rfl (by kernel_rfl)) rfl ?_
  exact⟨bP S3.out.hb (by omega) _,.inl ⟨HN.out,rfl⟩⟩
 ·simp only[Prod.mk.injEq]at e2
  obtain⟨rfl,rfl⟩:=e2
  have HN:=Lib.hid e1
  have hpl:=HPA.out _ (List.getElem_mem hj) _ (List.getElem_mem hml)
  have hmm:=HM.out _ (List.getElem_mem hj)
  clear e1 HR HM HPA
  obtain⟨b,off,fa,fc,ma,mc,he,m0,m1,m2,m3,_,hms⟩:=HC0.out j hj
  subst he
  obtain⟨b2,o2,pa,pc,he,n0,n1,n2,n3,hps⟩:=hms m hml
  subst he
  have HPS:=Lib.hid hps
  have M0:=Lib.hid m0
  clear m1 m2 hms hps m0
  replace m3:=cell_below S3.out.hb m3
  replace n0:=cell_below S3.out.hb n0
  replace n1:=cell_below S3.out.hb n1
  replace n2:=cell_below S3.out.hb n2
  replace n3:=cell_below S3.out.hb n3
  generalize h[j].methods[m]=y at *
  generalize h[j].methods.length=ml at *
  generalize h[j].name=nm at *
  have t0:=S3.out.bt.cell 0 (by simp)
  simp only[List.getElem_toArray,List.getElem_cons_zero]at t0
  have t1:decide ((j:Int)<0)=false:=decide_eq_false (by omega)
  go_upto_region 6 with (refine Dv rfl _ _ rfl (w.heap.size+1) _ _ _ _ _ _ rfl rfl _ S3.out.rs rfl ?_)
  have hb4:Below w.heap.size w (W3.setRow (w.heap.size+1) #[.string y.name,.bool y.stat,.slice pa y.params.length pc,.string y.result]):=bP S3.out.hb (by omega) _
  have hg4:W3.grownBy (W3.setRow (w.heap.size+1) #[.string y.name,.bool y.stat,.slice pa y.params.length pc,.string y.result]) (some (w.heap.size+1)):=oW ..
  have S4:Hid (LQ h (some ⟨b,off,none⟩) c g tb #[.string y.name,.bool y.stat,.slice pa y.params.length pc,.string y.result] w (W3.setRow (w.heap.size+1) #[.string y.name,.bool y.stat,.slice pa y.params.length pc,.string y.result])) :=
   ⟨hb4,S3.out.bt.grown hg4 (Hg S3.out.bt S3.out.rs (by decide)),S3.out.rs.setRow _,HC0.out.below hb4,S3.out.tg.grown hg4 (Ne.symm (r9 S3.out.rs S3.out.tg)),Nat.lt_of_lt_of_le S3.out.sz hg4.size⟩
  clear hb4 hg4 S3 m3 n0 n1 n2 n3 t0 t1
  generalize W3.setRow _ _=W4 at *
  have q2:=S4.out.rs.cell 2 (by simp)
  simp only[List.getElem_toArray,List.getElem_cons_zero,List.getElem_cons_succ]at q2
  go_wp2_with fail
  refine(y0l y.params pa pc _ (HPS.out.below S4.out.hb) (by omega)).mono ?_
  rintro e w5 ⟨hb5,qa,qc,rfl,own5⟩
  have S5:=Lib.hid (S4.out.below hb5)
  have O5:=Lib.hid own5
  clear S4 hb5 own5 q2
  have q1:=S5.out.rs.cell 2 (by simp)
  have q2:=S5.out.rs.free 2
  simp only[List.getElem_toArray,List.getElem_cons_zero,List.getElem_cons_succ]at q1
  go_upto_region 7 with (fail)
  have hg6:w5.grownBy (w5.setCell ⟨w.heap.size+1,2,none⟩ (.slice qa y.params.length qc)) (some (w.heap.size+1)):=vY ..
  have hb6:Below w.heap.size w (w5.setCell ⟨w.heap.size+1,2,none⟩ (.slice qa y.params.length qc)):=S5.out.hb.grown hg6 S5.out.hb.size (fun q hq=>by cases hq;omega)
  have S6:Hid (LQ h (some ⟨b,off,none⟩) c g tb #[.string y.name,.bool y.stat,.slice qa y.params.length qc,.string y.result] w (w5.setCell ⟨w.heap.size+1,2,none⟩ (.slice qa y.params.length qc))) :=
   ⟨hb6,S5.out.bt.grown hg6 (Hg S5.out.bt S5.out.rs (by decide)),by simpa using S5.out.rs.set 2 (.slice qa y.params.length qc),HC0.out.below hb6,S5.out.tg.grown hg6 (Ne.symm (r9 S5.out.rs S5.out.tg)),Nat.lt_of_lt_of_le S5.out.sz hg6.size⟩
  have P6:Hid (bF (w5.setCell ⟨w.heap.size+1,2,none⟩ (.slice qa y.params.length qc)) qa y.params):=(vC (O5.out.kept hg6 (.inr (fun e=>gD O5.out S5.out.rs (by decide) e.symm)))).2
  clear hg6 hb6 S5 O5 q1 q2
  generalize w5.setCell _ _=W6 at *
  have k0:∀o:WB W6,o.u.cell? ⟨tb,0,none⟩=some (.slice (some ⟨b,off,none⟩) h.length c):=fun o=>(S6.out.below o.h).bt.cell 0 (by simp)
  have k1:∀o:WB W6,o.u.cell? ⟨b,off+j*4,none⟩=some (.string nm):=fun o=>cell_below (S6.out.below o.h).hb M0.out
  have k2:∀o:WB W6,o.u.cell? ⟨w.heap.size+1,0,none⟩=some (.string y.name):=fun o=>(S6.out.below o.h).rs.cell 0 (by simp)
  have k3:∀o:WB W6,o.u.cell? ⟨w.heap.size+1,1,none⟩=some (.bool y.stat):=fun o=>(S6.out.below o.h).rs.cell 1 (by simp)
  have k4:∀o:WB W6,o.u.cell? ⟨w.heap.size+1,2,none⟩=some (.slice qa y.params.length qc):=fun o=>(S6.out.below o.h).rs.cell 2 (by simp)
  have k5:∀o:WB W6,o.u.cell? ⟨w.heap.size+1,3,none⟩=some (.string y.result):=fun o=>(S6.out.below o.h).rs.cell 3 (by simp)
  have hne:Nonempty (WB W6):=⟨⟨W6,Below.refl _ _⟩⟩
  have hcur:Below W6.heap.size W6 W6.drew:=(Below.refl _ _).drew
  have hcur2:=y1B hcur S6.out.rs
  refine dC (fun w'=>∃o:WB W6,w' = o.u) (by kernel_rfl) ?_
  change bO _ _ _ _ _ _ _ _ W6.drew
  refine af 0 rfl (by kernel_rfl) (fun _ _ _ _ h=>h) ⟨⟨_,hcur⟩,rfl⟩ (fun K hK=>?_);go_simp;refine hK _ ?_;clear hK K
  refine af 1 rfl (by kernel_rfl) (fun _ _ _ _ h=>h) ⟨⟨_,hcur⟩,rfl⟩ (fun K hK=>?_);go_simp;refine hK _ ?_;clear hK K
  refine af 2 rfl (by kernel_rfl) (fun _ _ _ _ h=>h) ⟨⟨_,hcur⟩,rfl⟩ (fun K hK=>?_);go_simp;refine hK _ ?_;clear hK K
  refine af 3 rfl (by kernel_rfl) (fun _ _ _ _ h=>h) ⟨⟨_,hcur⟩,rfl⟩ (fun K hK=>?_);go_simp;refine hK _ ?_;clear hK K
  refine af 4 rfl (by kernel_rfl) (fun _ _ _ _ h=>h) ⟨⟨_,hcur⟩,rfl⟩ (fun K hK=>?_);go_simp;refine hK _ ?_;clear hK K
  refine af 5 rfl (by kernel_rfl) (fun _ _ _ _ h=>h) ⟨⟨_,hcur⟩,rfl⟩ (fun K hK=>?_);go_simp;refine hK _ ?_;clear hK K
  refine af 6 rfl (by kernel_rfl) (fun _ _ _ _ h=>h) ⟨⟨_,hcur⟩,rfl⟩ (fun K hK=>?_);go_simp;refine hK _ ?_;clear hK K
  refine af 7 rfl (by kernel_rfl) (fun _ _ _ _ h=>h) ⟨⟨_,hcur⟩,rfl⟩ (fun K hK=>?_);go_simp;refine hK _ ?_;clear hK K
  refine aP 8 rfl (by kernel_rfl) ?_
  go_wp2_with (refine Dv rfl _ _ rfl (w.heap.size+1) _ _ _ _ _ _ rfl rfl _ (S6.out.below hcur).rs rfl ?_)
  refine⟨⟨⟨_,hcur2⟩,rfl⟩,?_⟩
  refine aP 9 rfl (by kernel_rfl) ?_
  go_wp2
  refine⟨⟨⟨_,hcur2⟩,rfl⟩,?_⟩
  refine dh (by kernel_rfl) ?_ _
  have S8:=Lib.hid (S6.out.below hcur2)
  have P8:=Lib.hid (P6.out.below hcur2)
  clear k0 k1 k2 k3 k4 k5
  go_wp2
  refine bodyPost_ret (v:=.tuple #[.string nm,.agg #[.string y.name,.bool y.stat,.slice qa y.params.length qc,.string y.result],.bool true]) (KI HRS _ _ (w.heap.size+1) _ _ _ _ rfl rfl rfl S8.out.rs Tryz.underlying48 rfl (by kernel_rfl)) rfl ?_
  exact⟨S8.out.hb,.inr ⟨nm,y,qa,qc,HN.out,rfl,P8.out⟩⟩

def nV(t:Str):List bQ->Nat->Int
 |[],_=>-1
 |x::l,k=>if (x.name.toList==t.toList)=true then(k:Int)else nV t l (k+1)
def gN(l:List bQ)(t:Str):Int:=nV t l 0
theorem Y4{t:Str}{l:List bQ}{k:Nat}(hk:k<l.length)(e:(l[k].name.toList==t.toList)=true):nV t (l.drop k) k=k:=by
 rw[List.drop_eq_getElem_cons hk];show(if _ then(k:Int)else _)=_;rw[if_pos e]
theorem Y3{t:Str}{l:List bQ}{k:Nat}(hk:k<l.length)(e:(l[k].name.toList==t.toList)=false):nV t (l.drop k) k=nV t (l.drop (k+1)) (k+1):=by
 rw[List.drop_eq_getElem_cons hk];show(if _ then(k:Int)else _)=_;rw[if_neg (by simp[e])]
theorem Y5{t:Str}{l:List bQ}{k:Nat}(hk:l.length<=k):nV t (l.drop k) k = -1:=by
 rw[List.drop_of_length_le hk];rfl
theorem Ot(t:Str):∀(l:List bQ) (k:Nat),(iC l t=none/\nV t l k = -1)∨∃(j:Nat) (hj:j<l.length),nV t l k=((k+j:Nat):Int)/\iC l t=some l[j]
 |[],k=>.inl ⟨rfl,rfl⟩
 |x::l,k=>by
  by_cases e:(x.name.toList==t.toList)=true
  ·refine .inr ⟨0,by simp,?_,?_⟩
   ·show(if _ then(k:Int)else _)=_;rw[if_pos e];simp
   ·unfold iC;rw[List.find?_cons_of_pos (p:=fun f:bQ=>aD f.name t) (show aD _ _=true from e)];rfl
  ·have e1:nV t (x::l) k=nV t l (k+1):=by
    show(if _ then(k:Int)else _)=_;rw[if_neg e]
   have e2:iC (x::l) t=iC l t:=by
    unfold iC;rw[List.find?_cons_of_neg (p:=fun f:bQ=>aD f.name t) (show ¬ aD _ _=true from e)]
   rw[e1,e2]
   rcases Ot t l (k+1)with h1 | ⟨j,hj,h1,h2⟩
   ·exact .inl h1
   ·exact .inr ⟨j+1,by simp;omega,by rw[h1];omega,by rw[h2];simp⟩
theorem Y2(l:List bQ)(t:Str):(iC l t=none/\gN l t = -1)∨∃(j:Nat) (hj:j<l.length),gN l t=(j:Int)/\iC l t=some l[j]:=by
 rcases Ot t l 0 with h | ⟨j,hj,h1,h2⟩
 ·exact .inl h
 ·exact .inr ⟨j,hj,by unfold gN;rw[h1];simp,h2⟩
set_option maxHeartbeats 1000000 in
theorem Zp(t:Str)(x:bQ)(p:Addr)(w:World)(hp:w.cell? p=some (.string t)) :
 Calls Tryz.prog 229 #[.agg #[.string x.name,.string x.type],.pointer (some p)] w (aj w (.bool (x.name.toList==t.toList))):=by
 have HB:=Lib.hid (av w (.cells #[.string x.name,.string x.type] 92))
 have hp':=cell_below HB.out hp
 have HD:Hid ((x.name.toList==t.toList)=(x.name.toList==t.toList)):=rfl
 go_enter Tryz.func229,Tryz.ntmps229
 go_wp2
 go_ret
 exact⟨rfl,HB.out⟩
set_option maxHeartbeats 2000000 in
theorem Ya(l:List bQ)(t:Str)(a:Option Addr)(c:Nat)(p:Addr)(w:World)(hl:aK w a l)(hn:l.length<=1000000)(hp:w.cell? p=some (.string t)) :
 Calls Tryz.prog 219 #[.slice a l.length c,.func (.func 229) #[] #[.pointer (some p)]] w (aj w (.int .i64 (gN l t))):=by
 have HL:=Lib.hid hl;clear hl
 have HP:=Lib.hid hp;clear hp
 go_enter Tryz.func219,Tryz.ntmps219
 go_wp2
 go_loopw[8] (fun i wr=>∃k:Nat,k<=l.length/\i = .int .i64 k/\Hid (nV t (l.drop k) k=gN l t)/\Hid (Below w.heap.size w wr)) (fun i _=>l.length-(intOf i).toNat)
 case atStart=>exact⟨0,Nat.zero_le _,rfl,rfl,Below.refl _ _⟩
 case round =>
  obtain⟨k,hk,rfl,HI,HB⟩:=hrel
  by_cases hlt:k<l.length
  ·obtain⟨b,off,rfl,m0,m1⟩:=HL.out.below HB.out k hlt
   have HT:=Lib.hid (@Y4 t l k hlt)
   have HM:=Lib.hid (@Y3 t l k hlt)
   have HC:Hid (∀x:bQ,Calls Tryz.prog 229 #[.agg #[.string x.name,.string x.type],.pointer (some p)] wr (aj wr (.bool (x.name.toList==t.toList)))):=fun x=>Zp t x p wr (cell_below HB.out HP.out)
   generalize l[k]=x at *
   have HD:=Lib.hid (HC.out x)
   clear HC
   cases hq:(x.name.toList==t.toList)
   ·rw[hq]at HD
    have HN:=Lib.hid (HM.out hq)
    clear HM HT
    go_wp2_with (go_at_call 229;refine HD.out.mono ?_;rintro e w1 ⟨rfl,hb1⟩)
    go_roundw
    case rel=>exact⟨k+1,by omega,by go_num,by show _=_;rw[<-HN.out];exact HI.out,HB.out.trans (hb1.mono HB.out.size)⟩
    case measure=>simp[intOf];omega
   ·rw[hq]at HD
    have HN:=Lib.hid (HT.out hq)
    clear HM HT
    go_wp2_with (go_at_call 229;refine HD.out.mono ?_;rintro e w1 ⟨rfl,hb1⟩)
    go_ret
    exact⟨eO (by rw[<-HI.out,HN.out]),HB.out.trans (hb1.mono HB.out.size)⟩
  ·have HN:=Lib.hid (@Y5 t l k (by omega))
   go_wp2
   go_ret
   exact⟨eO (by rw[<-HI.out,HN.out]),HB.out⟩
set_option maxHeartbeats 1000000 in
theorem OO(x:ae)(fa:Option Addr)(fc:Nat)(ma:Option Addr)(mc:Nat)(t:Str)(w:World)(hl:aK w fa x.fields)(hn:x.fields.length<=1000000) :
 Calls Tryz.prog 204 #[.agg #[.string x.name,.string x.aO,.slice fa x.fields.length fc,.slice ma x.methods.length mc],.string t] w (aj w (.int .i64 (gN x.fields t))):=by
 have HB:=Lib.hid (iH w (.cells #[.string x.name,.string x.aO,.slice fa x.fields.length fc,.slice ma x.methods.length mc] 45) (.cells #[.string t] 9))
 have HX:Hid (∀W,W=(w.alloc (.cells #[.string x.name,.string x.aO,.slice fa x.fields.length fc,.slice ma x.methods.length mc] 45)).alloc (.cells #[.string t] 9)->W.cell? ⟨w.heap.size+1,0,none⟩=some (.string t)):=by
  rintro _ rfl
  have h2:=gH w #[.string t] 9 (.cells #[.string x.name,.string x.aO,.slice fa x.fields.length fc,.slice ma x.methods.length mc] 45)
  exact(h2.cell 0 (by simp)).trans (by simp)
 have HL:=Lib.hid hl;clear hl
 go_enter Tryz.func204,Tryz.ntmps204
 go_wp2_with (go_at_call 219;refine(Ya x.fields t fa fc _ _ (HL.out.below HB.out) hn (HX.out _ rfl)).mono ?_;rintro e w1 ⟨rfl,hb1⟩)
 go_ret
 exact⟨rfl,HB.out.trans (hb1.mono HB.out.size)⟩
structure FQ(h:List ae)(a:Option Addr)(c g tb:Nat)(r:List Int)(oa:Option Addr)(w wr:World):Prop where
 hb:Below w.heap.size w wr
 bt:ah wr tb #[.slice a h.length c,.map (some g)] 206
 hc:ay wr a h
 it:aM wr oa r
theorem FQ.below{h:List ae}{a:Option Addr}{c g tb:Nat}{r:List Int}{oa:Option Addr}{w wr w':World}(k:FQ h a c g tb r oa w wr)(hb:Below wr.heap.size wr w'):FQ h a c g tb r oa w w' :=
 ⟨k.hb.trans (hb.mono k.hb.size),k.bt.below hb,k.hc.below hb,k.it.below hb⟩
theorem YZ{h:List ae}{t:Str}{r:List Int}{q j:Nat}(hq:q<r.length)(hj:j<h.length)(e:r[q]=(j:Int))(hf:aI h h[j].name=(j:Int)) :
 (iC h[j].fields t=none->kr h t ((r.drop q).map (nameAt h))=kr h t ((r.drop (q+1)).map (nameAt h)))/\(∀g,iC h[j].fields t=some g->kr h t ((r.drop q).map (nameAt h))=some (h[j].name,g)):=by
 have hc:=Gj hj hf
 have e1:(r.drop q).map (nameAt h)=h[j].name::(r.drop (q+1)).map (nameAt h):=by
  rw[List.drop_eq_getElem_cons hq,List.map_cons,e,jP hj]
 rw[e1]
 constructor
 ·intro hn
  have:=Zn (h:=h) (s:=t) (L:=h[j].name::(r.drop (q+1)).map (nameAt h)) (k:=0) (by simp) hc hn
  simpa using this
 ·intro g hg
  have:=Zo (h:=h) (s:=t) (L:=h[j].name::(r.drop (q+1)).map (nameAt h)) (k:=0) (by simp) hc hg
  simpa using this
set_option maxRecDepth 100000 in
set_option maxHeartbeats 8000000 in
theorem Zm(h:List ae)(s t:Str)(a:Option Addr)(c:Nat)(w:World)(hc:ay w a h)(hl:h.length<=100000)(hm:∀x∈h,x.fields.length<=100000) :
 Calls Tryz.prog 160 #[.agg #[.slice a h.length c],.string s,.string t] w (Ik (nX h s t) w):=by
 have HB:=Lib.hid (av w (.cells #[.slice a h.length c] 24))
 have HX:Hid (ah (w.alloc (.cells #[.slice a h.length c] 24)) w.heap.size #[.slice a h.length c] 24):=aL ..
 have HC0:=Lib.hid hc
 have HM:=Lib.hid hm
 have HT:Hid (∀w1,ay w1 a h->Calls Tryz.prog 112 #[.agg #[.slice a h.length c]] w1 (wV h a c w1)):=fun w1 h1=>xC h a c w1 h1 hl
 have HN:Hid (∀g w1,ay w1 a h->TabAt w1 g h->Calls Tryz.prog 203 #[.agg #[.slice a h.length c,.map (some g)],.string s] w1 (oH (bW h (aI h s)).1 w1)):=fun g w1 h1 h2=>JD h s a c g w1 h1 hl h2
 have HP:Hid (kr h t ((bW h (aI h s)).1.map (nameAt h))=nX h s t):=by
  show _=kr h t (jo h s)
  rw[<-zR];rfl
 have HF:Hid (∀x∈(bW h (aI h s)).1,cu h x):=Ce fun k=>Bn k
 have hlen:(bW h (aI h s)).1.length<=h.length:=zg (wu h s)
 have HRS:=Tryz.results160
 clear hc hm
 generalize nX h s t=R at *
 generalize (bW h (aI h s)).1=r at *
 go_enter Tryz.func160,Tryz.ntmps160
 go_upto_region 1 with (fail)
 generalize w.alloc _=W at *
 have x0:=HX.out.cell 0 (by simp)
 go_upto_region 2 with (go_at_call 112;refine(HT.out _ (HC0.out.below HB.out)).mono ?_;rintro e w1 ⟨hb1,g,rfl,tg,hgg⟩)
 have hws:=HB.out.size
 have hb1':Below w.heap.size w w1:=HB.out.trans (hb1.mono hws)
 have hob:=av w1 (.cells #[.slice a h.length c,.map (some g)] 206)
 have hb2:=Lib.hid (hb1'.trans (hob.mono hb1'.size))
 have BT:Hid (ah (w1.alloc (.cells #[.slice a h.length c,.map (some g)] 206)) w1.heap.size #[.slice a h.length c,.map (some g)] 206):=aL ..
 have TG:=Lib.hid (tg.below hob)
 have HC2:=Lib.hid (HC0.out.below hb2.out)
 clear hb1 hb1' hob tg HX x0 HB hws HT
 replace HN:=Lib.hid (HN.out g)
 generalize w1.heap.size=tb at *
 generalize w1.alloc _=W2 at *
 have t0:=BT.out.cell 0 (by simp)
 have t1:=BT.out.cell 1 (by simp)
 simp only[List.getElem_toArray,List.getElem_cons_zero,List.getElem_cons_succ]at t0 t1
 go_wp2_with (go_at_call 203;refine(HN.out _ HC2.out TG.out).mono ?_;rintro e w3 ⟨hb3,oa,oc,rfl,own⟩)
 obtain⟨-,_,_,he,-,hat⟩:=jK own
 cases he
 have S0:Hid (FQ h a c g tb r oa w w3):=⟨hb2.out.trans (hb3.mono hb2.out.size),BT.out.below hb3,HC2.out.below hb3,hat⟩
 clear hb2 hb3 BT TG HC2 HN own hat t0 t1
 go_loopw[20] (fun v wr=>∃q:Nat,q<=r.length/\v = .int .i64 q/\Hid (kr h t ((r.drop q).map (nameAt h))=R)/\Hid (FQ h a c g tb r oa w wr)) (fun v _=>r.length-(intOf v).toNat)
 case atStart=>exact⟨0,Nat.zero_le _,rfl,HP.out,S0.out⟩
 case round =>
  clear S0 HP
  obtain⟨q,hq,rfl,HI,S⟩:=hrel
  by_cases hlt:q<r.length
  case neg =>
   have HE:Hid (R=none):=by
    show _=_
    rw[<-HI.out,List.drop_of_length_le (by omega)];rfl
   go_wp2
   refine bodyPost_ret (v:=.tuple #[.string ⟨#[]⟩,.string ⟨#[]⟩,.bool false]) (by simp[results,go_sem]) rfl ?_
   exact⟨S.out.hb,.inl ⟨HE.out,rfl⟩⟩
  obtain⟨b1,o1,he,p1⟩:=S.out.it q hlt
  subst he
  obtain⟨j,hj,ej,hf⟩:=HF.out _ (List.getElem_mem hlt)
  have HST:=Lib.hid (@YZ h t r q j hlt hj ej hf)
  rw[ej]at p1
  clear ej hf
  have hfl:=HM.out _ (List.getElem_mem hj)
  obtain⟨b,off,fa,fc,ma,mc,he,m0,m1,m2,m3,hfs,_⟩:=S.out.hc j hj
  subst he
  have t0:=S.out.bt.cell 0 (by simp)
  simp only[List.getElem_toArray,List.getElem_cons_zero]at t0
  have HFS:=Lib.hid hfs
  have HSP:=Lib.hid (Y2 h[j].fields t)
  have HFI:Hid (∀w1,aK w1 fa h[j].fields->Calls Tryz.prog 204 #[.agg #[.string h[j].name,.string h[j].aO,.slice fa h[j].fields.length fc,.slice ma h[j].methods.length mc],.string t] w1 (aj w1 (.int .i64 (gN h[j].fields t)))):=fun w1 h1=>OO h[j] fa fc ma mc t w1 h1 (by omega)
  clear hfs
  generalize h[j]=x at *
  have BZ:Hid (ah (wr.alloc (.cells #[.string ⟨#[]⟩,.string ⟨#[]⟩,.slice none 0 0,.slice none 0 0] 45)) wr.heap.size _ 45):=aL ..
  have hsz:wr.heap.size<=wr.heap.size:=Nat.le_refl _
  go_upto_region 6 with (refine Dw rfl _ _ rfl wr.heap.size _ _ _ _ _ _ _ _ rfl rfl _ BZ.out rfl ?_)
  have HB2:=Lib.hid (bP (av wr (.cells #[.string ⟨#[]⟩,.string ⟨#[]⟩,.slice none 0 0,.slice none 0 0] 45)) hsz #[.string x.name,.string x.aO,.slice fa x.fields.length fc,.slice ma x.methods.length mc])
  have B2:=Lib.hid (BZ.out.setRow #[.string x.name,.string x.aO,.slice fa x.fields.length fc,.slice ma x.methods.length mc])
  have S2:=Lib.hid (S.out.below HB2.out)
  have HF2:=Lib.hid (HFS.out.below HB2.out)
  clear S BZ HB2 m0 m1 m2 m3 hsz t0 p1 HFS
  generalize (wr.alloc _).setRow wr.heap.size _=W4 at *
  generalize wr.heap.size=n2 at *
  have y0:=B2.out.cell 0 (by simp)
  have y1:=B2.out.cell 1 (by simp)
  have y2:=B2.out.cell 2 (by simp)
  have y3:=B2.out.cell 3 (by simp)
  simp only[List.getElem_toArray,List.getElem_cons_zero,List.getElem_cons_succ]at y0 y1 y2 y3
  go_upto_region 7 with (go_at_call 204;refine(HFI.out _ HF2.out).mono ?_;rintro e w5 ⟨rfl,hb5⟩)
  have S5:=Lib.hid (S2.out.below hb5)
  have F5:=Lib.hid (HF2.out.below hb5)
  have B5:=Lib.hid (B2.out.below hb5)
  clear S2 HF2 B2 hb5 y0 y1 y2 y3 HFI
  rcases HSP.out with ⟨e1,e2⟩ | ⟨k,hk,e2,e1⟩
  ·rw[e2]
   have HN2:=Lib.hid (HST.out.1 e1)
   clear e1 e2 HSP HST
   go_wp2
   go_roundw
   case rel=>exact⟨q+1,by omega,by go_num,by show _=_;rw[<-HN2.out];exact HI.out,S5.out⟩
   case measure=>simp[intOf];omega
  ·rw[e2]
   have HR:Hid (R=some (x.name,x.fields[k])):=by show _=_;rw[<-HI.out,HST.out.2 _ e1]
   clear e1 e2 HSP HST HI
   obtain⟨b6,o6,he,f0,f1⟩:=F5.out k hk
   subst he
   have HBF:=Lib.hid S5.out.hb
   generalize x.fields[k]=y at *
   have t1:decide ((0:Int)<=(k:Int))=true:=by simp
   go_upto_region 8 with (fail)
   have hne:Nonempty (WB w5):=⟨⟨w5,Below.refl _ _⟩⟩
   have k0:∀o:WB w5,o.u.cell? ⟨n2,0,none⟩=some (.string x.name):=fun o=>(B5.out.below o.h).cell 0 (by simp)
   have k2:∀o:WB w5,o.u.cell? ⟨n2,2,none⟩=some (.slice (some ⟨b6,o6,none⟩) x.fields.length fc):=fun o=>(B5.out.below o.h).cell 2 (by simp)
   have k3:∀o:WB w5,o.u.cell? ⟨b6,o6+k*2+1,none⟩=some (.string y.type):=fun o=>cell_below o.h f1
   refine bJ w5 (by kernel_rfl) ?_
   repeat (go_big_quiet_step (fail))
   refine wpQuiet_nil ?_
   intro _ hw'
   obtain⟨o,rfl⟩:=hw'
   have hb:=HBF.out.trans (o.h.mono HBF.out.size)
   clear k0 k2 k3
   go_wp2
   refine bodyPost_ret (v:=.tuple #[.string x.name,.string y.type,.bool true]) (by simp[results,go_sem]) rfl ?_
   exact⟨hb,.inr ⟨x.name,y,HR.out,rfl⟩⟩
end Go.Proofs.YtjnbddedmbhiaaaGreatDoor
