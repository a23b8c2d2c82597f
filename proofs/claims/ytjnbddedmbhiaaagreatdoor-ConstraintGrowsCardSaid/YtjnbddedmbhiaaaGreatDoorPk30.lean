/-
  The program's subclasses: plain part, and memory.
-/
import Derived.Test.YtjnbddedmbhiaaaGreatDoorPk27
import Derived.Test.YtjnbddedmbhiaaaGreatDoorPk23
namespace Go.Proofs.YtjnbddedmbhiaaaGreatDoor
open Go.RowKit Go.ak Go.AM

theorem Up.pos{h:List ae}{i x:Int}(k:Up h i x):0<=x:=by
 induction k with
 |refl h0=>exact h0
 |step _ _ ih=>exact ih
def yI(h:List ae)(j:Int)(i:Nat):Bool:=decide (0<=j)&&h[i]?.elim false (fun x=>decide (aI h x.name=(i:Int))&&decide (eY h x=j))
def dY(h:List ae)(m:Nat)(j:Int):List Int:=fU m (yI h j)
theorem XA(h:List ae):dY h 0=fun _=>[]:=by funext j;rfl
theorem yH{h:List ae}{i:Nat}(hi:i<h.length)(j:Int):yI h j i=true↔0<=j/\aI h h[i].name=(i:Int)/\eY h h[i]=j:=by
 unfold yI
 rw[List.getElem?_eq_getElem hi]
 simp
theorem Xz{h:List ae}{i:Nat}(hi:i<h.length)(h1:aI h h[i].name=(i:Int))(h2:0<=eY h h[i]):dY h (i+1)=fun j=>if j=eY h h[i]then dY h i (eY h h[i])++[(i:Int)]else dY h i j:=by
 funext j
 unfold dY
 by_cases e:j=eY h h[i]
 ·subst e
  rw[if_pos rfl,NR ((yH hi _).2 ⟨h2,h1,rfl⟩)]
 ·rw[if_neg e,F4]
  cases hb:yI h j i with
  |false=>rfl
  |true=>exact absurd ((yH hi j).1 hb).2.2.symm e
theorem XB{h:List ae}{i:Nat}(hi:i<h.length)(hn:¬ (0<=eY h h[i]/\aI h h[i].name=(i:Int))):dY h (i+1)=dY h i:=by
 funext j
 unfold dY
 rw[F4]
 cases hb:yI h j i with
 |false=>rfl
 |true =>
  obtain⟨h1,h2,h3⟩:=(yH hi j).1 hb
  exact absurd ⟨h3▸h1,h2⟩ hn
theorem Nh(h:List ae)(m:Nat)(j:Int):(dY h m j).length<=m:=A7 _ _
theorem Ng{h:List ae}{j x:Int}:x∈dY h h.length j↔cu h x/\0<=j/\eH h x=j:=by
 unfold dY
 rw[NU]
 constructor
 ·rintro⟨i,hi,hb,rfl⟩
  obtain⟨h1,h2,h3⟩:=(yH hi j).1 hb
  exact⟨⟨i,hi,rfl,h2⟩,h1,by rw[Dn hi];exact h3⟩
 ·rintro⟨⟨i,hi,rfl,h2⟩,h1,h3⟩
  rw[Dn hi]at h3
  exact⟨i,hi,(yH hi j).2 ⟨h1,h2,h3⟩,rfl⟩
structure BF(h:List ae)(r:Int)(D L:List Int):Prop where
 nd:L.Nodup
 rt:r∈L
 sb:∀x∈L,Qy h r x
 cl:∀y∈D,∀x∈dY h h.length y,x∈L
theorem BF.start{h:List ae}{r:Int}(k:cu h r):BF h r [] [r] :=
 ⟨by simp,by simp,fun x hx=>by rw[List.mem_singleton.1 hx];exact⟨k,.refl k.ge⟩,fun _ h=>(by cases h)⟩
theorem BF.push{h:List ae}{r:Int}{D L:List Int}{x y:Int}(k:BF h r D L)(hy:y∈L)(hx:x∈dY h h.length y)(hn:x∉L):BF h r D (L++[x]):=by
 obtain⟨h1,h2,h3⟩:=Ng.1 hx
 refine⟨?_,List.mem_append_left _ k.rt,fun z hz=>?_,fun y hy x hx=>List.mem_append_left _ (k.cl y hy x hx)⟩
 ·rw[List.nodup_append]
  exact⟨k.nd,by simp,fun a ha b hb e=>by rw[List.mem_singleton.1 hb]at e;exact hn (e▸ha)⟩
 ·rcases List.mem_append.1 hz with hz | hz
  ·exact k.sb z hz
  ·rw[List.mem_singleton.1 hz]
   exact⟨h1,.step h1.ge (by rw[h3];exact(k.sb y hy).2)⟩
theorem BF.next{h:List ae}{r:Int}{D L:List Int}{y:Int}(k:BF h r D L)(hy:∀x∈dY h h.length y,x∈L):BF h r (D++[y]) L :=
 ⟨k.nd,k.rt,k.sb,fun z hz=>by
   rcases List.mem_append.1 hz with hz | hz
   ·exact k.cl z hz
   ·rw[List.mem_singleton.1 hz];exact hy⟩
theorem BF.all{h:List ae}{r:Int}{L:List Int}(k:BF h r L L){x:Int}(hx:Up h x r):cu h x->x∈L:=by
 generalize hr:r=r' at hx
 induction hx with
 |refl _=>intro _;subst hr;exact k.rt
 |step h0 hu ih =>
  intro hf
  have hs:=hu.ge
  have:=ih hr (Dq hs)
  exact k.cl _ this _ (Ng.2 ⟨hf,hs,rfl⟩)
theorem BF.done{h:List ae}{r:Int}{L:List Int}(k:BF h r L L):su h r L:=⟨k.nd,fun x=>⟨k.sb x,fun hx=>k.all hx.2 hx.1⟩⟩
theorem BF.len{h:List ae}{r:Int}{D L:List Int}(k:BF h r D L):L.length<=h.length:=rD _ _ k.nd (fun x hx=>(k.sb x hx).1.nat)
theorem Sk(h:List ae){r:Int}(hr:¬ 0<=r):su h r []:=⟨by simp,fun x=>⟨fun h=>(by cases h),fun hx=>absurd hx.2.pos hr⟩⟩
def gY(F:Int->Option Value)(j:Int):Value:=(F j).getD (.slice none 0 0)
structure kK(w:World)(base gm:Nat)(K:Int->List Int)(F:Int->Option Value)(n:Nat):Prop where
 mp:bC w gm (Value.int .i64) F n
 ow:∀j,w.ownsRow base 3 1 (gY F j) (K j).length ((K j).map bT)
 ap:∀(i j:Int) (q:Nat),i≠j->(gY F i).ownBlock=some q->(gY F j).ownBlock=some q->False
theorem kK.below{w w':World}{base gm:Nat}{K:Int->List Int}{F:Int->Option Value}{n:Nat}(k:kK w base gm K F n)(hb:Below w.heap.size w w'):kK w' base gm K F n :=
 ⟨k.mp.below hb,fun j=>gL (k.ow j) hb,k.ap⟩
theorem kK.start{w:World}{base gm:Nat}(hm:bC w gm (Value.int .i64) (fun _=>none) 0):kK w base gm (fun _=>[]) (fun _=>none) 0 :=
 ⟨hm,fun _=>World.ownsRow_nil _ _ _ _,fun i j q _ e=>by simp[gY,Value.ownBlock]at e⟩
theorem kK.more{w:World}{base gm:Nat}{K:Int->List Int}{F:Int->Option Value}{n m:Nat}(k:kK w base gm K F n)(hm:n<=m):kK w base gm K F m:=⟨Go.Proofs.YtjnbddedmbhiaaaGreatDoor.more k.mp hm,k.ow,k.ap⟩
theorem kK.put{w w1 w2:World}{base gm:Nat}{K:Int->List Int}{F:Int->Option Value}{n:Nat}(k:kK w base gm K F n){j:Int}{v':Value}{y:Int}
 (ow:w1.ownsRow base 3 1 v' (K j++[y]).length ((K j++[y]).map bT)) (hg:w.grownBy w1 (gY F j).ownBlock) (hfr:v'.ownBlock=(gY F j).ownBlock∨v'.ownBlock=some w.heap.size)
 (hm:bC w2 gm (Value.int .i64) (fun k'=>if k' = j then some v' else F k') (n+1)) (hg2:w1.grownBy w2 (some gm)) :
 kK w2 base gm (fun k'=>if k' = j then K j++[y]else K k') (fun k'=>if k' = j then some v' else F k') (n+1):=by
 have m1:bC w1 gm (Value.int .i64) F n:=k.mp.grown hg (rq (k.ow j) k.mp)
 have old:∀(i:Int) (q:Nat),(gY F i).ownBlock=some q->q<w.heap.size:=fun i q e=>((k.ow i).lt q e).2
 have e1:gY (fun k'=>if k' = j then some v' else F k') j=v':=by simp[gY]
 have e2:∀i,i≠j->gY (fun k'=>if k' = j then some v' else F k') i=gY F i:=fun i hi=>by simp[gY,hi]
 refine⟨hm,fun i=>?_,fun i i' q hne=>?_⟩
 ·by_cases e:i=j
  ·subst e
   rw[e1,if_pos rfl]
   exact oO ow m1 hg2
  ·rw[e2 i e,if_neg e]
   have o1:w1.ownsRow base 3 1 (gY F i) (K i).length ((K i).map bT):=(k.ow i).kept hg (by
    cases hv:(gY F i).ownBlock with
    |none=>exact .inl rfl
    |some q=>exact .inr (fun e2=>k.ap i j q e hv e2.symm))
   exact oO o1 m1 hg2
 ·by_cases c1:i=j
  ·have c2:¬ i' = j:=fun e=>hne (c1.trans e.symm)
   subst c1
   rw[e1,e2 i' c2]
   intro k1 k2
   rcases hfr with hr | hr
   ·exact k.ap i i' q hne (hr▸k1) k2
   ·rw[hr]at k1
    have:=old i' q k2
    cases k1
    omega
  ·rw[e2 i c1]
   by_cases c2:i' = j
   ·subst c2
    rw[e1]
    intro k1 k2
    rcases hfr with hr | hr
    ·exact k.ap i i' q hne k1 (hr▸k2)
    ·rw[hr]at k2
     have:=old i q k1
     cases k2
     omega
   ·rw[e2 i' c2]
    exact k.ap i i' q hne

theorem zP:Tryz.prog.underlying 268=some (.map 3 28):=by kernel_rfl
theorem Iu(w:World):(zeroValue 28).run Tryz.prog w = .ok (.slice none 0 0) w:=by kernel_rfl
theorem TB.grown{h:List ae}{a:Option Addr}{c g:Nat}{w wr w':World}{row:Option Nat}(hc:ay w a h)(tg:TabAt w g h)(k:TB h a c g w wr)(hg:wr.grownBy w' row)(hr:∀q,row=some q->w.heap.size<q):TB h a c g w w' :=
 have hb:=k.hb.grown hg k.hb.size (fun q hq=>Nat.le_of_lt (hr q hq))
 ⟨hb,k.b1.grown hg (fun e=>absurd (hr _ e.symm) (Nat.lt_irrefl _)),hc.below hb,tg.below hb⟩
structure SG(h:List ae)(a:Option Addr)(c g gm:Nat)(w wr:World)(i:Nat)(F:Int->Option Value):Prop where
 tb:TB h a c g w wr
 km:kK wr (w.heap.size+1) gm (dY h i) F i
 gg:w.heap.size<gm
theorem SG.below{h:List ae}{a:Option Addr}{c g gm:Nat}{w wr w':World}{i:Nat}{F:Int->Option Value}(k:SG h a c g gm w wr i F)(hb:Below wr.heap.size wr w'):SG h a c g gm w w' i F:=⟨k.tb.below hb,k.km.below hb,k.gg⟩
structure SQ(h:List ae)(r:Int)(W2 wr:World)(gs:Nat)(D L:List Int)(oa:Option Addr)(oc:Nat):Prop where
 hb:Below W2.heap.size W2 wr
 mp:bC wr gs (Value.int .i64) (fK L) L.length
 ow:wr.ownsRow W2.heap.size 3 1 (.slice oa L.length oc) L.length (L.map bT)
 gg:W2.heap.size<=gs
 bf:BF h r D L
def Qx(h:List ae)(r:Int)(w:World)(e:Ending)(w':World):Prop :=
 Below w.heap.size w w'/\∃(l:List Int) (oa:Option Addr) (oc:Nat),e = .returned (.slice oa l.length oc)/\su h r l/\w'.ownsRow w.heap.size 3 1 (.slice oa l.length oc) l.length (l.map bT)
set_option maxRecDepth 100000 in
set_option maxHeartbeats 8000000 in
theorem RF(h:List ae)(s:Str)(a:Option Addr)(c g:Nat)(w:World)(hc:ay w a h)(hl:h.length<=100000)(hg:TabAt w g h) :
 Calls Tryz.prog 133 #[.agg #[.slice a h.length c,.map (some g)],.string s] w (Qx h (aI h s) w):=by
 have S:=Lib.hid (TB.start (c:=c) hc hg)
 have HZ:Hid ((w.alloc (.cells #[.slice a h.length c,.map (some g)] 206)).heap.size=w.heap.size+1):=by show _=_;simp
 have HF:Hid (∀(t:Str) (w1:World),TabAt w1 g h->Calls Tryz.prog 114 #[.agg #[.slice a h.length c,.map (some g)],.string t] w1 (aj w1 (.int .i64 (aI h t)))):=fun t w1 h1=>uW h t a c g w1 h1
 have HSU:Hid (∀(j:Nat) (hj:j<h.length) (w1:World),ay w1 a h->TabAt w1 g h->Calls Tryz.prog 185 #[.agg #[.slice a h.length c,.map (some g)],.int .i64 j] w1 (aj w1 (.int .i64 (eY h h[j])))):=fun j hj w1 h1 h2=>Jz h a c g j hj w1 h1 hl h2
 have HC0:=Lib.hid hc
 have HT0:=Lib.hid hg
 have HSN:=Lib.hid (@Sk h (aI h s))
 have HFS:Hid (0<=aI h s->BF h (aI h s) [] [aI h s]):=fun k=>BF.start (Bn k)
 have HFR:=Lib.hid (HF.out s)
 clear hc hg
 generalize aI h s=r at *
 go_enter Tryz.func133,Tryz.ntmps133
 go_upto_region 1 with (fail)
 generalize w.alloc _=W at *
 obtain⟨z0,z1⟩:=S.out.now (Below.refl _ _)
 go_upto_region 2 with (go_at_call 114;refine(HFR.out _ S.out.tg).mono ?_;rintro e w1 ⟨rfl,hb1⟩)
 have hWs:w.heap.size<W.heap.size:=by rw[HZ.out];omega
 have hW1:w.heap.size<w1.heap.size:=Nat.lt_of_lt_of_le hWs hb1.size
 have S1:=Lib.hid (S.out.below hb1)
 clear S hb1 z0 z1 HFR HZ
 by_cases hr:0<=r
 case neg =>
  have t1:decide (r<0)=true:=decide_eq_true (by omega)
  have HN:=Lib.hid (HSN.out (by omega))
  clear hr
  go_wp2
  go_ret
  exact⟨S1.out.hb,[],none,0,rfl,HN.out,World.ownsRow_nil _ _ _ _⟩
 have t1:decide (r<0)=false:=decide_eq_false (by omega)
 have BF0:=Lib.hid (HFS.out hr)
 clear hr HSN HFS
 go_upto_region 5 with (refine sH rfl 268 rfl zP (Value.int .i64) ?_;intro hmp)
 have R0:Hid (SG h a c g w1.heap.size w (w1.alloc (.map #[] 0)) 0 (fun _=>none)):=⟨S1.out.below (av ..),by rw[XA];exact kK.start hmp,hW1⟩
 clear t1 hmp S1 hW1 hWs
 generalize w1.heap.size=gm at *
 generalize w1.alloc (.map #[] 0)=W1 at *
 obtain⟨z0,z1⟩:=R0.out.tb.now (Below.refl _ _)
 go_wp2
 clear z0 z1
 go_loopw[24] (fun v wr=>∃(i:Nat) (F:Int->Option Value),i<=h.length/\v = .int .i64 i/\Hid (SG h a c g gm w wr i F)) (fun v _=>h.length-(intOf v).toNat)
 case atStart=>exact⟨0,_,Nat.zero_le _,rfl,R0.out⟩
 case round =>
  clear R0
  obtain⟨i,F,hi,rfl,R⟩:=hrel
  by_cases hlt:i<h.length
  case pos =>
   have HKT:=Lib.hid (@Xz h i hlt)
   have HKF:=Lib.hid (@XB h i hlt)
   have HSI:=Lib.hid (HSU.out i hlt)
   have HFN:=Lib.hid (HF.out h[i].name)
   obtain⟨b,off,fa,fc,ma,mc,he,m0,m1,m2,m3,_,_⟩:=R.out.tb.hc i hlt
   subst he
   generalize eY h h[i]=up at *
   generalize aI h h[i].name=fi at *
   generalize h[i]=x at *
   have BZ:Hid (ah (wr.alloc (.cells #[.string ⟨#[]⟩,.string ⟨#[]⟩,.slice none 0 0,.slice none 0 0] 45)) wr.heap.size _ 45):=aL ..
   have hsz:wr.heap.size<=wr.heap.size:=Nat.le_refl _
   go_upto_region 8 with (refine Dw rfl _ _ rfl wr.heap.size _ _ _ _ _ _ _ _ rfl rfl _ BZ.out rfl ?_)
   have HB2:=Lib.hid (bP (av wr (.cells #[.string ⟨#[]⟩,.string ⟨#[]⟩,.slice none 0 0,.slice none 0 0] 45)) hsz #[.string x.name,.string x.aO,.slice fa x.fields.length fc,.slice ma x.methods.length mc])
   have B2:=Lib.hid (BZ.out.setRow #[.string x.name,.string x.aO,.slice fa x.fields.length fc,.slice ma x.methods.length mc])
   have R2:=Lib.hid (R.out.below HB2.out)
   clear R BZ HB2 m0 m1 m2 m3 hsz
   generalize (wr.alloc _).setRow wr.heap.size _=W2 at *
   generalize wr.heap.size=n2 at *
   obtain⟨z0,z1⟩:=R2.out.tb.now (Below.refl _ _)
   go_upto_region 9 with (go_at_call 185;refine(HSI.out _ R2.out.tb.hc R2.out.tb.tg).mono ?_;rintro e w3 ⟨rfl,hb3⟩)
   have R3:=Lib.hid (R2.out.below hb3)
   have B3:=Lib.hid (B2.out.below hb3)
   clear R2 B2 hb3 z0 z1 HSI
   by_cases hup:0<=up
   case neg =>
    have t2:decide (0<=up)=false:=decide_eq_false hup
    have R4:Hid (SG h (some ⟨b,off,none⟩) c g gm w w3 (i+1) F):=⟨R3.out.tb,by rw[HKF.out (fun e=>hup e.1)];exact R3.out.km.more (Nat.le_succ _),R3.out.gg⟩
    clear hup R3 HKT HKF
    go_wp2
    go_roundw
    case rel=>exact⟨i+1,F,by omega,by go_num,R4.out⟩
    case measure=>simp[intOf];omega
   have t2:decide (0<=up)=true:=decide_eq_true hup
   have HUP:=Lib.hid hup
   clear hup
   obtain⟨z0,z1⟩:=R3.out.tb.now (Below.refl _ _)
   have y0:=B3.out.cell 0 (by simp)
   simp only[List.getElem_toArray,List.getElem_cons_zero]at y0
   by_cases hfi:fi=(i:Int)
   case neg =>
    have t3:(fi==(i:Int))=false:=by simpa using hfi
    have HKN:=Lib.hid (HKF.out (fun e=>hfi e.2))
    clear hfi HKT HKF
    go_wp2_with (go_at_call 114;refine(HFN.out _ R3.out.tb.tg).mono ?_;rintro e w4 ⟨rfl,hb4⟩)
    have R4:Hid (SG h (some ⟨b,off,none⟩) c g gm w w4 (i+1) F):=⟨R3.out.tb.below hb4,by rw[HKN.out];exact(R3.out.km.below hb4).more (Nat.le_succ _),R3.out.gg⟩
    clear hb4 R3
    go_roundw
    case rel=>exact⟨i+1,F,by omega,by go_num,R4.out⟩
    case measure=>simp[intOf];omega
   have t3:(fi==(i:Int))=true:=by simpa using hfi
   have HKN:=Lib.hid (HKT.out hfi HUP.out)
   clear hfi HKT HKF
   go_upto_region 10 with (go_at_call 114;refine(HFN.out _ R3.out.tb.tg).mono ?_;rintro e w4 ⟨rfl,hb4⟩)
   have R4:=Lib.hid (R3.out.below hb4)
   clear R3 B3 hb4 z0 z1 y0 t2 t3 HFN
   obtain⟨-,va,vc,hve,hvc,-⟩:=jK (R4.out.km.ow up)
   have HV:Hid ((F up).getD (.slice none 0 0) = .slice va (dY h i up).length vc):=hve
   have HVB:Hid (gY F up = .slice va (dY h i up).length vc):=hve
   have hkl:=Nh h i up
   have K6:=Lib.hid (R4.out.km.below (av w4 (.cells #[.int .i64 i] 3)))
   have T6:=Lib.hid (R4.out.tb.below (av w4 (.cells #[.int .i64 i] 3)))
   have B6:Hid (ah (w4.alloc (.cells #[.int .i64 i] 3)) w4.heap.size #[.int .i64 i] 3):=aL ..
   have OW6:Hid ((w4.alloc (.cells #[.int .i64 i] 3)).ownsRow (w.heap.size+1) 3 1 (.slice va (dY h i up).length vc) (dY h i up).length ((dY h i up).map bT)):=by
    have:=K6.out.ow up
    rw[HVB.out]at this
    exact this
   have hgg:=R4.out.gg
   have hbs6:w.heap.size+1<=(w4.alloc (.cells #[.int .i64 i] 3)).heap.size:=Nat.le_trans (Nat.succ_le_of_lt hgg) (Nat.le_of_lt K6.out.mp.lt)
   have HKP:Hid (∀(W7 W8:World) (v7:Value),W7.ownsRow (w.heap.size+1) 3 1 v7 (dY h i up++[(i:Int)]).length ((dY h i up++[(i:Int)]).map bT)->(w4.alloc (.cells #[.int .i64 i] 3)).grownBy W7 (gY F up).ownBlock->(v7.ownBlock=(gY F up).ownBlock∨v7.ownBlock=some (w4.alloc (.cells #[.int .i64 i] 3)).heap.size) ->
    bC W8 gm (Value.int .i64) (fun k'=>if k' = up then some v7 else F k') (i+1)->W7.grownBy W8 (some gm)->kK W8 (w.heap.size+1) gm (dY h (i+1)) (fun k'=>if k' = up then some v7 else F k') (i+1)):=fun W7 W8 v7 h1 h2 h3 h4 h5=>by
    rw[HKN.out]
    exact K6.out.put h1 h2 h3 h4 h5
   clear hve hvc HKN
   generalize dY h i up=cK at *
   go_wp2_with (first | (at_lookup;refine jX rfl _ _ _ _ rfl j5 zP _ (Iu _) gm rfl R4.out.km.mp up rfl ?_;rw[HV.out]) | (at_builtin;refine y1U rfl _ _ rfl (w.heap.size+1) _ cK rfl OW6.out w4.heap.size i rfl B6.out (by omega) hbs6 ?_;intro v7 W7 own7 hg7 hfr7;have M7:=K6.out.mp.grown hg7 (rq OW6.out K6.out.mp)) | (at_mapUpdate;refine jW rfl _ _ _ _ rfl j5 zP gm rfl M7 up rfl v7 rfl ?_;intro W8 hm8 hg8 hs8))
   have R8:Hid (SG h (some ⟨b,off,none⟩) c g gm w W8 (i+1) (fun k'=>if k' = up then some v7 else F k')):=by
    refine⟨?_,?_,hgg⟩
    ·refine TB.grown HC0.out HT0.out (TB.grown HC0.out HT0.out T6.out hg7 (fun q hq=>?_)) hg8 (fun q hq=>by cases hq;exact hgg)
     have:=(OW6.out.lt q hq).1
     omega
    ·have h7:(w4.alloc (.cells #[.int .i64 i] 3)).grownBy W7 (gY F up).ownBlock:=by rw[HVB.out];exact hg7
     have f7:v7.ownBlock=(gY F up).ownBlock∨v7.ownBlock=some (w4.alloc (.cells #[.int .i64 i] 3)).heap.size:=by rw[HVB.out];exact hfr7
     exact HKP.out W7 W8 v7 own7 h7 f7 hm8 hg8
   go_roundw
   case rel=>exact⟨i+1,_,by omega,by go_num,R8.out⟩
   case measure=>simp[intOf];omega
  case neg =>
   obtain rfl:i=h.length:=by omega
   have HBW:=Lib.hid R.out.tb.hb
   have KM:=Lib.hid R.out.km
   clear R hlt hi
   generalize hW2:wr=W2 at *
   clear hW2
   go_upto_region 13 with (fail)
   have OW0:Hid ((W2.alloc (.cells #[.int .i64 r] 3)).ownsRow W2.heap.size 3 1 (.slice (some ⟨W2.heap.size,0,none⟩) 1 1) 1 [bT r]):=⟨rfl,.inr ⟨W2.heap.size,1,_,rfl,Nat.le_refl _,aL ..,Nat.le_refl _,by unfold maxLen;omega,rfl,rfl⟩⟩
   have HB0:=Lib.hid (av W2 (.cells #[.int .i64 r] 3))
   generalize W2.alloc (.cells #[.int .i64 r] 3)=W3 at *
   go_upto_region 14 with (first | (refine sH rfl 105 rfl jG (Value.int .i64) ?_;intro hmp) | (refine QX rfl _ _ _ 105 rfl j5 jG W3.heap.size rfl hmp r rfl (.bool true) rfl ?_;intro W4 hm4 hg4 hs4))
   have hb4:Below W3.heap.size W3 W4:=(av W3 (.map #[] 0)).grown hg4 (by simp) (fun q hq=>by cases hq;exact Nat.le_refl _)
   have MP4:Hid (bC W4 W3.heap.size (Value.int .i64) (fK [r]) 1):=by
    have:=hm4
    have e:=zY [] r
    rw[<-Kn]at e
    rw[show fK [r]=_ from e.symm]
    exact this
   have R0:Hid (SQ h r W2 W4 W3.heap.size [] [r] (some ⟨W2.heap.size,0,none⟩) 1):=⟨HB0.out.trans (hb4.mono HB0.out.size),MP4.out,gL OW0.out hb4,HB0.out.size,BF0.out⟩
   clear hmp hm4 hg4 hs4 hb4 MP4 OW0 HB0
   generalize W3.heap.size=gs at *
   go_wp2
   go_loopw[10,12] (fun v i wr=>∃(k:Nat) (L:List Int) (oa:Option Addr) (oc:Nat),k<=L.length/\v = .slice oa L.length oc/\i = .int .i64 k/\Hid (SQ h r W2 wr gs (L.take k) L oa oc)) (fun _ i _=>h.length-(intOf i).toNat)
   case atStart=>exact⟨0,[r],_,_,Nat.zero_le _,rfl,rfl,R0.out⟩
   case round =>
    clear R0
    obtain⟨k,L,oa,oc,hk,rfl,rfl,R⟩:=hrel
    have hll:=R.out.bf.len
    by_cases hkl:k<L.length
    case neg =>
     have HD:Hid (su h r L):=by
      have:=R.out.bf
      rw[List.take_of_length_le (by omega)]at this
      exact this.done
     go_wp2
     go_ret
     exact⟨HBW.out.trans (R.out.hb.mono HBW.out.size),L,oa,oc,rfl,HD.out,rf R.out.ow HBW.out.size⟩
    obtain⟨b1,o1,he,p1⟩:=(Al R.out.ow).2 k hkl
    subst he
    have HT:=Lib.hid (List.take_succ_eq_append_getElem hkl)
    have HY:=Lib.hid (List.getElem_mem hkl)
    generalize L[k]=y at *
    have KW:=Lib.hid (KM.out.below R.out.hb)
    obtain⟨-,va,vc,hve,hvc,hvi⟩:=jK (KM.out.ow y)
    have HV:Hid ((F y).getD (.slice none 0 0) = .slice va (dY h h.length y).length vc):=hve
    have HVI:=Lib.hid hvi
    have hkn:=Nh h h.length y
    have HPU:Hid (∀(z:Int) (D L2:List Int),z∈dY h h.length y->BF h r D L2->y∈L2->z∉L2->BF h r D (L2++[z])):=fun z D L2 h1 h2 h3 h4=>h2.push h3 h1 h4
    have HNX:Hid (∀(D L2:List Int),BF h r D L2->(∀z∈dY h h.length y,z∈L2)->BF h r (D++[y]) L2):=fun D L2 h1 h2=>h1.next h2
    clear hve hvc hvi
    generalize dY h h.length y=Kd at *
    go_wp2_with (at_lookup;refine jX rfl _ _ _ _ rfl j5 zP _ (Iu _) gm rfl KW.out.mp y rfl ?_;rw[HV.out])
    clear p1 KW
    obtain⟨wo,rfl⟩:∃wo,wo=wr:=⟨_,rfl⟩
    go_loopw[10,69] (fun v i wr=>∃(p:Nat) (L2:List Int) (oa:Option Addr) (oc:Nat),p<=Kd.length/\v = .slice oa L2.length oc/\i = .int .i64 p/\L.length<=L2.length/\Hid (SQ h r W2 wr gs (L.take k) L2 oa oc)/\Hid (L2.take (k+1)=L.take (k+1))/\Hid (∀z∈Kd.take p,z∈L2)/\Hid (y∈L2)) (fun _ i _=>Kd.length-(intOf i).toNat)
    case atStart=>exact⟨0,L,_,_,Nat.zero_le _,rfl,rfl,Nat.le_refl _,R.out,rfl,(by show ∀_,_;simp),HY.out⟩
    case round =>
     clear R HY
     obtain⟨p,L2,oa,oc,hp,rfl,rfl,hL2,R,HTK,HQ,HX⟩:=hrel
     have hll2:=R.out.bf.len
     by_cases hpl:p<Kd.length
     case neg =>
      have R2:Hid (SQ h r W2 wr gs (L2.take (k+1)) L2 oa oc):=⟨R.out.hb,R.out.mp,R.out.ow,R.out.gg,by rw[HTK.out,HT.out];exact HNX.out _ _ R.out.bf (fun z hz=>HQ.out z (by rw[List.take_of_length_le (by omega)];exact hz))⟩
      clear R
      go_wp2
      go_roundw
      case rel=>exact⟨k+1,L2,oa,oc,by omega,rfl,by go_num,R2.out⟩
      case measure=>simp[intOf];omega
     obtain⟨b2,o2,he,cz⟩:=(HVI.out.below R.out.hb) p hpl
     subst he
     have HT2:=Lib.hid (List.take_succ_eq_append_getElem hpl)
     have HKZ:=Lib.hid (List.getElem_mem hpl)
     generalize Kd[p]=z at *
     by_cases hz:z∈L2
     case pos =>
      have hlk:(Instr.lookup 105 (.map (some gs)) (.int .i64 z) false).run Tryz.prog wr = .ok (.bool true) wr:=by rw[R.out.mp.lookup j5 jG (lW wr) z false];simp[fK,hz]
      have HQ2:Hid (∀x∈Kd.take (p+1),x∈L2):=fun x hx=>by
       rw[HT2.out]at hx
       rcases List.mem_append.1 hx with hx | hx
       ·exact HQ.out x hx
       ·rw[List.mem_singleton.1 hx];exact hz
      clear hz
      go_wp2
      go_roundw
      case rel=>exact⟨p+1,L2,oa,oc,by omega,rfl,by go_num,hL2,R.out,HTK.out,HQ2.out,HX.out⟩
      case measure=>simp[intOf];omega
     case neg =>
      have hlk:(Instr.lookup 105 (.map (some gs)) (.int .i64 z) false).run Tryz.prog wr = .ok (.bool false) wr:=by rw[R.out.mp.lookup j5 jG (lW wr) z false];simp[fK,hz]
      have HQ2:Hid (∀x∈Kd.take (p+1),x∈L2++[z]):=fun x hx=>by
       rw[HT2.out]at hx
       rcases List.mem_append.1 hx with hx | hx
       ·exact List.mem_append_left _ (HQ.out x hx)
       ·exact List.mem_append_right _ hx
      have BF2:=Lib.hid (HPU.out z _ _ HKZ.out R.out.bf HX.out hz)
      have HTK2:Hid ((L2++[z]).take (k+1)=L.take (k+1)):=by show _=_;rw[List.take_append_of_le_length (by omega)];exact HTK.out
      clear hz
      go_upto_region 22 with (at_mapUpdate;refine jW rfl _ _ _ _ rfl j5 jG gs rfl R.out.mp z rfl (.bool true) rfl ?_;intro w2 hm2 hg2 hs2)
      have hb2:Below W2.heap.size W2 w2:=R.out.hb.grown hg2 R.out.hb.size (fun q hq=>by cases hq;exact R.out.gg)
      have MP2:Hid (bC w2 gs (Value.int .i64) (fK (L2++[z])) (L2.length+1)):=by rw[zY]at hm2;exact hm2
      have OW2:=Lib.hid (oO R.out.ow R.out.mp hg2)
      have hgg:=R.out.gg
      have hT2:L2.length<=1000000:=by omega
      clear R hm2 hg2 hs2 hlk HQ
      have O3:=Lib.hid (gL OW2.out (av w2 (.cells #[.int .i64 z] 3)))
      have M3:=Lib.hid (MP2.out.below (av w2 (.cells #[.int .i64 z] 3)))
      have hb3:Below W2.heap.size W2 (w2.alloc (.cells #[.int .i64 z] 3)):=hb2.trans ((av ..).mono hb2.size)
      have hbs3:=hb3.size
      go_wp2_with (at_builtin;refine uE rfl _ _ rfl W2.heap.size _ L2 rfl O3.out _ 1 [z] rfl (tZ _ _) hT2 (by simp) hbs3 ?_;intro v7 W7 own7 hg7;obtain⟨-,oa7,oc7,rfl,-,-⟩:=jK own7)
      have R8:Hid (SQ h r W2 W7 gs (L.take k) (L2++[z]) oa7 oc7) :=
       ⟨hb3.grown hg7 hbs3 (fun q hq=>(O3.out.lt q hq).1),by simpa using M3.out.grown hg7 (rq O3.out M3.out),own7,hgg,BF2.out⟩
      go_roundw
      case rel=>exact⟨p+1,L2++[z],oa7,oc7,by omega,(by first | rfl | simp),by go_num,(by simp;omega),R8.out,HTK2.out,HQ2.out,List.mem_append_left _ HX.out⟩
      case measure=>simp[intOf];omega
end Go.Proofs.YtjnbddedmbhiaaaGreatDoor
namespace Go.Proofs.YtjnbddedmbhiaaaGreatDoor
open Go.RowKit Go.ak Go.Sort

theorem Pn(l:List ByteArray):(dH l).length<=l.length:=by
 have:=Lib.compact_length_le (l.map bl)
 simpa[dH]using this
theorem JY(l:List ByteArray)(a:Option Addr)(c:Nat)(w0 w:World)(hb:Below w0.heap.size w0 w)(own:w.ownsRow w0.heap.size 9 1 (.slice a l.length c) l.length (l.map Value.string))(hl:l.length<=1000000) :
 Calls Tryz.prog 26 #[.slice a l.length c] w (fun e w'=>e = .returned (.tuple #[])/\QB w0 w (cZ l) a c w'):=by
 have own0:=own
 obtain⟨_,hown⟩:=own
 rcases hown with ⟨e,h0⟩ | ⟨g,cap,cur,e,hbase,hh,hn,hcap,hsz,ht⟩
 ·have hl0:l=[]:=List.eq_nil_of_length_eq_zero h0
  subst hl0
  cases e
  have e0:cZ []=[]:=by simp[cZ]
  rw[e0]
  refine(Tryz.slices_Sort_string_none none 0 w).mono ?_
  rintro e w' ⟨rfl,rfl⟩
  exact⟨rfl,hb,own0,fun _ _ _ h _=>h⟩
 ·cases e
  rw[JS]at ht
  have hlen:(l.map bl).length=l.length:=List.length_map _
  have hH:=holds_of_block (ss:=l.map bl) hh (by rw[hlen,<-ht,Nat.mul_one])
  have h:=Tryz.slices_Sort_string g 0 c (l.map bl) w hH (Array.getElem?_eq_some_iff.1 hh).1 (by omega)
  rw[hlen]at h
  refine h.mono ?_
  rintro e w' ⟨rfl,n,os,rfl⟩
  have hs:((l.map bl).mergeSort fun x y=>decide (x<=y)).length=(l.map bl).length:=by simp
  have ow:=ownsRow_sorted (n:=n) (os:=os) (ts:=(l.map bl).mergeSort fun x y=>decide (x<=y)) hs hbase hh (by omega) hcap hsz
  have hg:=grownBy_sorted (w:=w) (g:=g) (n:=n) (os:=os) ((l.map bl).mergeSort fun x y=>decide (x<=y)).toArray
  rw[O4,hlen]at ow
  refine⟨rfl,vZ hb own0 hg,?_,fun g' cs t hB hne=>hB.grown hg (gD own0 hB hne)⟩
  rw[xH]
  exact ow
theorem Pm(l:List ByteArray)(a:Option Addr)(c:Nat)(w0 w:World)(hb:Below w0.heap.size w0 w)(own:w.ownsRow w0.heap.size 9 1 (.slice a l.length c) l.length (l.map Value.string))(hl:l.length<=1000000) :
 Calls Tryz.prog 27 #[.slice a l.length c] w (fun e w'=>e = .returned (.slice a (dH l).length c)/\QB w0 w (dH l) a c w'):=by
 have own0:=own
 obtain⟨_,hown⟩:=own
 rcases hown with ⟨e,h0⟩ | ⟨g,cap,cur,e,hbase,hh,hn,hcap,hsz,ht⟩
 ·have hl0:l=[]:=List.eq_nil_of_length_eq_zero h0
  subst hl0
  cases e
  have e0:dH []=[]:=by simp[dH,Lib.compact,Lib.compactUpTo]
  rw[e0]
  refine(Tryz.slices_Compact_string_empty none 0 w).mono ?_
  rintro e w' ⟨rfl,rfl⟩
  exact⟨rfl,hb,own0,fun _ _ _ h _=>h⟩
 ·cases e
  rw[JS]at ht
  have hlen:(l.map bl).length=l.length:=List.length_map _
  have hH:=holds_of_block (ss:=l.map bl) hh (by rw[hlen,<-ht,Nat.mul_one])
  have h:=Tryz.slices_Compact_string g 0 c (l.map bl) w hH (by omega) (by omega)
  rw[hlen]at h
  refine h.mono ?_
  rintro e w' ⟨rfl,n,rfl⟩
  have hcl:(Lib.compact (l.map bl)).length<=l.length:=by rw[<-hlen];exact Lib.compact_length_le _
  generalize hts:Lib.compact (l.map bl)++List.replicate (l.length-(Lib.compact (l.map bl)).length) []=ts
  have hs:ts.length=(l.map bl).length:=by rw[<-hts,hlen];simp;omega
  have ow:=ownsRow_sorted (n:=n) (os:=#[]) (ts:=ts) hs hbase hh (by omega) hcap hsz
  have hg:=grownBy_sorted (w:=w) (g:=g) (n:=n) (os:=#[]) ts.toArray
  rw[grow_empty]at ow hg
  rw[hlen]at ow
  have ht2:ts.take (Lib.compact (l.map bl)).length=Lib.compact (l.map bl):=by rw[<-hts];simp
  have ow2:=UI ow hcl (by simp)
  rw[<-List.map_take,ht2,O4]at ow2
  refine⟨by simp[dH],vZ hb own0 hg,?_,fun g' cs t hB hne=>hB.grown hg (gD own0 hB hne)⟩
  have:(dH l).length=(Lib.compact (l.map bl)).length:=by simp[dH]
  rw[this]
  exact ow2
end Go.Proofs.YtjnbddedmbhiaaaGreatDoor
namespace Go.Proofs.YtjnbddedmbhiaaaGreatDoor
open Go.RowKit Go.ak Go.AM

def Ib(S:Str->Prop)(m:Nat)(w:World)(e:Ending)(w':World):Prop :=
 Below w.heap.size w w'/\∃(l:List Str) (a:Option Addr) (c:Nat),e = .returned (.slice a l.length c)/\l.length<=m/\l.length<=c/\(∀x,x∈l↔S x)/\bF w' a l
theorem Z5(l:List Str)(x:Str):x∈dH (cZ l)↔x∈l:=(ZR l).2 x
set_option maxRecDepth 100000 in
set_option maxHeartbeats 4000000 in
theorem RY(h:List ae)(s t:Str)(a:Option Addr)(c:Nat)(w:World)(hc:ay w a h)(hl:h.length<=100000)(hm:∀x∈h,x.methods.length<=100000) :
 Calls Tryz.prog 74 #[.agg #[.slice a h.length c],.string s,.string t] w (Ib (nE h s t) h.length w):=by
 have HB:=Lib.hid (av w (.cells #[.slice a h.length c] 24))
 have HX:Hid (ah (w.alloc (.cells #[.slice a h.length c] 24)) w.heap.size #[.slice a h.length c] 24):=aL ..
 have HC0:=Lib.hid hc
 have HT:Hid (∀w1,ay w1 a h->Calls Tryz.prog 112 #[.agg #[.slice a h.length c]] w1 (wV h a c w1)):=fun w1 h1=>xC h a c w1 h1 hl
 have HS:Hid (∀g w1,ay w1 a h->TabAt w1 g h->Calls Tryz.prog 133 #[.agg #[.slice a h.length c,.map (some g)],.string s] w1 (Qx h (aI h s) w1)):=fun g w1 h1 h2=>RF h s a c g w1 h1 hl h2
 have HLK:Hid (∀(g:Nat) (i:Int) (w1:World),(i = -1∨∃j:Nat,j<h.length/\i=j)->ay w1 a h->TabAt w1 g h->Calls Tryz.prog 113 #[.agg #[.slice a h.length c,.map (some g)],.int .i64 i,.string t] w1 (aj w1 (.tuple #[.int .i64 (eP h i t).1,.int .i64 (eP h i t).2]))):=fun g i w1 h1 h2 h3=>JE h t a c g i h1 w1 h2 hl hm h3
 clear hc hm
 go_enter Tryz.func74,Tryz.ntmps74
 go_upto_region 1 with (fail)
 generalize w.alloc (.cells #[.slice a h.length c] 24)=W at *
 have x0:=HX.out.cell 0 (by simp)
 go_wp2_with (go_at_call 112;refine(HT.out _ (HC0.out.below HB.out)).mono ?_;rintro e w1 ⟨hb1,g,rfl,tg,hgg⟩)
 have hws:=HB.out.size
 have hb1':Below w.heap.size w w1:=HB.out.trans (hb1.mono hws)
 have HB2:=Lib.hid (hb1'.trans ((av w1 (.cells #[.slice a h.length c,.map (some g)] 206)).mono hb1'.size))
 have HX2:Hid (ah (w1.alloc (.cells #[.slice a h.length c,.map (some g)] 206)) w1.heap.size #[.slice a h.length c,.map (some g)] 206):=aL ..
 have HG2:=Lib.hid (tg.below (av w1 (.cells #[.slice a h.length c,.map (some g)] 206)))
 clear hb1 tg HX x0
 refine(HS.out g _ (HC0.out.below HB2.out) HG2.out).mono ?_
 rintro e w3 ⟨hb3,r,ia,ic,rfl,hsub,own⟩
 have hlen:=hsub.len
 have S0:Hid (NT h a c g w1.heap.size r ia ic [] none 0 w w3):=⟨HB2.out.trans (hb3.mono HB2.out.size),HX2.out.below hb3,HC0.out.below (HB2.out.trans (hb3.mono HB2.out.size)),HG2.out.below hb3,rf own HB2.out.size,World.ownsRow_nil _ _ _ _⟩
 have HIN:Hid (∀x∈r,cu h x):=fun x hx=>((hsub.2 x).1 hx).1
 have HP:Hid (∀x,x∈pV h t r↔nE h s t x):=RO hsub
 clear own hb3 HB2 HX2 HG2 HT HS hsub
 generalize nE h s t=P at *
 generalize w1.heap.size=tb at *
 go_wp2
 go_loopw[8,19] (fun v i wr=>∃(q:Nat) (out:List Str) (oa:Option Addr) (oc:Nat),q<=r.length/\out.length<=q/\i = .int .i64 q/\v = .slice oa out.length oc/\Hid (out=pV h t (r.take q))/\Hid (NT h a c g tb r ia ic out oa oc w wr)) (fun _ i _=>r.length-(intOf i).toNat)
 case atStart=>exact⟨0,[],none,0,Nat.zero_le _,Nat.zero_le _,rfl,rfl,(by show _=_;simp[pV,nG]),S0.out⟩
 case round =>
  clear S0
  obtain⟨q,out,oa,oc,hq,hol,rfl,rfl,HI,S⟩:=hrel
  by_cases hlt:q<r.length
  case neg =>
   have HE:Hid (∀x,x∈dH (cZ out)↔P x):=fun x=>by
    rw[Z5,<-HP.out x,HI.out,List.take_of_length_le (by omega)]
   have hoc:out.length<=1000000:=by omega
   have hoh:(dH (cZ out)).length<=h.length:=by
    have h1:=Pn (cZ out)
    rw[xH]at h1
    omega
   go_wp2_with fail
   refine(JY out oa oc w _ S.out.hb S.out.ow hoc).mono ?_
   rintro e w4 ⟨rfl,R1⟩
   have R1:=Lib.hid R1
   clear S
   have hs:=xH out
   go_wp2_with fail
   have e0:Value.slice oa out.length oc = .slice oa (cZ out).length oc:=by rw[hs]
   rw[e0]
   refine(Pm (cZ out) oa oc w _ R1.out.hb R1.out.ow (by omega)).mono ?_
   rintro e w5 ⟨rfl,R2⟩
   have R2:=Lib.hid R2
   clear R1 e0 hs
   go_wp2
   go_ret
   exact⟨R2.out.hb,dH (cZ out),oa,oc,rfl,hoh,(vC R2.out.ow).1,HE.out,(vC R2.out.ow).2⟩
  case pos =>
   obtain⟨b1,o1,he,p1⟩:=S.out.at q hlt
   subst he
   have hfst:=HIN.out _ (List.getElem_mem hlt)
   have HT1:=Lib.hid (List.take_succ_eq_append_getElem hlt)
   have HTT:=Lib.hid (@RP h t (r.take q) r[q])
   have HTF:=Lib.hid (@RQ h t (r.take q) r[q])
   have HLR:=Lib.hid (@AL h r[q] hfst t)
   have HLC:Hid (∀w1,ay w1 a h->TabAt w1 g h->Calls Tryz.prog 113 #[.agg #[.slice a h.length c,.map (some g)],.int .i64 r[q],.string t] w1 (aj w1 (.tuple #[.int .i64 (eP h r[q] t).1,.int .i64 (eP h r[q] t).2]))):=fun w1 h1 h2=>HLK.out g r[q] w1 (.inr hfst.nat) h1 h2
   clear hfst
   rw[<-HT1.out]at HTT HTF
   generalize r[q]=x at *
   have t0:=S.out.bt.cell 0 (by simp)
   have t1:=S.out.bt.cell 1 (by simp)
   simp only[List.getElem_toArray,List.getElem_cons_zero,List.getElem_cons_succ]at t0 t1
   by_cases hj:0<=(eP h x t).1
   case neg =>
    have HJN:Hid (out=pV h t (r.take (q+1))):=by
     show _=_
     unfold pV
     rw[HI.out,HTF.out hj]
     rfl
    have t2:=decide_eq_false hj
    clear hj HTT HTF HLR HI
    generalize (eP h x t).1=j1 at *
    generalize (eP h x t).2=j2 at *
    go_wp2_with (go_at_call 113;refine(HLC.out _ S.out.hc S.out.tg).mono ?_;rintro e w4 ⟨rfl,hb4⟩)
    have S4:=Lib.hid (S.out.below hb4)
    clear S hb4
    go_roundw
    case rel=>exact⟨q+1,out,oa,oc,by omega,by omega,by go_num,rfl,HJN.out,S4.out⟩
    case measure=>simp[intOf];omega
   case pos =>
    obtain⟨j,m,hjl,hml,_,e1,e2⟩:∃(j m:Nat) (hj:j<h.length) (hm:m<h[j].methods.length),cu h (j:Int)/\eP h x t=((j:Int),(m:Int))/\dN h (nameAt h x) t=some (h[j].name,h[j].methods[m]):=by
     rcases HLR.out with ⟨_,e⟩ | e
     ·rw[e]at hj;exact absurd hj (by decide)
     ·exact e
    have HJN:Hid (out++[h[j].name]=pV h t (r.take (q+1))):=by
     show _=_
     unfold pV
     rw[HI.out,HTT.out hj,e1,List.map_append]
     simp only[List.map_cons,List.map_nil,jP hjl]
     rfl
    rw[e1]at HLC
    simp only at HLC
    clear hj HTT HTF HLR HI e1 e2
    go_upto_region 7 with (go_at_call 113;refine(HLC.out _ S.out.hc S.out.tg).mono ?_;rintro e w4 ⟨rfl,hb4⟩)
    have S4:=Lib.hid (S.out.below hb4)
    clear S hb4 t0 t1 p1 HLC
    obtain⟨b,off,fa,fc,ma,mc,he,m0,m1,m2,m3,_,hms⟩:=S4.out.hc j hjl
    subst he
    have t0:=S4.out.bt.cell 0 (by simp)
    simp only[List.getElem_toArray,List.getElem_cons_zero]at t0
    clear m1 m2 m3 hms hml
    generalize h[j].name=nm at *
    have t2:decide ((0:Int)<=(j:Int))=true:=decide_eq_true (by omega)
    have S1:=Lib.hid (S4.out.below (av w4 (.cells #[.string nm] 9)))
    have B1:Hid (ah (w4.alloc (.cells #[.string nm] 9)) w4.heap.size #[.string nm] 9):=aL ..
    have hbs:=S4.out.hb.size
    have hoc:out.length<=1000000:=by omega
    go_wp2_with (at_builtin;refine Cz rfl _ _ rfl w.heap.size _ out rfl S1.out.ow w4.heap.size nm rfl B1.out hoc (by simp;omega) ?_;intro v' w3 own3 grown3)
    obtain⟨-,oa3,oc3,rfl,-,-⟩:=qZ own3
    have S3:=Lib.hid (NT.grow HC0.out S1.out own3 grown3)
    clear S1 B1 own3 grown3 S4 t0 m0
    have hlen2:(out++[nm]).length=out.length+1:=by simp
    go_wp2
    go_roundw
    case rel=>exact⟨q+1,out++[nm],oa3,oc3,by omega,by omega,by go_num,(by first | rfl | simp),HJN.out,S3.out⟩
    case measure=>simp[intOf];omega
end Go.Proofs.YtjnbddedmbhiaaaGreatDoor
namespace Go.Proofs.YtjnbddedmbhiaaaGreatDoor
open Go.RowKit Go.ak

theorem Sm{ops:Array Oper}{rest:List Oper}{o:Oper}{a:Act}{w:World}{Q:Exit->Act->World->Prop}(hgd:o.guard=none)(hd:o.dst=none)(x y:Operand)(ho:o.op = .store 92 x y)
 (g:Nat) (s t:ByteArray) (hx:a.eval x = .pointer (some ⟨g,0,none⟩)) (hy:a.eval y = .agg #[.string s,.string t])
 (old:Array Value) (hg:ah w g old 92) (hold:old.size=2)
 (h:wpList Tryz.prog ops Q rest a (w.setRow g #[.string s,.string t])):wpList Tryz.prog ops Q (o::rest) a w :=
 wpList_store_row hgd 92 x y ho g _ hx hy 92 old hg (by kernel_rfl) hold (by simp[Value.oneCell']) (by rw[hd];exact h)
abbrev CZ:Obj:=.cells #[.string ⟨#[]⟩,.string ⟨#[]⟩] 92
def eB(h:List ae):List ByteArray:=h.flatMap (fun c=>c.fields.map (·.name))
theorem Y0{h:List ae}{k:Nat}(hk:k<h.length):eB (h.take (k+1))=eB (h.take k)++h[k].fields.map (·.name):=by
 have e:h.take (k+1)=h.take k++[h[k]]:=List.take_succ_eq_append_getElem hk
 unfold eB
 rw[e,List.flatMap_append];simp only[List.flatMap_cons,List.flatMap_nil,List.append_nil]
structure NW(u:aQ)(ha:Option Addr)(hc:Nat)(fa:Option Addr)(fc:Nat)(out:List ByteArray)(oa:Option Addr)(oc:Nat)(w wr:World):Prop where
 b:UB u ha hc fa fc w wr
 ow:wr.ownsRow w.heap.size 9 1 (.slice oa out.length oc) out.length (out.map Value.string)
section
variable {u:aQ}{ha:Option Addr}{hc:Nat}{fa:Option Addr}{fc:Nat}{out:List ByteArray}{oa:Option Addr}{oc:Nat}{w wr w':World}
theorem NW.below(k:NW u ha hc fa fc out oa oc w wr)(hb:Below wr.heap.size wr w'):NW u ha hc fa fc out oa oc w w':=⟨k.b.below hb,gL k.ow hb⟩
theorem NW.grow{out':List ByteArray}{oa':Option Addr}{oc':Nat}(h:ay w ha u.h)(f:bR w fa u.fs)(k:NW u ha hc fa fc out oa oc w wr)(own:w'.ownsRow w.heap.size 9 1 (.slice oa' out'.length oc') out'.length (out'.map Value.string))(hg:wr.grownBy w' (Value.slice oa out.length oc).ownBlock):NW u ha hc fa fc out' oa' oc' w w' :=
 have hb:=vZ k.b.hb k.ow hg
 ⟨⟨hb,k.b.b1.grown hg (gD k.ow k.b.b1 (by decide)),h.below hb,f.below hb⟩,own⟩
end
set_option maxRecDepth 100000 in
set_option maxHeartbeats 4000000 in
theorem Zl(u:aQ)(ha:Option Addr)(hc:Nat)(fa:Option Addr)(fc:Nat)(w:World)(h:ay w ha u.h)(f:bR w fa u.fs)(hl:u.h.length<=100)(hfl:∀x∈u.h,x.fields.length<=1000) :
 Calls Tryz.prog 9 #[bZ u ha hc fa fc] w (zA (dH (cZ (eB u.h))) w):=by
 have S0:Hid (NW u ha hc fa fc [] none 0 w (w.alloc (kN u ha hc fa fc))):=⟨UB.start h f,World.ownsRow_nil _ _ _ _⟩
 have HM:Hid (ay w ha u.h/\bR w fa u.fs):=⟨h,f⟩
 have HFL:=Lib.hid hfl
 have HSN:Hid (∀k (hk:k<u.h.length),eB (u.h.take (k+1))=eB (u.h.take k)++u.h[k].fields.map (·.name)):=fun k hk=>Y0 hk
 clear h f hfl
 unfold bZ
 go_enter Tryz.func9,Tryz.ntmps9
 go_upto_region 1 with (fail)
 generalize w.alloc _=W at *
 obtain⟨z0,z1,z2⟩:=S0.out.b.cells
 go_wp2
 clear z0 z1 z2
 go_loopw[3,12] (fun v i wr=>∃q out,∃(oa:Option Addr) (oc:Nat),q<=u.h.length/\out.length<=q*1000/\v = .slice oa out.length oc/\i = .int .i64 (q:Nat)/\Hid (out=eB (u.h.take q))/\Hid (NW u ha hc fa fc out oa oc w wr)) (fun _ i _=>u.h.length-(intOf i).toNat)
 case atStart=>exact⟨0,[],none,0,Nat.zero_le _,Nat.zero_le _,rfl,rfl,(by show _=_;simp[eB]),S0.out⟩
 case round =>
  clear S0
  obtain⟨q,out,oa,oc,hq,hol,rfl,rfl,HI,S⟩:=hrel
  by_cases hlt:q<u.h.length
  case neg =>
   have HF:Hid (out=eB u.h):=by show _=_;rw[HI.out,List.take_of_length_le (by omega)]
   have hol2:out.length<=1000000:=by omega
   clear HI HSN HFL
   go_wp2_with fail
   refine(JY out oa oc w _ S.out.b.hb S.out.ow hol2).mono ?_
   rintro e w1 ⟨rfl,R1⟩
   have R1:=Lib.hid R1
   clear S
   have hs:=xH out
   go_wp2_with fail
   have e0:Value.slice oa out.length oc = .slice oa (cZ out).length oc:=by rw[hs]
   rw[e0]
   refine(Pm (cZ out) oa oc w _ R1.out.hb R1.out.ow (by omega)).mono ?_
   rintro e w2 ⟨rfl,R2⟩
   have R2:=Lib.hid R2
   clear R1 e0 hs
   go_wp2
   go_ret
   exact⟨R2.out.hb,oa,oc,by rw[<-HF.out];rfl,by rw[<-HF.out];exact R2.out.ow⟩
  obtain⟨b,off,ffa,ffc,ma,mc,he,m0,m1,m2,m3,hfx,-⟩:=S.out.b.h q hlt
  subst he
  have hxl:=HFL.out _ (List.getElem_mem hlt)
  have HSQ:=Lib.hid (HSN.out q hlt)
  have HFX:Hid (aK w ffa u.h[q].fields):=by
   obtain⟨b',off',ffa',ffc',ma',mc',he,-,-,n2,-,hfx',-⟩:=HM.out.1 q hlt
   cases he
   have:=cell_below S.out.b.hb n2
   rw[m2]at this
   cases this
   exact hfx'
  generalize u.h[q]=x at *
  clear hfx
  have BZ:Hid (ah (wr.alloc gT) wr.heap.size _ 45):=aL ..
  have hsz:wr.heap.size<=wr.heap.size:=Nat.le_refl _
  go_upto_region 5 with (refine sJ rfl rfl _ _ rfl wr.heap.size x ffa ffc ma mc rfl rfl _ BZ.out rfl ?_)
  have HB2:=Lib.hid (bP (av wr gT) hsz #[.string x.name,.string x.aO,.slice ffa x.fields.length ffc,.slice ma x.methods.length mc])
  have B2:=Lib.hid (BZ.out.setRow #[.string x.name,.string x.aO,.slice ffa x.fields.length ffc,.slice ma x.methods.length mc])
  have S2:=Lib.hid (S.out.below HB2.out)
  clear S BZ HB2 m0 m1 m2 m3 hsz
  generalize (wr.alloc gT).setRow wr.heap.size _=W2 at *
  generalize wr.heap.size=n2 at *
  have y2:=B2.out.cell 2 (by simp)
  simp only[List.getElem_toArray,List.getElem_cons_zero,List.getElem_cons_succ]at y2
  go_wp2
  clear y2 B2
  go_loopw[3,19] (fun v i wr=>∃k out',∃(oa:Option Addr) (oc:Nat),k<=x.fields.length/\out'.length<=q*1000+k/\v = .slice oa out'.length oc/\i = .int .i64 (k:Nat)/\Hid (out' = out++(x.fields.take k).map (·.name))/\Hid (NW u (some ⟨b,off,none⟩) hc fa fc out' oa oc w wr)) (fun _ i _=>x.fields.length-(intOf i).toNat)
  case atStart=>exact⟨0,out,oa,oc,Nat.zero_le _,by omega,rfl,rfl,(by show _=_;simp),S2.out⟩
  case round =>
   clear S2
   obtain⟨k,out',oa',oc',hk,hol',rfl,rfl,HJ,S⟩:=hrel
   by_cases hkl:k<x.fields.length
   case neg =>
    have HN:Hid (out' = eB (u.h.take (q+1))):=by show _=_;rw[HSQ.out,HJ.out,HI.out,show x.fields.take k=x.fields from List.take_of_length_le (by omega)]
    have hol2:out'.length<=(q+1)*1000:=by omega
    clear HJ
    go_wp2
    go_roundw
    case rel=>exact⟨q+1,out',oa',oc',by omega,hol2,rfl,by go_num,HN.out,S.out⟩
    case measure=>simp[intOf];omega
   have HFW:=Lib.hid (HFX.out.below S.out.b.hb)
   obtain⟨b3,o3,he,p0,p1⟩:=HFW.out k hkl
   subst he
   have HJN:Hid (out'++[x.fields[k].name]=out++(x.fields.take (k+1)).map (·.name)):=by
    show _=_
    rw[HJ.out,List.take_succ_eq_append_getElem hkl,List.map_append,List.append_assoc];rfl
   generalize x.fields[k].name=nm at *
   generalize x.fields[k].type=ty at *
   have BZ:Hid (ah (wr.alloc CZ) wr.heap.size _ 92):=aL ..
   have hsz:wr.heap.size<=wr.heap.size:=Nat.le_refl _
   go_upto_region 8 with (refine Sm rfl rfl _ _ rfl wr.heap.size nm ty rfl rfl _ BZ.out rfl ?_)
   have HB2:=Lib.hid (bP (av wr CZ) hsz #[.string nm,.string ty])
   have B2:=Lib.hid (BZ.out.setRow #[.string nm,.string ty])
   have S2:=Lib.hid (S.out.below HB2.out)
   clear S BZ HB2 HFW p0 p1 hsz
   generalize (wr.alloc CZ).setRow wr.heap.size _=W3 at *
   generalize wr.heap.size=n3 at *
   have y0:=B2.out.cell 0 (by simp)
   simp only[List.getElem_toArray,List.getElem_cons_zero]at y0
   have O1:=Lib.hid (S2.out.below (av W3 (.cells #[.string nm] 9)))
   have B1:Hid (ah (W3.alloc (.cells #[.string nm] 9)) W3.heap.size #[.string nm] 9):=aL ..
   have hbs:=S2.out.b.hb.size
   have hoc:out'.length<=1000000:=by omega
   go_wp2_with (at_builtin;refine Cz rfl _ _ rfl w.heap.size _ out' rfl O1.out.ow W3.heap.size nm rfl B1.out hoc (by simp;omega) ?_;intro v' w3 own3 grown3)
   obtain⟨-,oa3,oc3,rfl,-,-⟩:=qZ own3
   have S3:=Lib.hid (NW.grow HM.out.1 HM.out.2 O1.out own3 grown3)
   clear O1 B1 own3 grown3 S2 B2 y0
   have hlen:(out'++[nm]).length=out'.length+1:=by simp
   go_wp2
   go_roundw
   case rel=>exact⟨k+1,out'++[nm],oa3,oc3,by omega,by omega,rfl,by go_num,HJN.out,S3.out⟩
   case measure=>simp[intOf];omega

def gy(l:List aA)(k:Nat):Nat:=((l.take k).map (fun f=>f.vars.length+2)).sum
theorem Ht{l:List aA}{k:Nat}(hk:k<l.length):gy l (k+1)=gy l k+(l[k].vars.length+2):=by
 have e:l.take (k+1)=l.take k++[l[k]]:=List.take_succ_eq_append_getElem hk
 unfold gy
 rw[e,List.map_append,List.sum_append];simp
theorem Cu{l:List aA}(h:∀f∈l,f.vars.length<=1000):∀{k:Nat},k<=l.length->gy l k<=k*1002
 |0,_=>by simp[gy]
 |k+1,hk=>by
  have ih:=Cu h (k:=k) (by omega)
  rw[Ht (by omega)]
  have:=h _ (List.getElem_mem (show k<l.length by omega))
  omega
end Go.Proofs.YtjnbddedmbhiaaaGreatDoor
namespace Go
open Go.RowKit Go.AM
section
variable {P:Program}{ops:Array Oper}{C:World->Prop}{Q:Exit->Act->World->Prop}
def Act.pi(a:Act)(b:Bool)(d:Tmp)(v:Value):Act:=if b=true then a.put (some d) v else a
theorem Act.jJ(a:Act)(b:Bool){d e:Tmp}(v x:Value)(h:d≠e):(a.pi b d v).put (some e) x=(a.put (some e) x).pi b d v:=by
 unfold Act.pi
 cases b
 ·rfl
 ·refine Act.put_comm (x:=some d) (y:=some e) a v x ?_
  intro q hq e2
  apply h
  rw[Option.some.injEq]at hq e2
  rw[hq,e2]
def Act.six(A:Act)(d0:Nat)(b2:Bool)(v2:Value)(b:Nat->Bool)(v:Nat->Value):Act :=
 (((((A.pi b2 d0 v2).pi (b 0) (d0+1) (v 0)).pi (b 1) (d0+2) (v 1)).pi (b 2) (d0+3) (v 2)).pi (b 3) (d0+4) (v 3)).pi (b 4) (d0+5) (v 4)
def upd{α:Type}(f:Nat->α)(i:Nat)(x:α):Nat->α:=fun j=>if j=i then x else f j
theorem Act.SI(A:Act)(d0:Nat)(v2:Value)(b:Nat->Bool)(v:Nat->Value)(x:Value):(A.six d0 false v2 b v).put (some d0) x=A.six d0 true x b v:=by
 unfold Act.six
 rw[Act.jJ,Act.jJ,Act.jJ,Act.jJ,Act.jJ]
 ·rfl
 all_goals exact fun e=>by simp at e
theorem Act.SL(A:Act)(d0:Nat)(b2:Bool)(v2:Value)(b:Nat->Bool)(v:Nat->Value)(x:Value):∀i,i<5->b i=false->(A.six d0 b2 v2 b v).put (some (d0+1+i)) x=A.six d0 b2 v2 (upd b i true) (upd v i x)
 |0,_,h=>by
  unfold Act.six
  rw[Act.jJ,Act.jJ,Act.jJ,Act.jJ]
  ·simp[upd,h,Act.pi]
  all_goals exact fun e=>by simp at e
 |1,_,h=>by
  unfold Act.six
  rw[Act.jJ,Act.jJ,Act.jJ]
  ·simp[upd,h,Act.pi]
  all_goals exact fun e=>by simp at e
 |2,_,h=>by
  unfold Act.six
  rw[Act.jJ,Act.jJ]
  ·simp[upd,h,Act.pi]
  all_goals exact fun e=>by simp at e
 |3,_,h=>by
  unfold Act.six
  rw[Act.jJ]
  ·simp[upd,h,Act.pi]
  all_goals exact fun e=>by simp at e
 |4,_,h=>by
  unfold Act.six
  simp[upd,h,Act.pi]
def oQ(b2:Bool)(b:Nat->Bool):Array Bool:=#[true,true,b2,b 0,b 1,b 2,b 3,b 4,false,false,false]
theorem WT(b:Nat->Bool):(oQ false b).setIfInBounds 2 true=oQ true b:=rfl
theorem WU(b2:Bool)(b:Nat->Bool):∀i,i<5->(oQ b2 b).setIfInBounds (3+i) true=oQ b2 (upd b i true)
 |0,_=>rfl
 |1,_=>rfl
 |2,_=>rfl
 |3,_=>rfl
 |4,_=>rfl
structure J6(C:World->Prop)(D2:Value->World->Prop)(lo:Nat)(b2:Bool)(v2:Value)(b:Nat->Bool)(v:Nat->Value)(w:World):Prop where
 c:C w
 d:b2=true->D2 v2 w
 m:∀i,i<5->b i=true->∃g,v i = .map (some g)/\lo<=g/\w.heap[g]? = some (.map #[] 0)
 n:∀i j,i<5->j<5->i≠j->b i=true->b j=true->v i≠v j
def iL(b2:Bool)(b:Nat->Bool):List Nat:=(if b2=true then []else [2])++(if b 0=true then []else [3])++(if b 1=true then []else [4])++(if b 2=true then []else [5])++(if b 3=true then []else [6])++(if b 4=true then []else [7])
theorem Xb{b2:Bool}{b:Nat->Bool}{i:Nat}(h:i∈iL b2 b):(i=2/\b2=false)∨∃j,j<5/\i=3+j/\b j=false:=by
 unfold iL at h
 simp only[List.mem_append]at h
 rcases h with ((((h | h) | h) | h) | h) | h
 ·cases b2
  ·exact .inl ⟨by simpa using h,rfl⟩
  ·simp at h
 ·cases e:b 0<;>simp[e]at h
  exact .inr ⟨0,by omega,by omega,e⟩
 ·cases e:b 1<;>simp[e]at h
  exact .inr ⟨1,by omega,by omega,e⟩
 ·cases e:b 2<;>simp[e]at h
  exact .inr ⟨2,by omega,by omega,e⟩
 ·cases e:b 3<;>simp[e]at h
  exact .inr ⟨3,by omega,by omega,e⟩
 ·cases e:b 4<;>simp[e]at h
  exact .inr ⟨4,by omega,by omega,e⟩
theorem WY(b:Nat->Bool):(iL false b).length=(iL true b).length+1:=by simp[iL]
theorem WZ(b2:Bool)(b:Nat->Bool):∀i,i<5->b i=false->(iL b2 b).length=(iL b2 (upd b i true)).length+1
 |0,_,h=>by simp[iL,upd,h];omega
 |1,_,h=>by simp[iL,upd,h];omega
 |2,_,h=>by simp[iL,upd,h];omega
 |3,_,h=>by simp[iL,upd,h];omega
 |4,_,h=>by simp[iL,upd,h];omega
theorem Xa{b2:Bool}{b:Nat->Bool}(h:(iL b2 b).length=0):b2=true/\b 0=true/\b 1=true/\b 2=true/\b 3=true/\b 4=true:=by
 cases b2<;>cases h0:b 0<;>cases h1:b 1<;>cases h2:b 2<;>cases h3:b 3<;>cases h4:b 4<;>simp[iL,h0,h1,h2,h3,h4]at h ⊢
theorem Act.vB{a:Act}{b:Bool}{d:Tmp}{v:Value}{x:Operand}(h:x ≠ .tmp d):(a.pi b d v).eval x=a.eval x:=by
 unfold Act.pi
 cases b
 ·rfl
 ·exact Act.eval_put (dst:=some d) fun q hq=>by rw[Option.some.injEq]at hq;rw[<-hq];exact h
theorem Act.SN{A:Act}{d0:Nat}{b2:Bool}{v2:Value}{b:Nat->Bool}{v:Nat->Value}{x:Operand}(h:∀e:Nat,x = .tmp e->e<d0):(A.six d0 b2 v2 b v).eval x=A.eval x:=by
 have hn:∀k:Nat,x ≠ .tmp (d0+k):=fun k e=>by have:=h _ e;omega
 unfold Act.six
 rw[Act.vB (hn 5),Act.vB (hn 4),Act.vB (hn 3),Act.vB (hn 2),Act.vB (hn 1)]
 exact Act.vB (hn 0)
theorem IC(A:Act)(d0 lo:Nat)(D2:Value->World->Prop)(o2:Oper)(f:FuncId)(args:Array Value)
 (hm:∀i,i<5->∃o t,ops[3+i]? = some o/\o.dst=some (d0+1+i)/\o.guard=none/\o.op = .makeMap t none)
 (h2:ops[2]? = some o2) (h2d:o2.dst=some d0) (h2g:o2.guard=none) (h2s:∀cs b,o2.op ≠ .select cs b) (h2o:(o2.op.operands.all fun x=>match x with | .tmp e=>decide (e<d0) | _=>true)=true)
 (hrun:∀w,C w->(execOp A.eval o2).run P w = .ok (.enter f args) w)
 (hr:∀b2 b,(iL b2 b).length≠0->Region.ready .any ops (oQ b2 b)=iL b2 b)
 (hcall:∀w,C w->Calls P f args w (fun e w1=>∃x,e = .returned x/\Below w.heap.size w w1/\C w1/\D2 x w1))
 (hC:∀w,C w->C (w.alloc (.map #[] 0))) (hlo:∀w,C w->lo<=w.heap.size)
 (hD:∀v w,D2 v w->D2 v (w.alloc (.map #[] 0)))
 (hfin:∀v2 b v w,(b 0=true/\b 1=true/\b 2=true/\b 3=true/\b 4=true)->J6 C D2 lo true v2 b v w->bO P .any ops C Q 3 (oQ true b) (A.six d0 true v2 b v) w) :
 ∀(n:Nat) (b2:Bool) (v2:Value) (b:Nat->Bool) (v:Nat->Value) (w:World),(iL b2 b).length=n->J6 C D2 lo b2 v2 b v w->bO P .any ops C Q (n+3) (oQ b2 b) (A.six d0 b2 v2 b v) w
 |0,b2,v2,b,v,w,hn,j=>by
  obtain⟨rfl,h⟩:=Xa hn
  exact hfin v2 b v w h j
 |n+1,b2,v2,b,v,w,hn,j=>by
  have ih:=IC A d0 lo D2 o2 f args hm h2 h2d h2g h2s h2o hrun hr hcall hC hlo hD hfin n
  have hrr:=hr b2 b (by omega)
  refine⟨fun h0=>?_,fun i hi=>?_⟩
  ·exfalso
   rw[hrr]at h0
   rw[h0]at hn
   simp at hn
  ·rw[hrr]at hi
   rcases Xb hi with ⟨rfl,rfl⟩ | ⟨q,hq,rfl,hbq⟩
   ·refine zL h2 ?_
    refine wpList_plain h2g fun K' hK'=>?_
    unfold Oper.wp
    rw[execOp_congr o2 h2s (fun x hx=>Act.SN (fun e he=>by have h3:=(Array.all_eq_true'.1 h2o) x hx;subst he;simpa using h3)),hrun w j.c,Oper.upon_enter]
    refine(hcall w j.c).mono ?_
    rintro e w1 ⟨x,rfl,hb,hc,hd⟩
    refine hK' _ _ ?_
    rw[h2d]
    refine⟨hc,?_⟩
    rw[Act.SI,WT]
    refine ih true x b v w1 (by have:=WY b;omega) ⟨hc,fun _=>hd,fun i hi e=>?_,j.n⟩
    obtain⟨g,e1,e2,e3⟩:=j.m i hi e
    exact⟨g,e1,e2,by rw[hb.block g (Array.getElem?_eq_some_iff.1 e3).1];exact e3⟩
   ·obtain⟨o,t,ho,hdst,hg,hop⟩:=hm q hq
    refine zL ho ?_
    refine wpList_plain hg fun K' hK'=>?_
    unfold Oper.wp
    have hrun:(Instr.makeMap t none).run P w = .ok (.map (some w.heap.size)) (w.alloc (.map #[] 0)):=by
     simp[Instr.makeMap,newObj,Sem.run]
    simp only[execOp,hop]
    simp[hrun,Result.andThen]
    refine hK' _ _ ?_
    rw[hdst]
    refine⟨hC _ j.c,?_⟩
    rw[Act.SL A d0 b2 v2 b v _ q hq hbq,WU b2 b q hq]
    refine ih b2 v2 _ _ _ (by have:=WZ b2 b q hq hbq;omega) ⟨hC _ j.c,fun e=>hD _ _ (j.d e),fun i hi e=>?_,fun i i' hi hi' hne e e'=>?_⟩
    ·by_cases hiq:i=q
     ·exact⟨w.heap.size,by simp[upd,hiq],hlo _ j.c,uF w _⟩
     ·simp only[upd,if_neg hiq]at e ⊢
      obtain⟨g,e1,e2,e3⟩:=j.m i hi e
      exact⟨g,e1,e2,by rw[Below.heap_alloc _ _ _ (Array.getElem?_eq_some_iff.1 e3).1];exact e3⟩
    ·have old:∀p,p<5->p≠q->b p=true->v p ≠ .map (some w.heap.size):=fun p hp hpq e e2=>by
      obtain⟨g,e1,_,e3⟩:=j.m p hp e
      rw[e1]at e2
      cases e2
      have:=(Array.getElem?_eq_some_iff.1 e3).1
      omega
     by_cases h1:i=q
     ·have h2:i'≠q:=fun h=>hne (by rw[h1,h])
      simp only[upd,if_neg h2,if_pos h1]at e' ⊢
      exact fun e3=>old i' hi' h2 e' e3.symm
     ·by_cases h2:i' = q
      ·simp only[upd,if_neg h1,if_pos h2]at e ⊢
       exact old i hi h1 e
      ·simp only[upd,if_neg h1,if_neg h2]at e e' ⊢
       exact j.n i i' hi hi' hne e e'
end
end Go
namespace Go
section
variable {P:Program}{ops:Array Oper}{md:Region.Mode}{C:World->Prop}{z:Nat}{Q:Exit->Act->World->Prop}

def iT(P:Program)(md:Region.Mode)(ops:Array Oper)(C:World->Prop)(z:Nat)(Q:Exit->Act->World->Prop):Nat->Array Bool->Act->World->Prop
 |0,listed,a,w=>Region.ready md ops listed=[]/\Q .normal a w
 |fuel+1,listed,a,w =>
  (Region.ready md ops listed=[]->Q .normal a w) /\
  ∀i∈Region.ready md ops listed,wpOp P ops Q i (fun a' w'=>(i≠z->C w')/\iT P md ops C z Q fuel (listed.setIfInBounds i true) a' w') a w
theorem II:∀(fuel:Nat) (listed:Array Bool) (a:Act) (w:World),iT P md ops C z Q fuel listed a w->wpAny P md ops Q fuel listed a w
 |0,_,_,_,h=>h
 |fuel+1,_,_,_,h=>⟨h.1,fun i hi=>wpOp_mono (fun a' w' hh=>II fuel _ a' w' hh.2) (h.2 i hi)⟩

theorem IM{i:Nat}{oi:Oper}{v:Value}(hi:ops[i]? = some oi)(hsel:∀(j:Nat) (o:Oper) cs b,ops[j]? = some o->o.op ≠ .select cs b)
 (hQ:∀c a w,Q (.panic c) (a.put oi.dst v) w->Q (.panic c) a w) (hz:∀oz,ops[z]? = some oz->∃e∈oz.after,Region.binds md e=true/\e.on=i) :
 ∀(fuel:Nat) (listed:Array Bool) (a:Act) (w:World),C w ->
  (∀j oj,ops[j]? = some oj->j≠i->listed.getD j true=false->(∀e∈oj.after,Region.binds md e=true->e.on≠i)->oi.apart ops oj=true) ->
  i∈Region.ready md ops listed->lK P ops C oi v a ->
  iT P md ops C z Q fuel (listed.setIfInBounds i true) (a.put oi.dst v) w->iT P md ops C z Q (fuel+1) listed a w:=by
 intro fuel
 induction fuel with
 |zero =>
  intro listed a w hc _ hr hy H
  refine⟨fun h=>(by rw[h]at hr;cases hr),fun j hj=>?_⟩
  by_cases hji:j=i
  ·subst hji;exact hy.wpOp hi hc ⟨fun _=>hc,H⟩
  ·have:=ready_mono hj hji
   rw[H.1]at this
   cases this
 |succ fuel ih =>
  intro listed a w hc hfree hr hy H
  refine⟨fun h=>(by rw[h]at hr;cases hr),fun j hj=>?_⟩
  by_cases hji:j=i
  ·subst hji;exact hy.wpOp hi hc ⟨fun _=>hc,H⟩
  ·have h1:=H.2 j (ready_mono hj hji)
   obtain⟨hjun,oj,hoj,hall⟩:=mem_ready.1 hj
   have hnot:∀e∈oj.after,Region.binds md e=true->e.on≠i:=fun e he hb heq=>by
    have h1:=hall e he hb
    have h0:=(mem_ready.1 hr).1
    rw[heq]at h1
    rcases Nat.lt_or_ge i listed.size with h' | h'
    ·simp[h']at h0 h1;rw[h0]at h1;cases h1
    ·simp[Array.getElem?_eq_none h']at h1
   have h2:=IG hoj (hfree j oj hoj hji hjun hnot) (fun cs b=>hsel i oi cs b hi) (fun cs b=>hsel j oj cs b hoj) hQ hy h1
   have hfree':∀k ok,ops[k]? = some ok->k≠i->(listed.setIfInBounds j true).getD k true=false ->
    (∀e∈ok.after,Region.binds md e=true->e.on≠i)->oi.apart ops ok=true:=fun k ok hk hki hun hno=>by
    refine hfree k ok hk hki ?_ hno
    by_cases hjk:j=k
    ·subst hjk;exact hjun
    ·rw[getD_set_ne true hjk]at hun;exact hun
   have hjz:j≠z:=fun e=>by
    subst e
    obtain⟨e,he,hb,heq⟩:=hz oj hoj
    exact hnot e he hb heq
   refine wpOp_mono (fun a' w' h3=>⟨h3.2.1,ih (listed.setIfInBounds j true) a' w' (h3.2.1 hjz) hfree' (ready_mono hr (Ne.symm hji)) h3.1 ?_⟩) h2
   rw[Array.setIfInBounds_comm _ _ hji]
   exact h3.2.2

theorem oK(i:Nat){o:Oper}{fuel:Nat}{listed:Array Bool}{a:Act}{w:World}(ho:ops[i]? = some o)
 (hB:(Region.noSelect ops&&(Region.ready md ops listed).contains i&&Region.free md ops listed i)=true)
 (hZ:(match ops[z]? with | some oz=>oz.after.any (fun e=>Region.binds md e&&e.on==i) | none=>true)=true)
 (hQ:∀v c a w,Q (.panic c) (a.put o.dst v) w->Q (.panic c) a w) (hc:C w)
 (h:∀K:Act->Prop,(∀a',iT P md ops C z Q fuel (listed.setIfInBounds i true) a' w->K a')->if Region.wanted o (yielded ops a.tmps)then o.zU P a C K else K (a.put o.dst undef)) :
 iT P md ops C z Q (fuel+1) listed a w:=by
 simp only[Bool.and_eq_true]at hB
 obtain⟨⟨hs,hr⟩,hf⟩:=hB
 have hz:∀oz,ops[z]? = some oz->∃e∈oz.after,Region.binds md e=true/\e.on=i:=fun oz hoz=>by
  rw[hoz]at hZ
  simp only[Array.any_eq_true',Bool.and_eq_true,beq_iff_eq]at hZ
  exact hZ
 have h':=h (fun a'=>iT P md ops C z Q fuel (listed.setIfInBounds i true) a' w) (fun _ x=>x)
 by_cases hw:Region.wanted o (yielded ops a.tmps)=true
 ·rw[if_pos hw]at h'
  obtain⟨v,hv,hK⟩:=h'
  exact IM ho (Region.noSelect_spec hs) (hQ v) hz fuel listed a w hc (Region.free_spec ho hf) (by simpa using hr) (.inl ⟨hw,fun w' hw'=>Oper.Dx (hv w' hw')⟩) hK
 ·rw[if_neg hw]at h'
  exact IM ho (Region.noSelect_spec hs) (hQ undef) hz fuel listed a w hc (Region.free_spec ho hf) (by simpa using hr) (.inr ⟨by simpa using hw,rfl⟩) h'
theorem zK{k:Nat}{o:Oper}{K:Act->World->Prop}{a:Act}{w:World}(ho:ops[k]? = some o)(h:wpList P ops (Exit.then K Q) [o] a w):wpOp P ops Q k K a w:=by
 unfold wpOp
 simp only[ho]
 simp only[wpList]at h
 split
 ·rename_i hw
  simp only[hw,if_true]at h
  rcases h with h | ⟨hasks,hlets⟩
  ·refine .inl ?_
   unfold Oper.wp at *
   generalize (execOp a.eval o).run P w=r at *
   cases r with
   |ok n w' =>
    cases n<;>simp only[Oper.upon]at h ⊢
    case enter f args=>exact Calls.mono h (fun e w'' he=>by cases e<;>exact he)
    all_goals exact h
   |halt x w'=>cases x<;>simp only[Oper.upon]at h ⊢<;>exact h
  ·exact .inr ⟨hasks,hlets⟩
 ·rename_i hw
  simp only[hw]at h
  exact h
theorem QZ{o:Oper}{fuel:Nat}{listed:Array Bool}{a:Act}{w:World}(ho:ops[z]? = some o)(hr:(Region.ready md ops listed==[z])=true)
 (h:wpList P ops (Exit.then (fun a' w'=>iT P md ops C z Q fuel (listed.setIfInBounds z true) a' w') Q) [o] a w):iT P md ops C z Q (fuel+1) listed a w:=by
 have hr':Region.ready md ops listed=[z]:=by simpa using hr
 refine⟨fun h0=>(by rw[hr']at h0;cases h0),fun i hi=>?_⟩
 rw[hr']at hi
 obtain rfl:i=z:=by simpa using hi
 exact wpOp_mono (fun _ _ h=>⟨fun hn=>absurd rfl hn,h⟩) (zK ho h)
theorem Q0{listed:Array Bool}{a:Act}{w:World}(hr:(Region.ready md ops listed).isEmpty=true)(h:Q .normal a w)(fuel:Nat):iT P md ops C z Q fuel listed a w:=by
 have hr':Region.ready md ops listed=[]:=by simpa using hr
 cases fuel with
 |zero=>exact⟨hr',h⟩
 |succ n=>exact⟨fun _=>h,by rw[hr'];simp⟩
theorem QT{id:Nat}{a:Act}{w:World}{l:List Oper}(C:World->Prop)(z:Nat)(hm:P.follows .mixedOrders=true)
 (h:iT P .any l.toArray C z Q l.length (Array.replicate l.length false) a { w with drawn:=w.drawn+1 }):(Code.region id l.toArray true).wp P Q a w :=
 wp_region_any hm (by simpa using II _ _ _ _ h)
end
end Go
