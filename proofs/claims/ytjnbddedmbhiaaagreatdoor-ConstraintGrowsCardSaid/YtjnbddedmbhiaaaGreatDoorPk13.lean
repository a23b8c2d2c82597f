/-
  The program's tables of a hierarchy: tableOf.
-/
import Derived.Test.YtjnbddedmbhiaaaGreatDoorPk12
namespace Go.Proofs.YtjnbddedmbhiaaaGreatDoor
open Go.RowKit Go.ak Go.AM

theorem more{κ:Type}[DecidableEq κ]{w:World}{g n m:Nat}{enc:κ->Value}{F:κ->Option Value}(h:bC w g enc F n)(hm:n<=m):bC w g enc F m:=by
 obtain⟨l,ar,c,h1,h2,h3,h4,h5,h6⟩:=h.ex
 exact⟨l,ar,c,h1,h2,h3,h4,by omega,h6⟩
theorem TT{P:Program}{fn:Func}{p:Tmp}{ty:TypeId}(h:fn.results=#[.cell p ty])(tmps:Array Value)(w:World)(g:Nat)(cs:Array Value)(d:TypeDesc)
 (hp:tmps.getD p undef = .pointer (some ⟨g,0,none⟩)) (hg:ah w g cs ty)
 (hu:P.underlying ty=some d) (hd:(match d with | .struct _ | .array _ _=>true | _=>false)=true) (hi:(P.info? ty).map (·.size)=some cs.size) :
 (results fn tmps).run P w = .ok (.agg cs) w:=by
 have hp':tmps[p]?.getD undef = .pointer (some ⟨g,0,none⟩):=by simpa using hp
 simp[results,h,hp',asAddr,run_loadVar_row w g ty ty cs (0,0) d hg hu hd hi]
set_option maxRecDepth 100000 in
set_option maxHeartbeats 4000000 in
theorem xC(h:List ae)(a:Option Addr)(c:Nat)(w:World)(hc:ay w a h)(hl:h.length<=100000) :
 Calls Tryz.prog 112 #[.agg #[.slice a h.length c]] w (wV h a c w):=by
 have HB0:=Lib.hid (iH w (.cells #[.slice a h.length c] 24) (.cells #[.slice none 0 0,.map none] 206))
 have BX0:Hid (ah ((w.alloc (.cells #[.slice a h.length c] 24)).alloc (.cells #[.slice none 0 0,.map none] 206)) w.heap.size #[.slice a h.length c] 24):=(aL w #[.slice a h.length c] 24).below (av ..)
 have RS0:Hid (ah ((w.alloc (.cells #[.slice a h.length c] 24)).alloc (.cells #[.slice none 0 0,.map none] 206)) (w.heap.size+1) #[.slice none 0 0,.map none] 206):=gH ..
 have HZ:Hid (((w.alloc (.cells #[.slice a h.length c] 24)).alloc (.cells #[.slice none 0 0,.map none] 206)).heap.size=w.heap.size+2):=by show _=_;simp
 have HC:=Lib.hid hc
 have HR:=Tryz.results112
 clear hc
 go_enter Tryz.func112,Tryz.ntmps112
 go_upto_region 1 with (fail)
 generalize (w.alloc _).alloc _=W at *
 go_cut[3] (fun v wx=>∃b gm,v = .pointer (some ⟨b,0,none⟩)/\Hid (TO h a c w wx b gm 0))
 case first =>
  have k0:∀o:WB W,o.u.cell? ⟨w.heap.size,0,none⟩=some (.slice a h.length c):=fun o=>(BX0.out.below o.h).cell 0 (by simp)
  have hne:Nonempty (WB W):=⟨⟨W,Below.refl _ _⟩⟩
  have hcur:Below W.heap.size W W.drew:=(Below.refl _ _).drew
  have mk:=makeHint h.length
  refine dC (fun w'=>∃o:WB W,w' = o.u) (by kernel_rfl) ?_
  change bO _ _ _ _ _ _ _ _ W.drew
  refine af 0 rfl (by kernel_rfl) (fun _ _ _ _ h=>h) ⟨⟨_,hcur⟩,rfl⟩ (fun K hK=>?_);go_simp;refine hK _ ?_;clear hK K
  refine af 1 rfl (by kernel_rfl) (fun _ _ _ _ h=>h) ⟨⟨_,hcur⟩,rfl⟩ (fun K hK=>?_);go_simp;refine hK _ ?_;clear hK K
  refine af 2 rfl (by kernel_rfl) (fun _ _ _ _ h=>h) ⟨⟨_,hcur⟩,rfl⟩ (fun K hK=>?_);go_simp;refine hK _ ?_;clear hK K
  refine af 3 rfl (by kernel_rfl) (fun _ _ _ _ h=>h) ⟨⟨_,hcur⟩,rfl⟩ (fun K hK=>?_);go_simp;refine hK _ ?_;clear hK K
  refine af 4 rfl (by kernel_rfl) (fun _ _ _ _ h=>h) ⟨⟨_,hcur⟩,rfl⟩ (fun K hK=>?_);go_simp;refine hK _ ?_;clear hK K
  refine IP 5 7 rfl rfl (by kernel_rfl) ?_ ?_
  ·go_wp2
   have hA:Below W.heap.size W (W.alloc (.map #[] 0)).drew:=((Below.refl _ _).alloc (Nat.le_refl _) _).drew
   refine⟨⟨⟨_,hA⟩,rfl⟩,?_⟩
   refine af 6 rfl (by kernel_rfl) (fun _ _ _ _ h=>h) ⟨⟨_,hA⟩,rfl⟩ (fun K hK=>?_);go_simp;refine hK _ ?_;clear hK K
   have hX:Below W.heap.size W ((W.alloc (.map #[] 0)).alloc (.cells #[.slice none 0 0,.map none] 206)).drew:=(((Below.refl _ _).alloc (Nat.le_refl _) _).alloc (by simp) _).drew
   have BB:Hid (ah ((W.alloc (.map #[] 0)).alloc (.cells #[.slice none 0 0,.map none] 206)).drew (W.heap.size+1) #[.slice none 0 0,.map none] 206):=gH W _ _ (.map #[] 0)
   have MM:Hid (bC ((W.alloc (.map #[] 0)).alloc (.cells #[.slice none 0 0,.map none] 206)).drew W.heap.size Value.string (fun _=>none) 0):=(bC.new W Value.string).below (((av _ _)).drew)
   refine aP 7 rfl (by kernel_rfl) ?_
   go_wp2
   refine⟨⟨⟨_,hX⟩,rfl⟩,?_⟩
   refine aP 8 rfl (by kernel_rfl) ?_
   go_wp2_with (refine zT rfl _ _ rfl (W.heap.size+1) _ _ _ _ rfl rfl _ BB.out rfl ?_)
   have hz:=HZ.out
   have hY:=below_setRow hX (Nat.le_add_right W.heap.size 1) #[.slice a h.length c,.map (some W.heap.size)]
   refine⟨⟨⟨_,hY⟩,rfl⟩,?_⟩
   refine dh (by kernel_rfl) ?_ _
   go_wp2
   go_meet
   refine⟨W.heap.size+1,W.heap.size,rfl,HB0.out.trans (hY.mono (by omega)),BX0.out.below hY,RS0.out.below hY,BB.out.setRow _,?_,by omega,by omega⟩
   rw[List.take_zero,<-JJ]
   exact MM.out.grown (oW _ _ _) (by simp)
  ·go_wp2
   have hA:Below W.heap.size W (W.alloc (.cells #[.slice none 0 0,.map none] 206)).drew:=((Below.refl _ _).alloc (Nat.le_refl _) _).drew
   refine⟨⟨⟨_,hA⟩,rfl⟩,?_⟩
   have hX:Below W.heap.size W ((W.alloc (.cells #[.slice none 0 0,.map none] 206)).alloc (.map #[] 0)).drew:=(((Below.refl _ _).alloc (Nat.le_refl _) _).alloc (by simp) _).drew
   have BB:Hid (ah ((W.alloc (.cells #[.slice none 0 0,.map none] 206)).alloc (.map #[] 0)).drew W.heap.size #[.slice none 0 0,.map none] 206):=(aL W _ _).below ((av _ _).drew)
   have MM:Hid (bC ((W.alloc (.cells #[.slice none 0 0,.map none] 206)).alloc (.map #[] 0)).drew (W.heap.size+1) Value.string (fun _=>none) 0):=by
    have:=bC.new (W.alloc (.cells #[.slice none 0 0,.map none] 206)) Value.string
    have e:(W.alloc (.cells #[.slice none 0 0,.map none] 206)).heap.size=W.heap.size+1:=by simp
    rw[e]at this
    exact this.at rfl
   refine aP 5 rfl (by kernel_rfl) ?_
   go_wp2
   refine⟨⟨⟨_,hX⟩,rfl⟩,?_⟩
   refine af 6 rfl (by kernel_rfl) (fun _ _ _ _ h=>h) ⟨⟨_,hX⟩,rfl⟩ (fun K hK=>?_);go_simp;refine hK _ ?_;clear hK K
   refine aP 8 rfl (by kernel_rfl) ?_
   go_wp2_with (refine zT rfl _ _ rfl W.heap.size _ _ _ _ rfl rfl _ BB.out rfl ?_)
   have hz:=HZ.out
   have hY:=below_setRow hX (Nat.le_refl _) #[.slice a h.length c,.map (some (W.heap.size+1))]
   refine⟨⟨⟨_,hY⟩,rfl⟩,?_⟩
   refine dh (by kernel_rfl) ?_ _
   go_wp2
   go_meet
   refine⟨W.heap.size,W.heap.size+1,rfl,HB0.out.trans (hY.mono (by omega)),BX0.out.below hY,RS0.out.below hY,BB.out.setRow _,?_,by omega,by omega⟩
   rw[List.take_zero,<-JJ]
   exact MM.out.grown (oW _ _ _) (by simp)
 case rest =>
  obtain⟨b,gm,rfl,S⟩:=hcut
  clear BX0 RS0 HB0 HZ
  have z0:=S.out.bx.cell 0 (by simp)
  go_wp2
  go_loopw[18] (fun i wr=>∃k:Nat,k<=h.length/\i = .int .i64 k/\Hid (TO h a c w wr b gm k)) (fun i _=>h.length-(intOf i).toNat)
  case atStart=>exact⟨0,Nat.zero_le _,rfl,S.out⟩
  case round =>
   clear S z0
   obtain⟨k,hk,rfl,S⟩:=hrel
   by_cases hlt:k<h.length
   case pos =>
    obtain⟨bb,off,fa,fc,ma,mc,he,m0,m1,m2,m3,_,_⟩:=HC.out.below S.out.hb k hlt
    subst he
    have HT:Hid (h.take (k+1)=h.take k++[h[k]]):=by show _=_;rw[List.take_add_one,List.getElem?_eq_getElem hlt];rfl
    have HLn:Hid ((h.take k).length=k):=by show _=_;rw[List.length_take];omega
    generalize h[k]=x at *
    have BZ:Hid (ah (wr.alloc (.cells #[.string ⟨#[]⟩,.string ⟨#[]⟩,.slice none 0 0,.slice none 0 0] 45)) wr.heap.size _ 45):=aL ..
    have hsz:wr.heap.size<=wr.heap.size:=Nat.le_refl _
    go_upto_region 5 with (refine Dw rfl _ _ rfl wr.heap.size _ _ _ _ _ _ _ _ rfl rfl _ BZ.out rfl ?_)
    have HB2:=Lib.hid (bP (av wr (.cells #[.string ⟨#[]⟩,.string ⟨#[]⟩,.slice none 0 0,.slice none 0 0] 45)) hsz #[.string x.name,.string x.aO,.slice fa x.fields.length fc,.slice ma x.methods.length mc])
    have B2:=Lib.hid (BZ.out.setRow #[.string x.name,.string x.aO,.slice fa x.fields.length fc,.slice ma x.methods.length mc])
    have S2:=Lib.hid (S.out.below HB2.out)
    clear S BZ HB2 m0 m1 m2 m3 hsz
    generalize (wr.alloc _).setRow wr.heap.size _=W2 at *
    generalize wr.heap.size=n2 at *
    have y0:=B2.out.cell 0 (by simp)
    simp only[List.getElem_toArray,List.getElem_cons_zero]at y0
    have t1:=S2.out.tb.cell 1 (by simp)
    simp only[List.getElem_toArray,List.getElem_cons_zero,List.getElem_cons_succ]at t1
    by_cases hq:0<=aI (h.take k) x.name
    case pos =>
     have HF:Hid (gU (h.take k) x.name=some (.int .i64 (aI (h.take k) x.name))):=by show _=_;unfold gU;rw[if_pos hq]
     have HO:=Lib.hid (Sa hq)
     generalize aI (h.take k) x.name=r at *
     go_wp2_with (at_lookup;refine jX rfl _ _ _ _ rfl iy pO _ (uO _) gm rfl S2.out.mp x.name rfl ?_;rw[HF.out])
     exact⟨⟨k+1,by omega,by go_num,S2.out.hb,S2.out.bx,S2.out.rs,S2.out.tb,by rw[HT.out,HO.out];exact more S2.out.mp (Nat.le_succ _),S2.out.gb,S2.out.gg⟩,by simp[intOf];omega⟩
    case neg =>
     have HF:Hid (gU (h.take k) x.name=none):=by show _=_;unfold gU;rw[if_neg hq]
     have HO:=Lib.hid (Sb hq)
     rw[HLn.out]at HO
     go_wp2_with (first | (at_lookup;refine jX rfl _ _ _ _ rfl iy pO _ (uO _) gm rfl S2.out.mp x.name rfl ?_;rw[HF.out]) | (at_mapUpdate;refine jW rfl _ _ _ _ rfl iy pO gm rfl S2.out.mp x.name rfl _ rfl ?_;intro w3 hm3 hg3 hs3))
     have hb3:Below w.heap.size w w3:=S2.out.hb.grown hg3 S2.out.hb.size (fun q hq=>by cases hq;have:=S2.out.gg;omega)
     exact⟨⟨k+1,by omega,by go_num,hb3,S2.out.bx.grown hg3 (r9 S2.out.bx S2.out.mp),S2.out.rs.grown hg3 (r9 S2.out.rs S2.out.mp),S2.out.tb.grown hg3 (r9 S2.out.tb S2.out.mp),by rw[HT.out,<-HO.out];exact hm3,S2.out.gb,S2.out.gg⟩,by simp[intOf];omega⟩
   case neg =>
    obtain rfl:k=h.length:=by omega
    have t0:=S.out.tb.cell 0 (by simp)
    have t1:=S.out.tb.cell 1 (by simp)
    simp only[List.getElem_toArray,List.getElem_cons_zero,List.getElem_cons_succ]at t0 t1
    go_wp2_with (refine zT rfl _ _ rfl (w.heap.size+1) _ _ _ _ rfl rfl _ S.out.rs rfl ?_)
    have hR:ah (wr.setRow (w.heap.size+1) #[.slice a h.length c,.map (some gm)]) (w.heap.size+1) #[.slice a h.length c,.map (some gm)] 206:=S.out.rs.setRow _
    have hgg:=S.out.gg
    refine bodyPost_ret (v:=.agg #[.slice a h.length c,.map (some gm)]) (TT HR _ _ (w.heap.size+1) _ _ rfl hR Tryz.underlying206 rfl (by kernel_rfl)) rfl ?_
    refine⟨below_setRow S.out.hb (Nat.le_succ _) _,gm,rfl,?_,by omega⟩
    have:=S.out.mp
    rw[List.take_length]at this
    exact this.grown (oW _ _ _) (by simp;omega)

def iX(t:Str):List aH->Nat->Int
 |[],_=>-1
 |x::l,k=>if (x.name.toList==t.toList)=true then(k:Int)else iX t l (k+1)
def dX(l:List aH)(t:Str):Int:=iX t l 0
theorem Mj{t:Str}{l:List aH}{k:Nat}(hk:k<l.length)(e:(l[k].name.toList==t.toList)=true):iX t (l.drop k) k=k:=by
 rw[List.drop_eq_getElem_cons hk];show(if _ then(k:Int)else _)=_;rw[if_pos e]
theorem Mi{t:Str}{l:List aH}{k:Nat}(hk:k<l.length)(e:(l[k].name.toList==t.toList)=false):iX t (l.drop k) k=iX t (l.drop (k+1)) (k+1):=by
 rw[List.drop_eq_getElem_cons hk];show(if _ then(k:Int)else _)=_;rw[if_neg (by simp[e])]
theorem Mk{t:Str}{l:List aH}{k:Nat}(hk:l.length<=k):iX t (l.drop k) k = -1:=by
 rw[List.drop_of_length_le hk];rfl
set_option maxHeartbeats 1000000 in
theorem Wu(t:Str)(x:aH)(pa:Option Addr)(pc:Nat)(p:Addr)(w:World)(hp:w.cell? p=some (.string t)) :
 Calls Tryz.prog 211 #[.agg #[.string x.name,.bool x.stat,.slice pa x.params.length pc,.string x.result],.pointer (some p)] w (aj w (.bool (x.name.toList==t.toList))):=by
 have HB:=Lib.hid (av w (.cells #[.string x.name,.bool x.stat,.slice pa x.params.length pc,.string x.result] 48))
 have hp':=cell_below HB.out hp
 have HD:Hid ((x.name.toList==t.toList)=(x.name.toList==t.toList)):=rfl
 go_enter Tryz.func211,Tryz.ntmps211
 go_wp2
 go_ret
 exact⟨rfl,HB.out⟩
set_option maxHeartbeats 2000000 in
theorem X8(l:List aH)(t:Str)(a:Option Addr)(c:Nat)(p:Addr)(w:World)(hl:kH w a l)(hn:l.length<=1000000)(hp:w.cell? p=some (.string t)) :
 Calls Tryz.prog 183 #[.slice a l.length c,.func (.func 211) #[] #[.pointer (some p)]] w (aj w (.int .i64 (dX l t))):=by
 have HL:=Lib.hid hl;clear hl
 have HP:=Lib.hid hp;clear hp
 go_enter Tryz.func183,Tryz.ntmps183
 go_wp2
 go_loopw[8] (fun i wr=>∃k:Nat,k<=l.length/\i = .int .i64 k/\Hid (iX t (l.drop k) k=dX l t)/\Hid (Below w.heap.size w wr)) (fun i _=>l.length-(intOf i).toNat)
 case atStart=>exact⟨0,Nat.zero_le _,rfl,rfl,Below.refl _ _⟩
 case round =>
  obtain⟨k,hk,rfl,HI,HB⟩:=hrel
  by_cases hlt:k<l.length
  ·obtain⟨b,off,pa,pc,rfl,m0,m1,m2,m3,_⟩:=HL.out.below HB.out k hlt
   have HT:=Lib.hid (@Mj t l k hlt)
   have HM:=Lib.hid (@Mi t l k hlt)
   have HC:Hid (∀x:aH,Calls Tryz.prog 211 #[.agg #[.string x.name,.bool x.stat,.slice pa x.params.length pc,.string x.result],.pointer (some p)] wr (aj wr (.bool (x.name.toList==t.toList)))):=fun x=>Wu t x pa pc p wr (cell_below HB.out HP.out)
   generalize l[k]=x at *
   have HD:=Lib.hid (HC.out x)
   clear HC
   cases hq:(x.name.toList==t.toList)
   ·rw[hq]at HD
    have HN:=Lib.hid (HM.out hq)
    clear HM HT
    go_wp2_with (go_at_call 211;refine HD.out.mono ?_;rintro e w1 ⟨rfl,hb1⟩)
    go_roundw
    case rel=>exact⟨k+1,by omega,by go_num,by show _=_;rw[<-HN.out];exact HI.out,HB.out.trans (hb1.mono HB.out.size)⟩
    case measure=>simp[intOf];omega
   ·rw[hq]at HD
    have HN:=Lib.hid (HT.out hq)
    clear HM HT
    go_wp2_with (go_at_call 211;refine HD.out.mono ?_;rintro e w1 ⟨rfl,hb1⟩)
    go_ret
    exact⟨eO (by rw[<-HI.out,HN.out]),HB.out.trans (hb1.mono HB.out.size)⟩
  ·have HN:=Lib.hid (@Mk t l k (by omega))
   go_wp2
   go_ret
   exact⟨eO (by rw[<-HI.out,HN.out]),HB.out⟩
set_option maxHeartbeats 1000000 in
theorem Mv(x:ae)(fa:Option Addr)(fc:Nat)(ma:Option Addr)(mc:Nat)(t:Str)(w:World)(hl:kH w ma x.methods)(hn:x.methods.length<=1000000) :
 Calls Tryz.prog 174 #[.agg #[.string x.name,.string x.aO,.slice fa x.fields.length fc,.slice ma x.methods.length mc],.string t] w (aj w (.int .i64 (dX x.methods t))):=by
 have HB:=Lib.hid (iH w (.cells #[.string x.name,.string x.aO,.slice fa x.fields.length fc,.slice ma x.methods.length mc] 45) (.cells #[.string t] 9))
 have HX:Hid (∀W,W=(w.alloc (.cells #[.string x.name,.string x.aO,.slice fa x.fields.length fc,.slice ma x.methods.length mc] 45)).alloc (.cells #[.string t] 9)->W.cell? ⟨w.heap.size+1,0,none⟩=some (.string t)):=by
  rintro _ rfl
  have h2:=gH w #[.string t] 9 (.cells #[.string x.name,.string x.aO,.slice fa x.fields.length fc,.slice ma x.methods.length mc] 45)
  exact(h2.cell 0 (by simp)).trans (by simp)
 have HL:=Lib.hid hl;clear hl
 go_enter Tryz.func174,Tryz.ntmps174
 go_wp2_with (go_at_call 183;refine(X8 x.methods t ma mc _ _ (HL.out.below HB.out) hn (HX.out _ rfl)).mono ?_;rintro e w1 ⟨rfl,hb1⟩)
 go_ret
 exact⟨rfl,HB.out.trans (hb1.mono HB.out.size)⟩

theorem wu(h:List ae)(s:Str):aI h s = -1∨∃j:Nat,j<h.length/\aI h s=j:=by
 rcases find_spec h s with ⟨_,f2⟩ | ⟨j,hj,f1,_,_⟩
 ·exact .inl f2
 ·exact .inr ⟨j,hj,f1⟩
set_option maxHeartbeats 2000000 in
theorem JD(h:List ae)(s:Str)(a:Option Addr)(c g:Nat)(w:World)(hc:ay w a h)(hl:h.length<=100000)(hg:TabAt w g h) :
 Calls Tryz.prog 203 #[.agg #[.slice a h.length c,.map (some g)],.string s] w (oH (bW h (aI h s)).1 w):=by
 have S:=Lib.hid (TB.start (c:=c) hc hg)
 have HF:Hid (∀(w1:World),TabAt w1 g h->Calls Tryz.prog 114 #[.agg #[.slice a h.length c,.map (some g)],.string s] w1 (aj w1 (.int .i64 (aI h s)))):=fun w1 h1=>uW h s a c g w1 h1
 have HK:Hid (∀(w1:World),ay w1 a h->TabAt w1 g h->Calls Tryz.prog 173 #[.agg #[.slice a h.length c,.map (some g)],.int .i64 (aI h s)] w1 (xn h (aI h s) w1)):=fun w1 h1 h2=>Dm h a c g _ (wu h s) w1 h1 hl h2
 clear hc hg
 unfold xn at HK
 generalize aI h s=i at *
 generalize (bW h i).1=r at *
 generalize (bW h i).2=z at *
 go_enter Tryz.func203,Tryz.ntmps203
 go_upto_region 1 with (fail)
 generalize w.alloc _=W at *
 go_cut[5] (fun v wx=>∃(oa:Option Addr) (oc:Nat),v = .slice oa r.length oc/\Hid (Below w.heap.size w wx)/\Hid (wx.ownsRow w.heap.size 3 1 (.slice oa r.length oc) r.length (r.map bT)))
 case first =>
  have hbs:=S.out.hb.size
  have k0:∀o:WB W,o.u.cell? ⟨w.heap.size,0,none⟩=some (.slice a h.length c):=fun o=>(S.out.now o.h).1
  have k1:∀o:WB W,o.u.cell? ⟨w.heap.size,1,none⟩=some (.map (some g)):=fun o=>(S.out.now o.h).2
  have hne:Nonempty (WB W):=⟨⟨W,Below.refl _ _⟩⟩
  have hcur:Below W.heap.size W W.drew:=(Below.refl _ _).drew
  refine dC (fun w'=>∃o:WB W,w' = o.u) (by kernel_rfl) ?_
  change bO _ _ _ _ _ _ _ _ W.drew
  refine af 0 rfl (by kernel_rfl) (fun _ _ _ _ h=>h) ⟨⟨_,hcur⟩,rfl⟩ (fun K hK=>?_);go_simp;refine hK _ ?_;clear hK K
  refine af 1 rfl (by kernel_rfl) (fun _ _ _ _ h=>h) ⟨⟨_,hcur⟩,rfl⟩ (fun K hK=>?_);go_simp;refine hK _ ?_;clear hK K
  refine af 2 rfl (by kernel_rfl) (fun _ _ _ _ h=>h) ⟨⟨_,hcur⟩,rfl⟩ (fun K hK=>?_);go_simp;refine hK _ ?_;clear hK K
  refine aP 3 rfl (by kernel_rfl) ?_
  go_wp2_with fail
  refine(HF.out _ (S.out.below hcur).tg).mono ?_
  rintro e w2 ⟨rfl,hb2⟩
  have hcur2:Below W.heap.size W w2:=hcur.trans (hb2.mono hcur.size)
  go_wp2
  refine⟨⟨⟨_,hcur2⟩,rfl⟩,?_⟩
  refine aP 4 rfl (by kernel_rfl) ?_
  go_wp2_with fail
  refine(HK.out _ (S.out.below hcur2).hc (S.out.below hcur2).tg).mono ?_
  rintro e w3 ⟨hb3,oa,oc,rfl,own⟩
  have hcur3:Below W.heap.size W w3:=hcur2.trans (hb3.mono hcur2.size)
  have OW:Hid (w3.ownsRow w.heap.size 3 1 (.slice oa r.length oc) r.length (r.map bT)):=rf own (Nat.le_trans hbs hcur2.size)
  clear own
  go_wp2
  refine⟨⟨⟨_,hcur3⟩,rfl⟩,?_⟩
  refine aP 5 rfl (by kernel_rfl) ?_
  go_wp2
  refine⟨⟨⟨_,hcur3⟩,rfl⟩,?_⟩
  refine af 6 rfl (by kernel_rfl) (fun _ _ _ _ h=>h) ⟨⟨_,hcur3⟩,rfl⟩ (fun K hK=>?_);go_simp;refine hK _ ?_;clear hK K
  refine af 7 rfl (by kernel_rfl) (fun _ _ _ _ h=>h) ⟨⟨_,hcur3⟩,rfl⟩ (fun K hK=>?_);go_simp;refine hK _ ?_;clear hK K
  refine af 8 rfl (by kernel_rfl) (fun _ _ _ _ h=>h) ⟨⟨_,hcur3⟩,rfl⟩ (fun K hK=>?_);go_simp;refine hK _ ?_;clear hK K
  refine aP 9 rfl (by kernel_rfl) ?_
  go_wp2
  refine⟨⟨⟨_,hcur3⟩,rfl⟩,?_⟩
  refine dh (by kernel_rfl) ?_ _
  go_wp2
  go_meet
  exact⟨oa,oc,rfl,S.out.hb.trans (hcur3.mono hbs),OW.out⟩
 case rest =>
  obtain⟨oa,oc,rfl,HB,OW⟩:=hcut
  go_wp2
  go_ret
  exact⟨HB.out,oa,oc,rfl,OW.out⟩

def mh(h:List ae)(t:Str):List Int->Int × Int
 |[]=>(-1,-1)
 |i::l=>match h[i.toNat]? with
  |some x=>if 0<=dX x.methods t then(i,dX x.methods t)else mh h t l
  |none=>(-1,-1)
theorem MQ{h:List ae}{t:Str}{l:List Int}{q k:Nat}(hq:q<l.length)(hk:k<h.length)(e:l[q]=(k:Int))(hm:0<=dX h[k].methods t):mh h t (l.drop q)=((k:Int),dX h[k].methods t):=by
 rw[List.drop_eq_getElem_cons hq,e]
 show(match h[((k:Int)).toNat]? with | some x=>_ | none=>_)=_
 simp[hk,hm]
theorem MO{h:List ae}{t:Str}{l:List Int}{q k:Nat}(hq:q<l.length)(hk:k<h.length)(e:l[q]=(k:Int))(hm:¬ 0<=dX h[k].methods t):mh h t (l.drop q)=mh h t (l.drop (q+1)):=by
 rw[List.drop_eq_getElem_cons hq,e]
 show(match h[((k:Int)).toNat]? with | some x=>_ | none=>_)=_
 simp[hk,hm]
theorem WS{h:List ae}{t:Str}{l:List Int}{q:Nat}(hq:l.length<=q):mh h t (l.drop q)=(-1,-1):=by
 rw[List.drop_of_length_le hq];rfl
def eP(h:List ae)(i:Int)(t:Str):Int × Int:=mh h t (bW h i).1
theorem PW{h:List ae}:∀(n:Nat) (i:Int) (l:List Int),(i = -1∨∃j:Nat,j<h.length/\i=j)->l.Nodup->(∀x∈l,∃j:Nat,j<h.length/\x=j)->(jg h n i l).1.Nodup/\∀x∈(jg h n i l).1,∃j:Nat,j<h.length/\x=j
 |0,i,l,_,h2,h3=>⟨h2,h3⟩
 |n+1,i,l,h1,h2,h3=>by
  by_cases hq:0<=i/\i∉l
  ·rw[uz hq.1 hq.2]
   refine PW n _ _ (Dp i) ?_ ?_
   ·rw[List.nodup_append]
    exact⟨h2,by simp,fun x hx y hy e=>by rw[List.mem_singleton.1 hy]at e;exact hq.2 (e▸hx)⟩
   ·intro x hx
    rcases List.mem_append.1 hx with hx | hx
    ·exact h3 x hx
    ·rw[List.mem_singleton.1 hx]
     rcases h1 with rfl | h1
     ·have:=hq.1;omega
     ·exact h1
  ·rw[qC hq];exact⟨h2,h3⟩
theorem zh{h:List ae}{i:Int}(hi:i = -1∨∃j:Nat,j<h.length/\i=j):(bW h i).1.Nodup/\∀x∈(bW h i).1,∃j:Nat,j<h.length/\x=j :=
 PW _ _ _ hi List.nodup_nil (by simp)
theorem zg{h:List ae}{i:Int}(hi:i = -1∨∃j:Nat,j<h.length/\i=j):(bW h i).1.length<=h.length:=rD _ _ (zh hi).1 (zh hi).2

set_option maxHeartbeats 4000000 in
theorem JE(h:List ae)(t:Str)(a:Option Addr)(c g:Nat)(i:Int)(hi:i = -1∨∃j:Nat,j<h.length/\i=j)(w:World)(hc:ay w a h)(hl:h.length<=100000)(hm:∀x∈h,x.methods.length<=100000)(hg:TabAt w g h) :
 Calls Tryz.prog 113 #[.agg #[.slice a h.length c,.map (some g)],.int .i64 i,.string t] w (aj w (.tuple #[.int .i64 (eP h i t).1,.int .i64 (eP h i t).2])):=by
 have S:=Lib.hid (TB.start (c:=c) hc hg)
 have HK:Hid (∀(w1:World),ay w1 a h->TabAt w1 g h->Calls Tryz.prog 173 #[.agg #[.slice a h.length c,.map (some g)],.int .i64 i] w1 (xn h i w1)):=fun w1 h1 h2=>Dm h a c g _ hi w1 h1 hl h2
 have HIN:=Lib.hid (zh hi).2
 have hlen:=zg hi
 have HP:Hid (eP h i t=mh h t (bW h i).1):=rfl
 clear hc hg hi
 unfold xn at HK
 generalize eP h i t=p at *
 generalize (bW h i).1=r at *
 generalize (bW h i).2=z at *
 go_enter Tryz.func113,Tryz.ntmps113
 go_upto_region 1 with (fail)
 generalize w.alloc _=W at *
 obtain⟨z0,z1⟩:=S.out.now (Below.refl _ _)
 go_wp2_with (go_at_call 173;refine(HK.out _ S.out.hc S.out.tg).mono ?_;rintro e w1 ⟨hb1,oa,oc,rfl,own⟩)
 obtain⟨-,_,_,he,-,hat⟩:=jK own
 cases he
 have S1:=Lib.hid (S.out.below hb1)
 have HA:=Lib.hid hat
 clear own hat hb1 S HK z0 z1
 go_loopw[21] (fun v wr=>∃q:Nat,q<=r.length/\v = .int .i64 q/\Hid (mh h t (r.drop q)=p)/\Hid (TB h a c g w wr)/\Hid (aM wr oa r)) (fun v _=>r.length-(intOf v).toNat)
 case atStart=>exact⟨0,Nat.zero_le _,rfl,by show _=_;rw[HP.out];rfl,S1.out,HA.out⟩
 case round =>
  clear S1 HA
  obtain⟨q,hq,rfl,HI,S,HA⟩:=hrel
  by_cases hlt:q<r.length
  case neg =>
   have HN:=Lib.hid (@WS h t r q (by omega))
   go_wp2
   refine bodyPost_ret (v:=.tuple #[.int .i64 (-1),.int .i64 (-1)]) (by simp[results,Tryz.results113,go_sem]) rfl ?_
   exact⟨by rw[<-HI.out,HN.out],S.out.hb⟩
  case pos =>
   obtain⟨b1,o1,he,p1⟩:=HA.out q hlt
   subst he
   obtain⟨k,hk,ek⟩:=HIN.out _ (List.getElem_mem hlt)
   have HH:=Lib.hid (@MQ h t r q k hlt hk ek)
   have HM:=Lib.hid (@MO h t r q k hlt hk ek)
   rw[ek]at p1
   obtain⟨z0,z1⟩:=S.out.now (Below.refl _ _)
   obtain⟨b,off,fa,fc,ma,mc,he,m0,m1,m2,m3,_,hms⟩:=S.out.hc k hk
   subst he
   have HMI:=Lib.hid (Mv h[k] fa fc ma mc t wr hms (by have:=hm _ (List.getElem_mem hk);omega))
   generalize h[k]=x at *
   clear HIN ek
   by_cases hz:0<=dX x.methods t
   case pos =>
    have HN:=Lib.hid (HH.out hz)
    generalize dX x.methods t=y at *
    clear HH HM
    go_wp2_with (go_at_call 174;refine HMI.out.mono ?_;rintro e w2 ⟨rfl,hb2⟩)
    refine bodyPost_ret (v:=.tuple #[.int .i64 k,.int .i64 y]) (by simp[results,Tryz.results113,go_sem]) rfl ?_
    exact⟨by rw[<-HI.out,HN.out],(S.out.below hb2).hb⟩
   case neg =>
    have HN:=Lib.hid (HM.out hz)
    generalize dX x.methods t=y at *
    clear HH HM
    go_wp2_with (go_at_call 174;refine HMI.out.mono ?_;rintro e w2 ⟨rfl,hb2⟩)
    go_roundw
    case rel=>exact⟨q+1,by omega,by go_num,by show _=_;rw[<-HN.out];exact HI.out,S.out.below hb2,HA.out.below hb2⟩
    case measure=>simp[intOf];omega
end Go.Proofs.YtjnbddedmbhiaaaGreatDoor
namespace Go.Proofs.YtjnbddedmbhiaaaGreatDoor
open Go.RowKit Go.ak

def nO(s:Str):List Str->Nat->Int
 |[],_=>-1
 |x::l,k=>if (x.toList==s.toList)=true then(k:Int)else nO s l (k+1)
theorem XG{s:Str}{l:List Str}{k:Nat}(hk:k<l.length)(e:(l[k].toList==s.toList)=true):nO s (l.drop k) k=k:=by
 rw[List.drop_eq_getElem_cons hk];show(if _ then(k:Int)else _)=_;rw[if_pos e]
theorem XF{s:Str}{l:List Str}{k:Nat}(hk:k<l.length)(e:(l[k].toList==s.toList)=false):nO s (l.drop k) k=nO s (l.drop (k+1)) (k+1):=by
 rw[List.drop_eq_getElem_cons hk];show(if _ then(k:Int)else _)=_;rw[if_neg (by simp[e])]
theorem XH{s:Str}{l:List Str}{k:Nat}(hk:l.length<=k):nO s (l.drop k) k = -1:=by
 rw[List.drop_of_length_le hk];rfl
theorem Nq(s:Str):∀(l:List Str) (k:Nat),decide (0<=nO s l k)=fT l s
 |[],k=>rfl
 |x::l,k=>by
  show decide (0<=(if (x.toList==s.toList)=true then(k:Int)else nO s l (k+1)))=_
  unfold fT aD
  rw[List.any_cons]
  cases hq:(x.toList==s.toList)
  ·rw[if_neg (by simp),Nq s l (k+1)];rfl
  ·rw[if_pos rfl];simp
set_option maxHeartbeats 1000000 in
theorem X6(l:List Str)(s:Str)(a:Option Addr)(c:Nat)(w:World)(hc:bF w a l)(hl:l.length<=1000000) :
 Calls Tryz.prog 210 #[.slice a l.length c,.string s] w (Same w (.int .i64 (nO s l 0))):=by
 have HC:=Lib.hid hc;clear hc
 go_enter Tryz.func210,Tryz.ntmps210
 go_wp2
 go_loop[8] (fun i=>∃k:Nat,k<=l.length/\i = .int .i64 k/\Hid (nO s (l.drop k) k=nO s l 0)) (fun i=>l.length-(intOf i).toNat)
 case atStart=>exact⟨0,Nat.zero_le _,rfl,rfl⟩
 case round =>
  obtain⟨k,hk,rfl,HI⟩:=hrel
  by_cases hlt:k<l.length
  ·obtain⟨b,off,rfl,m0⟩:=HC.out k hlt
   have HT:=Lib.hid (@XG s l k hlt)
   have HM:=Lib.hid (@XF s l k hlt)
   generalize l[k]=x at *
   cases hq:(x.toList==s.toList)
   ·have HN:=Lib.hid (HM.out hq)
    have hq2:(s.toList==x.toList)=false:=by rw[<-hq];exact Bool.beq_comm
    go_wp2
    go_round
    case rel=>exact⟨k+1,by omega,by go_num,by show _=_;rw[<-HN.out];exact HI.out⟩
    case measure=>simp[intOf];omega
   ·have HN:=Lib.hid (HT.out hq)
    have hq2:(s.toList==x.toList)=true:=by rw[<-hq];exact Bool.beq_comm
    go_wp2
    go_ret
    exact⟨eO (by rw[<-HI.out,HN.out]),rfl⟩
  ·have HN:=Lib.hid (@XH s l k (by omega))
   go_wp2
   go_ret
   exact⟨eO (by rw[<-HI.out,HN.out]),rfl⟩
set_option maxHeartbeats 1000000 in
theorem ZZ(l:List Str)(s:Str)(a:Option Addr)(c:Nat)(w:World)(hc:bF w a l)(hl:l.length<=1000000) :
 Calls Tryz.prog 171 #[.slice a l.length c,.string s] w (Same w (.bool (fT l s))):=by
 rw[<-Nq s l 0]
 generalize hi:nO s l 0=i
 have HK:=Lib.hid (X6 l s a c w hc hl)
 rw[hi]at HK
 go_enter Tryz.func171,Tryz.ntmps171
 go_wp2_with (go_at_call 210;refine HK.out.mono ?_;rintro e w1 ⟨rfl,rfl⟩)
 go_ret
 exact⟨rfl,rfl⟩
end Go.Proofs.YtjnbddedmbhiaaaGreatDoor
namespace Go.Proofs.YtjnbddedmbhiaaaGreatDoor
open Go.RowKit Go.ak Go.AM

def nameAt(h:List ae)(i:Int):Str:=match h[i.toNat]? with
 |some x=>x.name
 |none=>⟨#[]⟩
def lY(h:List ae)(s:Str):List Str:=(bW h (aI h s)).1.map (nameAt h)
def jq(h:List ae)(s t:Str):Bool:=fT (lY h s) t
theorem Sg(h:List ae)(s:Str):(lY h s).length<=h.length:=by
 unfold lY
 rw[List.length_map]
 exact zg (wu h s)

theorem UK{w:World}{b1 b2 e1 e2 s1 s2 n1 n2:Nat}{v1 v2:Value}{xs1 xs2:List Value}(h1:w.ownsRow b1 e1 s1 v1 n1 xs1)(h2:w.ownsRow b2 e2 s2 v2 n2 xs2)(hne:e1≠e2)(q:Nat)(k1:v1.ownBlock=some q)(k2:v2.ownBlock=some q):False:=by
 rcases h1.2 with ⟨rfl,_⟩ | ⟨g1,_,_,rfl,_,hh1,_⟩
 ·simp[Value.ownBlock]at k1
 ·rcases h2.2 with ⟨rfl,_⟩ | ⟨g2,_,_,rfl,_,hh2,_⟩
  ·simp[Value.ownBlock]at k2
  ·simp only[Value.ownBlock,Option.some.injEq]at k1 k2
   rw[k1]at hh1
   rw[k2,hh1]at hh2
   simp only[Option.some.injEq,Obj.cells.injEq]at hh2
   exact hne hh2.2.1
theorem UJ{w w':World}{b1 b2 e1 e2 s1 s2 n1 n2:Nat}{v1 v2:Value}{xs1 xs2:List Value}(h1:w.ownsRow b1 e1 s1 v1 n1 xs1)(h2:w.ownsRow b2 e2 s2 v2 n2 xs2)(hne:e1≠e2)(hg:w.grownBy w' v2.ownBlock):w'.ownsRow b1 e1 s1 v1 n1 xs1 :=
 h1.kept hg (by
  cases hv:v1.ownBlock with
  |none=>exact .inl rfl
  |some q=>exact .inr (fun e=>UK h1 h2 hne q hv e.symm))
structure NT(h:List ae)(a:Option Addr)(c g tb:Nat)(r:List Int)(ia:Option Addr)(ic:Nat)(out:List Str)(oa:Option Addr)(oc:Nat)(w wr:World):Prop where
 hb:Below w.heap.size w wr
 bt:ah wr tb #[.slice a h.length c,.map (some g)] 206
 hc:ay wr a h
 tg:TabAt wr g h
 io:wr.ownsRow w.heap.size 3 1 (.slice ia r.length ic) r.length (r.map bT)
 ow:wr.ownsRow w.heap.size 9 1 (.slice oa out.length oc) out.length (out.map Value.string)
section
variable {h:List ae}{a:Option Addr}{c g tb:Nat}{r:List Int}{ia:Option Addr}{ic:Nat}{out:List Str}{oa:Option Addr}{oc:Nat}{w wr w':World}
theorem NT.below(k:NT h a c g tb r ia ic out oa oc w wr)(hb:Below wr.heap.size wr w'):NT h a c g tb r ia ic out oa oc w w' :=
 ⟨k.hb.trans (hb.mono k.hb.size),k.bt.below hb,k.hc.below hb,k.tg.below hb,gL k.io hb,gL k.ow hb⟩
theorem NT.grow{out':List Str}{oa':Option Addr}{oc':Nat}(hc:ay w a h)(k:NT h a c g tb r ia ic out oa oc w wr)(own:w'.ownsRow w.heap.size 9 1 (.slice oa' out'.length oc') out'.length (out'.map Value.string))(hg:wr.grownBy w' (Value.slice oa out.length oc).ownBlock):NT h a c g tb r ia ic out' oa' oc' w w' :=
 have hb:=vZ k.hb k.ow hg
 ⟨hb,k.bt.grown hg (gD k.ow k.bt (by decide)),hc.below hb,k.tg.grown hg (rq k.ow k.tg),UJ k.io k.ow (by decide) hg,own⟩
theorem NT.at(k:NT h a c g tb r ia ic out oa oc w wr):aM wr ia r:=by
 obtain⟨-,_,_,he,-,hat⟩:=jK k.io
 cases he
 exact hat
end
set_option maxHeartbeats 4000000 in
theorem Sd(h:List ae)(s:Str)(a:Option Addr)(c:Nat)(w:World)(hc:ay w a h)(hl:h.length<=100000) :
 Calls Tryz.prog 172 #[.agg #[.slice a h.length c],.string s] w (zA (lY h s) w):=by
 have HB:=Lib.hid (av w (.cells #[.slice a h.length c] 24))
 have HX:Hid (ah (w.alloc (.cells #[.slice a h.length c] 24)) w.heap.size #[.slice a h.length c] 24):=aL ..
 have HC0:=Lib.hid hc
 have HT:Hid (∀w1,ay w1 a h->Calls Tryz.prog 112 #[.agg #[.slice a h.length c]] w1 (wV h a c w1)):=fun w1 h1=>xC h a c w1 h1 hl
 clear hc
 go_enter Tryz.func172,Tryz.ntmps172
 go_upto_region 1 with (fail)
 generalize w.alloc (.cells #[.slice a h.length c] 24)=W at *
 have x0:=HX.out.cell 0 (by simp)
 go_wp2_with (go_at_call 112;refine(HT.out _ (HC0.out.below HB.out)).mono ?_;rintro e w1 ⟨hb1,g,rfl,tg,hgg⟩)
 have hws:=HB.out.size
 have hb1':Below w.heap.size w w1:=HB.out.trans (hb1.mono hws)
 have HB2:=Lib.hid (hb1'.trans ((av w1 (.cells #[.slice a h.length c,.map (some g)] 206)).mono hb1'.size))
 have HX2:Hid (ah (w1.alloc (.cells #[.slice a h.length c,.map (some g)] 206)) w1.heap.size #[.slice a h.length c,.map (some g)] 206):=aL ..
 have HG2:=Lib.hid (tg.below (av w1 (.cells #[.slice a h.length c,.map (some g)] 206)))
 clear hb1 tg HX x0
 refine(JD h s a c g _ (HC0.out.below HB2.out) hl HG2.out).mono ?_
 rintro e w3 ⟨hb3,ia,ic,rfl,own⟩
 have hlen:=zg (wu h s)
 have S0:Hid (NT h a c g w1.heap.size (bW h (aI h s)).1 ia ic [] none 0 w w3):=⟨HB2.out.trans (hb3.mono HB2.out.size),HX2.out.below hb3,HC0.out.below (HB2.out.trans (hb3.mono HB2.out.size)),HG2.out.below hb3,rf own HB2.out.size,World.ownsRow_nil _ _ _ _⟩
 have HIN:=Lib.hid (zh (wu h s)).2
 have HP:Hid (lY h s=(bW h (aI h s)).1.map (nameAt h)):=rfl
 clear own hb3 HB2 HX2 HG2 HT
 generalize lY h s=p at *
 generalize (bW h (aI h s)).1=r at *
 generalize w1.heap.size=tb at *
 go_wp2
 go_loopw[6,15] (fun v i wr=>∃(q:Nat) (out:List Str) (oa:Option Addr) (oc:Nat),q<=r.length/\out.length<=q/\i = .int .i64 q/\v = .slice oa out.length oc/\Hid (out=(r.take q).map (nameAt h))/\Hid (NT h a c g tb r ia ic out oa oc w wr)) (fun _ i _=>r.length-(intOf i).toNat)
 case atStart=>exact⟨0,[],none,0,Nat.zero_le _,Nat.zero_le _,rfl,rfl,(by show _=_;simp),S0.out⟩
 case round =>
  clear S0
  obtain⟨q,out,oa,oc,hq,hol,rfl,rfl,HI,S⟩:=hrel
  by_cases hlt:q<r.length
  case neg =>
   have HE:Hid (out=p):=by show _=_;rw[HP.out,HI.out,List.take_of_length_le (by omega)]
   go_wp2
   go_ret
   exact⟨S.out.hb,oa,oc,by rw[HE.out]<;>rfl,by rw[<-HE.out];exact S.out.ow⟩
  case pos =>
   obtain⟨b1,o1,he,p1⟩:=S.out.at q hlt
   subst he
   obtain⟨k,hk,ek⟩:=HIN.out _ (List.getElem_mem hlt)
   have HJN:Hid (out++[h[k].name]=(r.take (q+1)).map (nameAt h)):=by
    show _=_
    rw[HI.out,List.take_succ_eq_append_getElem hlt,ek,List.map_append]
    simp[nameAt,hk]
   rw[ek]at p1
   obtain⟨b,off,fa,fc,ma,mc,he,m0,m1,m2,m3,_,hms⟩:=S.out.hc k hk
   subst he
   have t0:=S.out.bt.cell 0 (by simp)
   simp only[List.getElem_toArray,List.getElem_cons_zero]at t0
   clear m1 m2 m3 hms ek HI
   generalize h[k].name=nm at *
   have S1:=Lib.hid (S.out.below (av wr (.cells #[.string nm] 9)))
   have B1:Hid (ah (wr.alloc (.cells #[.string nm] 9)) wr.heap.size #[.string nm] 9):=aL ..
   have hbs:=S.out.hb.size
   have hoc:out.length<=1000000:=by omega
   go_wp2_with (at_builtin;refine Cz rfl _ _ rfl w.heap.size _ out rfl S1.out.ow wr.heap.size nm rfl B1.out hoc (by simp;omega) ?_;intro v' w3 own3 grown3)
   obtain⟨-,oa3,oc3,rfl,-,-⟩:=qZ own3
   have S3:=Lib.hid (NT.grow HC0.out S1.out own3 grown3)
   clear S1 B1 own3 grown3 S t0 p1 m0
   have hlen2:(out++[nm]).length=out.length+1:=by simp
   go_wp2
   go_roundw
   case rel=>exact⟨q+1,out++[nm],oa3,oc3,by omega,by omega,by go_num,(by first | rfl | simp),HJN.out,S3.out⟩
   case measure=>simp[intOf];omega

set_option maxHeartbeats 1000000 in
theorem Nv(h:List ae)(s t:Str)(a:Option Addr)(c:Nat)(w:World)(hc:ay w a h)(hl:h.length<=100000) :
 Calls Tryz.prog 111 #[.agg #[.slice a h.length c],.string s,.string t] w (aj w (.bool (jq h s t))):=by
 have HB:=Lib.hid (av w (.cells #[.slice a h.length c] 24))
 have HX:Hid (ah (w.alloc (.cells #[.slice a h.length c] 24)) w.heap.size #[.slice a h.length c] 24):=aL ..
 have HC:=Lib.hid (hc.below HB.out)
 have HD:Hid (jq h s t=fT (lY h s) t):=rfl
 have hsl:=Sg h s
 have HK:Hid (∀w1,ay w1 a h->Calls Tryz.prog 172 #[.agg #[.slice a h.length c],.string s] w1 (zA (lY h s) w1)):=fun w1 h1=>Sd h s a c w1 h1 hl
 clear hc
 generalize jq h s t=r at *
 generalize lY h s=p at *
 go_enter Tryz.func111,Tryz.ntmps111
 go_upto_region 1 with (fail)
 generalize w.alloc (.cells #[.slice a h.length c] 24)=W at *
 have x0:=HX.out.cell 0 (by simp)
 go_wp2_with fail
 refine(HK.out _ HC.out).mono ?_
 rintro e w1 ⟨hb1,oa,oc,rfl,hown⟩
 have OW:=Lib.hid (vC hown).2
 clear hown x0
 go_wp2_with fail
 refine(ZZ p t oa oc _ OW.out (by omega)).mono ?_
 rintro e w2 ⟨rfl,rfl⟩
 go_wp2
 go_ret
 exact⟨by rw[HD.out]<;>rfl,HB.out.trans (hb1.mono HB.out.size)⟩
end Go.Proofs.YtjnbddedmbhiaaaGreatDoor
namespace Go.Proofs.YtjnbddedmbhiaaaGreatDoor
open Go.RowKit Go.ak

def dm(h:List ae)(s t:Str):Bool:=aD s t||((aD s tu && !aD t aY)||((jy h s&&jy h t)&&jq h s t))
set_option maxHeartbeats 8000000 in
theorem uT(h:List ae)(ha:Option Addr)(hc:Nat)(f:aA)(va:Option Addr)(vc:Nat)(ca:Option Addr)(cc:Nat)(s t:Str)(w:World)(h0:ay w ha h)(hv:aK w va f.vars)(hl:h.length<=100000) :
 Calls Tryz.prog 127 #[aR h ha hc f va vc ca cc,.string s,.string t] w (aj w (.bool (dm h s t))):=by
 have S:Hid (TY h ha hc f va vc ca cc w.heap.size w _):=TY.start (hc:=hc) (vc:=vc) (ca:=ca) (cc:=cc) h0 hv
 have HC:Hid (∀(x:Str) (w1:World),ay w1 ha h->aK w1 va f.vars->Calls Tryz.prog 130 #[aR h ha hc f va vc ca cc,.string x] w1 (aj w1 (.bool (jy h x)))):=fun x w1 h1 h2=>Dk h ha hc f va vc ca cc x w1 h1 h2 (by omega)
 have HS:Hid (∀w1,ay w1 ha h->Calls Tryz.prog 111 #[.agg #[.slice ha h.length hc],.string s,.string t] w1 (aj w1 (.bool (jq h s t)))):=fun w1 h1=>Nv h s t ha hc w1 h1 hl
 clear h0 hv
 unfold aR at *
 have D1:(s.toList==t.toList)=aD s t:=rfl
 have D2:=Zv s
 have D3:=eq_int t
 unfold dm
 generalize jq h s t=b at *
 cases e1:aD s t with
 |true =>
  rw[e1]at D1
  clear HC HS D2 D3 e1
  go_enter Tryz.func127,Tryz.ntmps127
  go_wp2
  go_ret
  exact⟨rfl,S.out.hb⟩
 |false =>
  rw[e1]at D1
  cases e23:(aD s tu && !aD t aY)with
  |true =>
   rw[Bool.and_eq_true]at e23
   have e3:aD t aY=false:=by simpa using e23.2
   rw[e23.1]at D2
   rw[e3]at D3
   clear HC HS e1 e23 e3
   go_enter Tryz.func127,Tryz.ntmps127
   go_wp2
   go_ret
   exact⟨rfl,S.out.hb⟩
  |false =>
   cases e2:aD s tu<;>cases e3:aD t aY<;>cases c1:jy h s<;>cases c2:jy h t
   all_goals first
    |(rw[e2,e3]at e23;exact absurd e23 (by decide))
    |skip
   all_goals
    rw[e2]at D2
    rw[e3]at D3
    have C1:=Lib.hid (HC.out s)
    have C2:=Lib.hid (HC.out t)
    rw[c1]at C1
    rw[c2]at C2
    clear e1 e2 e3 e23 c1 c2 HC
    go_enter Tryz.func127,Tryz.ntmps127
    go_upto_region 1 with (fail)
    generalize w.alloc _=W at *
    obtain⟨z0,z1,z2,z3,z4,z5,z6,z7⟩:=S.out.cells
    go_wp2_with (first
     |(go_at_call 130;(with_reducible refine(C1.out _ S.out.ch S.out.hv).mono ?_);rintro e w1 ⟨rfl,hb1⟩;have S:=Lib.hid (S.out.below hb1);clear hb1;obtain⟨z0,z1,z2,z3,z4,z5,z6,z7⟩:=S.out.cells)
     |(go_at_call 130;(with_reducible refine(C2.out _ S.out.ch S.out.hv).mono ?_);rintro e w1 ⟨rfl,hb1⟩;have S:=Lib.hid (S.out.below hb1);clear hb1;obtain⟨z0,z1,z2,z3,z4,z5,z6,z7⟩:=S.out.cells)
     |(go_at_call 111;refine(HS.out _ S.out.ch).mono ?_;rintro e w1 ⟨rfl,hb1⟩;have S:=Lib.hid (S.out.below hb1);clear hb1))
    go_ret
    exact⟨rfl,S.out.hb⟩
end Go.Proofs.YtjnbddedmbhiaaaGreatDoor
