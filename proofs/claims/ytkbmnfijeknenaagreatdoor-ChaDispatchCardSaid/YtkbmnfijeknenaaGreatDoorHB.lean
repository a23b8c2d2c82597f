/-
  The program's subclasses: plain part, and memory.
  The program's subclasses: table.subs.
  The program's hierarchies: Subs and Targets.
-/
import Derived.Test.YtkbmnfijeknenaaGreatDoorHA
import Derived.Test.YtkbmnfijeknenaaGreatDoorGA
import Derived.Test.YtkbmnfijeknenaaGreatDoorTD
import Derived.Test.YtkbmnfijeknenaaGreatDoorH0
namespace Go.Proofs.YtkbmnfijeknenaaGreatDoor
open Go.RowKit Go.Unit0 Go.AM

theorem Up.pos {h:List Cls} {i x:Int} (k:Up h i x):0≤x:=by
 induction k with
 | refl h0=>exact h0
 | step _ _ ih=>exact ih
def kidB (h:List Cls) (j:Int) (i:Nat):Bool:=decide (0≤j) && h[i]?.elim false (fun x=>decide (findI h x.name=(i:Int)) && decide (supI h x=j))
def kidL (h:List Cls) (m:Nat) (j:Int):List Int:=idxL m (kidB h j)
theorem kidL_nil (h:List Cls):kidL h 0=fun _=>[]:=by funext j;rfl
theorem kidB_at {h:List Cls} {i:Nat} (hi:i < h.length) (j:Int):kidB h j i=true ↔ 0≤j∧findI h h[i].name=(i:Int)∧supI h h[i]=j:=by
 unfold kidB
 rw [List.getElem?_eq_getElem hi]
 simp
theorem kidL_t {h:List Cls} {i:Nat} (hi:i < h.length) (h1:findI h h[i].name=(i:Int)) (h2:0≤supI h h[i]):kidL h (i + 1)=fun j=>if j=supI h h[i] then kidL h i (supI h h[i]) ++ [(i:Int)] else kidL h i j:=by
 funext j
 unfold kidL
 by_cases e:j=supI h h[i]
 ·subst e
  rw [if_pos rfl,idxL_t ((kidB_at hi _).2 ⟨h2,h1,rfl⟩)]
 ·rw [if_neg e,idxL_f]
  cases hb:kidB h j i with
  | false=>rfl
  | true=>exact absurd ((kidB_at hi j).1 hb).2.2.symm e
theorem kidL_f {h:List Cls} {i:Nat} (hi:i < h.length) (hn:¬ (0≤supI h h[i]∧findI h h[i].name=(i:Int))):kidL h (i + 1)=kidL h i:=by
 funext j
 unfold kidL
 rw [idxL_f]
 cases hb:kidB h j i with
 | false=>rfl
 | true =>
   obtain ⟨h1,h2,h3⟩:=(kidB_at hi j).1 hb
   exact absurd ⟨h3 ▸ h1,h2⟩ hn
theorem kidL_len (h:List Cls) (m:Nat) (j:Int):(kidL h m j).length≤m:=idxL_len _ _
theorem kidL_mem {h:List Cls} {j x:Int}:x ∈ kidL h h.length j ↔ isFst h x∧0≤j∧supAt h x=j:=by
 unfold kidL
 rw [idxL_mem]
 constructor
 ·rintro ⟨i,hi,hb,rfl⟩
  obtain ⟨h1,h2,h3⟩:=(kidB_at hi j).1 hb
  exact ⟨⟨i,hi,rfl,h2⟩,h1,by rw [supAt_nat hi];exact h3⟩
 ·rintro ⟨⟨i,hi,rfl,h2⟩,h1,h3⟩
  rw [supAt_nat hi] at h3
  exact ⟨i,hi,(kidB_at hi j).2 ⟨h1,h2,h3⟩,rfl⟩
structure BF (h:List Cls) (r:Int) (D L:List Int):Prop where
 nd:L.Nodup
 rt:r ∈ L
 sb:∀ x ∈ L,SubI h r x
 cl:∀ y ∈ D,∀ x ∈ kidL h h.length y,x ∈ L
theorem BF.start {h:List Cls} {r:Int} (k:isFst h r):BF h r [] [r] :=
 ⟨by simp,by simp,fun x hx=>by rw [List.mem_singleton.1 hx];exact ⟨k,.refl k.ge⟩,fun _ h=>(by cases h)⟩
theorem BF.push {h:List Cls} {r:Int} {D L:List Int} {x y:Int} (k:BF h r D L) (hy:y ∈ L) (hx:x ∈ kidL h h.length y) (hn:x ∉ L):BF h r D (L ++ [x]):=by
 obtain ⟨h1,h2,h3⟩:=kidL_mem.1 hx
 refine ⟨?_,List.mem_append_left _ k.rt,fun z hz=>?_,fun y hy x hx=>List.mem_append_left _ (k.cl y hy x hx)⟩
 ·rw [List.nodup_append]
  exact ⟨k.nd,by simp,fun a ha b hb e=>by rw [List.mem_singleton.1 hb] at e;exact hn (e ▸ ha)⟩
 ·rcases List.mem_append.1 hz with hz | hz
  ·exact k.sb z hz
  ·rw [List.mem_singleton.1 hz]
   exact ⟨h1,.step h1.ge (by rw [h3];exact (k.sb y hy).2)⟩
theorem BF.next {h:List Cls} {r:Int} {D L:List Int} {y:Int} (k:BF h r D L) (hy:∀ x ∈ kidL h h.length y,x ∈ L):BF h r (D ++ [y]) L :=
 ⟨k.nd,k.rt,k.sb,fun z hz=>by
   rcases List.mem_append.1 hz with hz | hz
   ·exact k.cl z hz
   ·rw [List.mem_singleton.1 hz];exact hy⟩
theorem BF.all {h:List Cls} {r:Int} {L:List Int} (k:BF h r L L) {x:Int} (hx:Up h x r):isFst h x→x ∈ L:=by
 generalize hr:r=r' at hx
 induction hx with
 | refl _=>intro _;subst hr;exact k.rt
 | step h0 hu ih =>
   intro hf
   have hs:=hu.ge
   have:=ih hr (supAt_fst hs)
   exact k.cl _ this _ (kidL_mem.2 ⟨hf,hs,rfl⟩)
theorem BF.done {h:List Cls} {r:Int} {L:List Int} (k:BF h r L L):SubL h r L:=⟨k.nd,fun x=>⟨k.sb x,fun hx=>k.all hx.2 hx.1⟩⟩
theorem BF.len {h:List Cls} {r:Int} {D L:List Int} (k:BF h r D L):L.length≤h.length:=nodup_len _ _ k.nd (fun x hx=>(k.sb x hx).1.nat)
theorem sub_none (h:List Cls) {r:Int} (hr:¬ 0≤r):SubL h r []:=⟨by simp,fun x=>⟨fun h=>(by cases h),fun hx=>absurd hx.2.pos hr⟩⟩
def rowV (F:Int→Option Value) (j:Int):Value:=(F j).getD (.slice none 0 0)
structure KidM (w:World) (base gm:Nat) (K:Int→List Int) (F:Int→Option Value) (n:Nat):Prop where
 mp:MapF w gm (Value.int .i64) F n
 ow:∀ j,w.ownsRow base 3 1 (rowV F j) (K j).length ((K j).map intV)
 ap:∀ (i j:Int) (q:Nat),i ≠ j→(rowV F i).ownBlock=some q→(rowV F j).ownBlock=some q→False
theorem KidM.below {w w':World} {base gm:Nat} {K:Int→List Int} {F:Int→Option Value} {n:Nat} (k:KidM w base gm K F n) (hb:Below w.heap.size w w'):KidM w' base gm K F n :=
 ⟨k.mp.below hb,fun j=>owns_below (k.ow j) hb,k.ap⟩
theorem KidM.start {w:World} {base gm:Nat} (hm:MapF w gm (Value.int .i64) (fun _=>none) 0):KidM w base gm (fun _=>[]) (fun _=>none) 0 :=
 ⟨hm,fun _=>World.ownsRow_nil _ _ _ _,fun i j q _ e=>by simp [rowV,Value.ownBlock] at e⟩
theorem KidM.more {w:World} {base gm:Nat} {K:Int→List Int} {F:Int→Option Value} {n m:Nat} (k:KidM w base gm K F n) (hm:n≤m):KidM w base gm K F m:=⟨Go.Proofs.YtkbmnfijeknenaaGreatDoor.more k.mp hm,k.ow,k.ap⟩
theorem KidM.put {w w1 w2:World} {base gm:Nat} {K:Int→List Int} {F:Int→Option Value} {n:Nat} (k:KidM w base gm K F n) {j:Int} {v':Value} {y:Int}
 (ow:w1.ownsRow base 3 1 v' (K j ++ [y]).length ((K j ++ [y]).map intV)) (hg:w.grownBy w1 (rowV F j).ownBlock) (hfr:v'.ownBlock=(rowV F j).ownBlock ∨ v'.ownBlock=some w.heap.size)
 (hm:MapF w2 gm (Value.int .i64) (fun k'=>if k' = j then some v' else F k') (n + 1)) (hg2:w1.grownBy w2 (some gm)) :
 KidM w2 base gm (fun k'=>if k' = j then K j ++ [y] else K k') (fun k'=>if k' = j then some v' else F k') (n + 1):=by
 have m1:MapF w1 gm (Value.int .i64) F n:=k.mp.grown hg (owns_mapF (k.ow j) k.mp)
 have old:∀ (i:Int) (q:Nat),(rowV F i).ownBlock=some q→q < w.heap.size:=fun i q e=>((k.ow i).lt q e).2
 have e1:rowV (fun k'=>if k' = j then some v' else F k') j=v':=by simp [rowV]
 have e2:∀ i,i ≠ j→rowV (fun k'=>if k' = j then some v' else F k') i=rowV F i:=fun i hi=>by simp [rowV,hi]
 refine ⟨hm,fun i=>?_,fun i i' q hne=>?_⟩
 ·by_cases e:i=j
  ·subst e
   rw [e1,if_pos rfl]
   exact owns_put ow m1 hg2
  ·rw [e2 i e,if_neg e]
   have o1:w1.ownsRow base 3 1 (rowV F i) (K i).length ((K i).map intV):=(k.ow i).kept hg (by
    cases hv:(rowV F i).ownBlock with
    | none=>exact .inl rfl
    | some q=>exact .inr (fun e2=>k.ap i j q e hv e2.symm))
   exact owns_put o1 m1 hg2
 ·by_cases c1:i=j
  ·have c2:¬ i' = j:=fun e=>hne (c1.trans e.symm)
   subst c1
   rw [e1,e2 i' c2]
   intro k1 k2
   rcases hfr with hr | hr
   ·exact k.ap i i' q hne (hr ▸ k1) k2
   ·rw [hr] at k1
    have:=old i' q k2
    cases k1
    omega
  ·rw [e2 i c1]
   by_cases c2:i' = j
   ·subst c2
    rw [e1]
    intro k1 k2
    rcases hfr with hr | hr
    ·exact k.ap i i' q hne k1 (hr ▸ k2)
    ·rw [hr] at k2
     have:=old i q k1
     cases k2
     omega
   ·rw [e2 i' c2]
    exact k.ap i i' q hne
end Go.Proofs.YtkbmnfijeknenaaGreatDoor
namespace Go.Proofs.YtkbmnfijeknenaaGreatDoor
open Go.RowKit Go.Unit0 Go.AM

theorem undMIS:Tryz.prog.underlying 192=some (.map 3 31):=by kernel_rfl
theorem zeroSI (w:World):(zeroValue 31).run Tryz.prog w = .ok (.slice none 0 0) w:=by kernel_rfl
theorem TB.grown {h:List Cls} {a:Option Addr} {c g:Nat} {w wr w':World} {row:Option Nat} (hc:ClssAt w a h) (tg:TabAt w g h) (k:TB h a c g w wr) (hg:wr.grownBy w' row) (hr:∀ q,row=some q→w.heap.size < q):TB h a c g w w' :=
 have hb:=k.hb.grown hg k.hb.size (fun q hq=>Nat.le_of_lt (hr q hq))
 ⟨hb,k.b1.grown hg (fun e=>absurd (hr _ e.symm) (Nat.lt_irrefl _)),hc.below hb,tg.below hb⟩
structure SG (h:List Cls) (a:Option Addr) (c g gm:Nat) (w wr:World) (i:Nat) (F:Int→Option Value):Prop where
 tb:TB h a c g w wr
 km:KidM wr (w.heap.size + 1) gm (kidL h i) F i
 gg:w.heap.size < gm
theorem SG.below {h:List Cls} {a:Option Addr} {c g gm:Nat} {w wr w':World} {i:Nat} {F:Int→Option Value} (k:SG h a c g gm w wr i F) (hb:Below wr.heap.size wr w'):SG h a c g gm w w' i F:=⟨k.tb.below hb,k.km.below hb,k.gg⟩
structure SQ (h:List Cls) (r:Int) (W2 wr:World) (gs:Nat) (D L:List Int) (oa:Option Addr) (oc:Nat):Prop where
 hb:Below W2.heap.size W2 wr
 mp:MapF wr gs (Value.int .i64) (setF L) L.length
 ow:wr.ownsRow W2.heap.size 3 1 (.slice oa L.length oc) L.length (L.map intV)
 gg:W2.heap.size≤gs
 bf:BF h r D L
def SubsPost (h:List Cls) (r:Int) (w:World) (e:Ending) (w':World):Prop :=
 Below w.heap.size w w'∧∃ (l:List Int) (oa:Option Addr) (oc:Nat),e = .returned (.slice oa l.length oc)∧SubL h r l∧w'.ownsRow w.heap.size 3 1 (.slice oa l.length oc) l.length (l.map intV)
set_option maxRecDepth 100000 in
set_option maxHeartbeats 8000000 in
theorem tsubs (h:List Cls) (s:Str) (a:Option Addr) (c g:Nat) (w:World) (hc:ClssAt w a h) (hl:h.length≤100000) (hg:TabAt w g h) :
 Calls Tryz.prog 67 #[.agg #[.slice a h.length c,.map (some g)],.string s] w (SubsPost h (findI h s) w):=by
 have S:=Lib.hid (TB.start (c:=c) hc hg)
 have HZ:Hid ((w.alloc (.cells #[.slice a h.length c,.map (some g)] 129)).heap.size=w.heap.size + 1):=by show _=_;simp
 have HF:Hid (∀ (t:Str) (w1:World),TabAt w1 g h→Calls Tryz.prog 86 #[.agg #[.slice a h.length c,.map (some g)],.string t] w1 (Ret w1 (.int .i64 (findI h t)))):=fun t w1 h1=>tfind h t a c g w1 h1
 have HSU:Hid (∀ (j:Nat) (hj:j < h.length) (w1:World),ClssAt w1 a h→TabAt w1 g h→Calls Tryz.prog 111 #[.agg #[.slice a h.length c,.map (some g)],.int .i64 j] w1 (Ret w1 (.int .i64 (supI h h[j])))):=fun j hj w1 h1 h2=>tsuper h a c g j hj w1 h1 hl h2
 have HC0:=Lib.hid hc
 have HT0:=Lib.hid hg
 have HSN:=Lib.hid (@sub_none h (findI h s))
 have HFS:Hid (0≤findI h s→BF h (findI h s) [] [findI h s]):=fun k=>BF.start (findI_fst k)
 have HFR:=Lib.hid (HF.out s)
 clear hc hg
 generalize findI h s=r at *
 go_enter Tryz.func67,Tryz.ntmps67
 go_upto_region 1 with (fail)
 generalize w.alloc _=W at *
 obtain ⟨z0,z1⟩:=S.out.now (Below.refl _ _)
 go_upto_region 2 with (go_at_call 86;refine (HFR.out _ S.out.tg).mono ?_;rintro e w1 ⟨rfl,hb1⟩)
 have hWs:w.heap.size < W.heap.size:=by rw [HZ.out];omega
 have hW1:w.heap.size < w1.heap.size:=Nat.lt_of_lt_of_le hWs hb1.size
 have S1:=Lib.hid (S.out.below hb1)
 clear S hb1 z0 z1 HFR HZ
 by_cases hr:0≤r
 case neg =>
  have t1:decide (r < 0)=true:=decide_eq_true (by omega)
  have HN:=Lib.hid (HSN.out (by omega))
  clear hr
  go_wp2
  go_ret
  exact ⟨S1.out.hb,[],none,0,rfl,HN.out,World.ownsRow_nil _ _ _ _⟩
 have t1:decide (r < 0)=false:=decide_eq_false (by omega)
 have BF0:=Lib.hid (HFS.out hr)
 clear hr HSN HFS
 go_upto_region 5 with (refine wpList_makeF rfl 192 rfl undMIS (Value.int .i64) ?_;intro hmp)
 have R0:Hid (SG h a c g w1.heap.size w (w1.alloc (.map #[] 0)) 0 (fun _=>none)):=⟨S1.out.below (one_below ..),by rw [kidL_nil];exact KidM.start hmp,hW1⟩
 clear t1 hmp S1 hW1 hWs
 generalize w1.heap.size=gm at *
 generalize w1.alloc (.map #[] 0)=W1 at *
 obtain ⟨z0,z1⟩:=R0.out.tb.now (Below.refl _ _)
 go_wp2
 clear z0 z1
 go_loopw [24] (fun v wr=>∃ (i:Nat) (F:Int→Option Value),i≤h.length∧v = .int .i64 i∧Hid (SG h a c g gm w wr i F)) (fun v _=>h.length - (intOf v).toNat)
 case atStart=>exact ⟨0,_,Nat.zero_le _,rfl,R0.out⟩
 case round =>
  clear R0
  obtain ⟨i,F,hi,rfl,R⟩:=hrel
  by_cases hlt:i < h.length
  case pos =>
   have HKT:=Lib.hid (@kidL_t h i hlt)
   have HKF:=Lib.hid (@kidL_f h i hlt)
   have HSI:=Lib.hid (HSU.out i hlt)
   have HFN:=Lib.hid (HF.out h[i].name)
   obtain ⟨b,off,fa,fc,ma,mc,he,m0,m1,m2,m3,_,_⟩:=R.out.tb.hc i hlt
   subst he
   generalize supI h h[i]=up at *
   generalize findI h h[i].name=fi at *
   generalize h[i]=x at *
   have BZ:Hid (Blk (wr.alloc (.cells #[.string ⟨#[]⟩,.string ⟨#[]⟩,.slice none 0 0,.slice none 0 0] 134)) wr.heap.size _ 134):=blk_new ..
   have hsz:wr.heap.size≤wr.heap.size:=Nat.le_refl _
   go_upto_region 8 with (refine store111 rfl _ _ rfl wr.heap.size _ _ _ _ _ _ _ _ rfl rfl _ BZ.out rfl ?_)
   have HB2:=Lib.hid (below_row (one_below wr (.cells #[.string ⟨#[]⟩,.string ⟨#[]⟩,.slice none 0 0,.slice none 0 0] 134)) hsz #[.string x.name,.string x.super,.slice fa x.fields.length fc,.slice ma x.methods.length mc])
   have B2:=Lib.hid (BZ.out.setRow #[.string x.name,.string x.super,.slice fa x.fields.length fc,.slice ma x.methods.length mc])
   have R2:=Lib.hid (R.out.below HB2.out)
   clear R BZ HB2 m0 m1 m2 m3 hsz
   generalize (wr.alloc _).setRow wr.heap.size _=W2 at *
   generalize wr.heap.size=n2 at *
   obtain ⟨z0,z1⟩:=R2.out.tb.now (Below.refl _ _)
   go_upto_region 9 with (go_at_call 111;refine (HSI.out _ R2.out.tb.hc R2.out.tb.tg).mono ?_;rintro e w3 ⟨rfl,hb3⟩)
   have R3:=Lib.hid (R2.out.below hb3)
   have B3:=Lib.hid (B2.out.below hb3)
   clear R2 B2 hb3 z0 z1 HSI
   by_cases hup:0≤up
   case neg =>
    have t2:decide (0≤up)=false:=decide_eq_false hup
    have R4:Hid (SG h (some ⟨b,off,none⟩) c g gm w w3 (i + 1) F):=⟨R3.out.tb,by rw [HKF.out (fun e=>hup e.1)];exact R3.out.km.more (Nat.le_succ _),R3.out.gg⟩
    clear hup R3 HKT HKF
    go_wp2
    go_roundw
    case rel=>exact ⟨i + 1,F,by omega,by go_num,R4.out⟩
    case measure=>simp [intOf];omega
   have t2:decide (0≤up)=true:=decide_eq_true hup
   have HUP:=Lib.hid hup
   clear hup
   obtain ⟨z0,z1⟩:=R3.out.tb.now (Below.refl _ _)
   have y0:=B3.out.cell 0 (by simp)
   simp only [List.getElem_toArray,List.getElem_cons_zero] at y0
   by_cases hfi:fi=(i:Int)
   case neg =>
    have t3:(fi == (i:Int))=false:=by simpa using hfi
    have HKN:=Lib.hid (HKF.out (fun e=>hfi e.2))
    clear hfi HKT HKF
    go_wp2_with (go_at_call 86;refine (HFN.out _ R3.out.tb.tg).mono ?_;rintro e w4 ⟨rfl,hb4⟩)
    have R4:Hid (SG h (some ⟨b,off,none⟩) c g gm w w4 (i + 1) F):=⟨R3.out.tb.below hb4,by rw [HKN.out];exact (R3.out.km.below hb4).more (Nat.le_succ _),R3.out.gg⟩
    clear hb4 R3
    go_roundw
    case rel=>exact ⟨i + 1,F,by omega,by go_num,R4.out⟩
    case measure=>simp [intOf];omega
   have t3:(fi == (i:Int))=true:=by simpa using hfi
   have HKN:=Lib.hid (HKT.out hfi HUP.out)
   clear hfi HKT HKF
   go_upto_region 10 with (go_at_call 86;refine (HFN.out _ R3.out.tb.tg).mono ?_;rintro e w4 ⟨rfl,hb4⟩)
   have R4:=Lib.hid (R3.out.below hb4)
   clear R3 B3 hb4 z0 z1 y0 t2 t3 HFN
   obtain ⟨-,va,vc,hve,hvc,-⟩:=owns_ints (R4.out.km.ow up)
   have HV:Hid ((F up).getD (.slice none 0 0) = .slice va (kidL h i up).length vc):=hve
   have HVB:Hid (rowV F up = .slice va (kidL h i up).length vc):=hve
   have hkl:=kidL_len h i up
   have K6:=Lib.hid (R4.out.km.below (one_below w4 (.cells #[.int .i64 i] 3)))
   have T6:=Lib.hid (R4.out.tb.below (one_below w4 (.cells #[.int .i64 i] 3)))
   have B6:Hid (Blk (w4.alloc (.cells #[.int .i64 i] 3)) w4.heap.size #[.int .i64 i] 3):=blk_new ..
   have OW6:Hid ((w4.alloc (.cells #[.int .i64 i] 3)).ownsRow (w.heap.size + 1) 3 1 (.slice va (kidL h i up).length vc) (kidL h i up).length ((kidL h i up).map intV)):=by
    have:=K6.out.ow up
    rw [HVB.out] at this
    exact this
   have hgg:=R4.out.gg
   have hbs6:w.heap.size + 1≤(w4.alloc (.cells #[.int .i64 i] 3)).heap.size:=Nat.le_trans (Nat.succ_le_of_lt hgg) (Nat.le_of_lt K6.out.mp.lt)
   have HKP:Hid (∀ (W7 W8:World) (v7:Value),W7.ownsRow (w.heap.size + 1) 3 1 v7 (kidL h i up ++ [(i:Int)]).length ((kidL h i up ++ [(i:Int)]).map intV)→(w4.alloc (.cells #[.int .i64 i] 3)).grownBy W7 (rowV F up).ownBlock→(v7.ownBlock=(rowV F up).ownBlock ∨ v7.ownBlock=some (w4.alloc (.cells #[.int .i64 i] 3)).heap.size) →
    MapF W8 gm (Value.int .i64) (fun k'=>if k' = up then some v7 else F k') (i + 1)→W7.grownBy W8 (some gm)→KidM W8 (w.heap.size + 1) gm (kidL h (i + 1)) (fun k'=>if k' = up then some v7 else F k') (i + 1)):=fun W7 W8 v7 h1 h2 h3 h4 h5=>by
    rw [HKN.out]
    exact K6.out.put h1 h2 h3 h4 h5
   clear hve hvc HKN
   generalize kidL h i up=lst at *
   go_wp2_with (first | (at_lookup;refine wpList_lookF rfl _ _ _ _ rfl keyInt undMIS _ (zeroSI _) gm rfl R4.out.km.mp up rfl ?_;rw [HV.out]) | (at_builtin;refine app_intF rfl _ _ rfl (w.heap.size + 1) _ lst rfl OW6.out w4.heap.size i rfl B6.out (by omega) hbs6 ?_;intro v7 W7 own7 hg7 hfr7;have M7:=K6.out.mp.grown hg7 (owns_mapF OW6.out K6.out.mp)) | (at_mapUpdate;refine wpList_mapF rfl _ _ _ _ rfl keyInt undMIS gm rfl M7 up rfl v7 rfl ?_;intro W8 hm8 hg8 hs8))
   have R8:Hid (SG h (some ⟨b,off,none⟩) c g gm w W8 (i + 1) (fun k'=>if k' = up then some v7 else F k')):=by
    refine ⟨?_,?_,hgg⟩
    ·refine TB.grown HC0.out HT0.out (TB.grown HC0.out HT0.out T6.out hg7 (fun q hq=>?_)) hg8 (fun q hq=>by cases hq;exact hgg)
     have:=(OW6.out.lt q hq).1
     omega
    ·have h7:(w4.alloc (.cells #[.int .i64 i] 3)).grownBy W7 (rowV F up).ownBlock:=by rw [HVB.out];exact hg7
     have f7:v7.ownBlock=(rowV F up).ownBlock ∨ v7.ownBlock=some (w4.alloc (.cells #[.int .i64 i] 3)).heap.size:=by rw [HVB.out];exact hfr7
     exact HKP.out W7 W8 v7 own7 h7 f7 hm8 hg8
   go_roundw
   case rel=>exact ⟨i + 1,_,by omega,by go_num,R8.out⟩
   case measure=>simp [intOf];omega
  case neg =>
   obtain rfl:i=h.length:=by omega
   have HBW:=Lib.hid R.out.tb.hb
   have KM:=Lib.hid R.out.km
   clear R hlt hi
   generalize hW2:wr=W2 at *
   clear hW2
   go_upto_region 13 with (fail)
   have OW0:Hid ((W2.alloc (.cells #[.int .i64 r] 3)).ownsRow W2.heap.size 3 1 (.slice (some ⟨W2.heap.size,0,none⟩) 1 1) 1 [intV r]):=⟨rfl,.inr ⟨W2.heap.size,1,_,rfl,Nat.le_refl _,blk_new ..,Nat.le_refl _,by unfold maxLen;omega,rfl,rfl⟩⟩
   have HB0:=Lib.hid (one_below W2 (.cells #[.int .i64 r] 3))
   generalize W2.alloc (.cells #[.int .i64 r] 3)=W3 at *
   go_upto_region 14 with (first | (refine wpList_makeF rfl 95 rfl undMIB (Value.int .i64) ?_;intro hmp) | (refine wpList_insertF rfl _ _ _ 95 rfl keyInt undMIB W3.heap.size rfl hmp r rfl (.bool true) rfl ?_;intro W4 hm4 hg4 hs4))
   have hb4:Below W3.heap.size W3 W4:=(one_below W3 (.map #[] 0)).grown hg4 (by simp) (fun q hq=>by cases hq;exact Nat.le_refl _)
   have MP4:Hid (MapF W4 W3.heap.size (Value.int .i64) (setF [r]) 1):=by
    have:=hm4
    have e:=setF_snoc [] r
    rw [← setF_nil] at e
    rw [show setF [r]=_ from e.symm]
    exact this
   have R0:Hid (SQ h r W2 W4 W3.heap.size [] [r] (some ⟨W2.heap.size,0,none⟩) 1):=⟨HB0.out.trans (hb4.mono HB0.out.size),MP4.out,owns_below OW0.out hb4,HB0.out.size,BF0.out⟩
   clear hmp hm4 hg4 hs4 hb4 MP4 OW0 HB0
   generalize W3.heap.size=gs at *
   go_wp2
   go_loopw [10,12] (fun v i wr=>∃ (k:Nat) (L:List Int) (oa:Option Addr) (oc:Nat),k≤L.length∧v = .slice oa L.length oc∧i = .int .i64 k∧Hid (SQ h r W2 wr gs (L.take k) L oa oc)) (fun _ i _=>h.length - (intOf i).toNat)
   case atStart=>exact ⟨0,[r],_,_,Nat.zero_le _,rfl,rfl,R0.out⟩
   case round =>
    clear R0
    obtain ⟨k,L,oa,oc,hk,rfl,rfl,R⟩:=hrel
    have hll:=R.out.bf.len
    by_cases hkl:k < L.length
    case neg =>
     have HD:Hid (SubL h r L):=by
      have:=R.out.bf
      rw [List.take_of_length_le (by omega)] at this
      exact this.done
     go_wp2
     go_ret
     exact ⟨HBW.out.trans (R.out.hb.mono HBW.out.size),L,oa,oc,rfl,HD.out,owns_mono R.out.ow HBW.out.size⟩
    obtain ⟨b1,o1,he,p1⟩:=(owns_ints' R.out.ow).2 k hkl
    subst he
    have HT:=Lib.hid (List.take_succ_eq_append_getElem hkl)
    have HY:=Lib.hid (List.getElem_mem hkl)
    generalize L[k]=y at *
    have KW:=Lib.hid (KM.out.below R.out.hb)
    obtain ⟨-,va,vc,hve,hvc,hvi⟩:=owns_ints (KM.out.ow y)
    have HV:Hid ((F y).getD (.slice none 0 0) = .slice va (kidL h h.length y).length vc):=hve
    have HVI:=Lib.hid hvi
    have hkn:=kidL_len h h.length y
    have HPU:Hid (∀ (z:Int) (D L2:List Int),z ∈ kidL h h.length y→BF h r D L2→y ∈ L2→z ∉ L2→BF h r D (L2 ++ [z])):=fun z D L2 h1 h2 h3 h4=>h2.push h3 h1 h4
    have HNX:Hid (∀ (D L2:List Int),BF h r D L2→(∀ z ∈ kidL h h.length y,z ∈ L2)→BF h r (D ++ [y]) L2):=fun D L2 h1 h2=>h1.next h2
    clear hve hvc hvi
    generalize kidL h h.length y=Kd at *
    go_wp2_with (at_lookup;refine wpList_lookF rfl _ _ _ _ rfl keyInt undMIS _ (zeroSI _) gm rfl KW.out.mp y rfl ?_;rw [HV.out])
    clear p1 KW
    obtain ⟨wo,rfl⟩:∃ wo,wo=wr:=⟨_,rfl⟩
    go_loopw [10,69] (fun v i wr=>∃ (p:Nat) (L2:List Int) (oa:Option Addr) (oc:Nat),p≤Kd.length∧v = .slice oa L2.length oc∧i = .int .i64 p∧L.length≤L2.length∧Hid (SQ h r W2 wr gs (L.take k) L2 oa oc)∧Hid (L2.take (k + 1)=L.take (k + 1))∧Hid (∀ z ∈ Kd.take p,z ∈ L2)∧Hid (y ∈ L2)) (fun _ i _=>Kd.length - (intOf i).toNat)
    case atStart=>exact ⟨0,L,_,_,Nat.zero_le _,rfl,rfl,Nat.le_refl _,R.out,rfl,(by show ∀ _,_;simp),HY.out⟩
    case round =>
     clear R HY
     obtain ⟨p,L2,oa,oc,hp,rfl,rfl,hL2,R,HTK,HQ,HX⟩:=hrel
     have hll2:=R.out.bf.len
     by_cases hpl:p < Kd.length
     case neg =>
      have R2:Hid (SQ h r W2 wr gs (L2.take (k + 1)) L2 oa oc):=⟨R.out.hb,R.out.mp,R.out.ow,R.out.gg,by rw [HTK.out,HT.out];exact HNX.out _ _ R.out.bf (fun z hz=>HQ.out z (by rw [List.take_of_length_le (by omega)];exact hz))⟩
      clear R
      go_wp2
      go_roundw
      case rel=>exact ⟨k + 1,L2,oa,oc,by omega,rfl,by go_num,R2.out⟩
      case measure=>simp [intOf];omega
     obtain ⟨b2,o2,he,cz⟩:=(HVI.out.below R.out.hb) p hpl
     subst he
     have HT2:=Lib.hid (List.take_succ_eq_append_getElem hpl)
     have HKZ:=Lib.hid (List.getElem_mem hpl)
     generalize Kd[p]=z at *
     by_cases hz:z ∈ L2
     case pos =>
      have hlk:(Instr.lookup 95 (.map (some gs)) (.int .i64 z) false).run Tryz.prog wr = .ok (.bool true) wr:=by rw [R.out.mp.lookup keyInt undMIB (zeroBool wr) z false];simp [setF,hz]
      have HQ2:Hid (∀ x ∈ Kd.take (p + 1),x ∈ L2):=fun x hx=>by
       rw [HT2.out] at hx
       rcases List.mem_append.1 hx with hx | hx
       ·exact HQ.out x hx
       ·rw [List.mem_singleton.1 hx];exact hz
      clear hz
      go_wp2
      go_roundw
      case rel=>exact ⟨p + 1,L2,oa,oc,by omega,rfl,by go_num,hL2,R.out,HTK.out,HQ2.out,HX.out⟩
      case measure=>simp [intOf];omega
     case neg =>
      have hlk:(Instr.lookup 95 (.map (some gs)) (.int .i64 z) false).run Tryz.prog wr = .ok (.bool false) wr:=by rw [R.out.mp.lookup keyInt undMIB (zeroBool wr) z false];simp [setF,hz]
      have HQ2:Hid (∀ x ∈ Kd.take (p + 1),x ∈ L2 ++ [z]):=fun x hx=>by
       rw [HT2.out] at hx
       rcases List.mem_append.1 hx with hx | hx
       ·exact List.mem_append_left _ (HQ.out x hx)
       ·exact List.mem_append_right _ hx
      have BF2:=Lib.hid (HPU.out z _ _ HKZ.out R.out.bf HX.out hz)
      have HTK2:Hid ((L2 ++ [z]).take (k + 1)=L.take (k + 1)):=by show _=_;rw [List.take_append_of_le_length (by omega)];exact HTK.out
      clear hz
      go_upto_region 22 with (at_mapUpdate;refine wpList_mapF rfl _ _ _ _ rfl keyInt undMIB gs rfl R.out.mp z rfl (.bool true) rfl ?_;intro w2 hm2 hg2 hs2)
      have hb2:Below W2.heap.size W2 w2:=R.out.hb.grown hg2 R.out.hb.size (fun q hq=>by cases hq;exact R.out.gg)
      have MP2:Hid (MapF w2 gs (Value.int .i64) (setF (L2 ++ [z])) (L2.length + 1)):=by rw [setF_snoc] at hm2;exact hm2
      have OW2:=Lib.hid (owns_put R.out.ow R.out.mp hg2)
      have hgg:=R.out.gg
      have hT2:L2.length≤1000000:=by omega
      clear R hm2 hg2 hs2 hlk HQ
      have O3:=Lib.hid (owns_below OW2.out (one_below w2 (.cells #[.int .i64 z] 3)))
      have M3:=Lib.hid (MP2.out.below (one_below w2 (.cells #[.int .i64 z] 3)))
      have hb3:Below W2.heap.size W2 (w2.alloc (.cells #[.int .i64 z] 3)):=hb2.trans ((one_below ..).mono hb2.size)
      have hbs3:=hb3.size
      go_wp2_with (at_builtin;refine app_ints rfl _ _ rfl W2.heap.size _ L2 rfl O3.out _ 1 [z] rfl (ints_new _ _) hT2 (by simp) hbs3 ?_;intro v7 W7 own7 hg7;obtain ⟨-,oa7,oc7,rfl,-,-⟩:=owns_ints own7)
      have R8:Hid (SQ h r W2 W7 gs (L.take k) (L2 ++ [z]) oa7 oc7) :=
       ⟨hb3.grown hg7 hbs3 (fun q hq=>(O3.out.lt q hq).1),by simpa using M3.out.grown hg7 (owns_mapF O3.out M3.out),own7,hgg,BF2.out⟩
      go_roundw
      case rel=>exact ⟨p + 1,L2 ++ [z],oa7,oc7,by omega,(by first | rfl | simp),by go_num,(by simp;omega),R8.out,HTK2.out,HQ2.out,List.mem_append_left _ HX.out⟩
      case measure=>simp [intOf];omega
end Go.Proofs.YtkbmnfijeknenaaGreatDoor
namespace Go.Proofs.YtkbmnfijeknenaaGreatDoor
open Go.RowKit Go.Unit0 Go.AM

def StrsSet (S:Str→Prop) (m:Nat) (w:World) (e:Ending) (w':World):Prop :=
 Below w.heap.size w w'∧∃ (l:List Str) (a:Option Addr) (c:Nat),e = .returned (.slice a l.length c)∧l.length≤m∧l.length≤c∧(∀ x,x ∈ l ↔ S x)∧StrsAt w' a l
def StrsOwn (S:Str→Prop) (m:Nat) (w:World) (e:Ending) (w':World):Prop :=
 Below w.heap.size w w'∧∃ (l:List Str) (a:Option Addr) (c:Nat),e = .returned (.slice a l.length c)∧l.length≤m∧(∀ x,x ∈ l ↔ S x)∧w'.ownsRow w.heap.size 9 1 (.slice a l.length c) l.length (l.map Value.string)
set_option maxRecDepth 100000 in
set_option maxHeartbeats 4000000 in
theorem subsP (h:List Cls) (s:Str) (a:Option Addr) (c:Nat) (w:World) (hc:ClssAt w a h) (hl:h.length≤100000) :
 Calls Tryz.prog 27 #[.agg #[.slice a h.length c],.string s] w (StrsOwn (subNS h s) h.length w):=by
 have HB:=Lib.hid (one_below w (.cells #[.slice a h.length c] 24))
 have HX:Hid (Blk (w.alloc (.cells #[.slice a h.length c] 24)) w.heap.size #[.slice a h.length c] 24):=blk_new ..
 have HC0:=Lib.hid hc
 have HT:Hid (∀ w1,ClssAt w1 a h→Calls Tryz.prog 66 #[.agg #[.slice a h.length c]] w1 (TabPost h a c w1)):=fun w1 h1=>tableOf h a c w1 h1 hl
 have HS:Hid (∀ g w1,ClssAt w1 a h→TabAt w1 g h→Calls Tryz.prog 67 #[.agg #[.slice a h.length c,.map (some g)],.string s] w1 (SubsPost h (findI h s) w1)):=fun g w1 h1 h2=>tsubs h s a c g w1 h1 hl h2
 clear hc
 go_enter Tryz.func27,Tryz.ntmps27
 go_upto_region 1 with (fail)
 generalize w.alloc (.cells #[.slice a h.length c] 24)=W at *
 have x0:=HX.out.cell 0 (by simp)
 go_wp2_with (go_at_call 66;refine (HT.out _ (HC0.out.below HB.out)).mono ?_;rintro e w1 ⟨hb1,g,rfl,tg,hgg⟩)
 have hws:=HB.out.size
 have hb1':Below w.heap.size w w1:=HB.out.trans (hb1.mono hws)
 have HB2:=Lib.hid (hb1'.trans ((one_below w1 (.cells #[.slice a h.length c,.map (some g)] 129)).mono hb1'.size))
 have HX2:Hid (Blk (w1.alloc (.cells #[.slice a h.length c,.map (some g)] 129)) w1.heap.size #[.slice a h.length c,.map (some g)] 129):=blk_new ..
 have HG2:=Lib.hid (tg.below (one_below w1 (.cells #[.slice a h.length c,.map (some g)] 129)))
 clear hb1 tg HX x0
 refine (HS.out g _ (HC0.out.below HB2.out) HG2.out).mono ?_
 rintro e w3 ⟨hb3,r,ia,ic,rfl,hsub,own⟩
 have hlen:=hsub.len
 have S0:Hid (NT h a c g w1.heap.size r ia ic [] none 0 w w3):=⟨HB2.out.trans (hb3.mono HB2.out.size),HX2.out.below hb3,HC0.out.below (HB2.out.trans (hb3.mono HB2.out.size)),HG2.out.below hb3,owns_mono own HB2.out.size,World.ownsRow_nil _ _ _ _⟩
 have HIN:Hid (∀ x ∈ r,∃ j:Nat,j < h.length∧x=j):=fun x hx=>((hsub.2 x).1 hx).1.nat
 have HP:Hid (∀ x,x ∈ r.map (nameAt h) ↔ subNS h s x):=sub_names hsub
 clear own hb3 HB2 HX2 HG2 HT HS hsub
 generalize subNS h s=P at *
 generalize w1.heap.size=tb at *
 go_wp2
 go_loopw [6,15] (fun v i wr=>∃ (q:Nat) (out:List Str) (oa:Option Addr) (oc:Nat),q≤r.length∧out.length≤q∧i = .int .i64 q∧v = .slice oa out.length oc∧Hid (out=(r.take q).map (nameAt h))∧Hid (NT h a c g tb r ia ic out oa oc w wr)) (fun _ i _=>r.length - (intOf i).toNat)
 case atStart=>exact ⟨0,[],none,0,Nat.zero_le _,Nat.zero_le _,rfl,rfl,(by show _=_;simp),S0.out⟩
 case round =>
  clear S0
  obtain ⟨q,out,oa,oc,hq,hol,rfl,rfl,HI,S⟩:=hrel
  by_cases hlt:q < r.length
  case neg =>
   have HE:Hid (∀ x,x ∈ sortB out ↔ P x):=fun x=>by
    rw [← HP.out x,← mem_bl (l:=r.map (nameAt h)),show r.map (nameAt h)=out from by rw [HI.out,List.take_of_length_le (by omega)],mem_bl]
    unfold sortB
    simp only [List.mem_map,List.mem_mergeSort]
    constructor
    ·rintro ⟨y,⟨z,hz,rfl⟩,rfl⟩;rw [mkB_bl];exact hz
    ·intro hx;exact ⟨bl x,⟨x,hx,rfl⟩,mkB_bl x⟩
   have hoc:out.length≤1000000:=by omega
   have hoh:out.length≤h.length:=by omega
   go_wp2_with fail
   refine (sort_own out oa oc w _ S.out.hb S.out.ow hoc).mono ?_
   rintro e w4 ⟨rfl,R1⟩
   have R1:=Lib.hid R1
   clear S
   have hs:=sortB_len out
   go_wp2
   go_ret
   have ho:=R1.out.ow
   exact ⟨R1.out.hb,sortB out,oa,oc,by rw [hs] <;> rfl,by rw [hs];exact hoh,HE.out,ho⟩
  case pos =>
   obtain ⟨b1,o1,he,p1⟩:=S.out.at q hlt
   subst he
   obtain ⟨k,hk,ek⟩:=HIN.out _ (List.getElem_mem hlt)
   have HJN:Hid (out ++ [h[k].name]=(r.take (q + 1)).map (nameAt h)):=by
    show _=_
    rw [HI.out,List.take_succ_eq_append_getElem hlt,ek,List.map_append]
    simp [nameAt,hk]
   rw [ek] at p1
   obtain ⟨b,off,fa,fc,ma,mc,he,m0,m1,m2,m3,_,hms⟩:=S.out.hc k hk
   subst he
   have t0:=S.out.bt.cell 0 (by simp)
   simp only [List.getElem_toArray,List.getElem_cons_zero] at t0
   clear m1 m2 m3 hms ek HI
   generalize h[k].name=nm at *
   have S1:=Lib.hid (S.out.below (one_below wr (.cells #[.string nm] 9)))
   have B1:Hid (Blk (wr.alloc (.cells #[.string nm] 9)) wr.heap.size #[.string nm] 9):=blk_new ..
   have hbs:=S.out.hb.size
   have hoc:out.length≤1000000:=by omega
   go_wp2_with (at_builtin;refine app_str rfl _ _ rfl w.heap.size _ out rfl S1.out.ow wr.heap.size nm rfl B1.out hoc (by simp;omega) ?_;intro v' w3 own3 grown3)
   obtain ⟨-,oa3,oc3,rfl,-,-⟩:=owns_strs own3
   have S3:=Lib.hid (NT.grow HC0.out S1.out own3 grown3)
   clear S1 B1 own3 grown3 S t0 p1 m0
   have hlen2:(out ++ [nm]).length=out.length + 1:=by simp
   go_wp2
   go_roundw
   case rel=>exact ⟨q + 1,out ++ [nm],oa3,oc3,by omega,by omega,by go_num,(by first | rfl | simp),HJN.out,S3.out⟩
   case measure=>simp [intOf];omega
theorem comp_mem (l:List Str) (x:Str):x ∈ compB (sortB l) ↔ x ∈ l:=(csort_asc l).2 x
set_option maxRecDepth 100000 in
set_option maxHeartbeats 4000000 in
theorem targetsP (h:List Cls) (s t:Str) (a:Option Addr) (c:Nat) (w:World) (hc:ClssAt w a h) (hl:h.length≤100000) (hm:∀ x ∈ h,x.methods.length≤100000) :
 Calls Tryz.prog 50 #[.agg #[.slice a h.length c],.string s,.string t] w (StrsSet (tgtNS h s t) h.length w):=by
 have HB:=Lib.hid (one_below w (.cells #[.slice a h.length c] 24))
 have HX:Hid (Blk (w.alloc (.cells #[.slice a h.length c] 24)) w.heap.size #[.slice a h.length c] 24):=blk_new ..
 have HC0:=Lib.hid hc
 have HT:Hid (∀ w1,ClssAt w1 a h→Calls Tryz.prog 66 #[.agg #[.slice a h.length c]] w1 (TabPost h a c w1)):=fun w1 h1=>tableOf h a c w1 h1 hl
 have HS:Hid (∀ g w1,ClssAt w1 a h→TabAt w1 g h→Calls Tryz.prog 67 #[.agg #[.slice a h.length c,.map (some g)],.string s] w1 (SubsPost h (findI h s) w1)):=fun g w1 h1 h2=>tsubs h s a c g w1 h1 hl h2
 have HLK:Hid (∀ (g:Nat) (i:Int) (w1:World),(i = -1 ∨ ∃ j:Nat,j < h.length∧i=j)→ClssAt w1 a h→TabAt w1 g h→Calls Tryz.prog 85 #[.agg #[.slice a h.length c,.map (some g)],.int .i64 i,.string t] w1 (Ret w1 (.tuple #[.int .i64 (lkP h i t).1,.int .i64 (lkP h i t).2]))):=fun g i w1 h1 h2 h3=>tlookup h t a c g i h1 w1 h2 hl hm h3
 clear hc hm
 go_enter Tryz.func50,Tryz.ntmps50
 go_upto_region 1 with (fail)
 generalize w.alloc (.cells #[.slice a h.length c] 24)=W at *
 have x0:=HX.out.cell 0 (by simp)
 go_wp2_with (go_at_call 66;refine (HT.out _ (HC0.out.below HB.out)).mono ?_;rintro e w1 ⟨hb1,g,rfl,tg,hgg⟩)
 have hws:=HB.out.size
 have hb1':Below w.heap.size w w1:=HB.out.trans (hb1.mono hws)
 have HB2:=Lib.hid (hb1'.trans ((one_below w1 (.cells #[.slice a h.length c,.map (some g)] 129)).mono hb1'.size))
 have HX2:Hid (Blk (w1.alloc (.cells #[.slice a h.length c,.map (some g)] 129)) w1.heap.size #[.slice a h.length c,.map (some g)] 129):=blk_new ..
 have HG2:=Lib.hid (tg.below (one_below w1 (.cells #[.slice a h.length c,.map (some g)] 129)))
 clear hb1 tg HX x0
 refine (HS.out g _ (HC0.out.below HB2.out) HG2.out).mono ?_
 rintro e w3 ⟨hb3,r,ia,ic,rfl,hsub,own⟩
 have hlen:=hsub.len
 have S0:Hid (NT h a c g w1.heap.size r ia ic [] none 0 w w3):=⟨HB2.out.trans (hb3.mono HB2.out.size),HX2.out.below hb3,HC0.out.below (HB2.out.trans (hb3.mono HB2.out.size)),HG2.out.below hb3,owns_mono own HB2.out.size,World.ownsRow_nil _ _ _ _⟩
 have HIN:Hid (∀ x ∈ r,isFst h x):=fun x hx=>((hsub.2 x).1 hx).1
 have HP:Hid (∀ x,x ∈ tgtN h t r ↔ tgtNS h s t x):=tgt_names hsub
 clear own hb3 HB2 HX2 HG2 HT HS hsub
 generalize tgtNS h s t=P at *
 generalize w1.heap.size=tb at *
 go_wp2
 go_loopw [8,19] (fun v i wr=>∃ (q:Nat) (out:List Str) (oa:Option Addr) (oc:Nat),q≤r.length∧out.length≤q∧i = .int .i64 q∧v = .slice oa out.length oc∧Hid (out=tgtN h t (r.take q))∧Hid (NT h a c g tb r ia ic out oa oc w wr)) (fun _ i _=>r.length - (intOf i).toNat)
 case atStart=>exact ⟨0,[],none,0,Nat.zero_le _,Nat.zero_le _,rfl,rfl,(by show _=_;simp [tgtN,tgtI]),S0.out⟩
 case round =>
  clear S0
  obtain ⟨q,out,oa,oc,hq,hol,rfl,rfl,HI,S⟩:=hrel
  by_cases hlt:q < r.length
  case neg =>
   have HE:Hid (∀ x,x ∈ compB (sortB out) ↔ P x):=fun x=>by
    rw [comp_mem,← HP.out x,HI.out,List.take_of_length_le (by omega)]
   have hoc:out.length≤1000000:=by omega
   have hoh:(compB (sortB out)).length≤h.length:=by
    have h1:=compB_len (sortB out)
    rw [sortB_len] at h1
    omega
   go_wp2_with fail
   refine (sort_own out oa oc w _ S.out.hb S.out.ow hoc).mono ?_
   rintro e w4 ⟨rfl,R1⟩
   have R1:=Lib.hid R1
   clear S
   have hs:=sortB_len out
   go_wp2_with fail
   have e0:Value.slice oa out.length oc = .slice oa (sortB out).length oc:=by rw [hs]
   rw [e0]
   refine (compact_own (sortB out) oa oc w _ R1.out.hb R1.out.ow (by omega)).mono ?_
   rintro e w5 ⟨rfl,R2⟩
   have R2:=Lib.hid R2
   clear R1 e0 hs
   go_wp2
   go_ret
   exact ⟨R2.out.hb,compB (sortB out),oa,oc,rfl,hoh,(owns_strs' R2.out.ow).1,HE.out,(owns_strs' R2.out.ow).2⟩
  case pos =>
   obtain ⟨b1,o1,he,p1⟩:=S.out.at q hlt
   subst he
   have hfst:=HIN.out _ (List.getElem_mem hlt)
   have HT1:=Lib.hid (List.take_succ_eq_append_getElem hlt)
   have HTT:=Lib.hid (@tgtI_snoc_t h t (r.take q) r[q])
   have HTF:=Lib.hid (@tgtI_snoc_f h t (r.take q) r[q])
   have HLR:=Lib.hid (@lkP_look h r[q] hfst t)
   have HLC:Hid (∀ w1,ClssAt w1 a h→TabAt w1 g h→Calls Tryz.prog 85 #[.agg #[.slice a h.length c,.map (some g)],.int .i64 r[q],.string t] w1 (Ret w1 (.tuple #[.int .i64 (lkP h r[q] t).1,.int .i64 (lkP h r[q] t).2]))):=fun w1 h1 h2=>HLK.out g r[q] w1 (.inr hfst.nat) h1 h2
   clear hfst
   rw [← HT1.out] at HTT HTF
   generalize r[q]=x at *
   have t0:=S.out.bt.cell 0 (by simp)
   have t1:=S.out.bt.cell 1 (by simp)
   simp only [List.getElem_toArray,List.getElem_cons_zero,List.getElem_cons_succ] at t0 t1
   by_cases hj:0≤(lkP h x t).1
   case neg =>
    have HJN:Hid (out=tgtN h t (r.take (q + 1))):=by
     show _=_
     unfold tgtN
     rw [HI.out,HTF.out hj]
     rfl
    have t2:=decide_eq_false hj
    clear hj HTT HTF HLR HI
    generalize (lkP h x t).1=j1 at *
    generalize (lkP h x t).2=j2 at *
    go_wp2_with (go_at_call 85;refine (HLC.out _ S.out.hc S.out.tg).mono ?_;rintro e w4 ⟨rfl,hb4⟩)
    have S4:=Lib.hid (S.out.below hb4)
    clear S hb4
    go_roundw
    case rel=>exact ⟨q + 1,out,oa,oc,by omega,by omega,by go_num,rfl,HJN.out,S4.out⟩
    case measure=>simp [intOf];omega
   case pos =>
    obtain ⟨j,m,hjl,hml,_,e1,e2⟩:∃ (j m:Nat) (hj:j < h.length) (hm:m < h[j].methods.length),isFst h (j:Int)∧lkP h x t=((j:Int),(m:Int))∧lookP h (nameAt h x) t=some (h[j].name,h[j].methods[m]):=by
     rcases HLR.out with ⟨_,e⟩ | e
     ·rw [e] at hj;exact absurd hj (by decide)
     ·exact e
    have HJN:Hid (out ++ [h[j].name]=tgtN h t (r.take (q + 1))):=by
     show _=_
     unfold tgtN
     rw [HI.out,HTT.out hj,e1,List.map_append]
     simp only [List.map_cons,List.map_nil,nameAt_nat hjl]
     rfl
    rw [e1] at HLC
    simp only at HLC
    clear hj HTT HTF HLR HI e1 e2
    go_upto_region 7 with (go_at_call 85;refine (HLC.out _ S.out.hc S.out.tg).mono ?_;rintro e w4 ⟨rfl,hb4⟩)
    have S4:=Lib.hid (S.out.below hb4)
    clear S hb4 t0 t1 p1 HLC
    obtain ⟨b,off,fa,fc,ma,mc,he,m0,m1,m2,m3,_,hms⟩:=S4.out.hc j hjl
    subst he
    have t0:=S4.out.bt.cell 0 (by simp)
    simp only [List.getElem_toArray,List.getElem_cons_zero] at t0
    clear m1 m2 m3 hms hml
    generalize h[j].name=nm at *
    have t2:decide ((0:Int)≤(j:Int))=true:=decide_eq_true (by omega)
    have S1:=Lib.hid (S4.out.below (one_below w4 (.cells #[.string nm] 9)))
    have B1:Hid (Blk (w4.alloc (.cells #[.string nm] 9)) w4.heap.size #[.string nm] 9):=blk_new ..
    have hbs:=S4.out.hb.size
    have hoc:out.length≤1000000:=by omega
    go_wp2_with (at_builtin;refine app_str rfl _ _ rfl w.heap.size _ out rfl S1.out.ow w4.heap.size nm rfl B1.out hoc (by simp;omega) ?_;intro v' w3 own3 grown3)
    obtain ⟨-,oa3,oc3,rfl,-,-⟩:=owns_strs own3
    have S3:=Lib.hid (NT.grow HC0.out S1.out own3 grown3)
    clear S1 B1 own3 grown3 S4 t0 m0
    have hlen2:(out ++ [nm]).length=out.length + 1:=by simp
    go_wp2
    go_roundw
    case rel=>exact ⟨q + 1,out ++ [nm],oa3,oc3,by omega,by omega,by go_num,(by first | rfl | simp),HJN.out,S3.out⟩
    case measure=>simp [intOf];omega
end Go.Proofs.YtkbmnfijeknenaaGreatDoor
