/-
  The program's targets of a call.
  The program's call edges by the hierarchy.
-/
import Derived.Test.YtkbmnfijeknenaaGreatDoorHB
import Derived.Test.YtkbmnfijeknenaaGreatDoorH0
import Derived.Test.YtkbmnfijeknenaaGreatDoorHX
import Derived.Test.YtkbmnfijeknenaaGreatDoorWF
import Derived.Test.YtkbmnfijeknenaaGreatDoorKA
namespace Go.Proofs.YtkbmnfijeknenaaGreatDoor
open Go.RowKit Go.Unit0 Go.AM

structure TG (u:Unt) (ha:Option Addr) (hc:Nat) (fa:Option Addr) (fc:Nat) (x:Ins) (ga:Option Addr) (gc gi gm:Nat) (F:Int→Option Value) (n:Nat) (w wr:World):Prop where
 ub:UB u ha hc fa fc w wr
 ib:Blk wr gi #[.int .i64 x.op,.int .i64 x.dst,.int .i64 x.a,.int .i64 x.b,.int .i64 x.n,.string x.cls,.string x.name,.slice ga x.args.length gc,.int .i64 x.goto,.int .i64 x.catch_] 57
 mp:MapF wr gm (Value.int .i64) F n
 gg:w.heap.size < gm
section
variable {u:Unt} {ha:Option Addr} {hc:Nat} {fa:Option Addr} {fc:Nat} {x:Ins} {ga:Option Addr} {gc gi gm:Nat} {F:Int→Option Value} {n:Nat} {w wr w':World}
theorem TG.below (k:TG u ha hc fa fc x ga gc gi gm F n w wr) (hb:Below wr.heap.size wr w'):TG u ha hc fa fc x ga gc gi gm F n w w':=⟨k.ub.below hb,k.ib.below hb,k.mp.below hb,k.gg⟩
theorem TG.put {F':Int→Option Value} {m:Nat} (h:ClssAt w ha u.h) (f:FncsAt w fa u.fs) (k:TG u ha hc fa fc x ga gc gi gm F n w wr) (hm:MapF w' gm (Value.int .i64) F' m) (hg:wr.grownBy w' (some gm)):TG u ha hc fa fc x ga gc gi gm F' m w w' :=
 ⟨k.ub.grow h f hg (fun q hq=>by cases hq;exact k.gg),k.ib.grown hg (blk_mapF k.ib k.mp),hm,k.gg⟩
end
theorem SetPost.from {S T:Int→Prop} {w w1:World} {e:Ending} {w':World} (k:SetPost S w1 e w') (hb:Below w.heap.size w w1) (hs:∀ x,S x ↔ T x):SetPost T w e w':=by
 obtain ⟨h1,L,a,c,rfl,hp,hm,ow⟩:=k
 exact ⟨hb.trans (h1.mono hb.size),L,a,c,rfl,hp,fun x=>(hm x).trans (hs x),owns_mono ow hb.size⟩
set_option maxRecDepth 100000 in
set_option maxHeartbeats 8000000 in
theorem chaTargets (u:Unt) (ha:Option Addr) (hc:Nat) (fa:Option Addr) (fc:Nat) (f i:Int) (w:World) (h:ClssAt w ha u.h) (hf:FncsAt w fa u.fs) (hb:BndU u) :
 Calls Tryz.prog 14 #[unV u ha hc fa fc,.int .i64 f,.int .i64 i] w (SetPost (trgS u f i) w):=by
 have S0:=Lib.hid (UB.start (hc:=hc) (fc:=fc) h hf)
 have HZ:Hid ((w.alloc (unC u ha hc fa fc)).heap.size=w.heap.size + 1):=by show _=_;simp
 have H0:=Lib.hid h
 have F0:=Lib.hid hf
 have HFN:Hid (∀ (y t:Str) (w1:World),FncsAt w1 fa u.fs→Calls Tryz.prog 49 #[unV u ha hc fa fc,.string y,.string t] w1 (Ret w1 (.int .i64 (fnI u.fs y t)))):=fun y t w1 h1=>irFind u ha hc fa fc y t w1 h1 (by have:=hb.l;omega)
 have HTG:Hid (∀ (y t:Str) (w1:World),ClssAt w1 ha u.h→Calls Tryz.prog 50 #[.agg #[.slice ha u.h.length hc],.string y,.string t] w1 (StrsSet (tgtNS u.h y t) u.h.length w1)):=fun y t w1 h1=>targetsP u.h y t ha hc w1 h1 hb.h.l hb.h.m
 have HFU:Hid (∀ (F:Int→Option Value) (g m:Nat) (w1:World),MapF w1 g (Value.int .i64) F m→m≤1000000→Calls Tryz.prog 51 #[.map (some g)] w1 (SetPost (fun x=>0≤x∧(F x).isSome=true) w1)):=fun F g m w1 h1 h2=>functionsP F g m w1 h1 h2
 have hul:=hb.h.l
 clear h hf hb
 unfold unV at *
 go_enter Tryz.func14,Tryz.ntmps14
 go_upto_region 1 with (fail)
 generalize w.alloc _=W at *
 obtain ⟨z0,z1,z2⟩:=S0.out.cells
 by_cases g1:f < 0
 case pos =>
  have HN:Hid (∀ x,¬ trgS u f i x):=trgS_out (fun j k hj hk e=>by have:=e.1;omega)
  have t1:=decide_eq_true g1
  clear g1
  go_wp2
  go_ret
  exact ⟨S0.out.hb,[],none,0,rfl,.nil,fun x=>⟨fun h=>(by cases h),fun k=>absurd k (HN.out x)⟩,World.ownsRow_nil _ _ _ _⟩
 have t1:=decide_eq_false g1
 by_cases g2:(u.fs.length:Int)≤f
 case pos =>
  have HN:Hid (∀ x,¬ trgS u f i x):=trgS_out (fun j k hj hk e=>by have:=e.1;omega)
  have t2:=decide_eq_true g2
  clear g1 g2
  go_wp2
  go_ret
  exact ⟨S0.out.hb,[],none,0,rfl,.nil,fun x=>⟨fun h=>(by cases h),fun k=>absurd k (HN.out x)⟩,World.ownsRow_nil _ _ _ _⟩
 have t2:=decide_eq_false g2
 obtain ⟨j,rfl⟩:∃ j:Nat,f=j:=⟨f.toNat,by omega⟩
 have hj:j < u.fs.length:=by omega
 by_cases g3:i < 0
 case pos =>
  have HN:Hid (∀ x,¬ trgS u (j:Int) i x):=trgS_out (fun j k hj hk e=>by have:=e.2;omega)
  have t3:=decide_eq_true g3
  clear g1 g2 g3
  go_wp2
  go_ret
  exact ⟨S0.out.hb,[],none,0,rfl,.nil,fun x=>⟨fun h=>(by cases h),fun k=>absurd k (HN.out x)⟩,World.ownsRow_nil _ _ _ _⟩
 have t3:=decide_eq_false g3
 obtain ⟨b,off,va,vc,ca,cc,he,-,-,-,-,-,-,m6,-,hcode⟩:=S0.out.f j hj
 subst he
 by_cases g4:(u.fs[j].code.length:Int)≤i
 case pos =>
  have HN:Hid (∀ x,¬ trgS u (j:Int) i x):=trgS_out (fun j' k hj' hk e=>by
   have e1:j=j':=by have:=e.1;omega
   subst e1
   have:=e.2
   omega)
  have t4:=decide_eq_true g4
  clear g1 g2 g3 g4 hcode
  generalize u.fs[j].code.length=cl at *
  go_wp2
  go_ret
  exact ⟨S0.out.hb,[],none,0,rfl,.nil,fun x=>⟨fun h=>(by cases h),fun k=>absurd k (HN.out x)⟩,World.ownsRow_nil _ _ _ _⟩
 have t4:=decide_eq_false g4
 obtain ⟨k,rfl⟩:∃ k:Nat,i=k:=⟨i.toNat,by omega⟩
 have hk:k < u.fs[j].code.length:=by omega
 clear g1 g2 g3 g4
 have HTA:=Lib.hid (trgS_at hj hk)
 obtain ⟨b2,off2,ga,gc,he,m0,m1,m2,m3,m4,m5,m6b,m7,m8,m9,-⟩:=hcode k hk
 subst he
 generalize u.fs[j].code[k]=x at *
 generalize u.fs[j].code.length=cl at *
 go_upto_region 4 with (refine wpList_makeF rfl 95 rfl undMIB (Value.int .i64) ?_;intro hmp)
 have hob:=one_below W (.map #[] 0)
 have S1:=Lib.hid (S0.out.below hob)
 have hgm:w.heap.size < W.heap.size:=by rw [HZ.out];omega
 replace m0:=cell_below hob m0
 replace m1:=cell_below hob m1
 replace m2:=cell_below hob m2
 replace m3:=cell_below hob m3
 replace m4:=cell_below hob m4
 replace m5:=cell_below hob m5
 replace m6b:=cell_below hob m6b
 replace m7:=cell_below hob m7
 replace m8:=cell_below hob m8
 replace m9:=cell_below hob m9
 replace m6:=cell_below hob m6
 have MP:=Lib.hid hmp
 clear hmp hob S0 z0 z1 z2 t1 t2 t3 t4
 generalize W.heap.size=gm at *
 generalize W.alloc (.map #[] 0)=W1 at *
 obtain ⟨z0,z1,z2⟩:=S1.out.cells
 have BZ:Hid (Blk (W1.alloc zInC) W1.heap.size _ 57):=blk_new ..
 go_upto_region 5 with (refine storeInstr rfl rfl _ _ rfl W1.heap.size x ga gc rfl rfl _ BZ.out rfl ?_)
 have hrow:=below_row (one_below W1 zInC) (Nat.le_refl W1.heap.size) #[.int .i64 x.op,.int .i64 x.dst,.int .i64 x.a,.int .i64 x.b,.int .i64 x.n,.string x.cls,.string x.name,.slice ga x.args.length gc,.int .i64 x.goto,.int .i64 x.catch_]
 have R0:Hid (TG u ha hc (some ⟨b,off,none⟩) fc x ga gc W1.heap.size gm (fun _=>none) 0 w _):=⟨S1.out.below hrow,BZ.out.setRow _,MP.out.below hrow,hgm⟩
 clear S1 BZ MP hrow m0 m1 m2 m3 m4 m5 m6 m6b m7 m8 m9 z0 z1 z2
 generalize (W1.alloc zInC).setRow W1.heap.size _=W2 at *
 generalize W1.heap.size=gi at *
 have y0:=R0.out.ib.cell 0 (by simp)
 have y5:=R0.out.ib.cell 5 (by simp)
 have y6:=R0.out.ib.cell 6 (by simp)
 simp only [List.getElem_toArray,List.getElem_cons_zero,List.getElem_cons_succ] at y0 y5 y6
 obtain ⟨z0,z1,z2⟩:=R0.out.ub.cells
 cases h10:(x.op == 10)
 case true =>
  have HS:Hid (∀ z,(0≤z∧((fun k'=>if k' = fnI u.fs x.cls x.name then some (Value.bool true) else (fun _=>none) k') z).isSome=true) ↔ trgS u (j:Int) (k:Int) z):=fun z=>by
   rw [HTA.out]
   unfold callS
   have e10:x.op=10:=by simpa using h10
   rw [e10]
   by_cases e:z=fnI u.fs x.cls x.name <;> simp [e]
  clear HTA
  go_wp2_with (first | (go_at_call 49;refine (HFN.out _ _ _ R0.out.ub.f).mono ?_;rintro e w3 ⟨rfl,hb3⟩;have R3:=R0.out.below hb3) | (at_mapUpdate;refine wpList_mapF rfl _ _ _ _ rfl keyInt undMIB gm rfl R3.mp _ rfl (.bool true) rfl ?_;intro w4 hm4 hg4 hs4))
  have R4:=Lib.hid (TG.put H0.out F0.out R3 hm4 hg4)
  clear R3 hm4 hg4 hs4 hb3 R0 y0 y5 y6 z0 z1 z2
  refine (HFU.out _ gm _ _ R4.out.mp (by omega)).mono ?_
  rintro e w5 hr
  obtain ⟨hb5,L,la,lc,rfl,hp,hm,ow⟩:=SetPost.from hr R4.out.ub.hb HS.out
  have HB5:=Lib.hid hb5
  have HP5:=Lib.hid hp
  have HM5:=Lib.hid hm
  have OW5:=Lib.hid ow
  clear hr hb5 hp hm ow R4
  go_wp2
  go_ret
  exact ⟨HB5.out,L,la,lc,rfl,HP5.out,HM5.out,OW5.out⟩
 case false =>
  cases h9:(x.op == 9)
  case false =>
   have HS:Hid (∀ z,(0≤z∧((fun _:Int=>(none:Option Value)) z).isSome=true) ↔ trgS u (j:Int) (k:Int) z):=fun z=>by
    rw [HTA.out]
    unfold callS
    have e10:x.op ≠ 10:=by simpa using h10
    have e9:x.op ≠ 9:=by simpa using h9
    simp [e10,e9]
   clear HTA
   go_wp2_with fail
   refine (HFU.out _ gm _ _ R0.out.mp (by omega)).mono ?_
   rintro e w5 hr
   obtain ⟨hb5,L,la,lc,rfl,hp,hm,ow⟩:=SetPost.from hr R0.out.ub.hb HS.out
   have HB5:=Lib.hid hb5
   have HP5:=Lib.hid hp
   have HM5:=Lib.hid hm
   have OW5:=Lib.hid ow
   clear hr hb5 hp hm ow R0
   go_wp2
   go_ret
   exact ⟨HB5.out,L,la,lc,rfl,HP5.out,HM5.out,OW5.out⟩
  case true =>
   have HS:Hid (∀ z,trgS u (j:Int) (k:Int) z ↔ 0≤z∧∃ y,tgtNS u.h x.cls x.name y∧z=fnI u.fs y x.name):=fun z=>by
    rw [HTA.out]
    unfold callS
    have e9:x.op=9:=by simpa using h9
    rw [e9]
    simp
   clear HTA
   go_wp2_with fail
   refine (HTG.out _ _ _ R0.out.ub.h).mono ?_
   rintro e w3 ⟨hb3,l,la,lc,rfl,hll,hlc,hmem,hat⟩
   have R3:=Lib.hid (R0.out.below hb3)
   have HL:=Lib.hid hat
   have HME:=Lib.hid hmem
   clear hb3 hat hmem hlc R0 y0 y5 y6 z0 z1 z2 HTG
   go_wp2
   go_loopw [66] (fun i wr=>∃ (q:Nat) (F:Int→Option Value),q≤l.length∧i = .int .i64 q∧Hid (∀ z,(F z).isSome=true ↔ ∃ y ∈ l.take q,z=fnI u.fs y x.name)∧Hid (StrsAt wr la l)∧Hid (TG u ha hc (some ⟨b,off,none⟩) fc x ga gc gi gm F q w wr)) (fun i _=>l.length - (intOf i).toNat)
   case atStart=>exact ⟨0,_,Nat.zero_le _,rfl,(fun z=>by simp),HL.out,R3.out⟩
   case round =>
    clear R3 HL
    obtain ⟨q,F,hq,rfl,HI,HL,R⟩:=hrel
    by_cases hlt:q < l.length
    case neg =>
     have HS2:Hid (∀ z,(0≤z∧(F z).isSome=true) ↔ trgS u (j:Int) (k:Int) z):=fun z=>by
      rw [HS.out,HI.out,List.take_of_length_le (by omega)]
      constructor
      ·rintro ⟨h0,y,hy,e⟩;exact ⟨h0,y,(HME.out y).1 hy,e⟩
      ·rintro ⟨h0,y,hy,e⟩;exact ⟨h0,y,(HME.out y).2 hy,e⟩
     go_wp2_with fail
     refine (HFU.out _ gm _ _ R.out.mp (by omega)).mono ?_
     rintro e w5 hr
     obtain ⟨hb5,L,la,lc,rfl,hp,hm,ow⟩:=SetPost.from hr R.out.ub.hb HS2.out
     have HB5:=Lib.hid hb5
     have HP5:=Lib.hid hp
     have HM5:=Lib.hid hm
     have OW5:=Lib.hid ow
     clear hr hb5 hp hm ow R HI HS HS2
     go_wp2
     go_ret
     exact ⟨HB5.out,L,la,lc,rfl,HP5.out,HM5.out,OW5.out⟩
    have HLC:=Lib.hid HL.out
    obtain ⟨b3,o3,he,c0⟩:=HL.out q hlt
    subst he
    have HTK:Hid (l.take (q + 1)=l.take q ++ [l[q]]):=List.take_succ_eq_append_getElem hlt
    have HF:=Lib.hid (HFN.out l[q] x.name)
    generalize l[q]=nm at *
    obtain ⟨z0,z1,z2⟩:=R.out.ub.cells
    have y6:=R.out.ib.cell 6 (by simp)
    simp only [List.getElem_toArray,List.getElem_cons_zero,List.getElem_cons_succ] at y6
    have HI2:Hid (∀ z,((fun k'=>if k' = fnI u.fs nm x.name then some (Value.bool true) else F k') z).isSome=true ↔ ∃ y ∈ l.take (q + 1),z=fnI u.fs y x.name):=fun z=>by
     rw [HTK.out]
     simp only [List.mem_append,List.mem_singleton]
     by_cases e:z=fnI u.fs nm x.name
     ·rw [if_pos e]
      exact ⟨fun _=>⟨nm,.inr rfl,e⟩,fun _=>rfl⟩
     ·rw [if_neg e,HI.out]
      constructor
      ·rintro ⟨y,hy,ey⟩;exact ⟨y,.inl hy,ey⟩
      ·rintro ⟨y,hy | hy,ey⟩
       ·exact ⟨y,hy,ey⟩
       ·rw [hy] at ey;exact absurd ey e
    clear HI HTK HL
    go_wp2_with (first | (go_at_call 49;refine (HF.out _ R.out.ub.f).mono ?_;rintro e w3 ⟨rfl,hb3⟩;have R3:=R.out.below hb3) | (at_mapUpdate;refine wpList_mapF rfl _ _ _ _ rfl keyInt undMIB gm rfl R3.mp _ rfl (.bool true) rfl ?_;intro w4 hm4 hg4 hs4))
    have R4:=Lib.hid (TG.put H0.out F0.out R3 hm4 hg4)
    have HL4:Hid (StrsAt w4 (some ⟨b3,o3,none⟩) l):=by
     have h3:=HLC.out.below hb3
     intro q hq
     obtain ⟨b',o',he,hc⟩:=h3 q hq
     exact ⟨b',o',he,hg4.cell hc (cell_mapF hc R3.mp)⟩
    clear R3 hm4 hg4 hs4 hb3 R
    go_roundw
    case rel=>exact ⟨q + 1,_,by omega,by go_num,HI2.out,HL4.out,R4.out⟩
    case measure=>simp [intOf];omega
end Go.Proofs.YtkbmnfijeknenaaGreatDoor
namespace Go.Proofs.YtkbmnfijeknenaaGreatDoor
open Go.RowKit Go.Unit0 Go.AM

theorem undMMS:Tryz.prog.underlying 100=some (.map 102 31):=by kernel_rfl
def KN (u:Unt) (F:Str × Str→Option Value) (w:World):Prop:=∀ p v,F p=some v→∃ (f i:Nat) (hf:f < u.fs.length) (hi:i < u.fs[f].code.length),
 u.fs[f].code[i].op=9∧u.fs[f].code[i].cls=p.1∧u.fs[f].code[i].name=p.2∧∃ a c,v = .slice a (trgL u f i).length c∧w.ownsRow 0 3 1 v (trgL u f i).length ((trgL u f i).map intV)
theorem KN.map {u:Unt} {F:Str × Str→Option Value} {w w':World} (k:KN u F w) (h:∀ v n xs,w.ownsRow 0 3 1 v n xs→w'.ownsRow 0 3 1 v n xs):KN u F w':=fun p v e=>by
 obtain ⟨f,i,hf,hi,h1,h2,h3,a,c,h4,h5⟩:=k p v e
 exact ⟨f,i,hf,hi,h1,h2,h3,a,c,h4,h _ _ _ h5⟩
theorem KN.at {u:Unt} {F:Str × Str→Option Value} {w:World} (k:KN u F w) {m q:Nat} (hm:m < u.fs.length) (hq:q < u.fs[m].code.length) (h9:u.fs[m].code[q].op=9) {v:Value} (e:F (u.fs[m].code[q].cls,u.fs[m].code[q].name)=some v) :
 ∃ a c,v = .slice a (trgL u m q).length c∧w.ownsRow 0 3 1 v (trgL u m q).length ((trgL u m q).map intV):=by
 obtain ⟨f,i,hf,hi,h1,h2,h3,a,c,h4,h5⟩:=k _ v e
 have:trgL u f i=trgL u m q:=trgL_same hf hi hm hq (by rw [h1,h9]) h2 h3
 rw [this] at h4 h5
 exact ⟨a,c,h4,h5⟩
structure CK (u:Unt) (ha:Option Addr) (hc:Nat) (fa:Option Addr) (fc gm:Nat) (F:Str × Str→Option Value) (n:Nat) (out:List Cal) (oa:Option Addr) (oc:Nat) (w wr:World):Prop where
 ce:CE u ha hc fa fc out oa oc w wr
 mp:MapF wr gm encM F n
 kn:KN u F wr
 gg:w.heap.size < gm
section
variable {u:Unt} {ha:Option Addr} {hc:Nat} {fa:Option Addr} {fc gm:Nat} {F:Str × Str→Option Value} {n:Nat} {out:List Cal} {oa:Option Addr} {oc:Nat} {w wr w':World}
theorem CK.below (k:CK u ha hc fa fc gm F n out oa oc w wr) (hb:Below wr.heap.size wr w'):CK u ha hc fa fc gm F n out oa oc w w' :=
 ⟨k.ce.below hb,k.mp.below hb,k.kn.map (fun _ _ _ h=>owns_below h hb),k.gg⟩
theorem CK.grow {out':List Cal} {oa':Option Addr} {oc':Nat} (h:ClssAt w ha u.h) (f:FncsAt w fa u.fs) (k:CK u ha hc fa fc gm F n out oa oc w wr) (own:w'.ownsRow (w.heap.size + 1) 51 3 (.slice oa' out'.length oc') out'.length (flatC out')) (hg:wr.grownBy w' (Value.slice oa out.length oc).ownBlock):CK u ha hc fa fc gm F n out' oa' oc' w w' :=
 ⟨k.ce.grow h f own hg,k.mp.grown hg (owns_mapF k.ce.ow k.mp),k.kn.map (fun _ _ _ h=>owns_kept2 h k.ce.ow (by decide) hg),k.gg⟩
theorem CK.put {m q:Nat} (h:ClssAt w ha u.h) (f:FncsAt w fa u.fs) (k:CK u ha hc fa fc gm F n out oa oc w wr) (hm:m < u.fs.length) (hq:q < u.fs[m].code.length) (h9:u.fs[m].code[q].op=9) {a:Option Addr} {c:Nat}
 (ow:wr.ownsRow 0 3 1 (.slice a (trgL u m q).length c) (trgL u m q).length ((trgL u m q).map intV))
 (hm':MapF w' gm encM (fun k'=>if k' = (u.fs[m].code[q].cls,u.fs[m].code[q].name) then some (.slice a (trgL u m q).length c) else F k') (n + 1)) (hg:wr.grownBy w' (some gm)) :
 ∃ F' n',F' (u.fs[m].code[q].cls,u.fs[m].code[q].name)=some (.slice a (trgL u m q).length c)∧CK u ha hc fa fc gm F' n' out oa oc w w':=by
 refine ⟨_,_,if_pos rfl,⟨k.ce.ub.grow h f hg (fun q hq=>by cases hq;exact k.gg),owns_put k.ce.ow k.mp hg⟩,hm',fun p v e=>?_,k.gg⟩
 by_cases hp:p=(u.fs[m].code[q].cls,u.fs[m].code[q].name)
 ·rw [if_pos hp] at e
  cases e
  exact ⟨m,q,hm,hq,h9,by rw [hp],by rw [hp],a,c,rfl,owns_put ow k.mp hg⟩
 ·rw [if_neg hp] at e
  obtain ⟨f,i,hf,hi,h1,h2,h3,a,c,h4,h5⟩:=k.kn p v e
  exact ⟨f,i,hf,hi,h1,h2,h3,a,c,h4,owns_put h5 k.mp hg⟩
end
theorem trg_nil {u:Unt} {m q:Nat} (hm:m < u.fs.length) (hq:q < u.fs[m].code.length) (h9:u.fs[m].code[q].op ≠ 9) (h10:u.fs[m].code[q].op ≠ 10):[]=trgL u m q :=
 trgL_unique .nil (fun x=>⟨fun h=>(by cases h),fun h=>by
  rcases ((trgS_at hm hq x).1 h).2 with ⟨e,_⟩ | ⟨e,_⟩
  ·exact absurd e h10
  ·exact absurd e h9⟩)
set_option maxRecDepth 100000 in
set_option maxHeartbeats 16000000 in
theorem chaCalls (u:Unt) (ha:Option Addr) (hc:Nat) (fa:Option Addr) (fc:Nat) (w:World) (h:ClssAt w ha u.h) (hf:FncsAt w fa u.fs) (hb:FitOk u 150) :
 Calls Tryz.prog 17 #[unV u ha hc fa fc] w (CallsPost (edgU u u.fs.length) w):=by
 have S00:Hid (CE u ha hc fa fc [] none 0 w (w.alloc (unC u ha hc fa fc))):=⟨UB.start h hf,World.ownsRow_nil _ _ _ _⟩
 have HZ:Hid ((w.alloc (unC u ha hc fa fc)).heap.size=w.heap.size + 1):=by show _=_;simp
 have HM:Hid (ClssAt w ha u.h∧FncsAt w fa u.fs):=⟨h,hf⟩
 have HTG:Hid (∀ (f i:Int) (w1:World),ClssAt w1 ha u.h→FncsAt w1 fa u.fs→Calls Tryz.prog 14 #[unV u ha hc fa fc,.int .i64 f,.int .i64 i] w1 (SetPost (trgS u f i) w1)):=fun f i w1 h1 h2=>chaTargets u ha hc fa fc f i w1 h1 h2 (fitOk_bnd hb (by omega))
 have hn:=hb.nf
 have HCL:Hid (∀ x ∈ u.fs,x.code.length≤150):=fun x hx=>(hb.f x hx).c
 have HE0:Hid ([]=edgU u 0):=by show _=_;simp [edgU]
 clear h hf hb
 unfold unV at *
 go_enter Tryz.func17,Tryz.ntmps17
 go_upto_region 1 with (fail)
 generalize w.alloc _=W at *
 go_upto_region 3 with (refine wpList_makeF rfl 100 rfl undMMS encM ?_;intro hmp)
 have hgm:w.heap.size < W.heap.size:=by rw [HZ.out];omega
 have S0:Hid (CK u ha hc fa fc W.heap.size (fun _=>none) 0 [] none 0 w (W.alloc (.map #[] 0))):=⟨S00.out.below (one_below ..),hmp,fun p v e=>(by cases e),hgm⟩
 clear S00 HZ hmp hgm
 generalize W.heap.size=gm at *
 generalize W.alloc (.map #[] 0)=W1 at *
 obtain ⟨z0,z1,z2⟩:=S0.out.ce.ub.cells
 go_wp2
 clear z0 z1 z2
 go_loopw [3,19] (fun v i wr=>∃ (m:Nat) (F:Str × Str→Option Value) (n:Nat) (out:List Cal) (oa:Option Addr) (oc:Nat),m≤u.fs.length∧out.length≤m * 3000∧v = .slice oa out.length oc∧i = .int .i64 m∧Hid (out=edgU u m)∧Hid (CK u ha hc fa fc gm F n out oa oc w wr)) (fun _ i _=>u.fs.length - (intOf i).toNat)
 case atStart=>exact ⟨0,_,_,[],none,0,Nat.zero_le _,Nat.zero_le _,rfl,rfl,HE0.out,S0.out⟩
 case round =>
  clear S0 HE0
  obtain ⟨m,F,n,out,oa,oc,hm,hol,rfl,rfl,HI,S⟩:=hrel
  by_cases hlt:m < u.fs.length
  case neg =>
   have HF:Hid (out=edgU u u.fs.length):=by show _=_;rw [HI.out,show m=u.fs.length by omega]
   go_wp2
   go_ret
   have hbs:=S.out.ce.ub.hb
   exact ⟨hbs,oa,oc,by rw [← HF.out] <;> rfl,by rw [← HF.out];exact owns_mono S.out.ce.ow (Nat.le_succ _)⟩
  have HUM:=Lib.hid (@edgU_succ u m hlt)
  have hcl:=HCL.out _ (List.getElem_mem hlt)
  obtain ⟨b,off,va,vc,ca,cc,he,m0,m1,m2,m3,m4,m5,m6,-,-⟩:=S.out.ce.ub.f m hlt
  subst he
  have HCC:Hid (∀ wx,Below w.heap.size w wx→InssAt wx ca u.fs[m].code):=fun wx hx=>by
   obtain ⟨b',off',va',vc',ca',cc',he,-,-,-,-,-,-,n6,-,hcode⟩:=HM.out.2 m hlt
   cases he
   have:=cell_below S.out.ce.ub.hb n6
   rw [m6] at this
   cases this
   exact hcode.below hx
  have HFM:Hid (∀ (q:Nat) (hq:q < u.fs[m].code.length),u.fs[m].code[q].op ≠ 9→u.fs[m].code[q].op ≠ 10→[]=trgL u m q):=fun q hq h1 h2=>trg_nil hlt hq h1 h2
  have HKA:Hid (∀ (q:Nat) (hq:q < u.fs[m].code.length) (F:Str × Str→Option Value) (wx:World),KN u F wx→u.fs[m].code[q].op=9→∀ v,F (u.fs[m].code[q].cls,u.fs[m].code[q].name)=some v→∃ a c,v = .slice a (trgL u m q).length c∧wx.ownsRow 0 3 1 v (trgL u m q).length ((trgL u m q).map intV)):=fun q hq F wx k h9 v e=>k.at hlt hq h9 e
  have HPU:Hid (∀ (q:Nat) (hq:q < u.fs[m].code.length) (F:Str × Str→Option Value) (n:Nat) (out:List Cal) (oa:Option Addr) (oc:Nat) (wr w':World) (a:Option Addr) (c:Nat),CK u ha hc (some ⟨b,off,none⟩) fc gm F n out oa oc w wr→u.fs[m].code[q].op=9 →
   wr.ownsRow 0 3 1 (.slice a (trgL u m q).length c) (trgL u m q).length ((trgL u m q).map intV)→MapF w' gm encM (fun k'=>if k' = (u.fs[m].code[q].cls,u.fs[m].code[q].name) then some (.slice a (trgL u m q).length c) else F k') (n + 1)→wr.grownBy w' (some gm) →
   ∃ F' n',F' (u.fs[m].code[q].cls,u.fs[m].code[q].name)=some (.slice a (trgL u m q).length c)∧CK u ha hc (some ⟨b,off,none⟩) fc gm F' n' out oa oc w w'):=fun q hq F n out oa oc wr w' a c k h9 o hm hg=>CK.put HM.out.1 HM.out.2 k hlt hq h9 o hm hg
  generalize u.fs[m]=f at *
  have BZ:Hid (Blk (wr.alloc zFnC) wr.heap.size _ 55):=blk_new ..
  go_upto_region 6 with (refine storeFunc rfl rfl _ _ rfl wr.heap.size f va vc ca cc rfl rfl _ BZ.out rfl ?_)
  have hrow:=below_row (one_below wr zFnC) (Nat.le_refl wr.heap.size) #[.string f.cls,.string f.name,.bool f.stat,.int .i64 f.params,.slice va f.vars.length vc,.string f.result,.slice ca f.code.length cc]
  have B2:=Lib.hid (BZ.out.setRow #[.string f.cls,.string f.name,.bool f.stat,.int .i64 f.params,.slice va f.vars.length vc,.string f.result,.slice ca f.code.length cc])
  have S2:=Lib.hid (S.out.below hrow)
  clear S BZ hrow m0 m1 m2 m3 m4 m5 m6
  generalize (wr.alloc zFnC).setRow wr.heap.size _=W2 at *
  generalize wr.heap.size=n2 at *
  have y6:=B2.out.cell 6 (by simp)
  simp only [List.getElem_toArray,List.getElem_cons_zero,List.getElem_cons_succ] at y6
  go_wp2
  clear y6 B2
  obtain ⟨wo,rfl⟩:∃ wo,wo=W2:=⟨_,rfl⟩
  go_loopw [3,27] (fun v i wr=>∃ (q:Nat) (F:Str × Str→Option Value) (n:Nat) (out:List Cal) (oa:Option Addr) (oc:Nat),q≤f.code.length∧out.length≤m * 3000 + q * 20∧v = .slice oa out.length oc∧i = .int .i64 q∧Hid (out=edgU u m ++ edgF u m q)∧Hid (CK u ha hc (some ⟨b,off,none⟩) fc gm F n out oa oc w wr)) (fun _ i _=>f.code.length - (intOf i).toNat)
  case atStart=>exact ⟨0,F,n,out,oa,oc,Nat.zero_le _,by omega,rfl,rfl,(by show _=_;rw [HI.out];simp [edgF]),S2.out⟩
  case round =>
   clear S2 HI
   obtain ⟨q,F,n,out,oa,oc,hq,hol,rfl,rfl,HI,S⟩:=hrel
   by_cases hql:q < f.code.length
   case neg =>
    have HN:Hid (out=edgU u (m + 1)):=by show _=_;rw [HUM.out,HI.out,show q=f.code.length by omega]
    go_wp2
    go_roundw
    case rel=>exact ⟨m + 1,F,n,out,oa,oc,by omega,by omega,rfl,by go_num,HN.out,S.out⟩
    case measure=>simp [intOf];omega
   obtain ⟨b2,off2,ga,gc,he,m0,m1,m2,m3,m4,m5,m6,m7,m8,m9,-⟩:=HCC.out _ S.out.ce.ub.hb q hql
   subst he
   have HFQ:=Lib.hid (HFM.out q hql)
   have HKQ:=Lib.hid (HKA.out q hql)
   have HPQ:=Lib.hid (HPU.out q hql)
   generalize f.code[q]=x at *
   have BZ:Hid (Blk (wr.alloc zInC) wr.heap.size _ 57):=blk_new ..
   go_upto_region 9 with (refine storeInstr rfl rfl _ _ rfl wr.heap.size x ga gc rfl rfl _ BZ.out rfl ?_)
   have hrow:=below_row (one_below wr zInC) (Nat.le_refl wr.heap.size) #[.int .i64 x.op,.int .i64 x.dst,.int .i64 x.a,.int .i64 x.b,.int .i64 x.n,.string x.cls,.string x.name,.slice ga x.args.length gc,.int .i64 x.goto,.int .i64 x.catch_]
   have B2:=Lib.hid (BZ.out.setRow #[.int .i64 x.op,.int .i64 x.dst,.int .i64 x.a,.int .i64 x.b,.int .i64 x.n,.string x.cls,.string x.name,.slice ga x.args.length gc,.int .i64 x.goto,.int .i64 x.catch_])
   have S2:=Lib.hid (S.out.below hrow)
   clear S BZ hrow m0 m1 m2 m3 m4 m5 m6 m7 m8 m9
   generalize (wr.alloc zInC).setRow wr.heap.size _=W2 at *
   generalize wr.heap.size=n3 at *
   have y0:=B2.out.cell 0 (by simp)
   have y5:=B2.out.cell 5 (by simp)
   have y6:=B2.out.cell 6 (by simp)
   simp only [List.getElem_toArray,List.getElem_cons_zero,List.getElem_cons_succ] at y0 y5 y6
   go_upto_block 4 with (fail)
   go_cut [9] (fun v wx=>∃ (L:List Int) (la:Option Addr) (lc:Nat) (F:Str × Str→Option Value) (n:Nat),v = .slice la L.length lc∧Hid (L=trgL u m q)∧Hid (wx.ownsRow 0 3 1 (.slice la L.length lc) L.length (L.map intV))∧Hid (CK u ha hc (some ⟨b,off,none⟩) fc gm F n out oa oc w wx))
   case first =>
    obtain ⟨z0,z1,z2⟩:=S2.out.ce.ub.cells
    cases h10:(x.op == 10)
    case true =>
     go_wp2_with fail
     refine (HTG.out (m:Int) (q:Int) _ S2.out.ce.ub.h S2.out.ce.ub.f).mono ?_
     rintro e w3 ⟨hb3,L,la,lc,rfl,hp,hmem,ow3⟩
     have HL:Hid (L=trgL u m q):=trgL_unique hp hmem
     have S3:=Lib.hid (S2.out.below hb3)
     have IO:=Lib.hid (owns_mono ow3 (Nat.zero_le _))
     clear hb3 hp hmem ow3 S2
     go_wp2
     go_meet
     exact ⟨L,la,lc,F,n,rfl,HL.out,IO.out,S3.out⟩
    case false =>
     cases h9:(x.op == 9)
     case false =>
      have HL:=Lib.hid (HFQ.out (by simpa using h9) (by simpa using h10))
      go_wp2
      go_meet
      exact ⟨[],none,0,F,n,rfl,HL.out,World.ownsRow_nil _ _ _ _,S2.out⟩
     case true =>
      have H9:Hid (x.op=9):=by show x.op=9;simpa using h9
      have BM:Hid (Blk (W2.alloc (.cells #[.string x.cls,.string x.name] 102)) W2.heap.size #[.string x.cls,.string x.name] 102):=blk_new ..
      go_upto_region 15 with (fail)
      have hob:=one_below W2 (.cells #[.string x.cls,.string x.name] 102)
      have S3:=Lib.hid (S2.out.below hob)
      clear S2 hob y0 y5 y6 B2 z0 z1 z2
      generalize W2.alloc _=W3 at *
      generalize W2.heap.size=gk at *
      obtain ⟨z0,z1,z2⟩:=S3.out.ce.ub.cells
      have y0:=BM.out.cell 0 (by simp)
      have y1:=BM.out.cell 1 (by simp)
      simp only [List.getElem_toArray,List.getElem_cons_zero,List.getElem_cons_succ] at y0 y1
      cases hF:F (x.cls,x.name) with
      | some v =>
        obtain ⟨la,lc,rfl,hrow⟩:=HKQ.out F _ S3.out.kn H9.out v hF
        have HV:=Lib.hid hF
        have HRW:=Lib.hid hrow
        clear hF hrow
        go_wp2_with (at_lookup;refine wpList_lookF rfl _ _ _ _ rfl keyM undMMS _ (zeroSI _) gm rfl S3.out.mp (x.cls,x.name) rfl ?_;rw [HV.out])
        go_meet
        exact ⟨trgL u m q,la,lc,F,n,rfl,rfl,HRW.out,S3.out⟩
      | none =>
        have HV:=Lib.hid hF
        clear hF
        go_upto_region 17 with (at_lookup;refine wpList_lookF rfl _ _ _ _ rfl keyM undMMS _ (zeroSI _) gm rfl S3.out.mp (x.cls,x.name) rfl ?_;rw [HV.out])
        have hne0:some w.heap.size ≠ some gm:=fun e=>by have:=S3.out.gg;simp at e;omega
        have hne1:some gk ≠ some gm:=blk_mapF BM.out S3.out.mp
        have k0:∀ o:GW W3 (some gm),o.u.cell? ⟨w.heap.size,0,none⟩=some (.slice ha u.h.length hc):=fun o=>o.h.cell z0 hne0
        have k1:∀ o:GW W3 (some gm),o.u.cell? ⟨w.heap.size,1,none⟩=some (.slice (some ⟨b,off,none⟩) u.fs.length fc):=fun o=>o.h.cell z1 hne0
        have k2:∀ o:GW W3 (some gm),o.u.cell? ⟨w.heap.size,2,none⟩=some (.int .i64 u.main):=fun o=>o.h.cell z2 hne0
        have k3:∀ o:GW W3 (some gm),o.u.cell? ⟨gk,0,none⟩=some (.string x.cls):=fun o=>o.h.cell y0 hne1
        have k4:∀ o:GW W3 (some gm),o.u.cell? ⟨gk,1,none⟩=some (.string x.name):=fun o=>o.h.cell y1 hne1
        have h0:Below W3.heap.size W3 W3.drew:=(Below.refl _ _).drew
        have hcur:W3.grownBy W3.drew (some gm):=below_grown0 h0 _
        have hne:Nonempty (GW W3 (some gm)):=⟨⟨_,hcur⟩⟩
        clear z0 z1 z2 y0 y1
        refine wp_region_Y (fun w'=>∃ o:GW W3 (some gm),w' = o.u) (by kernel_rfl) ?_
        change wpAnyY _ _ _ _ _ _ _ _ W3.drew
        refine wpAnyY_take 0 rfl (by kernel_rfl) (fun _ _ _ _ h=>h) ⟨⟨_,hcur⟩,rfl⟩ (fun K hK=>?_);go_simp;refine hK _ ?_;clear hK K
        refine wpAnyY_take 1 rfl (by kernel_rfl) (fun _ _ _ _ h=>h) ⟨⟨_,hcur⟩,rfl⟩ (fun K hK=>?_);go_simp;refine hK _ ?_;clear hK K
        refine wpAnyY_take 2 rfl (by kernel_rfl) (fun _ _ _ _ h=>h) ⟨⟨_,hcur⟩,rfl⟩ (fun K hK=>?_);go_simp;refine hK _ ?_;clear hK K
        refine wpAnyY_take 3 rfl (by kernel_rfl) (fun _ _ _ _ h=>h) ⟨⟨_,hcur⟩,rfl⟩ (fun K hK=>?_);go_simp;refine hK _ ?_;clear hK K
        refine wpAnyY_take 4 rfl (by kernel_rfl) (fun _ _ _ _ h=>h) ⟨⟨_,hcur⟩,rfl⟩ (fun K hK=>?_);go_simp;refine hK _ ?_;clear hK K
        refine wpAnyY_one 5 rfl (by kernel_rfl) ?_
        go_wp2_with fail
        refine (HTG.out (m:Int) (q:Int) _ (S3.out.ce.ub.h.below h0) (S3.out.ce.ub.f.below h0)).mono ?_
        rintro e w5 ⟨hb5,L,la,lc,rfl,hp,hmem,ow5⟩
        have hL:=trgL_unique hp hmem
        subst hL
        have h5:Below W3.heap.size W3 w5:=h0.trans (hb5.mono h0.size)
        have S5:=Lib.hid (S3.out.below h5)
        have IO:=Lib.hid (owns_mono ow5 (Nat.zero_le _))
        have hcur5:W3.grownBy w5 (some gm):=below_grown0 h5 _
        have B5:=Lib.hid (BM.out.below h5)
        clear hb5 hp hmem ow5
        go_wp2
        refine ⟨⟨⟨_,hcur5⟩,rfl⟩,?_⟩
        refine wpAnyY_one 6 rfl (by kernel_rfl) ?_
        refine wpList_mapF rfl _ _ _ _ rfl keyM undMMS gm rfl S5.out.mp (x.cls,x.name) rfl _ rfl ?_
        intro w7 hm7 hg7 hs7
        go_wp2
        refine ⟨⟨⟨_,grown_grown hcur5 hg7 (fun q hq=>.inr hq)⟩,rfl⟩,?_⟩
        refine wpAnyY_done (by kernel_rfl) ?_ _
        obtain ⟨F2,nF2,hF2,S7⟩:=HPQ.out F n out oa oc w5 w7 la lc S5.out H9.out IO.out hm7 hg7
        have S7:=Lib.hid S7
        have HV2:=Lib.hid hF2
        have I7:=Lib.hid (owns_put IO.out S5.out.mp hg7)
        have B7:=Lib.hid (B5.out.grown hg7 hne1)
        clear hm7 hg7 hs7 hF2 S5 IO B5 h5 hcur5 k0 k1 k2 k3 k4 HPQ HKQ
        have y0:=B7.out.cell 0 (by simp)
        have y1:=B7.out.cell 1 (by simp)
        simp only [List.getElem_toArray,List.getElem_cons_zero,List.getElem_cons_succ] at y0 y1
        generalize trgL u m q=L at *
        go_wp2_with (at_lookup;refine wpList_lookF rfl _ _ _ _ rfl keyM undMMS _ (zeroSI _) gm rfl S7.out.mp (x.cls,x.name) rfl ?_;rw [HV2.out])
        go_meet
        exact ⟨L,la,lc,F2,nF2,rfl,rfl,I7.out,S7.out⟩
   case rest =>
    obtain ⟨L,la,lc,F,n,rfl,HL,IO,S3⟩:=hcut
    have hll:L.length≤20:=by
     have h1:=trgL_len u m q
     rw [← HL.out] at h1
     omega
    clear S2 B2 y0 y5 y6 HFQ HKQ HPQ
    go_wp2
    obtain ⟨wo2,rfl⟩:∃ wo2:World,wo2=wr:=⟨_,rfl⟩
    go_loopw [3,66] (fun v i wr=>∃ (k:Nat) (out2:List Cal) (oa:Option Addr) (oc:Nat),k≤L.length∧out2.length≤m * 3000 + q * 20 + k∧v = .slice oa out2.length oc∧i = .int .i64 k∧Hid (out2=out ++ (L.take k).map (fun g=>(⟨(m:Int),(q:Int),g⟩:Cal)))∧Hid (CK u ha hc (some ⟨b,off,none⟩) fc gm F n out2 oa oc w wr)∧Hid (wr.ownsRow 0 3 1 (.slice la L.length lc) L.length (L.map intV))) (fun _ i _=>L.length - (intOf i).toNat)
    case atStart=>exact ⟨0,out,oa,oc,Nat.zero_le _,by omega,rfl,rfl,(by show _=_;simp),S3.out,IO.out⟩
    case round =>
     clear S3 IO
     obtain ⟨k,out2,oa2,oc2,hk,hol2,rfl,rfl,HJ,S,IO⟩:=hrel
     by_cases hkl:k < L.length
     case neg =>
      have HN:Hid (out2=edgU u m ++ edgF u m (q + 1)):=by
       show _=_
       rw [HJ.out,HI.out,trg_take HL.out (by omega),edgF_succ,List.append_assoc]
      have hb2:out2.length≤m * 3000 + (q + 1) * 20:=by omega
      clear HJ
      go_wp2
      go_roundw
      case rel=>exact ⟨q + 1,F,n,out2,oa2,oc2,by omega,hb2,rfl,by go_num,HN.out,S.out⟩
      case measure=>simp [intOf];omega
     obtain ⟨b3,o3,he,c0⟩:=(owns_ints' IO.out).2 k hkl
     subst he
     have HJN:Hid (out2 ++ [⟨(m:Int),(q:Int),L[k]⟩]=out ++ (L.take (k + 1)).map (fun g=>(⟨(m:Int),(q:Int),g⟩:Cal))):=by
      show _=_
      rw [HJ.out,List.take_succ_eq_append_getElem hkl,List.map_append,List.append_assoc]
      rfl
     clear HJ
     generalize L[k]=z at *
     have S1:=Lib.hid (S.out.below (one_below wr (.cells #[.int .i64 m,.int .i64 q,.int .i64 z] 51)))
     have I1:=Lib.hid (owns_below IO.out (one_below wr (.cells #[.int .i64 m,.int .i64 q,.int .i64 z] 51)))
     have B1:Hid (Blk (wr.alloc (.cells #[.int .i64 m,.int .i64 q,.int .i64 z] 51)) wr.heap.size #[.int .i64 m,.int .i64 q,.int .i64 z] 51):=blk_new ..
     have hbs:w.heap.size + 1≤(wr.alloc (.cells #[.int .i64 m,.int .i64 q,.int .i64 z] 51)).heap.size:=Nat.succ_le_of_lt S1.out.ce.ub.b1.lt
     have hoc:out2.length≤1000000:=by omega
     go_wp2_with (at_builtin;refine appC rfl _ _ rfl (w.heap.size + 1) _ out2 rfl S1.out.ce.ow wr.heap.size ⟨(m:Int),(q:Int),z⟩ rfl B1.out hoc hbs ?_;intro v7 W7 own7 hg7;obtain ⟨-,oa7,oc7,rfl,-,-⟩:=ownsC own7)
     have S7:=Lib.hid (CK.grow HM.out.1 HM.out.2 S1.out own7 hg7)
     have I7:=Lib.hid (owns_kept2 I1.out S1.out.ce.ow (by decide) hg7)
     clear own7 hg7 S1 I1 B1 S IO c0
     have hlen:(out2 ++ [(⟨(m:Int),(q:Int),z⟩:Cal)]).length=out2.length + 1:=by simp
     go_roundw
     case rel=>exact ⟨k + 1,out2 ++ [(⟨(m:Int),(q:Int),z⟩:Cal)],oa7,oc7,by omega,by omega,(by first | rfl | simp),by go_num,HJN.out,S7.out,I7.out⟩
     case measure=>simp [intOf];omega
end Go.Proofs.YtkbmnfijeknenaaGreatDoor
