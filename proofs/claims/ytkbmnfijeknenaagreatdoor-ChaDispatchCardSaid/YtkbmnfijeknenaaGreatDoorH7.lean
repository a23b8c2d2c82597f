/-
  The program's targets of a call.
-/
import Derived.Test.YtkbmnfijeknenaaGreatDoorHB
import Derived.Test.YtkbmnfijeknenaaGreatDoorH0
import Derived.Test.YtkbmnfijeknenaaGreatDoorHX
import Derived.Test.YtkbmnfijeknenaaGreatDoorWF
namespace Go.Proofs.YtkbmnfijeknenaaGreatDoor
open Go.RowKit Go.Unit0 Go.AM

theorem undMIBk:Tryz.prog.underlying 95=some (.map 3 4):=undMIB
structure TG (u:Unt) (ha:Option Addr) (hc:Nat) (fa:Option Addr) (fc:Nat) (x:Ins) (ga:Option Addr) (gc gi gm:Nat) (F:Int→Option Value) (n:Nat) (w wr:World):Prop where
 ub:UB u ha hc fa fc w wr
 ib:Blk wr gi #[.int .i64 x.op,.int .i64 x.dst,.int .i64 x.a,.int .i64 x.b,.int .i64 x.n,.string x.cls,.string x.name,.slice ga x.args.length gc,.int .i64 x.goto,.int .i64 x.catch_] 57
 mp:MapF wr gm (Value.int .i64) F n
 gg:w.heap.size < gm
section
variable {u:Unt} {ha:Option Addr} {hc:Nat} {fa:Option Addr} {fc:Nat} {x:Ins} {ga:Option Addr} {gc gi gm:Nat} {F:Int→Option Value} {n:Nat} {w wr w':World}
theorem TG.below (k:TG u ha hc fa fc x ga gc gi gm F n w wr) (hb:Below wr.heap.size wr w'):TG u ha hc fa fc x ga gc gi gm F n w w':=⟨k.ub.below hb,k.ib.below hb,k.mp.below hb,k.gg⟩
theorem TG.put {F':Int→Option Value} {m:Nat} (h:ClssAt w ha u.h) (f:FncsAt w fa u.fs) (k:TG u ha hc fa fc x ga gc gi gm F n w wr) (hm:MapF w' gm (Value.int .i64) F' m) (hg:wr.grownBy w' (some gm)):TG u ha hc fa fc x ga gc gi gm F' m w w' :=
 ⟨k.ub.grow h f hg (fun q hq=>by cases hq;exact k.gg),k.ib.grown hg (blk_mapF k.ib k.mp),hm,k.gg⟩
end
theorem SetPost.from {S T:Int→Prop} {w w1:World} {e:Ending} {w':World} (k:SetPost S w1 e w') (hb:Below w.heap.size w w1) (hs:∀ x,S x ↔ T x):SetPost T w e w':=by
 obtain ⟨h1,L,a,c,rfl,hp,hm,ow⟩:=k
 exact ⟨hb.trans (h1.mono hb.size),L,a,c,rfl,hp,fun x=>(hm x).trans (hs x),owns_mono ow hb.size⟩
set_option maxRecDepth 100000 in
set_option maxHeartbeats 8000000 in
theorem chaTargets (u:Unt) (ha:Option Addr) (hc:Nat) (fa:Option Addr) (fc:Nat) (f i:Int) (w:World) (h:ClssAt w ha u.h) (hf:FncsAt w fa u.fs) (hb:BndU u) :
 Calls Tryz.prog 14 #[unV u ha hc fa fc,.int .i64 f,.int .i64 i] w (SetPost (trgS u f i) w):=by
 have S0:=Lib.hid (UB.start (hc:=hc) (fc:=fc) h hf)
 have HZ:Hid ((w.alloc (unC u ha hc fa fc)).heap.size=w.heap.size + 1):=by show _=_;simp
 have H0:=Lib.hid h
 have F0:=Lib.hid hf
 have HFN:Hid (∀ (y t:Str) (w1:World),FncsAt w1 fa u.fs→Calls Tryz.prog 49 #[unV u ha hc fa fc,.string y,.string t] w1 (Ret w1 (.int .i64 (fnI u.fs y t)))):=fun y t w1 h1=>irFind u ha hc fa fc y t w1 h1 (by have:=hb.l;omega)
 have HTG:Hid (∀ (y t:Str) (w1:World),ClssAt w1 ha u.h→Calls Tryz.prog 50 #[.agg #[.slice ha u.h.length hc],.string y,.string t] w1 (StrsSet (tgtNS u.h y t) u.h.length w1)):=fun y t w1 h1=>targetsP u.h y t ha hc w1 h1 hb.h.l hb.h.m
 have HFU:Hid (∀ (F:Int→Option Value) (g m:Nat) (w1:World),MapF w1 g (Value.int .i64) F m→m≤1000000→Calls Tryz.prog 51 #[.map (some g)] w1 (SetPost (fun x=>0≤x∧(F x).isSome=true) w1)):=fun F g m w1 h1 h2=>functionsP F g m w1 h1 h2
 have hul:=hb.h.l
 clear h hf hb
 unfold unV at *
 go_enter Tryz.func14,Tryz.ntmps14
 go_upto_region 1 with (fail)
 generalize w.alloc _=W at *
 obtain ⟨z0,z1,z2⟩:=S0.out.cells
 by_cases g1:f < 0
 case pos =>
  have HN:Hid (∀ x,¬ trgS u f i x):=trgS_out (fun j k hj hk e=>by have:=e.1;omega)
  have t1:=decide_eq_true g1
  clear g1
  go_wp2
  go_ret
  exact ⟨S0.out.hb,[],none,0,rfl,.nil,fun x=>⟨fun h=>(by cases h),fun k=>absurd k (HN.out x)⟩,World.ownsRow_nil _ _ _ _⟩
 have t1:=decide_eq_false g1
 by_cases g2:(u.fs.length:Int)≤f
 case pos =>
  have HN:Hid (∀ x,¬ trgS u f i x):=trgS_out (fun j k hj hk e=>by have:=e.1;omega)
  have t2:=decide_eq_true g2
  clear g1 g2
  go_wp2
  go_ret
  exact ⟨S0.out.hb,[],none,0,rfl,.nil,fun x=>⟨fun h=>(by cases h),fun k=>absurd k (HN.out x)⟩,World.ownsRow_nil _ _ _ _⟩
 have t2:=decide_eq_false g2
 obtain ⟨j,rfl⟩:∃ j:Nat,f=j:=⟨f.toNat,by omega⟩
 have hj:j < u.fs.length:=by omega
 by_cases g3:i < 0
 case pos =>
  have HN:Hid (∀ x,¬ trgS u (j:Int) i x):=trgS_out (fun j k hj hk e=>by have:=e.2;omega)
  have t3:=decide_eq_true g3
  clear g1 g2 g3
  go_wp2
  go_ret
  exact ⟨S0.out.hb,[],none,0,rfl,.nil,fun x=>⟨fun h=>(by cases h),fun k=>absurd k (HN.out x)⟩,World.ownsRow_nil _ _ _ _⟩
 have t3:=decide_eq_false g3
 obtain ⟨b,off,va,vc,ca,cc,he,-,-,-,-,-,-,m6,-,hcode⟩:=S0.out.f j hj
 subst he
 by_cases g4:(u.fs[j].code.length:Int)≤i
 case pos =>
  have HN:Hid (∀ x,¬ trgS u (j:Int) i x):=trgS_out (fun j' k hj' hk e=>by
   have e1:j=j':=by have:=e.1;omega
   subst e1
   have:=e.2
   omega)
  have t4:=decide_eq_true g4
  clear g1 g2 g3 g4 hcode
  generalize u.fs[j].code.length=cl at *
  go_wp2
  go_ret
  exact ⟨S0.out.hb,[],none,0,rfl,.nil,fun x=>⟨fun h=>(by cases h),fun k=>absurd k (HN.out x)⟩,World.ownsRow_nil _ _ _ _⟩
 have t4:=decide_eq_false g4
 obtain ⟨k,rfl⟩:∃ k:Nat,i=k:=⟨i.toNat,by omega⟩
 have hk:k < u.fs[j].code.length:=by omega
 clear g1 g2 g3 g4
 have HTA:=Lib.hid (trgS_at hj hk)
 obtain ⟨b2,off2,ga,gc,he,m0,m1,m2,m3,m4,m5,m6b,m7,m8,m9,-⟩:=hcode k hk
 subst he
 generalize u.fs[j].code[k]=x at *
 generalize u.fs[j].code.length=cl at *
 go_upto_region 4 with (refine wpList_makeF rfl 95 rfl undMIB (Value.int .i64) ?_;intro hmp)
 have hob:=one_below W (.map #[] 0)
 have S1:=Lib.hid (S0.out.below hob)
 have hgm:w.heap.size < W.heap.size:=by rw [HZ.out];omega
 replace m0:=cell_below hob m0
 replace m1:=cell_below hob m1
 replace m2:=cell_below hob m2
 replace m3:=cell_below hob m3
 replace m4:=cell_below hob m4
 replace m5:=cell_below hob m5
 replace m6b:=cell_below hob m6b
 replace m7:=cell_below hob m7
 replace m8:=cell_below hob m8
 replace m9:=cell_below hob m9
 replace m6:=cell_below hob m6
 have MP:=Lib.hid hmp
 clear hmp hob S0 z0 z1 z2 t1 t2 t3 t4
 generalize W.heap.size=gm at *
 generalize W.alloc (.map #[] 0)=W1 at *
 obtain ⟨z0,z1,z2⟩:=S1.out.cells
 have BZ:Hid (Blk (W1.alloc zInC) W1.heap.size _ 57):=blk_new ..
 go_upto_region 5 with (refine storeInstr rfl rfl _ _ rfl W1.heap.size x ga gc rfl rfl _ BZ.out rfl ?_)
 have hrow:=below_row (one_below W1 zInC) (Nat.le_refl W1.heap.size) #[.int .i64 x.op,.int .i64 x.dst,.int .i64 x.a,.int .i64 x.b,.int .i64 x.n,.string x.cls,.string x.name,.slice ga x.args.length gc,.int .i64 x.goto,.int .i64 x.catch_]
 have R0:Hid (TG u ha hc (some ⟨b,off,none⟩) fc x ga gc W1.heap.size gm (fun _=>none) 0 w _):=⟨S1.out.below hrow,BZ.out.setRow _,MP.out.below hrow,hgm⟩
 clear S1 BZ MP hrow m0 m1 m2 m3 m4 m5 m6 m6b m7 m8 m9 z0 z1 z2
 generalize (W1.alloc zInC).setRow W1.heap.size _=W2 at *
 generalize W1.heap.size=gi at *
 have y0:=R0.out.ib.cell 0 (by simp)
 have y5:=R0.out.ib.cell 5 (by simp)
 have y6:=R0.out.ib.cell 6 (by simp)
 simp only [List.getElem_toArray,List.getElem_cons_zero,List.getElem_cons_succ] at y0 y5 y6
 obtain ⟨z0,z1,z2⟩:=R0.out.ub.cells
 cases h10:(x.op == 10)
 case true =>
  have HS:Hid (∀ z,(0≤z∧((fun k'=>if k' = fnI u.fs x.cls x.name then some (Value.bool true) else (fun _=>none) k') z).isSome=true) ↔ trgS u (j:Int) (k:Int) z):=fun z=>by
   rw [HTA.out]
   unfold callS
   have e10:x.op=10:=by simpa using h10
   rw [e10]
   by_cases e:z=fnI u.fs x.cls x.name <;> simp [e]
  clear HTA
  go_wp2_with (first | (go_at_call 49;refine (HFN.out _ _ _ R0.out.ub.f).mono ?_;rintro e w3 ⟨rfl,hb3⟩;have R3:=R0.out.below hb3) | (at_mapUpdate;refine wpList_mapF rfl _ _ _ _ rfl keyInt undMIB gm rfl R3.mp _ rfl (.bool true) rfl ?_;intro w4 hm4 hg4 hs4))
  have R4:=Lib.hid (TG.put H0.out F0.out R3 hm4 hg4)
  clear R3 hm4 hg4 hs4 hb3 R0 y0 y5 y6 z0 z1 z2
  refine (HFU.out _ gm _ _ R4.out.mp (by omega)).mono ?_
  rintro e w5 hr
  obtain ⟨hb5,L,la,lc,rfl,hp,hm,ow⟩:=SetPost.from hr R4.out.ub.hb HS.out
  have HB5:=Lib.hid hb5
  have HP5:=Lib.hid hp
  have HM5:=Lib.hid hm
  have OW5:=Lib.hid ow
  clear hr hb5 hp hm ow R4
  go_wp2
  go_ret
  exact ⟨HB5.out,L,la,lc,rfl,HP5.out,HM5.out,OW5.out⟩
 case false =>
  cases h9:(x.op == 9)
  case false =>
   have HS:Hid (∀ z,(0≤z∧((fun _:Int=>(none:Option Value)) z).isSome=true) ↔ trgS u (j:Int) (k:Int) z):=fun z=>by
    rw [HTA.out]
    unfold callS
    have e10:x.op ≠ 10:=by simpa using h10
    have e9:x.op ≠ 9:=by simpa using h9
    simp [e10,e9]
   clear HTA
   go_wp2_with fail
   refine (HFU.out _ gm _ _ R0.out.mp (by omega)).mono ?_
   rintro e w5 hr
   obtain ⟨hb5,L,la,lc,rfl,hp,hm,ow⟩:=SetPost.from hr R0.out.ub.hb HS.out
   have HB5:=Lib.hid hb5
   have HP5:=Lib.hid hp
   have HM5:=Lib.hid hm
   have OW5:=Lib.hid ow
   clear hr hb5 hp hm ow R0
   go_wp2
   go_ret
   exact ⟨HB5.out,L,la,lc,rfl,HP5.out,HM5.out,OW5.out⟩
  case true =>
   have HS:Hid (∀ z,trgS u (j:Int) (k:Int) z ↔ 0≤z∧∃ y,tgtNS u.h x.cls x.name y∧z=fnI u.fs y x.name):=fun z=>by
    rw [HTA.out]
    unfold callS
    have e9:x.op=9:=by simpa using h9
    rw [e9]
    simp
   clear HTA
   go_wp2_with fail
   refine (HTG.out _ _ _ R0.out.ub.h).mono ?_
   rintro e w3 ⟨hb3,l,la,lc,rfl,hll,hlc,hmem,hat⟩
   have R3:=Lib.hid (R0.out.below hb3)
   have HL:=Lib.hid hat
   have HME:=Lib.hid hmem
   clear hb3 hat hmem hlc R0 y0 y5 y6 z0 z1 z2 HTG
   go_wp2
   go_loopw [66] (fun i wr=>∃ (q:Nat) (F:Int→Option Value),q≤l.length∧i = .int .i64 q∧Hid (∀ z,(F z).isSome=true ↔ ∃ y ∈ l.take q,z=fnI u.fs y x.name)∧Hid (StrsAt wr la l)∧Hid (TG u ha hc (some ⟨b,off,none⟩) fc x ga gc gi gm F q w wr)) (fun i _=>l.length - (intOf i).toNat)
   case atStart=>exact ⟨0,_,Nat.zero_le _,rfl,(fun z=>by simp),HL.out,R3.out⟩
   case round =>
    clear R3 HL
    obtain ⟨q,F,hq,rfl,HI,HL,R⟩:=hrel
    by_cases hlt:q < l.length
    case neg =>
     have HS2:Hid (∀ z,(0≤z∧(F z).isSome=true) ↔ trgS u (j:Int) (k:Int) z):=fun z=>by
      rw [HS.out,HI.out,List.take_of_length_le (by omega)]
      constructor
      ·rintro ⟨h0,y,hy,e⟩;exact ⟨h0,y,(HME.out y).1 hy,e⟩
      ·rintro ⟨h0,y,hy,e⟩;exact ⟨h0,y,(HME.out y).2 hy,e⟩
     go_wp2_with fail
     refine (HFU.out _ gm _ _ R.out.mp (by omega)).mono ?_
     rintro e w5 hr
     obtain ⟨hb5,L,la,lc,rfl,hp,hm,ow⟩:=SetPost.from hr R.out.ub.hb HS2.out
     have HB5:=Lib.hid hb5
     have HP5:=Lib.hid hp
     have HM5:=Lib.hid hm
     have OW5:=Lib.hid ow
     clear hr hb5 hp hm ow R HI HS HS2
     go_wp2
     go_ret
     exact ⟨HB5.out,L,la,lc,rfl,HP5.out,HM5.out,OW5.out⟩
    have HLC:=Lib.hid HL.out
    obtain ⟨b3,o3,he,c0⟩:=HL.out q hlt
    subst he
    have HTK:Hid (l.take (q + 1)=l.take q ++ [l[q]]):=List.take_succ_eq_append_getElem hlt
    have HF:=Lib.hid (HFN.out l[q] x.name)
    generalize l[q]=nm at *
    obtain ⟨z0,z1,z2⟩:=R.out.ub.cells
    have y6:=R.out.ib.cell 6 (by simp)
    simp only [List.getElem_toArray,List.getElem_cons_zero,List.getElem_cons_succ] at y6
    have HI2:Hid (∀ z,((fun k'=>if k' = fnI u.fs nm x.name then some (Value.bool true) else F k') z).isSome=true ↔ ∃ y ∈ l.take (q + 1),z=fnI u.fs y x.name):=fun z=>by
     rw [HTK.out]
     simp only [List.mem_append,List.mem_singleton]
     by_cases e:z=fnI u.fs nm x.name
     ·rw [if_pos e]
      exact ⟨fun _=>⟨nm,.inr rfl,e⟩,fun _=>rfl⟩
     ·rw [if_neg e,HI.out]
      constructor
      ·rintro ⟨y,hy,ey⟩;exact ⟨y,.inl hy,ey⟩
      ·rintro ⟨y,hy | hy,ey⟩
       ·exact ⟨y,hy,ey⟩
       ·rw [hy] at ey;exact absurd ey e
    clear HI HTK HL
    go_wp2_with (first | (go_at_call 49;refine (HF.out _ R.out.ub.f).mono ?_;rintro e w3 ⟨rfl,hb3⟩;have R3:=R.out.below hb3) | (at_mapUpdate;refine wpList_mapF rfl _ _ _ _ rfl keyInt undMIB gm rfl R3.mp _ rfl (.bool true) rfl ?_;intro w4 hm4 hg4 hs4))
    have R4:=Lib.hid (TG.put H0.out F0.out R3 hm4 hg4)
    have HL4:Hid (StrsAt w4 (some ⟨b3,o3,none⟩) l):=by
     have h3:=HLC.out.below hb3
     intro q hq
     obtain ⟨b',o',he,hc⟩:=h3 q hq
     exact ⟨b',o',he,hg4.cell hc (cell_mapF hc R3.mp)⟩
    clear R3 hm4 hg4 hs4 hb3 R
    go_roundw
    case rel=>exact ⟨q + 1,_,by omega,by go_num,HI2.out,HL4.out,R4.out⟩
    case measure=>simp [intOf];omega
end Go.Proofs.YtkbmnfijeknenaaGreatDoor
