/-
  The law ChaDispatch returns true.
-/
import Derived.Test.YtkbmnfijeknenaaGreatDoorH7
import Derived.Test.YtkbmnfijeknenaaGreatDoorRA
import Derived.Test.YtkbmnfijeknenaaGreatDoorZ1
import Derived.Test.YtkbmnfijeknenaaGreatDoorGw
import Derived.Test.YtkbmnfijeknenaaGreatDoorHs
import Derived.Test.YtkbmnfijeknenaaGreatDoorWF
import Derived.Test.YtkbmnfijeknenaaGreatDoorLiv20
namespace Go.Proofs.YtkbmnfijeknenaaGreatDoor
open Go.RowKit Go.Unit0 Go.AM

abbrev blsF (n:Nat) (F:Nat→Bool):Array Value:=((List.range n).map (fun i=>Value.bool (F i))).toArray
theorem blsF_set (n:Nat) (F:Nat→Bool) (k:Nat) (v:Bool):(blsF n F).setIfInBounds k (.bool v)=blsF n (fun i=>if i=k then v else F i):=by
 apply Array.ext
 ·simp
 ·intro i h1 h2
  have hi:i < n:=by simpa using h2
  rw [Array.getElem_setIfInBounds (by simpa using hi)]
  by_cases e:k=i
  ·subst e;simp
  ·rw [if_neg e];simp [Ne.symm e]
theorem blsF_made (n:Nat):(List.replicate n (Value.bool false)).toArray=blsF n (fun _=>false):=by
 congr 1
 apply List.ext_getElem <;> simp
theorem blsF_cell {w:World} {g n:Nat} {F:Nat→Bool} {t:TypeId} (h:Blk w g (blsF n F) t) {k:Nat} (hk:k < n):w.cell? ⟨g,k,none⟩=some (.bool (F k)):=by
 have:=h.cell k (by simpa using hk)
 rw [this]
 simp
theorem infoBD:(Tryz.prog.info? 4).map (fun i=>(i.zero,i.size,i.bytes))=some (some (.bool false),1,1):=by kernel_rfl
theorem step_in {n:Nat} {A E:Nat→Prop} {F:Nat→Bool} {m:Nat} {v:Bool} (hF:∀ p,p < n→(F p=true ↔ A p ∨ (p < m∧E p))) (hm:m < n) (hv:v=true ↔ F m=true ∨ E m) (p:Nat) (hp:p < n):(if p=m then v else F p)=true ↔ A p ∨ (p < m + 1∧E p):=by
 by_cases e:p=m
 ·subst e
  rw [if_pos rfl,hv,hF p hm]
  constructor
  ·rintro ((h | h) | h)
   ·exact .inl h
   ·exact absurd h.1 (by omega)
   ·exact .inr ⟨by omega,h⟩
  ·rintro (h | h)
   ·exact .inl (.inl h)
   ·exact .inr h.2
 ·rw [if_neg e,hF p hp]
  constructor
  ·rintro (h | h)
   ·exact .inl h
   ·exact .inr ⟨by omega,h.2⟩
  ·rintro (h | h)
   ·exact .inl h
   ·exact .inr ⟨by omega,h.2⟩
theorem step_out {L:List Int} {SS:List Str} {D:Str→Int} {q:Nat} (hq:q < SS.length) (p:Nat):(∃ s ∈ SS.take (q + 1),L[p]? = some (D s)) ↔ (∃ s ∈ SS.take q,L[p]? = some (D s)) ∨ L[p]? = some (D SS[q]):=by
 rw [List.take_succ_eq_append_getElem hq]
 constructor
 ·rintro ⟨s,hs,e⟩
  rcases List.mem_append.1 hs with hs | hs
  ·exact .inl ⟨s,hs,e⟩
  ·rw [List.mem_singleton] at hs;subst hs;exact .inr e
 ·rintro (⟨s,hs,e⟩ | e)
  ·exact ⟨s,List.mem_append_left _ hs,e⟩
  ·exact ⟨_,List.mem_append_right _ (by simp),e⟩
structure DI (u:Unt) (ha:Option Addr) (hc:Nat) (fa:Option Addr) (fc:Nat) (W3:World) (B:Nat) (SS:List Str) (sa:Option Addr) (sc:Nat) (x:Ins) (ga:Option Addr) (gc gi gm n:Nat) (F:Nat→Bool) (w wr:World):Prop where
 ub:UB u ha hc fa fc w wr
 h3:Below W3.heap.size W3 wr
 s:wr.ownsRow B 9 1 (.slice sa SS.length sc) SS.length (SS.map Value.string)
 i:Blk wr gi #[.int .i64 x.op,.int .i64 x.dst,.int .i64 x.a,.int .i64 x.b,.int .i64 x.n,.string x.cls,.string x.name,.slice ga x.args.length gc,.int .i64 x.goto,.int .i64 x.catch_] 57
 b:Blk wr gm (blsF n F) 4
section
variable {u:Unt} {ha:Option Addr} {hc:Nat} {fa:Option Addr} {fc:Nat} {W3:World} {B:Nat} {SS:List Str} {sa:Option Addr} {sc:Nat} {x:Ins} {ga:Option Addr} {gc gi gm n:Nat} {F:Nat→Bool} {w wr w':World}
theorem DI.below (k:DI u ha hc fa fc W3 B SS sa sc x ga gc gi gm n F w wr) (hb:Below wr.heap.size wr w'):DI u ha hc fa fc W3 B SS sa sc x ga gc gi gm n F w w' :=
 ⟨k.ub.below hb,k.h3.trans (hb.mono k.h3.size),owns_below k.s hb,k.i.below hb,k.b.below hb⟩
theorem DI.set (h:ClssAt w ha u.h) (f:FncsAt w fa u.fs) (h3:W3.heap.size≤gm) (hw:w.heap.size < gm) (hB:gm < B) (hi:gi ≠ gm) (k:DI u ha hc fa fc W3 B SS sa sc x ga gc gi gm n F w wr) (m:Nat) (v:Bool):DI u ha hc fa fc W3 B SS sa sc x ga gc gi gm n (fun i=>if i=m then v else F i) w (wr.setCell ⟨gm,m,none⟩ (.bool v)) :=
 ⟨k.ub.grow h f (grown_set wr gm m _) (fun q hq=>by cases hq;exact hw),k.h3.setCell h3 _,ownsRow_setCell_other k.s (fun e=>by have:=(k.s.lt gm e).1;omega) _,k.i.other (Ne.symm hi) _ _,by have:=k.b.set m (.bool v);rw [blsF_set] at this;exact this⟩
end
set_option maxRecDepth 100000 in
set_option maxHeartbeats 8000000 in
theorem dispatch20 (u:Unt) (ha:Option Addr) (hc:Nat) (fa:Option Addr) (fc:Nat) (f i:Int) (w:World) (hA:AW w) (h:ClssAt w ha u.h) (hf:FncsAt w fa u.fs) :
 Calls Tryz.prog 7 #[unV u ha hc fa fc,.int .i64 f,.int .i64 i] w (Ret w (.bool true)):=by
 have S0:=Lib.hid (UB.start (hc:=hc) (fc:=fc) h hf)
 have AW0:=Lib.hid hA
 have H0:=Lib.hid h
 have F0:=Lib.hid hf
 have HZ:Hid ((w.alloc (unC u ha hc fa fc)).heap.size=w.heap.size + 1):=by show _=_;simp
 have HSM:Hid (∀ w1,ClssAt w1 ha u.h→FncsAt w1 fa u.fs→Calls Tryz.prog 11 #[unV u ha hc fa fc,.int .i64 150] w1 (BPost (fun b=>b=true→FitOk u 150∧UnitOk u) w1)):=fun w1 h1 h2=>small11 u ha hc fa fc 150 w1 h1 h2 (by omega)
 have HT1:Hid (FitOk u 150→∀ w1,ClssAt w1 ha u.h→FncsAt w1 fa u.fs→Calls Tryz.prog 14 #[unV u ha hc fa fc,.int .i64 f,.int .i64 i] w1 (SetPost (trgS u f i) w1)):=fun k w1 h1 h2=>chaTargets u ha hc fa fc f i w1 h1 h2 (fitOk_bnd k (by omega))
 have HSB:Hid (FitOk u 150→∀ (s:Str) w1,ClssAt w1 ha u.h→Calls Tryz.prog 27 #[.agg #[.slice ha u.h.length hc],.string s] w1 (StrsOwn (subNS u.h s) u.h.length w1)):=fun k s w1 h1=>subsP u.h s ha hc w1 h1 (fitOk_bnd k (by omega)).h.l
 have HDP:Hid (FitOk u 150→∀ (s t:Str) w1,ClssAt w1 ha u.h→FncsAt w1 fa u.fs→Calls Tryz.prog 28 #[unV u ha hc fa fc,.string s,.string t] w1 (Ret w1 (.int .i64 (dspP u.h u.fs s t)))):=fun k s t w1 h1 h2=>dispatchP u ha hc fa fc s t w1 h1 h2 (fitOk_bnd k (by omega))
 have HBN:Hid (FitOk u 150→u.h.length≤100000∧u.fs.length≤20):=fun k=>⟨(fitOk_bnd k (by omega)).h.l,k.nf⟩
 clear hA h hf
 unfold unV at *
 go_enter Tryz.func7,Tryz.ntmps7
 go_upto_region 1 with (fail)
 generalize w.alloc _=W at *
 obtain ⟨z0,z1,z2⟩:=S0.out.cells
 go_wp2_with fail
 refine (HSM.out _ S0.out.h S0.out.f).mono ?_
 rintro e w1 ⟨hb',d,rfl,hr⟩
 have S:=Lib.hid (S0.out.below hb')
 have HR:=Lib.hid hr
 have hws:w.heap.size < w1.heap.size:=by have:=hb'.size;have:=HZ.out;omega
 clear S0 hb' z0 z1 z2 hr HSM HZ
 generalize w1=W at *
 cases d
 case false =>
  go_wp2_with fail
  refine (awake20 _ (AW0.out.below S.out.hb)).mono ?_
  rintro e w2 ⟨rfl,hb'⟩
  have S1:=Lib.hid (S.out.below hb')
  clear S hb'
  go_wp2
  go_ret
  exact ⟨rfl,S1.out.hb⟩
 replace HT1:=Lib.hid (HT1.out (HR.out rfl).1)
 replace HSB:=Lib.hid (HSB.out (HR.out rfl).1)
 replace HDP:=Lib.hid (HDP.out (HR.out rfl).1)
 replace HBN:=Lib.hid (HBN.out (HR.out rfl).1)
 have HUO:=Lib.hid (HR.out rfl).2
 clear HR
 go_wp2_with fail
 refine (awake20 _ (AW0.out.below S.out.hb)).mono ?_
 rintro e w2 ⟨rfl,hb'⟩
 have S1:=Lib.hid (S.out.below hb')
 have hws2:w.heap.size < w2.heap.size:=by have:=hb'.size;omega
 clear S hb' hws AW0
 generalize w2=W at *
 obtain ⟨z0,z1,z2⟩:=S1.out.cells
 go_wp2_with fail
 refine (HT1.out _ S1.out.h S1.out.f).mono ?_
 rintro e W3 ⟨hb3,L,la,lc,rfl,hp,hm,ow⟩
 have S3:=Lib.hid (S1.out.below hb3)
 have I3:=Lib.hid (owns_ints' ow).2
 have HP:=Lib.hid hp
 have HM:=Lib.hid hm
 have hw3:w.heap.size < W3.heap.size:=by have:=hb3.size;omega
 have hll:L.length≤1000000:=by
  have h1:=asc_len hp (fun x hx=>trgS_lt ((hm x).1 hx))
  have h2:=HBN.out.2
  omega
 clear S1 hb3 hp hm ow hws2 z0 z1 z2 HT1
 obtain ⟨z0,z1,z2⟩:=S3.out.cells
 by_cases g1:f < 0
 case pos =>
  obtain rfl:L = []:=trg_other (fun j k hj hk e1 e2=>absurd g1 (by omega)) HM.out
  have t1:=decide_eq_true g1
  have s1:decide (0≤f)=false:=by simp;omega
  clear g1
  go_wp2
  go_ret
  exact ⟨rfl,S3.out.hb⟩
 have t1:=decide_eq_false g1
 have s1:decide (0≤f)=true:=by simp;omega
 by_cases g2:(u.fs.length:Int)≤f
 case pos =>
  obtain rfl:L = []:=trg_other (fun j k hj hk e1 e2=>absurd g2 (by omega)) HM.out
  have t2:=decide_eq_true g2
  have s2:decide (f < (u.fs.length:Int))=false:=by simp;omega
  clear g1 g2
  go_wp2
  go_ret
  exact ⟨rfl,S3.out.hb⟩
 have t2:=decide_eq_false g2
 have s2:decide (f < (u.fs.length:Int))=true:=by simp;omega
 obtain ⟨j,rfl⟩:∃ j:Nat,f=j:=⟨f.toNat,by omega⟩
 have hj:j < u.fs.length:=by omega
 by_cases g3:i < 0
 case pos =>
  obtain rfl:L = []:=trg_other (fun j k hj hk e1 e2=>absurd g3 (by omega)) HM.out
  have t3:=decide_eq_true g3
  have s3:decide (0≤i)=false:=by simp;omega
  clear g1 g2 g3
  go_wp2
  go_ret
  exact ⟨rfl,S3.out.hb⟩
 have t3:=decide_eq_false g3
 have s3:decide (0≤i)=true:=by simp;omega
 obtain ⟨b,off,va,vc,ca,cc,he,-,-,-,-,-,-,m6,-,hcode⟩:=S3.out.f j hj
 subst he
 by_cases g4:(u.fs[j].code.length:Int)≤i
 case pos =>
  obtain rfl:L = []:=trg_other (fun j' k hj' hk e1 e2=>by
   have e1:j=j':=by omega
   subst e1
   exact absurd g4 (by omega)) HM.out
  have t4:=decide_eq_true g4
  have s4:decide (i < (u.fs[j].code.length:Int))=false:=by simp;omega
  clear g1 g2 g3 g4 hcode
  generalize u.fs[j].code.length=cl at *
  go_wp2
  go_ret
  exact ⟨rfl,S3.out.hb⟩
 have t4:=decide_eq_false g4
 have s4:decide (i < (u.fs[j].code.length:Int))=true:=by simp;omega
 obtain ⟨k,rfl⟩:∃ k:Nat,i=k:=⟨i.toNat,by omega⟩
 have hk:k < u.fs[j].code.length:=by omega
 clear g1 g2 g3 g4
 obtain ⟨b2,off2,ga,gc,he,m0,m1,m2,m3,m4,m5,m6b,m7,m8,m9,-⟩:=hcode k hk
 subst he
 cases h9:(u.fs[j].code[k].op == 9)
 case false =>
  have n9:u.fs[j].code[k].op ≠ 9:=by simpa using h9
  have t5:(u.fs[j].code[k].op != 9)=true:=by simpa using n9
  clear m1 m2 m3 m4 m5 m6b m7 m8 m9
  by_cases h10:u.fs[j].code[k].op=10
  ·have hl1:=trg_static HUO.out hj hk h10 HP.out HM.out
   have t6:(u.fs[j].code[k].op == 10)=true:=by simp [h10]
   have t7:((L.length:Int) == 1)=true:=by simp [hl1]
   clear h9 n9 h10 hl1 hcode
   generalize u.fs[j].code[k].op=op at *
   generalize u.fs[j].code.length=cl at *
   go_wp2
   go_ret
   exact ⟨rfl,S3.out.hb⟩
  ·obtain rfl:L = []:=trg_other (fun j' k' hj' hk' e1 e2=>by
    have e1:j=j':=by omega
    subst e1
    have e2:k=k':=by omega
    subst e2
    exact ⟨n9,h10⟩) HM.out
   have t6:(u.fs[j].code[k].op == 10)=false:=by simp [h10]
   clear h9 n9 h10 hcode
   generalize u.fs[j].code[k].op=op at *
   generalize u.fs[j].code.length=cl at *
   go_wp2
   go_ret
   exact ⟨rfl,S3.out.hb⟩
 have e9:u.fs[j].code[k].op=9:=by simpa using h9
 have t5:(u.fs[j].code[k].op != 9)=false:=by simp [e9]
 have HD1:Hid (∀ s,subNS u.h u.fs[j].code[k].cls s→dspP u.h u.fs s u.fs[j].code[k].name ∈ L):=fun s hs=>(HM.out _).2 (dsp_trg HUO.out hj hk e9 hs)
 have HD2:Hid (∀ y ∈ L,∃ s,subNS u.h u.fs[j].code[k].cls s∧dspP u.h u.fs s u.fs[j].code[k].name=y):=fun y hy=>trg_dsp HUO.out hj hk e9 ((HM.out y).1 hy)
 clear e9 h9 hcode HUO HM HP
 generalize u.fs[j].code[k]=x at *
 generalize u.fs[j].code.length=cl at *
 go_upto_region 6 with (fail)
 have BZ:Hid (Blk (W3.alloc zInC) W3.heap.size _ 57):=blk_new ..
 have hrow:=below_row (one_below W3 zInC) (Nat.le_refl W3.heap.size) #[.int .i64 x.op,.int .i64 x.dst,.int .i64 x.a,.int .i64 x.b,.int .i64 x.n,.string x.cls,.string x.name,.slice ga x.args.length gc,.int .i64 x.goto,.int .i64 x.catch_]
 have S4:=Lib.hid (S3.out.below hrow)
 have B4:=Lib.hid (BZ.out.setRow #[.int .i64 x.op,.int .i64 x.dst,.int .i64 x.a,.int .i64 x.b,.int .i64 x.n,.string x.cls,.string x.name,.slice ga x.args.length gc,.int .i64 x.goto,.int .i64 x.catch_])
 have HR4:=Lib.hid hrow
 have HS4:Hid (((W3.alloc zInC).setRow W3.heap.size #[.int .i64 x.op,.int .i64 x.dst,.int .i64 x.a,.int .i64 x.b,.int .i64 x.n,.string x.cls,.string x.name,.slice ga x.args.length gc,.int .i64 x.goto,.int .i64 x.catch_]).heap.size=W3.heap.size + 1):=by show _=_;simp
 clear hrow
 go_upto_region 7 with (refine storeInstr rfl rfl _ _ rfl W3.heap.size x ga gc rfl rfl _ BZ.out rfl ?_)
 clear S3 BZ m0 m1 m2 m3 m4 m5 m6 m6b m7 m8 m9 z0 z1 z2 t1 t2 t3 t4 t5 s1 s2 s3 s4
 generalize (W3.alloc zInC).setRow W3.heap.size _=W4 at *
 obtain ⟨i0,hi,hz0,hz1,hz2⟩:=info_parts infoBD
 go_upto_region 8 with (refine wpList_make_full W4 rfl _ _ 58 rfl 0 4 i0 (.bool false) 1 Tryz.underlying58 hi hz0 hz1 .i64 .i64 L.length L.length L.length rfl rfl rfl rfl (by rw [hz2];omega) (by unfold maxLen;omega) (Nat.zero_le _) ?_;intro W5 own0 hg0)
 have HB5:Hid (Below W4.heap.size W4 W5):=(Below.refl _ _).grown hg0 (Nat.le_refl _) (fun q hq=>by cases hq)
 have S5:=Lib.hid (S4.out.below HB5.out)
 have B5:=Lib.hid (B4.out.below HB5.out)
 have BK5:Hid (Blk W5 W4.heap.size (blsF L.length (fun _=>false)) 4):=by
  have:=blk_of_full own0
  rw [Nat.mul_one,show (Value.bool false).cells = #[.bool false] from rfl,made_one,blsF_made] at this
  exact this
 have hgB:W4.heap.size < W5.heap.size:=(own0.lt W4.heap.size rfl).2
 have HR5:Hid (Below W3.heap.size W3 W5):=HR4.out.trans (HB5.out.mono HR4.out.size)
 have h3:W3.heap.size≤W4.heap.size:=HR4.out.size
 have hwg:w.heap.size < W4.heap.size:=by omega
 have hig:W3.heap.size ≠ W4.heap.size:=by have:=HS4.out;omega
 clear own0 hg0 S4 B4 HB5 HR4 HS4 hi hz0 hz1 hz2
 generalize W4.heap.size=gm at *
 have y5:=B5.out.cell 5 (by simp)
 simp only [List.getElem_toArray,List.getElem_cons_zero,List.getElem_cons_succ] at y5
 obtain ⟨z0,z1,z2⟩:=S5.out.cells
 go_wp2_with fail
 refine (HSB.out x.cls _ S5.out.h).mono ?_
 rintro e W6 ⟨hb6,SS,sa,sc,rfl,hsl,hsm,ow⟩
 have R0:Hid (DI u ha hc (some ⟨b,off,none⟩) fc W3 W5.heap.size SS sa sc x ga gc W3.heap.size gm L.length (fun _=>false) w W6) :=
  ⟨S5.out.below hb6,HR5.out.trans (hb6.mono HR5.out.size),ow,B5.out.below hb6,BK5.out.below hb6⟩
 obtain ⟨D,hD⟩:∃ D:Str→Int,∀ s,dspP u.h u.fs s x.name=D s:=⟨_,fun _=>rfl⟩
 have HE1:Hid (∀ s ∈ SS,D s ∈ L):=fun s hs=>by rw [← hD];exact HD1.out s ((hsm s).1 hs)
 have HE2:Hid (∀ p,p < L.length→∃ s ∈ SS,L[p]? = some (D s)):=fun p hp=>by
  obtain ⟨s,h1,h2⟩:=HD2.out _ (List.getElem_mem hp)
  exact ⟨s,(hsm s).2 h1,by rw [← hD,h2,List.getElem?_eq_getElem hp]⟩
 have HDX:Hid (∀ (s:Str) (w1:World),ClssAt w1 ha u.h→FncsAt w1 (some ⟨b,off,none⟩) u.fs→Calls Tryz.prog 28 #[.agg #[.slice ha u.h.length hc,.slice (some ⟨b,off,none⟩) u.fs.length fc,.int .i64 u.main],.string s,.string x.name] w1 (Ret w1 (.int .i64 (D s)))):=fun s w1 h1 h2=>by rw [← hD];exact HDP.out s x.name w1 h1 h2
 have hul:=HBN.out.1
 clear S5 B5 BK5 HR5 hb6 hsm ow y5 z0 z1 z2 HSB HBN HD1 HD2 HDP hD
 generalize W5.heap.size=B at *
 have hsl2:SS.length≤100000:=by omega
 go_wp2
 go_loopw [130] (fun i wr=>∃ (q:Nat) (F:Nat→Bool),q≤SS.length∧i = .int .i64 q∧Hid (DI u ha hc (some ⟨b,off,none⟩) fc W3 B SS sa sc x ga gc W3.heap.size gm L.length F w wr)∧Hid (∀ p,p < L.length→(F p=true ↔ ∃ s ∈ SS.take q,L[p]? = some (D s)))) (fun i _=>SS.length - (intOf i).toNat)
 case atStart=>exact ⟨0,fun _=>false,Nat.zero_le _,rfl,R0.out,fun p _=>⟨fun e=>(by cases e),fun ⟨s,hs,_⟩=>(by simp at hs)⟩⟩
 case round =>
  clear R0
  obtain ⟨q,F,hq,rfl,R,HF⟩:=hrel
  by_cases hlt:q < SS.length
  case pos =>
   obtain ⟨b1,o1,he,p1⟩:=(owns_strs' R.out.s).2 q hlt
   subst he
   have HG:=Lib.hid (HE1.out _ (List.getElem_mem hlt))
   have HST:Hid (∀ p,(∃ s ∈ SS.take (q + 1),L[p]? = some (D s)) ↔ (∃ s ∈ SS.take q,L[p]? = some (D s)) ∨ L[p]? = some (D SS[q])):=step_out hlt
   have HDQ:Hid (∀ o:WB wr,Calls Tryz.prog 28 #[.agg #[.slice ha u.h.length hc,.slice (some ⟨b,off,none⟩) u.fs.length fc,.int .i64 u.main],.string SS[q],.string x.name] o.u (Ret o.u (.int .i64 (D SS[q])))):=fun o=>HDX.out _ _ (R.out.below o.h).ub.h (R.out.below o.h).ub.f
   generalize D SS[q]=g at HG HST HDQ
   generalize SS[q]=sq at p1 HDQ
   have y6:=R.out.i.cell 6 (by simp)
   simp only [List.getElem_toArray,List.getElem_cons_zero,List.getElem_cons_succ] at y6
   have hne:Nonempty (WB wr):=⟨⟨wr,Below.refl _ _⟩⟩
   have k0:∀ o:WB wr,o.u.cell? ⟨w.heap.size,0,none⟩=some (.slice ha u.h.length hc):=fun o=>(R.out.below o.h).ub.cells.1
   have k1:∀ o:WB wr,o.u.cell? ⟨w.heap.size,1,none⟩=some (.slice (some ⟨b,off,none⟩) u.fs.length fc):=fun o=>(R.out.below o.h).ub.cells.2.1
   have k2:∀ o:WB wr,o.u.cell? ⟨w.heap.size,2,none⟩=some (.int .i64 u.main):=fun o=>(R.out.below o.h).ub.cells.2.2
   have k3:∀ o:WB wr,o.u.cell? ⟨b1,o1 + q,none⟩=some (.string sq):=fun o=>cell_below o.h p1
   have k4:∀ o:WB wr,o.u.cell? ⟨W3.heap.size,6,none⟩=some (.string x.name):=fun o=>cell_below o.h y6
   clear p1 y6
   go_upto_region 12 with (fail)
   refine wp_region_WB wr (by kernel_rfl) ?_
   repeat (go_big_quiet_step ((rename_i o;exact (HDQ.out o).mono (fun _ _ h=>Ret.inB h))))
   refine wpQuiet_nil ?_
   intro _ hw'
   obtain ⟨o,rfl⟩:=hw'
   have R3:=Lib.hid (R.out.below o.h)
   clear k0 k1 k2 k3 k4 R HDQ
   generalize o.u=w7 at *
   go_wp2_with fail
   refine (hasT20 L g la lc _ (I3.out.below R3.out.h3) HG.out hll).mono ?_
   rintro e w8 ⟨rfl,rfl⟩
   go_wp2
   go_loopw [147] (fun i wr=>∃ (m:Nat) (F:Nat→Bool),m≤L.length∧i = .int .i64 m∧Hid (DI u ha hc (some ⟨b,off,none⟩) fc W3 B SS (some ⟨b1,o1,none⟩) sc x ga gc W3.heap.size gm L.length F w wr)∧Hid (∀ p,p < L.length→(F p=true ↔ (∃ s ∈ SS.take q,L[p]? = some (D s)) ∨ (p < m∧L[p]? = some g)))) (fun i _=>L.length - (intOf i).toNat)
   case atStart=>exact ⟨0,F,Nat.zero_le _,rfl,R3.out,fun p hp=>(HF.out p hp).trans ⟨.inl,fun h=>h.elim id (fun h=>absurd h.1 (by omega))⟩⟩
   case round =>
    clear R3 HF
    obtain ⟨m,F,hm,rfl,R,HF⟩:=hrel
    by_cases hlm:m < L.length
    case neg =>
     have HF2:Hid (∀ p,p < L.length→(F p=true ↔ ∃ s ∈ SS.take (q + 1),L[p]? = some (D s))):=fun p hp=>by
      rw [HST.out,HF.out p hp]
      exact ⟨fun h=>h.imp id (fun h=>h.2),fun h=>h.imp id (fun h=>⟨by omega,h⟩)⟩
     go_wp2
     go_roundw
     case rel=>exact ⟨q + 1,F,by omega,by go_num,R.out,HF2.out⟩
     case measure=>simp [intOf];omega
    case pos =>
     obtain ⟨b2,o2,he,c0⟩:=(I3.out.below R.out.h3) m hlm
     subst he
     have m7:=blsF_cell R.out.b hlm
     have f7:=R.out.b.free m
     have HSP:Hid (∀ v:Bool,(v=true ↔ F m=true ∨ L[m]=g)→∀ p,p < L.length→((if p=m then v else F p)=true ↔ (∃ s ∈ SS.take q,L[p]? = some (D s)) ∨ (p < m + 1∧L[p]? = some g))):=fun v hv p hp=>step_in (E:=fun p=>L[p]? = some g) HF.out hlm (by rw [hv,List.getElem?_eq_getElem hlm,Option.some.injEq]) p hp
     have HSE:Hid (∀ v:Bool,DI u ha hc (some ⟨b,off,none⟩) fc W3 B SS (some ⟨b1,o1,none⟩) sc x ga gc W3.heap.size gm L.length (fun i=>if i=m then v else F i) w (wr.setCell ⟨gm,m,none⟩ (.bool v))):=fun v=>DI.set H0.out F0.out h3 hwg hgB hig R.out m v
     clear R HF
     generalize L[m]=y at *
     cases hF:F m
     case true =>
      rw [hF] at m7
      have HS1:=Lib.hid (HSP.out true (by simp [hF]))
      clear hF HSP
      go_wp2
      go_roundw
      case rel=>exact ⟨m + 1,fun i=>if i=m then true else F i,by omega,by go_num,HSE.out true,HS1.out⟩
      case measure=>simp [intOf];omega
     case false =>
      rw [hF] at m7
      by_cases hy:y=g
      case pos =>
       have t1:(y == g)=true:=by simp [hy]
       have HS1:=Lib.hid (HSP.out true (by simp [hy]))
       clear hF HSP hy
       go_wp2
       go_roundw
       case rel=>exact ⟨m + 1,fun i=>if i=m then true else F i,by omega,by go_num,HSE.out true,HS1.out⟩
       case measure=>simp [intOf];omega
      case neg =>
       have t1:(y == g)=false:=by simp [hy]
       have HS1:=Lib.hid (HSP.out false (by simp [hy,hF]))
       clear hF HSP hy
       go_wp2
       go_roundw
       case rel=>exact ⟨m + 1,fun i=>if i=m then false else F i,by omega,by go_num,HSE.out false,HS1.out⟩
       case measure=>simp [intOf];omega
  case neg =>
   have HAL:Hid (∀ p,p < L.length→F p=true):=fun p hp=>(HF.out p hp).2 (by
    rw [List.take_of_length_le (by omega)]
    exact HE2.out p hp)
   clear HF
   go_wp2
   go_loop [169] (fun i=>∃ m:Nat,m≤L.length∧i = .int .i64 m) (fun i=>L.length - (intOf i).toNat)
   case atStart=>exact ⟨0,Nat.zero_le _,rfl⟩
   case round =>
    obtain ⟨m,hm,rfl⟩:=hrel
    by_cases hlm:m < L.length
    case neg =>
     go_wp2
     go_ret
     exact ⟨rfl,R.out.ub.hb⟩
    case pos =>
     have m7:=blsF_cell R.out.b hlm
     rw [HAL.out m hlm] at m7
     go_wp2
     go_round
     case rel=>exact ⟨m + 1,by omega,by go_num⟩
     case measure=>simp [intOf];omega
end Go.Proofs.YtkbmnfijeknenaaGreatDoor
