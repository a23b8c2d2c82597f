/-
  The law ChaWithin returns true.
-/
import Derived.Test.YtkbmnfijeknenaaGreatDoorPa
import Derived.Test.YtkbmnfijeknenaaGreatDoorHC
import Derived.Test.YtkbmnfijeknenaaGreatDoorG8
import Derived.Test.YtkbmnfijeknenaaGreatDoorHX
import Derived.Test.YtkbmnfijeknenaaGreatDoorLiv20
namespace Go.Proofs.YtkbmnfijeknenaaGreatDoor
open Go.RowKit Go.Unit0 Go.AM

set_option maxHeartbeats 1000000 in
theorem hasT20 (l:List Int) (x:Int) (la:Option Addr) (lc:Nat) (w:World) (h:IntsAt w la l) (hx:x ∈ l) (hl:l.length≤1000000) :
 Calls Tryz.prog 25 #[.slice la l.length lc,.int .i64 x] w (Same w (.bool true)):=by
 have HL:=Lib.hid h
 have HX:=Lib.hid hx
 clear h hx
 go_enter Tryz.func25,Tryz.ntmps25
 go_wp2
 go_loop [8] (fun i=>∃ k:Nat,k≤l.length∧i = .int .i64 k∧Hid (x ∉ l.take k)) (fun i=>l.length - (intOf i).toNat)
 case atStart=>exact ⟨0,Nat.zero_le _,rfl,by show _ ∉ _;simp⟩
 case round =>
  obtain ⟨k,hk,rfl,HN⟩:=hrel
  by_cases hlt:k < l.length
  case neg =>
   have:=HN.out
   rw [List.take_of_length_le (by omega)] at this
   exact absurd HX.out this
  obtain ⟨b,off,he,c0⟩:=HL.out k hlt
  subst he
  have HT:Hid (l.take (k + 1)=l.take k ++ [l[k]]):=List.take_succ_eq_append_getElem hlt
  generalize l[k]=y at *
  by_cases hy:y=x
  ·have t1:(y == x)=true:=by simp [hy]
   clear hy
   go_wp2
   go_ret
   exact ⟨rfl,rfl⟩
  ·have t1:(y == x)=false:=by simp [hy]
   have HN2:Hid (x ∉ l.take (k + 1)):=by
    show _ ∉ _
    rw [HT.out,List.mem_append,List.mem_singleton,not_or]
    exact ⟨HN.out,fun e=>hy e.symm⟩
   clear hy
   go_wp2
   go_round
   case rel=>exact ⟨k + 1,by omega,by go_num,HN2.out⟩
   case measure=>simp [intOf];omega
theorem eqCal (i j k i' j' k':Int) (w:World):(binOp .eql 51 (.agg #[.int .i64 i,.int .i64 j,.int .i64 k]) (.agg #[.int .i64 i',.int .i64 j',.int .i64 k'])).run Tryz.prog w = .ok (.bool ((i == i') && ((j == j') && (k == k')))) w:=by
 have u3:=Tryz.underlying3
 have a3:=Tryz.isAgg3
 have z3:=Tryz.sizeOf3
 have hS:Tryz.prog.underlying 51=some (.struct (Tryz.prog.fieldsOf 51)):=by kernel_rfl
 have hp:Tryz.prog.stoodInHeld 51=false:=by kernel_rfl
 rw [run_eql_struct,show (10000:Nat)=9999 + 1 from rfl,run_equalIn_agg w 9999 51 _ _ hS hp]
 simp only [Program.fieldsOf,Tryz.underlying51]
 cases e1:(i == i') <;> cases e2:(j == j') <;> cases e3:(k == k') <;> go_simp
set_option maxHeartbeats 2000000 in
theorem hasCallT20 (l:List Cal) (x:Cal) (la:Option Addr) (lc:Nat) (w:World) (h:CalsAt w la l) (hx:x ∈ l) (hl:l.length≤1000000) :
 Calls Tryz.prog 26 #[.slice la l.length lc,.agg #[.int .i64 x.f,.int .i64 x.i,.int .i64 x.c]] w (Ret w (.bool true)):=by
 have HB:=Lib.hid (one_below w (.cells #[.int .i64 x.f,.int .i64 x.i,.int .i64 x.c] 51))
 have BX:Hid (Blk (w.alloc (.cells #[.int .i64 x.f,.int .i64 x.i,.int .i64 x.c] 51)) w.heap.size #[.int .i64 x.f,.int .i64 x.i,.int .i64 x.c] 51):=blk_new ..
 have HL:=Lib.hid h
 have HX:=Lib.hid hx
 clear h hx
 go_enter Tryz.func26,Tryz.ntmps26
 go_upto_region 1 with (fail)
 generalize w.alloc _=W at *
 go_wp2
 go_loopw [8] (fun i wr=>∃ k:Nat,k≤l.length∧i = .int .i64 k∧Hid (x ∉ l.take k)∧Hid (Below W.heap.size W wr)) (fun i _=>l.length - (intOf i).toNat)
 case atStart=>exact ⟨0,Nat.zero_le _,rfl,(by show _ ∉ _;simp),Below.refl _ _⟩
 case round =>
  obtain ⟨k,hk,rfl,HN,HW⟩:=hrel
  by_cases hlt:k < l.length
  case neg =>
   have:=HN.out
   rw [List.take_of_length_le (by omega)] at this
   exact absurd HX.out this
  obtain ⟨b,off,he,m0,m1,m2⟩:=(HL.out.below (HB.out.trans (HW.out.mono HB.out.size))) k hlt
  subst he
  have HT:Hid (l.take (k + 1)=l.take k ++ [l[k]]):=List.take_succ_eq_append_getElem hlt
  generalize l[k]=y at *
  have hq:=eqCal y.f y.i y.c x.f x.i x.c
  have c0:=(BX.out.below HW.out).cell 0 (by simp)
  have c1:=(BX.out.below HW.out).cell 1 (by simp)
  have c2:=(BX.out.below HW.out).cell 2 (by simp)
  simp only [List.getElem_toArray,List.getElem_cons_zero,List.getElem_cons_succ] at c0 c1 c2
  have HT1:Hid (((y.f == x.f) && ((y.i == x.i) && (y.c == x.c)))=false→y ≠ x):=fun e h=>by subst h;simp at e
  generalize ((y.f == x.f) && ((y.i == x.i) && (y.c == x.c)))=qb at *
  have hne:Nonempty (WB wr):=⟨⟨wr,Below.refl _ _⟩⟩
  have k0:∀ o:WB wr,o.u.cell? ⟨b,off + k * 3,none⟩=some (.int .i64 y.f):=fun o=>cell_below o.h m0
  have k1:∀ o:WB wr,o.u.cell? ⟨b,off + k * 3 + 1,none⟩=some (.int .i64 y.i):=fun o=>cell_below o.h m1
  have k2:∀ o:WB wr,o.u.cell? ⟨b,off + k * 3 + 2,none⟩=some (.int .i64 y.c):=fun o=>cell_below o.h m2
  have k3:∀ o:WB wr,o.u.cell? ⟨w.heap.size,0,none⟩=some (.int .i64 x.f):=fun o=>cell_below o.h c0
  have k4:∀ o:WB wr,o.u.cell? ⟨w.heap.size,1,none⟩=some (.int .i64 x.i):=fun o=>cell_below o.h c1
  have k5:∀ o:WB wr,o.u.cell? ⟨w.heap.size,2,none⟩=some (.int .i64 x.c):=fun o=>cell_below o.h c2
  go_upto_region 4 with (fail)
  clear m0 m1 m2 c0 c1 c2
  cases qb
  all_goals
   refine wp_region_WB wr (by kernel_rfl) ?_
   repeat (go_big_quiet_step (fail))
   refine wpQuiet_nil ?_
   intro _ hw'
   obtain ⟨o,rfl⟩:=hw'
   have HW3:=Lib.hid (HW.out.trans (o.h.mono HW.out.size))
   clear k0 k1 k2 k3 k4 k5 hq
  ·have HN2:Hid (x ∉ l.take (k + 1)):=by
    show _ ∉ _
    rw [HT.out,List.mem_append,List.mem_singleton,not_or]
    exact ⟨HN.out,fun e=>HT1.out rfl e.symm⟩
   go_wp2
   go_roundw
   case rel=>exact ⟨k + 1,by omega,by go_num,HN2.out,HW3.out⟩
   case measure=>simp [intOf];omega
  ·go_wp2
   go_ret
   exact ⟨rfl,HB.out.trans (HW3.out.mono HB.out.size)⟩
theorem rap_rch {u:Unt} {x:Int} (k:Rap u x):Rch u.fs.length (edgU u u.fs.length) (mainS u.fs.length u.main) x :=
 Rap.least (P:=Rch u.fs.length (edgU u u.fs.length) (mainS u.fs.length u.main)) (fun h1 h2=>.base ⟨rfl,h1,h2⟩) (fun e he=>by
  have h1:=he.1.range (fun y hy=>by obtain ⟨rfl,h1,h2⟩:=hy;exact ⟨h1,h2⟩)
  have h2:=he.lt
  exact .step (edg_in he) (rightC_iff.2 ⟨h1.1,h1.2,h2.1,h2.2⟩) he.1) k
theorem rch_rap {u:Unt} {E:List Cal} (hE:RapE u E) (x:Int):Rch u.fs.length E (mainS u.fs.length u.main) x ↔ Rap u x:=by
 constructor
 ·intro k
  induction k with
  | base h=>obtain ⟨rfl,h1,h2⟩:=h;exact .main h1 h2
  | step hc _ _ _=>exact Rap.edge ((hE.2 _).1 hc)
 ·intro k
  exact Rap.least (P:=Rch u.fs.length E (mainS u.fs.length u.main)) (fun h1 h2=>.base ⟨rfl,h1,h2⟩) (fun e he=>by
   have h1:=he.1.range (fun y hy=>by obtain ⟨rfl,h1,h2⟩:=hy;exact ⟨h1,h2⟩)
   have h2:=he.lt
   refine .step ((hE.2 e).2 (he.mono (fun y hy=>?_))) (rightC_iff.2 ⟨h1.1,h1.2,h2.1,h2.2⟩) he.1
   clear h1 h2 he
   induction hy with
   | base h=>obtain ⟨rfl,h1,h2⟩:=h;exact .main h1 h2
   | step hc _ _ _=>exact Rap.edge ((hE.2 _).1 hc)) k
structure WI (u:Unt) (ha:Option Addr) (hc:Nat) (fa:Option Addr) (fc:Nat) (E:List Cal) (ea:Option Addr) (T:List Int) (ta:Option Addr) (F:List Int) (a:Option Addr) (C:List Cal) (ca:Option Addr) (w wr:World):Prop where
 ub:UB u ha hc fa fc w wr
 e:CalsAt wr ea E
 t:IntsAt wr ta T
 f:IntsAt wr a F
 c:CalsAt wr ca C
theorem WI.below {u:Unt} {ha:Option Addr} {hc:Nat} {fa:Option Addr} {fc:Nat} {E:List Cal} {ea:Option Addr} {T:List Int} {ta:Option Addr} {F:List Int} {a:Option Addr} {C:List Cal} {ca:Option Addr} {w wr w':World} (k:WI u ha hc fa fc E ea T ta F a C ca w wr) (hb:Below wr.heap.size wr w'):WI u ha hc fa fc E ea T ta F a C ca w w' :=
 ⟨k.ub.below hb,k.e.below hb,k.t.below hb,k.f.below hb,k.c.below hb⟩
theorem rapE_len {u:Unt} {E:List Cal} (h2:RapE u E):E.length≤sumC u.fs * u.fs.length:=by
 have e2:=keys_len (u:=u) (P:=Rap u) (l:=E.map keyK) (by
  unfold List.Nodup
  rw [List.pairwise_map]
  exact h2.1.imp (fun h e=>by
   have h3:∀ x:Cal,calK (keyK x)=x:=fun x=>rfl
   have h4:=congrArg calK e
   rw [h3,h3] at h4
   rw [h4] at h
   exact ltC_irrefl _ h)) (fun e he=>by
   obtain ⟨x,hx,rfl⟩:=List.mem_map.1 he
   exact (h2.2 x).1 hx)
 rw [List.length_map] at e2
 exact e2
set_option maxRecDepth 100000 in
set_option maxHeartbeats 8000000 in
theorem within20 (u:Unt) (ha:Option Addr) (hc:Nat) (fa:Option Addr) (fc:Nat) (w:World) (hA:AW w) (h:ClssAt w ha u.h) (hf:FncsAt w fa u.fs) :
 Calls Tryz.prog 6 #[unV u ha hc fa fc] w (Ret w (.bool true)):=by
 have S0:=Lib.hid (UB.start (hc:=hc) (fc:=fc) h hf)
 have AW0:=Lib.hid hA
 have HSM:Hid (∀ w1,ClssAt w1 ha u.h→FncsAt w1 fa u.fs→Calls Tryz.prog 11 #[unV u ha hc fa fc,.int .i64 150] w1 (BPost (fun b=>b=true→FitOk u 150∧UnitOk u) w1)):=fun w1 h1 h2=>small11 u ha hc fa fc 150 w1 h1 h2 (by omega)
 have HRA:Hid (FitOk u 150→∀ w1,ClssAt w1 ha u.h→FncsAt w1 fa u.fs→Calls Tryz.prog 23 #[unV u ha hc fa fc] w1 (RapPost u w1)):=fun k w1 h1 h2=>rapidP u ha hc fa fc w1 h1 h2 k
 have HCA:Hid (FitOk u 150→∀ w1,ClssAt w1 ha u.h→FncsAt w1 fa u.fs→Calls Tryz.prog 17 #[unV u ha hc fa fc] w1 (CallsPost (edgU u u.fs.length) w1)):=fun k w1 h1 h2=>chaCalls u ha hc fa fc w1 h1 h2 k
 have HRE:Hid (FitOk u 150→∀ (l:List Cal) (la:Option Addr) (lc:Nat) w1,ClssAt w1 ha u.h→FncsAt w1 fa u.fs→CalsAt w1 la l→l.length≤1000000→Calls Tryz.prog 21 #[unV u ha hc fa fc,.slice la l.length lc] w1 (ReachPost u.fs.length l u.main w1)):=fun k l la lc w1 h1 h2 h3 h4=>reachedP u ha hc fa fc l la lc w1 h1 h2 h3 (by have:=k.nf;omega) h4
 have HEL:Hid (FitOk u 150→(edgU u u.fs.length).length≤1000000∧u.fs.length≤20∧∀ E,RapE u E→E.length≤1000000):=fun k=>by
  have h1:=edgU_len (u:=u) (Nat.le_refl u.fs.length)
  rw [List.take_length] at h1
  have:=Nat.mul_le_mul k.t k.nf
  exact ⟨by omega,k.nf,fun E hE=>by have:=rapE_len hE;omega⟩
 have HMN:Hid (UnitOk u→0≤u.main∧u.main < u.fs.length):=fun k=>k.w.m
 have HRR:Hid (∀ L,ReachL u.fs.length (edgU u u.fs.length) u.main L→L.length≤u.fs.length∧∀ x,Rap u x→x ∈ L):=fun L hL=>⟨asc_len hL.1 (fun x hx=>((hL.2 x).1 hx).range (fun y hy=>by obtain ⟨rfl,h1,h2⟩:=hy;exact ⟨h1,h2⟩)),fun x hx=>(hL.2 x).2 (rap_rch hx)⟩
 have HED:Hid (∀ E,RapE u E→∀ e ∈ E,e ∈ edgU u u.fs.length):=fun E hE e he=>edg_in ((hE.2 e).1 he)
 have HRF:Hid (∀ E F L,RapE u E→RapF u F→ReachL u.fs.length E u.main L→L=F):=fun E F L hE hF hL=>set_unique hL.1 hL.2 hF.1 (fun x=>(hF.2 x).trans (rch_rap hE x).symm)
 clear hA h hf
 generalize edgU u u.fs.length=AL at *
 unfold unV at *
 go_enter Tryz.func6,Tryz.ntmps6
 go_upto_region 1 with (fail)
 generalize w.alloc _=W at *
 obtain ⟨z0,z1,z2⟩:=S0.out.cells
 go_wp2_with fail
 refine (HSM.out _ S0.out.h S0.out.f).mono ?_
 rintro e w1 ⟨hb',d,rfl,hr⟩
 have S:=Lib.hid (S0.out.below hb')
 have HR:=Lib.hid hr
 clear S0 hb' z0 z1 z2 hr HSM
 generalize w1=W at *
 cases d
 case false =>
  go_wp2_with fail
  refine (awake20 _ (AW0.out.below S.out.hb)).mono ?_
  rintro e w2 ⟨rfl,hb'⟩
  have S1:=Lib.hid (S.out.below hb')
  clear S hb'
  go_wp2
  go_ret
  exact ⟨rfl,S1.out.hb⟩
 replace HRA:=Lib.hid (HRA.out (HR.out rfl).1)
 replace HCA:=Lib.hid (HCA.out (HR.out rfl).1)
 replace HRE:=Lib.hid (HRE.out (HR.out rfl).1)
 replace HEL:=Lib.hid (HEL.out (HR.out rfl).1)
 replace HMN:=Lib.hid (HMN.out (HR.out rfl).2)
 clear HR
 go_wp2_with fail
 refine (awake20 _ (AW0.out.below S.out.hb)).mono ?_
 rintro e w2 ⟨rfl,hb'⟩
 have S1:=Lib.hid (S.out.below hb')
 clear S hb'
 generalize w2=W at *
 obtain ⟨z0,z1,z2⟩:=S1.out.cells
 go_wp2_with fail
 refine (HCA.out _ S1.out.h S1.out.f).mono ?_
 rintro e w3 ⟨hb3,ea,ec,rfl,ow3⟩
 have S3:=Lib.hid (S1.out.below hb3)
 have E3:=Lib.hid (ownsC' ow3).2
 clear S1 hb3 ow3 z0 z1 z2 HCA
 obtain ⟨z0,z1,z2⟩:=S3.out.cells
 go_wp2_with fail
 refine (HRE.out AL ea ec _ S3.out.h S3.out.f E3.out HEL.out.1).mono ?_
 rintro e w4 ⟨hb4,T,ta,tc,rfl,hT,hi⟩
 have S4:=Lib.hid (S3.out.below hb4)
 have E4:=Lib.hid (E3.out.below hb4)
 have T4:=Lib.hid hi
 have HT:=Lib.hid (HRR.out T hT)
 clear S3 E3 hb4 hi hT z0 z1 z2 HRR
 obtain ⟨z0,z1,z2⟩:=S4.out.cells
 go_wp2_with fail
 refine (HRA.out _ S4.out.h S4.out.f).mono ?_
 rintro e w5 ⟨hb5,F,C,a,c,ca,cc,rfl,hF,hC,hi,hj⟩
 have X5:Hid (WI u ha hc fa fc AL ea T ta F a C ca w w5):=⟨S4.out.below hb5,E4.out.below hb5,T4.out.below hb5,hi,hj⟩
 have HF:=Lib.hid hF
 have HC:=Lib.hid hC
 have hfl:=rapF_len hF
 have hnl:=HEL.out.2.1
 have hcl:=HEL.out.2.2 C hC
 have htl:=HT.out.1
 have hal:=HEL.out.1
 clear S4 E4 T4 hb5 hi hj hF hC z0 z1 z2 HRA
 go_wp2
 go_loopw [29] (fun i wr=>∃ k:Nat,k≤F.length∧i = .int .i64 k∧Hid (WI u ha hc fa fc AL ea T ta F a C ca w wr)) (fun i _=>F.length - (intOf i).toNat)
 case atStart=>exact ⟨0,Nat.zero_le _,rfl,X5.out⟩
 case round =>
  clear X5
  obtain ⟨k,hk,rfl,X⟩:=hrel
  by_cases hlt:k < F.length
  case pos =>
   obtain ⟨b,off,he,c0⟩:=X.out.f k hlt
   subst he
   have HXT:=Lib.hid (HT.out.2 _ ((HF.out.2 _).1 (List.getElem_mem hlt)))
   generalize F[k]=x at *
   go_wp2_with fail
   refine (hasT20 T x ta tc _ X.out.t HXT.out (by omega)).mono ?_
   rintro e w6 ⟨rfl,rfl⟩
   go_wp2
   go_roundw
   case rel=>exact ⟨k + 1,by omega,by go_num,X.out⟩
   case measure=>simp [intOf];omega
  case neg =>
   go_wp2
   go_loopw [42] (fun i wr=>∃ k:Nat,k≤C.length∧i = .int .i64 k∧Hid (WI u ha hc fa fc AL ea T ta F a C ca w wr)) (fun i _=>C.length - (intOf i).toNat)
   case atStart=>exact ⟨0,Nat.zero_le _,rfl,X.out⟩
   case round =>
    clear X
    obtain ⟨k,hk,rfl,X⟩:=hrel
    by_cases hlt:k < C.length
    case pos =>
     obtain ⟨b,off,he,m0,m1,m2⟩:=X.out.c k hlt
     subst he
     have HX1:=Lib.hid (HED.out C HC.out _ (List.getElem_mem hlt))
     have hes:=(HC.out.2 _).1 (List.getElem_mem hlt)
     have HX2:=Lib.hid ((HF.out.2 _).2 hes.1)
     have HX3:=Lib.hid ((HF.out.2 _).2 (Rap.edge hes))
     clear hes
     generalize C[k]=x at *
     go_wp2_with fail
     refine (hasCallT20 AL x ea ec _ X.out.e HX1.out hal).mono ?_
     rintro e w6 ⟨rfl,hb6⟩
     have X6:=Lib.hid (X.out.below hb6)
     replace m0:=cell_below hb6 m0
     replace m2:=cell_below hb6 m2
     clear X hb6 m1
     go_wp2_with fail
     refine (hasT20 F x.f a c _ X6.out.f HX2.out (by omega)).mono ?_
     rintro e w7 ⟨rfl,rfl⟩
     go_wp2_with fail
     refine (hasT20 F x.c a c _ X6.out.f HX3.out (by omega)).mono ?_
     rintro e w8 ⟨rfl,rfl⟩
     go_wp2
     go_roundw
     case rel=>exact ⟨k + 1,by omega,by go_num,X6.out⟩
     case measure=>simp [intOf];omega
    case neg =>
     have HMF:=Lib.hid ((HF.out.2 u.main).2 (.main HMN.out.1 HMN.out.2))
     obtain ⟨z0,z1,z2⟩:=X.out.ub.cells
     go_wp2_with fail
     refine (hasT20 F u.main a c _ X.out.f HMF.out (by omega)).mono ?_
     rintro e w6 ⟨rfl,rfl⟩
     go_wp2_with fail
     refine (HRE.out C ca cc _ X.out.ub.h X.out.ub.f X.out.c hcl).mono ?_
     rintro e w7 ⟨hb7,L,la,lc,rfl,hL,hi⟩
     obtain rfl:=HRF.out C F L HC.out HF.out hL
     have X7:=Lib.hid (X.out.below hb7)
     have I7:=Lib.hid hi
     clear X hb7 hi hL z0 z1 z2
     go_wp2_with fail
     refine (sameIntsT L la lc a c _ I7.out X7.out.f (by omega)).mono ?_
     rintro e w8 ⟨rfl,hb8⟩
     have X8:=Lib.hid (X7.out.below hb8)
     clear X7 I7 hb8
     go_wp2
     go_ret
     exact ⟨rfl,X8.out.ub.hb⟩
end Go.Proofs.YtkbmnfijeknenaaGreatDoor
