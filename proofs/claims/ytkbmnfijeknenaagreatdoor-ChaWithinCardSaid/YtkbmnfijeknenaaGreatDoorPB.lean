/-
  The program's rapid type analysis: reach.
  The program's rapid type analysis: dispatch. (Printed by pre.py.)
  The program's rapid type analysis: an instruction. (Printed by pre.py.)
-/
import Derived.Test.YtkbmnfijeknenaaGreatDoorPA
import Derived.Test.YtkbmnfijeknenaaGreatDoorR2
import Derived.Test.YtkbmnfijeknenaaGreatDoorTD
import Derived.Test.YtkbmnfijeknenaaGreatDoorRG
namespace Go.Proofs.YtkbmnfijeknenaaGreatDoor
open Go.RowKit Go.Unit0 Go.AM

def RPost (u:Unt) (ha:Option Addr) (hc:Nat) (fa:Option Addr) (fc:Nat) (b:RB) (ig:Str × Str→Nat) (st:RpS) (ch:Nat→Prop) (v:Value) (w wr:World) (e:Ending) (w':World):Prop :=
 e = .returned (.tuple #[])∧∃ oa oc,RM u ha hc fa fc b ig st oa oc w w'∧Chg ch wr w'∧Newer wr v (.slice oa st.T.length oc)
set_option maxRecDepth 100000 in
set_option maxHeartbeats 4000000 in
theorem reachRP {u:Unt} {ha:Option Addr} {hc:Nat} {fa:Option Addr} {fc:Nat} {b:RB} {ig:Str × Str→Nat} {st:RpS} {oa:Option Addr} {oc:Nat} {w wr:World} (f:Int) (k:RM u ha hc fa fc b ig st oa oc w wr) (_hl:u.fs.length≤1000) (hT:st.T.length≤1000) :
 Calls Tryz.prog 61 #[.pointer (some ⟨b.R,0,none⟩),.int .i64 f] wr (RPost u ha hc fa fc b ig (st.push u.fs.length f) (chR b (.slice oa st.T.length oc)) (.slice oa st.T.length oc) w wr):=by
 have S:=Lib.hid k
 clear k
 have HPN:=Lib.hid (@push_no u.fs.length st f)
 have HPY:=Lib.hid (@push_yes u.fs.length st f)
 generalize hps:st.push u.fs.length f=ps at *
 clear hps
 go_enter Tryz.func61,Tryz.ntmps61
 obtain ⟨z0,z1,z2,z3,z4,z5,z6,z7,z8⟩:=S.out.cells
 by_cases g1:f < 0
 case pos =>
  have HN:=Lib.hid (HPN.out (fun e=>by omega))
  have t1:=decide_eq_true g1
  clear g1 HPN HPY
  go_wp2
  refine bodyPost_ret (v:=.tuple #[]) (by simp [results,Tryz.results61,go_sem]) rfl ?_
  exact ⟨rfl,oa,oc,by rw [HN.out];exact S.out,Chg.refl _ _,by rw [HN.out];exact Newer.refl _ _⟩
 have t1:=decide_eq_false g1
 by_cases g2:(u.fs.length:Int)≤f
 case pos =>
  have HN:=Lib.hid (HPN.out (fun e=>by omega))
  have t2:=decide_eq_true g2
  clear g1 g2 HPN HPY
  go_wp2
  refine bodyPost_ret (v:=.tuple #[]) (by simp [results,Tryz.results61,go_sem]) rfl ?_
  exact ⟨rfl,oa,oc,by rw [HN.out];exact S.out,Chg.refl _ _,by rw [HN.out];exact Newer.refl _ _⟩
 have t2:=decide_eq_false g2
 by_cases g3:f ∈ st.S
 case pos =>
  have HN:=Lib.hid (HPN.out (fun e=>e.2.2 g3))
  have hlk:(Instr.lookup 95 (.map (some b.gr)) (.int .i64 f) false).run Tryz.prog wr = .ok (.bool true) wr:=by rw [S.out.mr.lookup keyInt undMIB (zeroBool wr) f false];simp [setF,g3]
  clear g1 g2 g3 HPN HPY
  go_wp2
  refine bodyPost_ret (v:=.tuple #[]) (by simp [results,Tryz.results61,go_sem]) rfl ?_
  exact ⟨rfl,oa,oc,by rw [HN.out];exact S.out,Chg.refl _ _,by rw [HN.out];exact Newer.refl _ _⟩
 have HY:=Lib.hid (HPY.out ⟨by omega,by omega,g3⟩)
 have hlk:(Instr.lookup 95 (.map (some b.gr)) (.int .i64 f) false).run Tryz.prog wr = .ok (.bool false) wr:=by rw [S.out.mr.lookup keyInt undMIB (zeroBool wr) f false];simp [setF,g3]
 clear g1 g2 g3 HPN HPY
 go_upto_region 2 with (at_mapUpdate;refine wpList_mapF rfl _ _ _ _ rfl keyInt undMIB b.gr rfl S.out.mr f rfl (.bool true) rfl ?_;intro w2 hm2 hg2 hs2)
 rw [setF_snoc] at hm2
 have S2:=Lib.hid (S.out.putR hm2 hg2)
 have C2:Hid (Chg (chR b (.slice oa st.T.length oc)) wr w2):=Chg.of_grown hg2 (fun q hq _=>by cases hq;exact .inr (.inl rfl))
 clear hm2 hg2 hs2 hlk z0 z1 z2 z3 z4 z5 z6 z7 z8 t1 t2 S
 obtain ⟨z0,z1,z2,z3,z4,z5,z6,z7,z8⟩:=S2.out.cells
 simp only at z4
 have S3:=Lib.hid (S2.out.below (one_below w2 (.cells #[.int .i64 f] 3)))
 have C3:Hid (Chg (chR b (.slice oa st.T.length oc)) wr (w2.alloc (.cells #[.int .i64 f] 3))):=C2.out.trans (Chg.of_below (P:=fun _=>False) (one_below ..)) (fun _ _ h=>h.elim)
 have hbs:=S3.out.hb.size
 have B3:Hid (Blk (w2.alloc (.cells #[.int .i64 f] 3)) w2.heap.size #[.int .i64 f] 3):=blk_new ..
 have O3:Hid ((w2.alloc (.cells #[.int .i64 f] 3)).ownsRow w.heap.size 3 1 (.slice oa st.T.length oc) st.T.length (st.T.map intV)):=S3.out.ow
 have hT2:st.T.length≤1000000:=by omega
 go_wp2_with (at_builtin;refine app_intF rfl _ _ rfl w.heap.size _ st.T rfl O3.out w2.heap.size f rfl B3.out hT2 hbs ?_;intro v7 W7 own7 hg7 hfr7;obtain ⟨-,oa7,oc7,he7,-,-⟩:=owns_ints own7;subst he7;have R7:=S3.out.rb.grown hg7 (owns_ne O3.out S3.out.rb (by decide));have q1:=R7.cell 4 (by simp);have q2:=R7.free 4;simp only [List.getElem_toArray,List.getElem_cons_zero,List.getElem_cons_succ] at q1)
 refine bodyPost_ret (v:=.tuple #[]) (by simp [results,Tryz.results61,go_sem]) rfl ?_
 have hb7:b.R < W7.heap.size:=R7.lt
 have C7:Chg (chR b (.slice oa st.T.length oc)) wr W7:=C3.out.trans (Chg.of_grown (P:=fun q=>(Value.slice oa st.T.length oc).ownBlock=some q) hg7 (fun q hq _=>hq)) (fun q _ hq=>.inr (.inr hq))
 have C8:=C7.trans (Chg.of_grown (P:=fun q=>q=b.R) (grown_set W7 b.R 4 (.slice oa7 (st.T ++ [f]).length oc7)) (fun q hq _=>by cases hq;rfl)) (fun q _ hq=>.inl hq)
 have R8:=RM.slot S3.out own7 hg7
 have hln:(st.T ++ [f]).length=st.T.length + 1:=by simp
 rw [hln] at R8 C8
 rw [HY.out]
 refine ⟨rfl,oa7,oc7,R8,C8,?_⟩
 rcases hfr7 with e | e
 ·exact .inl e
 ·refine .inr (fun q hq=>?_)
  have e:(Value.slice oa7 (st.T ++ [f]).length oc7).ownBlock=some (w2.alloc (.cells #[.int .i64 f] 3)).heap.size:=e
  have hq:(Value.slice oa7 (st.T ++ [f]).length oc7).ownBlock=some q:=hq
  rw [e] at hq
  cases hq
  exact C3.out.sz
end Go.Proofs.YtkbmnfijeknenaaGreatDoor
namespace Go.Proofs.YtkbmnfijeknenaaGreatDoor
open Go.RowKit Go.Unit0 Go.AM

def LookV (r:Option (Str × Sgn)) (w:World) (e:Ending) (w':World):Prop:=Below w.heap.size w w'∧∃ (x s1 s2:Str) (b1 b:Bool) (pa:Option Addr) (n pc:Nat),
 e = .returned (.tuple #[.string x,.agg #[.string s1,.bool b1,.slice pa n pc,.string s2],.bool b])∧((b=false∧r=none) ∨ (b=true∧∃ g,r=some (x,g)))
theorem LookQ.v {r:Option (Str × Sgn)} {w:World} {e:Ending} {w':World} (k:LookQ r w e w'):LookV r w e w':=by
 obtain ⟨hb,h⟩:=k
 refine ⟨hb,?_⟩
 rcases h with ⟨h1,rfl⟩ | ⟨x,g,pa,pc,h1,rfl,_⟩
 ·exact ⟨_,_,_,false,false,none,0,0,rfl,.inl ⟨rfl,h1⟩⟩
 ·exact ⟨x,g.name,g.result,g.stat,true,pa,_,pc,rfl,.inr ⟨rfl,g,h1⟩⟩
structure DS (u:Unt) (ha:Option Addr) (hc:Nat) (fa:Option Addr) (fc:Nat) (b:RB) (ig:Str × Str→Nat) (st:RpS) (oa:Option Addr) (oc:Nat) (gm:Nat) (m:Str × Str) (w w0 wr:World):Prop where
 rm:RM u ha hc fa fc b ig st oa oc w wr
 bm:Blk wr gm #[.string m.1,.string m.2] 102
 hb:Below w0.heap.size w0 wr
theorem DS.below {u:Unt} {ha:Option Addr} {hc:Nat} {fa:Option Addr} {fc:Nat} {b:RB} {ig:Str × Str→Nat} {st:RpS} {oa:Option Addr} {oc:Nat} {gm:Nat} {m:Str × Str} {w w0 wr w':World} (k:DS u ha hc fa fc b ig st oa oc gm m w w0 wr) (hb:Below wr.heap.size wr w'):DS u ha hc fa fc b ig st oa oc gm m w w0 w' :=
 ⟨k.rm.below hb,k.bm.below hb,k.hb.trans (hb.mono k.hb.size)⟩
set_option maxRecDepth 100000 in
set_option maxHeartbeats 8000000 in
theorem dispatchP {u:Unt} {ha:Option Addr} {hc:Nat} {fa:Option Addr} {fc:Nat} {b:RB} {ig:Str × Str→Nat} {st:RpS} {oa:Option Addr} {oc:Nat} {w wr:World} (m:Str × Str) (L:List Int) (c:Str) (k:RM u ha hc fa fc b ig st oa oc w wr) (hL:st.tg m=some L) (h:ClssAt w ha u.h) (hf:FncsAt w fa u.fs) (hbd:BndU u) (hl:u.fs.length≤1000) (hT:st.T.length≤1000) :
 Calls Tryz.prog 106 #[.pointer (some ⟨b.R,0,none⟩),.agg #[.string m.1,.string m.2],.string c] wr (RPost u ha hc fa fc b ig (st.disp u m L c) (chD b (ig m) (.slice oa st.T.length oc)) (.slice oa st.T.length oc) w wr):=by
 have HIS:Hid (∀ w1,ClssAt w1 ha u.h→Calls Tryz.prog 130 #[.agg #[.slice ha u.h.length hc],.string c,.string m.1] w1 (Ret w1 (.bool (subP u.h c m.1)))):=fun w1 h1=>isSubP u.h c m.1 ha hc w1 h1 hbd.h.l
 have HLK:Hid (∀ w1,ClssAt w1 ha u.h→Calls Tryz.prog 43 #[.agg #[.slice ha u.h.length hc],.string c,.string m.2] w1 (LookV (lookP u.h c m.2) w1)):=fun w1 h1=>(lookupP u.h c m.2 ha hc w1 h1 hbd.h.l hbd.h.m hbd.h.p).mono (fun _ _ h=>h.v)
 have HFN:Hid (∀ (y:Str) (w1:World),FncsAt w1 fa u.fs→Calls Tryz.prog 49 #[unV u ha hc fa fc,.string y,.string m.2] w1 (Ret w1 (.int .i64 (fnI u.fs y m.2)))):=fun y w1 h1=>irFind u ha hc fa fc y m.2 w1 h1 (by have:=hbd.l;omega)
 have HRE:Hid (∀ (st':RpS) (oa':Option Addr) (oc':Nat) (w1:World) (f:Int),RM u ha hc fa fc b ig st' oa' oc' w w1→st'.T.length≤1000→Calls Tryz.prog 61 #[.pointer (some ⟨b.R,0,none⟩),.int .i64 f] w1 (RPost u ha hc fa fc b ig (st'.push u.fs.length f) (chR b (.slice oa' st'.T.length oc')) (.slice oa' st'.T.length oc') w w1)):=fun st' oa' oc' w1 f k1 h1=>reachRP f k1 hl h1
 have HDS:Hid (st.disp u m L c=if subP u.h c m.1=true∧0≤dspG u.h u.fs c m.2 then (st.add m (L ++ [dspG u.h u.fs c m.2])).push u.fs.length (dspG u.h u.fs c m.2) else st):=rfl
 have HDG:Hid (dspG u.h u.fs c m.2=match lookP u.h c m.2 with | some (x,_)=>fnI u.fs x m.2 | none=>-1):=rfl
 have HM:Hid (ClssAt w ha u.h∧FncsAt w fa u.fs):=⟨h,hf⟩
 have HLL:=Lib.hid hL
 have ST:Hid (DS u ha hc fa fc b ig st oa oc wr.heap.size m w wr (wr.alloc (.cells #[.string m.1,.string m.2] 102))):=⟨k.below (one_below ..),blk_new ..,one_below ..⟩
 clear h hf hbd k hL
 unfold unV at *
 obtain ⟨m1,m2⟩:=m
 simp only at HIS HLK HFN HDS HDG
 generalize lookP u.h c m2=R at *
 generalize subP u.h c m1=sb at *
 generalize dspG u.h u.fs c m2=dg at *
 generalize hds:st.disp u (m1,m2) L c=ds at *
 clear hds
 go_enter Tryz.func106,Tryz.ntmps106
 go_upto_region 1 with (fail)
 generalize wr.alloc _=W at *
 generalize hgm:wr.heap.size=gm at *
 have k0:∀ o:WB W,o.u.cell? ⟨b.R,0,none⟩=some (.slice ha u.h.length hc):=fun o=>(ST.out.below o.h).rm.cells.1
 have k1:∀ o:WB W,o.u.cell? ⟨gm,0,none⟩=some (.string m1):=fun o=>(ST.out.below o.h).bm.cell 0 (by simp)
 have hne:Nonempty (WB W):=⟨⟨W,Below.refl _ _⟩⟩
 refine wp_region_WB W (by kernel_rfl) ?_
 repeat (go_big_quiet_step ((rename_i o;exact (HIS.out _ (HM.out.1.below (ST.out.below o.h).rm.hb)).mono (fun _ _ h=>Ret.inB h))))
 refine wpQuiet_nil ?_
 intro _ hw'
 obtain ⟨o,rfl⟩:=hw'
 have ST1:=Lib.hid (ST.out.below o.h)
 clear k0 k1 ST hne HIS
 generalize o.u=W1 at *
 cases sb
 case false =>
  have HN:Hid (ds=st):=by show _=_;rw [HDS.out,if_neg (fun e=>by cases e.1)]
  go_wp2
  refine bodyPost_ret (v:=.tuple #[]) (by simp [results,Tryz.results106,go_sem]) rfl ?_
  exact ⟨rfl,oa,oc,by rw [HN.out];exact ST1.out.rm,Chg.of_below ST1.out.hb,by rw [HN.out];exact Newer.refl _ _⟩
 go_upto_region 2 with (fail)
 go_cut [6,7,8] (fun v6 _ v8 wx=>∃ (y:Str) (ok:Bool),v6 = .string y∧v8 = .bool ok∧Hid ((ok=false∧R=none) ∨ (ok=true∧∃ g,R=some (y,g)))∧Hid (DS u ha hc fa fc b ig st oa oc gm (m1,m2) w wr wx))
 case first =>
  have hne:Nonempty (WB W1):=⟨⟨W1,Below.refl _ _⟩⟩
  have k0:∀ o:WB W1,o.u.cell? ⟨b.R,0,none⟩=some (.slice ha u.h.length hc):=fun o=>(ST1.out.below o.h).rm.cells.1
  have k1:∀ o:WB W1,o.u.cell? ⟨gm,1,none⟩=some (.string m2):=fun o=>(ST1.out.below o.h).bm.cell 1 (by simp)
  have h0:Below W1.heap.size W1 W1.drew:=(Below.refl _ _).drew
  refine wp_region_Y (fun w'=>∃ o:WB W1,w' = o.u) (by kernel_rfl) ?_
  change wpAnyY _ _ _ _ _ _ _ _ W1.drew
  generalize W1.drew=V0 at *
  refine wpAnyY_take 0 rfl (by kernel_rfl) (fun _ _ _ _ h=>h) ⟨⟨_,h0⟩,rfl⟩ (fun K hK=>?_);go_simp;refine hK _ ?_;clear hK K
  refine wpAnyY_take 1 rfl (by kernel_rfl) (fun _ _ _ _ h=>h) ⟨⟨_,h0⟩,rfl⟩ (fun K hK=>?_);go_simp;refine hK _ ?_;clear hK K
  refine wpAnyY_take 2 rfl (by kernel_rfl) (fun _ _ _ _ h=>h) ⟨⟨_,h0⟩,rfl⟩ (fun K hK=>?_);go_simp;refine hK _ ?_;clear hK K
  refine wpAnyY_take 3 rfl (by kernel_rfl) (fun _ _ _ _ h=>h) ⟨⟨_,h0⟩,rfl⟩ (fun K hK=>?_);go_simp;refine hK _ ?_;clear hK K
  refine wpAnyY_take 4 rfl (by kernel_rfl) (fun _ _ _ _ h=>h) ⟨⟨_,h0⟩,rfl⟩ (fun K hK=>?_);go_simp;refine hK _ ?_;clear hK K
  refine wpAnyY_take 5 rfl (by kernel_rfl) (fun _ _ _ _ h=>h) ⟨⟨_,h0⟩,rfl⟩ (fun K hK=>?_);go_simp;refine hK _ ?_;clear hK K
  refine wpAnyY_take 6 rfl (by kernel_rfl) (fun _ _ _ _ h=>h) ⟨⟨_,h0⟩,rfl⟩ (fun K hK=>?_);go_simp;refine hK _ ?_;clear hK K
  refine wpAnyY_take 7 rfl (by kernel_rfl) (fun _ _ _ _ h=>h) ⟨⟨_,h0⟩,rfl⟩ (fun K hK=>?_);go_simp;refine hK _ ?_;clear hK K
  refine wpAnyY_two 8 13 rfl rfl (by kernel_rfl) ?_ ?_
  ·go_wp2_with fail
   refine (HLK.out _ (HM.out.1.below (ST1.out.below h0).rm.hb)).mono ?_
   rintro e w2 ⟨hb2,x,s1,s2,b1,ok,pa,n,pc,rfl,hr⟩
   have h2:Below W1.heap.size W1 w2:=h0.trans (hb2.mono h0.size)
   have HR:=Lib.hid hr
   clear hb2 hr
   go_wp2
   refine ⟨⟨⟨_,h2⟩,rfl⟩,?_⟩
   refine wpAnyY_take 9 rfl (by kernel_rfl) (fun _ _ _ _ h=>h) ⟨⟨_,h2⟩,rfl⟩ (fun K hK=>?_);go_simp;refine hK _ ?_;clear hK K
   refine wpAnyY_take 10 rfl (by kernel_rfl) (fun _ _ _ _ h=>h) ⟨⟨_,h2⟩,rfl⟩ (fun K hK=>?_);go_simp;refine hK _ ?_;clear hK K
   refine wpAnyY_take 11 rfl (by kernel_rfl) (fun _ _ _ _ h=>h) ⟨⟨_,h2⟩,rfl⟩ (fun K hK=>?_);go_simp;refine hK _ ?_;clear hK K
   refine wpAnyY_take 12 rfl (by kernel_rfl) (fun _ _ _ _ h=>h) ⟨⟨_,h2⟩,rfl⟩ (fun K hK=>?_);go_simp;refine hK _ ?_;clear hK K
   have h3:Below W1.heap.size W1 (w2.alloc (.cells #[.string ⟨#[]⟩,.bool false,.slice none 0 0,.string ⟨#[]⟩] 79)):=h2.trans ((one_below ..).mono h2.size)
   have B3:Hid (Blk (w2.alloc (.cells #[.string ⟨#[]⟩,.bool false,.slice none 0 0,.string ⟨#[]⟩] 79)) w2.heap.size _ 79):=blk_new ..
   refine wpAnyY_one 13 rfl (by kernel_rfl) ?_
   go_wp2
   refine ⟨⟨⟨_,h3⟩,rfl⟩,?_⟩
   refine wpAnyY_one 14 rfl (by kernel_rfl) ?_
   go_wp2
   refine ⟨⟨⟨_,h3⟩,rfl⟩,?_⟩
   refine wpAnyY_one 15 rfl (by kernel_rfl) ?_
   go_wp2_with (refine store114 rfl _ _ rfl w2.heap.size _ _ _ _ _ _ rfl rfl _ B3.out rfl ?_)
   have h4:=below_setRow h3 h2.size #[.string s1,.bool b1,.slice pa n pc,.string s2]
   refine ⟨⟨⟨_,h4⟩,rfl⟩,?_⟩
   refine wpAnyY_one 16 rfl (by kernel_rfl) ?_
   go_wp2
   refine ⟨⟨⟨_,h4⟩,rfl⟩,?_⟩
   refine wpAnyY_done (by kernel_rfl) ?_ _
   have S4:=Lib.hid (ST1.out.below h4)
   clear k0 k1
   go_wp2
   go_meet
   exact ⟨x,ok,rfl,rfl,HR.out,S4.out⟩
  ·have h1:Below W1.heap.size W1 (V0.alloc (.cells #[.string ⟨#[]⟩,.bool false,.slice none 0 0,.string ⟨#[]⟩] 79)):=h0.trans ((one_below ..).mono h0.size)
   have B1:Hid (Blk (V0.alloc (.cells #[.string ⟨#[]⟩,.bool false,.slice none 0 0,.string ⟨#[]⟩] 79)) V0.heap.size _ 79):=blk_new ..
   go_wp2
   refine ⟨⟨⟨_,h1⟩,rfl⟩,?_⟩
   refine wpAnyY_one 8 rfl (by kernel_rfl) ?_
   go_wp2_with fail
   refine (HLK.out _ (HM.out.1.below (ST1.out.below h1).rm.hb)).mono ?_
   rintro e w2 ⟨hb2,x,s1,s2,b1,ok,pa,n,pc,rfl,hr⟩
   have h2:Below W1.heap.size W1 w2:=h1.trans (hb2.mono h1.size)
   have B2:=Lib.hid (B1.out.below hb2)
   have HR:=Lib.hid hr
   clear hb2 hr B1
   go_wp2
   refine ⟨⟨⟨_,h2⟩,rfl⟩,?_⟩
   refine wpAnyY_take 9 rfl (by kernel_rfl) (fun _ _ _ _ h=>h) ⟨⟨_,h2⟩,rfl⟩ (fun K hK=>?_);go_simp;refine hK _ ?_;clear hK K
   refine wpAnyY_take 10 rfl (by kernel_rfl) (fun _ _ _ _ h=>h) ⟨⟨_,h2⟩,rfl⟩ (fun K hK=>?_);go_simp;refine hK _ ?_;clear hK K
   refine wpAnyY_take 11 rfl (by kernel_rfl) (fun _ _ _ _ h=>h) ⟨⟨_,h2⟩,rfl⟩ (fun K hK=>?_);go_simp;refine hK _ ?_;clear hK K
   refine wpAnyY_take 12 rfl (by kernel_rfl) (fun _ _ _ _ h=>h) ⟨⟨_,h2⟩,rfl⟩ (fun K hK=>?_);go_simp;refine hK _ ?_;clear hK K
   refine wpAnyY_one 14 rfl (by kernel_rfl) ?_
   go_wp2
   refine ⟨⟨⟨_,h2⟩,rfl⟩,?_⟩
   refine wpAnyY_one 15 rfl (by kernel_rfl) ?_
   go_wp2_with (refine store114 rfl _ _ rfl V0.heap.size _ _ _ _ _ _ rfl rfl _ B2.out rfl ?_)
   have h4:=below_setRow h2 h0.size #[.string s1,.bool b1,.slice pa n pc,.string s2]
   refine ⟨⟨⟨_,h4⟩,rfl⟩,?_⟩
   refine wpAnyY_one 16 rfl (by kernel_rfl) ?_
   go_wp2
   refine ⟨⟨⟨_,h4⟩,rfl⟩,?_⟩
   refine wpAnyY_done (by kernel_rfl) ?_ _
   have S4:=Lib.hid (ST1.out.below h4)
   clear k0 k1
   go_wp2
   go_meet
   exact ⟨x,ok,rfl,rfl,HR.out,S4.out⟩
 case rest =>
  obtain ⟨y,ok,rfl,rfl,HR,ST2⟩:=hcut
  clear ST1 HLK
  generalize wc=W2 at *
  cases ok
  case false =>
   have HN:Hid (ds=st):=by
    show _=_
    rw [HDS.out,if_neg]
    rcases HR.out with ⟨_,e⟩ | ⟨e,_⟩
    ·have:=HDG.out
     rw [e] at this
     simp only at this
     omega
    ·cases e
   clear HR HDS HDG
   go_wp2
   refine bodyPost_ret (v:=.tuple #[]) (by simp [results,Tryz.results106,go_sem]) rfl ?_
   exact ⟨rfl,oa,oc,by rw [HN.out];exact ST2.out.rm,Chg.of_below ST2.out.hb,by rw [HN.out];exact Newer.refl _ _⟩
  have HG:Hid (dg=fnI u.fs y m2):=by
   rcases HR.out with ⟨e,_⟩ | ⟨_,g,e⟩
   ·cases e
   ·have:=HDG.out
    rw [e] at this
    exact this
  have HFY:=Lib.hid (HFN.out y)
  rw [← HG.out] at HFY
  clear HR HDG HG HFN
  go_upto_region 4 with (fail)
  have k0:∀ o:WB W2,o.u.cell? ⟨b.R,0,none⟩=some (.slice ha u.h.length hc):=fun o=>(ST2.out.below o.h).rm.cells.1
  have k1:∀ o:WB W2,o.u.cell? ⟨b.R,1,none⟩=some (.slice fa u.fs.length fc):=fun o=>(ST2.out.below o.h).rm.cells.2.1
  have k2:∀ o:WB W2,o.u.cell? ⟨b.R,2,none⟩=some (.int .i64 u.main):=fun o=>(ST2.out.below o.h).rm.cells.2.2.1
  have k3:∀ o:WB W2,o.u.cell? ⟨gm,1,none⟩=some (.string m2):=fun o=>(ST2.out.below o.h).bm.cell 1 (by simp)
  have hne:Nonempty (WB W2):=⟨⟨W2,Below.refl _ _⟩⟩
  refine wp_region_WB W2 (by kernel_rfl) ?_
  repeat (go_big_quiet_step ((rename_i o;exact (HFY.out _ (HM.out.2.below (ST2.out.below o.h).rm.hb)).mono (fun _ _ h=>Ret.inB h))))
  refine wpQuiet_nil ?_
  intro _ hw'
  obtain ⟨o,rfl⟩:=hw'
  have ST3:=Lib.hid (ST2.out.below o.h)
  clear k0 k1 k2 k3 ST2 hne HFY
  generalize o.u=W3 at *
  by_cases hd:0≤dg
  case neg =>
   have HN:Hid (ds=st):=by show _=_;rw [HDS.out,if_neg (fun e=>hd e.2)]
   have t1:=decide_eq_false hd
   clear hd HDS
   go_wp2
   refine bodyPost_ret (v:=.tuple #[]) (by simp [results,Tryz.results106,go_sem]) rfl ?_
   exact ⟨rfl,oa,oc,by rw [HN.out];exact ST3.out.rm,Chg.of_below ST3.out.hb,by rw [HN.out];exact Newer.refl _ _⟩
  have HY:Hid (ds=(st.add (m1,m2) (L ++ [dg])).push u.fs.length dg):=by show _=_;rw [HDS.out,if_pos ⟨rfl,hd⟩]
  have t1:=decide_eq_true hd
  clear hd HDS
  go_upto_region 6 with (fail)
  clear t1
  have k0:∀ o:WB W3,o.u.cell? ⟨b.R,6,none⟩=some (.map (some b.gt)):=fun o=>(ST3.out.below o.h).rm.cells.2.2.2.2.2.2.1
  have k1:∀ o:WB W3,o.u.cell? ⟨gm,0,none⟩=some (.string m1):=fun o=>(ST3.out.below o.h).bm.cell 0 (by simp)
  have k2:∀ o:WB W3,o.u.cell? ⟨gm,1,none⟩=some (.string m2):=fun o=>(ST3.out.below o.h).bm.cell 1 (by simp)
  have hlk:∀ o:WB W3,(Instr.lookup 115 (.map (some b.gt)) (.agg #[.string m1,.string m2]) false).run Tryz.prog o.u = .ok (.map (some (ig (m1,m2)))) o.u:=fun o=>by
   obtain ⟨n,hm⟩:=(ST3.out.below o.h).rm.mt
   have:=hm.lookup keyM undMMM (zeroMIB o.u) (m1,m2) false
   rw [HLL.out] at this
   exact this
  have hne:Nonempty (WB W3):=⟨⟨W3,Below.refl _ _⟩⟩
  have h0:Below W3.heap.size W3 W3.drew:=(Below.refl _ _).drew
  have ST4:=Lib.hid (ST3.out.below h0)
  refine wp_region_Z (fun w'=>∃ o:WB W3,w' = o.u) 7 (by kernel_rfl) ?_
  change wpAnyZ _ _ _ _ _ _ _ _ _ W3.drew
  generalize W3.drew=V0 at *
  refine wpAnyZ_take 0 rfl (by kernel_rfl) (by kernel_rfl) (fun _ _ _ _ h=>h) ⟨⟨_,h0⟩,rfl⟩ (fun K hK=>?_);go_simp;refine hK _ ?_;clear hK K
  refine wpAnyZ_take 1 rfl (by kernel_rfl) (by kernel_rfl) (fun _ _ _ _ h=>h) ⟨⟨_,h0⟩,rfl⟩ (fun K hK=>?_);go_simp;refine hK _ ?_;clear hK K
  refine wpAnyZ_take 2 rfl (by kernel_rfl) (by kernel_rfl) (fun _ _ _ _ h=>h) ⟨⟨_,h0⟩,rfl⟩ (fun K hK=>?_);go_simp;refine hK _ ?_;clear hK K
  refine wpAnyZ_take 3 rfl (by kernel_rfl) (by kernel_rfl) (fun _ _ _ _ h=>h) ⟨⟨_,h0⟩,rfl⟩ (fun K hK=>?_);go_simp;refine hK _ ?_;clear hK K
  refine wpAnyZ_take 4 rfl (by kernel_rfl) (by kernel_rfl) (fun _ _ _ _ h=>h) ⟨⟨_,h0⟩,rfl⟩ (fun K hK=>?_);go_simp;refine hK _ ?_;clear hK K
  refine wpAnyZ_take 5 rfl (by kernel_rfl) (by kernel_rfl) (fun _ _ _ _ h=>h) ⟨⟨_,h0⟩,rfl⟩ (fun K hK=>?_);go_simp;refine hK _ ?_;clear hK K
  refine wpAnyZ_take 6 rfl (by kernel_rfl) (by kernel_rfl) (fun _ _ _ _ h=>h) ⟨⟨_,h0⟩,rfl⟩ (fun K hK=>?_);go_simp;refine hK _ ?_;clear hK K
  obtain ⟨n0,hmi⟩:=ST4.out.rm.mi (m1,m2) L HLL.out
  refine wpAnyZ_last rfl (by kernel_rfl) ?_
  refine wpList_mapF rfl _ _ _ _ rfl keyInt undMIB (ig (m1,m2)) rfl hmi dg rfl (.bool true) rfl ?_
  intro w7 hm7 hg7 hs7
  go_wp2
  refine wpAnyZ_done (by kernel_rfl) ?_ _
  rw [setF_snoc] at hm7
  have S7:=Lib.hid (ST4.out.rm.putI HLL.out hm7 hg7)
  have C4:Hid (Chg (chD b (ig (m1,m2)) (.slice oa st.T.length oc)) wr V0):=Chg.of_below ST4.out.hb
  have C7:Hid (Chg (chD b (ig (m1,m2)) (.slice oa st.T.length oc)) wr w7):=C4.out.trans (Chg.of_grown (P:=fun q=>q=ig (m1,m2)) hg7 (fun q hq _=>by cases hq;rfl)) (fun q _ hq=>.inl hq)
  clear hm7 hg7 hs7 hmi k0 k1 k2 hlk ST3 ST4 C4 h0 hne
  go_wp2_with fail
  refine (HRE.out _ _ _ _ dg S7.out hT).mono ?_
  rintro e w8 ⟨rfl,oa8,oc8,S8,C8,N8⟩
  have S8:=Lib.hid S8
  have C9:Hid (Chg (chD b (ig (m1,m2)) (.slice oa st.T.length oc)) wr w8):=C7.out.trans C8 (fun q _ hq=>.inr hq)
  have N9:Hid (Newer wr (.slice oa st.T.length oc) (.slice oa8 ((st.add (m1,m2) (L ++ [dg])).push u.fs.length dg).T.length oc8)):=by
   rcases N8 with e | e
   ·exact .inl e
   ·exact .inr (fun q hq=>Nat.le_trans C7.out.sz (e q hq))
  clear C8 N8 C7 S7
  go_wp2
  refine bodyPost_ret (v:=.tuple #[]) (by simp [results,Tryz.results106,go_sem]) rfl ?_
  exact ⟨rfl,oa8,oc8,by rw [HY.out];exact S8.out,C9.out,by rw [HY.out];exact N9.out⟩
end Go.Proofs.YtkbmnfijeknenaaGreatDoor
namespace Go.Proofs.YtkbmnfijeknenaaGreatDoor
open Go.RowKit Go.Unit0 Go.AM

theorem Blk.chg {P:Nat→Prop} {w w':World} {g:Nat} {cs:Array Value} {t:TypeId} (h:Blk w g cs t) (c:Chg P w w') (hp:¬ P g):Blk w' g cs t:=by
 have:=c.eq g h.lt hp
 unfold Blk at *
 rw [this];exact h
theorem iter_mapF {κ κ':Type} [DecidableEq κ] [DecidableEq κ'] {w:World} {r g m:Nat} {enc:κ→Value} {F:κ→Option Value} {left:List (κ × Value)} (hi:IterF w r g enc F m left) {g' n:Nat} {enc':κ'→Value} {F':κ'→Option Value} (h:MapF w g' enc' F' n):r ≠ g':=by
 obtain ⟨l,ar,c,since,c0,seen,h1,h2,h3,h4,h5,h6,h7,h8,_⟩:=hi.ex
 obtain ⟨l',ar',c',k1,_⟩:=h.ex
 rintro rfl
 rw [h8] at k1
 cases k1
theorem storePlace {ops:Array Oper} {rest:List Oper} {o:Oper} {a:Act} {w:World} {Q:Exit→Act→World→Prop} (hgd:o.guard=none) (x y:Operand) (ho:o.op = .store 123 x y)
 (g:Nat) (i j:Int) (hx:a.eval x = .pointer (some ⟨g,0,none⟩)) (hy:a.eval y = .agg #[.int .i64 i,.int .i64 j])
 (old:Array Value) (hg:Blk w g old 123) (hold:old.size=2)
 (h:wpList Tryz.prog ops Q rest (a.put o.dst undef) (w.setRow g #[.int .i64 i,.int .i64 j])):wpList Tryz.prog ops Q (o :: rest) a w :=
 wpList_store_row hgd 123 x y ho g _ hx hy 123 old hg (by kernel_rfl) hold (by simp [Value.oneCell']) h
theorem neqMap (g:Nat) (w:World):(binOp .neq 95 (.map (some g)) (.map none)).run Tryz.prog w = .ok (.bool true) w:=by kernel_rfl
theorem neqNil (w:World):(binOp .neq 95 (.map none) (.map none)).run Tryz.prog w = .ok (.bool false) w:=by kernel_rfl
structure IL (u:Unt) (ha:Option Addr) (hc:Nat) (fa:Option Addr) (fc:Nat) (b:RB) (ig:Str × Str→Nat) (st1 st:RpS) (oa:Option Addr) (oc:Nat) (f q:Int) (X:Str × Str→Str→Prop) (gb:Nat) (cs:Array Value) (t:TypeId) (ri gk:Nat) {κ:Type} [DecidableEq κ] (enc:κ→Value) (F:κ→Option Value) (n:Nat) (left:List (κ × Value)) (w wr:World):Prop where
 rm:RM u ha hc fa fc b ig st oa oc w wr
 it:IterF wr ri gk enc F n left
 iv:RInv u f q X st
 bl:Bal st1 st
 dm:∀ m,(st.tg m).isSome=(st1.tg m).isSome
 rs:st.C=st1.C∧st.vt=st1.vt
 bk:Blk wr gb cs t
section
variable {u:Unt} {ha:Option Addr} {hc:Nat} {fa:Option Addr} {fc:Nat} {b:RB} {ig:Str × Str→Nat} {st1 st:RpS} {oa:Option Addr} {oc:Nat} {f q:Int} {X:Str × Str→Str→Prop} {gb:Nat} {cs:Array Value} {t:TypeId} {ri gk:Nat} {κ:Type} [DecidableEq κ] {enc:κ→Value} {F:κ→Option Value} {n:Nat} {left:List (κ × Value)} {w wr w':World}
theorem RInv.tlen (k:RInv u f q X st):st.T.length≤u.fs.length:=nodup_len _ _ k.td (fun x hx=>by
 have:=(k.rs _ (k.ts _ hx)).lt
 exact ⟨x.toNat,by omega,by omega⟩)
theorem IL.below (k:IL u ha hc fa fc b ig st1 st oa oc f q X gb cs t ri gk enc F n left w wr) (hb:Below wr.heap.size wr w'):IL u ha hc fa fc b ig st1 st oa oc f q X gb cs t ri gk enc F n left w w' :=
 ⟨k.rm.below hb,k.it.below hb,k.iv,k.bl,k.dm,k.rs,k.bk.below hb⟩
theorem IL.weak (k:IL u ha hc fa fc b ig st1 st oa oc f q X gb cs t ri gk enc F n left w wr) {Y:Str × Str→Str→Prop} (h:∀ m c,Y m c→X m c):IL u ha hc fa fc b ig st1 st oa oc f q Y gb cs t ri gk enc F n left w wr :=
 ⟨k.rm,k.it,k.iv.weak (fun m _ _ c _=>h m c),k.bl,k.dm,k.rs,k.bk⟩
theorem IL.next (k:IL u ha hc fa fc b ig st1 st oa oc f q X gb cs t ri gk enc F n left w wr) {left':List (κ × Value)} (hi:IterF w' ri gk enc F n left') (hg:wr.grownBy w' (some ri)) (hlo:w.heap.size≤ri):IL u ha hc fa fc b ig st1 st oa oc f q X gb cs t ri gk enc F n left' w w':=by
 obtain ⟨E,e1,e2⟩:=k.rm.me
 have hne:∀ {κ':Type} [DecidableEq κ'] {g':Nat} {enc':κ'→Value} {F':κ'→Option Value},MapE wr g' enc' F'→MapE w' g' enc' F':=fun ⟨n',h⟩=>⟨n',h.grown hg (fun e=>iter_mapF k.it h (by simpa using e.symm))⟩
 exact ⟨⟨k.rm.hb.grown hg k.rm.hb.size (fun q hq=>by cases hq;exact hlo),k.rm.rb.grown hg (blk_iter k.rm.rb k.it),k.rm.mr.grown hg (fun e=>iter_mapF k.it k.rm.mr (by simpa using e.symm)),hne k.rm.mc,hne k.rm.mt,hne k.rm.mv,⟨E,hne e1,e2⟩,fun m L e=>hne (k.rm.mi m L e),k.rm.ow.kept hg (.inr (fun e=>owns_iter k.rm.ow k.it e.symm)),k.rm.od,k.rm.ih,k.rm.ij⟩,hi,k.iv,k.bl,k.dm,k.rs,k.bk.grown hg (blk_iter k.bk k.it)⟩
theorem IL.disp (k:IL u ha hc fa fc b ig st1 st oa oc f q X gb cs t ri gk enc F n left w wr) {m:Str × Str} {L:List Int} {c:Str} (hL:st.tg m=some L) (hcc:c ∈ st.C) (hgk:gk=b.gt ∨ gk=b.gc) {oa8:Option Addr} {oc8:Nat} (S8:RM u ha hc fa fc b ig (st.disp u m L c) oa8 oc8 w w') (C8:Chg (chD b (ig m) (.slice oa st.T.length oc)) wr w') (h1:t ≠ 119) (h2:t ≠ 3) :
 IL u ha hc fa fc b ig st1 (st.disp u m L c) oa8 oc8 f q (fun m' c'=>X m' c' ∨ (m' = m∧c' = c)) gb cs t ri gk enc F n left w w':=by
 have od:=k.rm.od
 have hi:=k.rm.ih m (by rw [hL];rfl)
 obtain ⟨n0,m0⟩:=k.rm.mi m L hL
 obtain ⟨r1,r2,r3⟩:=disp_rest u st m L c
 have n1:¬ chD b (ig m) (.slice oa st.T.length oc) gk:=by
  rintro (e | e | e | e)
  ·rcases hgk with rfl | rfl <;> omega
  ·rcases hgk with rfl | rfl <;> omega
  ·rcases hgk with rfl | rfl <;> omega
  ·exact owns_mapF k.rm.ow k.it.map e.symm
 have n2:¬ chD b (ig m) (.slice oa st.T.length oc) ri:=by
  rintro (e | e | e | e)
  ·exact iter_mapF k.it m0 e
  ·exact blk_iter k.rm.rb k.it (by rw [e])
  ·exact iter_mapF k.it k.rm.mr e
  ·exact owns_iter k.rm.ow k.it e.symm
 have n3:¬ chD b (ig m) (.slice oa st.T.length oc) gb:=by
  rintro (e | e | e | e)
  ·exact blk_mapF k.bk m0 (by rw [e])
  ·exact blk_apart k.bk k.rm.rb h1 (by rw [e])
  ·exact blk_mapF k.bk k.rm.mr (by rw [e])
  ·exact owns_ne k.rm.ow k.bk h2 e.symm
 exact ⟨S8,k.it.at (C8.eq _ k.it.map.lt n1) (C8.eq _ k.it.lt n2),k.iv.disp hL hcc,k.bl.trans (disp_bal ..),fun m'=>(disp_dom hL m').trans (k.dm m'),⟨r1.trans k.rs.1,r2.trans k.rs.2⟩,k.bk.chg C8 n3⟩
end
structure IS (u:Unt) (ha:Option Addr) (hc:Nat) (fa:Option Addr) (fc:Nat) (b:RB) (ig:Str × Str→Nat) (st:RpS) (oa:Option Addr) (oc:Nat) (gp:Nat) (f q:Int) (gi:Nat) (x:Ins) (ga:Option Addr) (gc:Nat) (w wr:World):Prop where
 rm:RM u ha hc fa fc b ig st oa oc w wr
 bp:Blk wr gp #[.int .i64 f,.int .i64 q] 123
 bi:Blk wr gi #[.int .i64 x.op,.int .i64 x.dst,.int .i64 x.a,.int .i64 x.b,.int .i64 x.n,.string x.cls,.string x.name,.slice ga x.args.length gc,.int .i64 x.goto,.int .i64 x.catch_] 57
theorem IS.below {u:Unt} {ha:Option Addr} {hc:Nat} {fa:Option Addr} {fc:Nat} {b:RB} {ig:Str × Str→Nat} {st:RpS} {oa:Option Addr} {oc:Nat} {gp:Nat} {f q:Int} {gi:Nat} {x:Ins} {ga:Option Addr} {gc:Nat} {w wr w':World} (k:IS u ha hc fa fc b ig st oa oc gp f q gi x ga gc w wr) (hb:Below wr.heap.size wr w'):IS u ha hc fa fc b ig st oa oc gp f q gi x ga gc w w' :=
 ⟨k.rm.below hb,k.bp.below hb,k.bi.below hb⟩
theorem IS.cells {u:Unt} {ha:Option Addr} {hc:Nat} {fa:Option Addr} {fc:Nat} {b:RB} {ig:Str × Str→Nat} {st:RpS} {oa:Option Addr} {oc:Nat} {gp:Nat} {f q:Int} {gi:Nat} {x:Ins} {ga:Option Addr} {gc:Nat} {w wr:World} (k:IS u ha hc fa fc b ig st oa oc gp f q gi x ga gc w wr) :
 wr.cell? ⟨gp,0,none⟩=some (.int .i64 f)∧wr.cell? ⟨gp,1,none⟩=some (.int .i64 q)∧wr.cell? ⟨gi,0,none⟩=some (.int .i64 x.op)∧wr.cell? ⟨gi,5,none⟩=some (.string x.cls)∧wr.cell? ⟨gi,6,none⟩=some (.string x.name) :=
 ⟨k.bp.cell 0 (by simp),k.bp.cell 1 (by simp),k.bi.cell 0 (by simp),k.bi.cell 5 (by simp),k.bi.cell 6 (by simp)⟩
def IPostR (u:Unt) (ha:Option Addr) (hc:Nat) (fa:Option Addr) (fc:Nat) (b:RB) (st:RpS) (f q:Int) (w:World) (e:Ending) (w':World):Prop :=
 e = .returned (.tuple #[])∧∃ ig st' oa oc,RM u ha hc fa fc b ig st' oa oc w w'∧RInv u f (q + 1) (fun _ _=>True) st'∧Bal st st'
set_option maxRecDepth 100000 in
set_option maxHeartbeats 16000000 in
theorem instrP {u:Unt} {ha:Option Addr} {hc:Nat} {fa:Option Addr} {fc:Nat} {b:RB} {ig:Str × Str→Nat} {st:RpS} {oa:Option Addr} {oc:Nat} {w wr:World} (f q:Int) (x:Ins) (ga:Option Addr) (gc:Nat) (k:RM u ha hc fa fc b ig st oa oc w wr) (iv:RInv u f q (fun _ _=>True) st) (hi:InsAt u.fs f q x) (h:ClssAt w ha u.h) (hf:FncsAt w fa u.fs) (hbd:BndU u) (hl:u.fs.length≤1000) :
 Calls Tryz.prog 62 #[.pointer (some ⟨b.R,0,none⟩),.agg #[.int .i64 f,.int .i64 q],inV x ga gc] wr (IPostR u ha hc fa fc b st f q w):=by
 have HFN:Hid (∀ (w1:World),FncsAt w1 fa u.fs→Calls Tryz.prog 49 #[unV u ha hc fa fc,.string x.cls,.string x.name] w1 (Ret w1 (.int .i64 (fnI u.fs x.cls x.name)))):=fun w1 h1=>irFind u ha hc fa fc x.cls x.name w1 h1 (by have:=hbd.l;omega)
 have HRE:Hid (∀ (st':RpS) (oa':Option Addr) (oc':Nat) (w1:World) (f:Int),RM u ha hc fa fc b ig st' oa' oc' w w1→st'.T.length≤1000→Calls Tryz.prog 61 #[.pointer (some ⟨b.R,0,none⟩),.int .i64 f] w1 (RPost u ha hc fa fc b ig (st'.push u.fs.length f) (chR b (.slice oa' st'.T.length oc')) (.slice oa' st'.T.length oc') w w1)):=fun st' oa' oc' w1 f k1 h1=>reachRP f k1 hl h1
 have HDI:Hid (∀ (ig':Str × Str→Nat) (st':RpS) (oa':Option Addr) (oc':Nat) (w1:World) (m:Str × Str) (L:List Int) (c:Str),RM u ha hc fa fc b ig' st' oa' oc' w w1→st'.tg m=some L→st'.T.length≤1000→Calls Tryz.prog 106 #[.pointer (some ⟨b.R,0,none⟩),.agg #[.string m.1,.string m.2],.string c] w1 (RPost u ha hc fa fc b ig' (st'.disp u m L c) (chD b (ig' m) (.slice oa' st'.T.length oc')) (.slice oa' st'.T.length oc') w w1)):=fun ig' st' oa' oc' w1 m L c k1 h1 h2=>dispatchP m L c k1 h1 h hf hbd hl h2
 have HM:Hid (ClssAt w ha u.h∧FncsAt w fa u.fs):=⟨h,hf⟩
 have HIV:=Lib.hid iv
 have HIA:=Lib.hid hi
 have hT:st.T.length≤1000:=Nat.le_trans iv.tlen hl
 have HTL:Hid (∀ (f q:Int) (X:Str × Str→Str→Prop) (st':RpS),RInv u f q X st'→st'.T.length≤1000):=fun f q X st' k=>Nat.le_trans k.tlen hl
 have ST:Hid (IS u ha hc fa fc b ig st oa oc wr.heap.size f q (wr.heap.size + 1) x ga gc w ((wr.alloc (.cells #[.int .i64 f,.int .i64 q] 123)).alloc (.cells #[.int .i64 x.op,.int .i64 x.dst,.int .i64 x.a,.int .i64 x.b,.int .i64 x.n,.string x.cls,.string x.name,.slice ga x.args.length gc,.int .i64 x.goto,.int .i64 x.catch_] 57))) :=
  ⟨k.below (two_below ..),(blk_new ..).below (one_below ..),blk_new2 ..⟩
 have hlo:w.heap.size≤wr.heap.size:=k.hb.size
 have HZ:Hid (((wr.alloc (.cells #[.int .i64 f,.int .i64 q] 123)).alloc (.cells #[.int .i64 x.op,.int .i64 x.dst,.int .i64 x.a,.int .i64 x.b,.int .i64 x.n,.string x.cls,.string x.name,.slice ga x.args.length gc,.int .i64 x.goto,.int .i64 x.catch_] 57)).heap.size=wr.heap.size + 2):=by show _=_;simp
 clear h hf hbd k iv hi
 unfold unV inV at *
 generalize hcl:x.cls=xc at *
 generalize hnm:x.name=xn at *
 have HXC:=Lib.hid hcl
 have HXN:=Lib.hid hnm
 clear hcl hnm
 go_enter Tryz.func62,Tryz.ntmps62
 go_upto_region 1 with (fail)
 generalize (wr.alloc _).alloc _=W at *
 have hlo2:w.heap.size≤W.heap.size:=by rw [HZ.out];omega
 clear HZ
 generalize wr.heap.size + 1=gi at *
 generalize wr.heap.size=gp at *
 obtain ⟨p0,p1,i0,i5,i6⟩:=ST.out.cells
 rw [HXC.out] at i5
 rw [HXN.out] at i6
 cases h6:(x.op == 6)
 case true =>
  have H6:Hid (x.op=6):=by show x.op=6;simpa using h6
  go_upto_region 3 with (fail)
  clear p0 p1 i0 i5 i6 HFN HRE
  have k0:∀ o:WB W,o.u.cell? ⟨b.R,5,none⟩=some (.map (some b.gc)):=fun o=>(ST.out.below o.h).rm.cells.2.2.2.2.2.1
  have k1:∀ o:WB W,o.u.cell? ⟨gi,5,none⟩=some (.string xc):=fun o=>by rw [← HXC.out];exact (ST.out.below o.h).cells.2.2.2.1
  have hne:Nonempty (WB W):=⟨⟨W,Below.refl _ _⟩⟩
  have h0:Below W.heap.size W W.drew:=(Below.refl _ _).drew
  by_cases hin:xc ∈ st.C
  case pos =>
   have hlk:∀ o:WB W,(Instr.lookup 114 (.map (some b.gc)) (.string xc) false).run Tryz.prog o.u = .ok (.bool true) o.u:=fun o=>by
    obtain ⟨n,hm⟩:=(ST.out.below o.h).rm.mc
    have:=hm.lookup keyStr undMSB (zeroBool o.u) xc false
    rw [show setT st.C xc=some (.bool true) from setT_t hin] at this
    exact this
   have INV:=Lib.hid (HIV.out.made0 HIA.out H6.out (by rw [HXC.out];exact hin))
   have ST1:=Lib.hid (ST.out.below h0)
   refine wp_region_Y (fun w'=>∃ o:WB W,w' = o.u) (by kernel_rfl) ?_
   change wpAnyY _ _ _ _ _ _ _ _ W.drew
   generalize W.drew=V0 at *
   refine wpAnyY_take 0 rfl (by kernel_rfl) (fun _ _ _ _ h=>h) ⟨⟨_,h0⟩,rfl⟩ (fun K hK=>?_);go_simp;refine hK _ ?_;clear hK K
   refine wpAnyY_take 1 rfl (by kernel_rfl) (fun _ _ _ _ h=>h) ⟨⟨_,h0⟩,rfl⟩ (fun K hK=>?_);go_simp;refine hK _ ?_;clear hK K
   refine wpAnyY_take 2 rfl (by kernel_rfl) (fun _ _ _ _ h=>h) ⟨⟨_,h0⟩,rfl⟩ (fun K hK=>?_);go_simp;refine hK _ ?_;clear hK K
   refine wpAnyY_take 3 rfl (by kernel_rfl) (fun _ _ _ _ h=>h) ⟨⟨_,h0⟩,rfl⟩ (fun K hK=>?_);go_simp;refine hK _ ?_;clear hK K
   refine wpAnyY_take 4 rfl (by kernel_rfl) (fun _ _ _ _ h=>h) ⟨⟨_,h0⟩,rfl⟩ (fun K hK=>?_);go_simp;refine hK _ ?_;clear hK K
   refine wpAnyY_take 5 rfl (by kernel_rfl) (fun _ _ _ _ h=>h) ⟨⟨_,h0⟩,rfl⟩ (fun K hK=>?_);go_simp;refine hK _ ?_;clear hK K
   refine wpAnyY_take 6 rfl (by kernel_rfl) (fun _ _ _ _ h=>h) ⟨⟨_,h0⟩,rfl⟩ (fun K hK=>?_);go_simp;refine hK _ ?_;clear hK K
   refine wpAnyY_done (by kernel_rfl) ?_ _
   clear k0 k1 hlk ST hin
   go_wp2
   refine bodyPost_ret (v:=.tuple #[]) (by simp [results,Tryz.results62,go_sem]) rfl ?_
   exact ⟨rfl,ig,st,oa,oc,ST1.out.rm,INV.out,Bal.refl _⟩
  have hlk:∀ o:WB W,(Instr.lookup 114 (.map (some b.gc)) (.string xc) false).run Tryz.prog o.u = .ok (.bool false) o.u:=fun o=>by
   obtain ⟨n,hm⟩:=(ST.out.below o.h).rm.mc
   have:=hm.lookup keyStr undMSB (zeroBool o.u) xc false
   rw [show setT st.C xc=none from setT_f hin] at this
   exact this
  have ST1:=Lib.hid (ST.out.below h0)
  refine wp_region_Y (fun w'=>∃ o:WB W,w' = o.u) (by kernel_rfl) ?_
  change wpAnyY _ _ _ _ _ _ _ _ W.drew
  have hV:W.heap.size≤W.drew.heap.size:=h0.size
  generalize W.drew=V0 at *
  refine wpAnyY_take 0 rfl (by kernel_rfl) (fun _ _ _ _ h=>h) ⟨⟨_,h0⟩,rfl⟩ (fun K hK=>?_);go_simp;refine hK _ ?_;clear hK K
  refine wpAnyY_take 1 rfl (by kernel_rfl) (fun _ _ _ _ h=>h) ⟨⟨_,h0⟩,rfl⟩ (fun K hK=>?_);go_simp;refine hK _ ?_;clear hK K
  refine wpAnyY_take 2 rfl (by kernel_rfl) (fun _ _ _ _ h=>h) ⟨⟨_,h0⟩,rfl⟩ (fun K hK=>?_);go_simp;refine hK _ ?_;clear hK K
  refine wpAnyY_take 3 rfl (by kernel_rfl) (fun _ _ _ _ h=>h) ⟨⟨_,h0⟩,rfl⟩ (fun K hK=>?_);go_simp;refine hK _ ?_;clear hK K
  refine wpAnyY_take 4 rfl (by kernel_rfl) (fun _ _ _ _ h=>h) ⟨⟨_,h0⟩,rfl⟩ (fun K hK=>?_);go_simp;refine hK _ ?_;clear hK K
  refine wpAnyY_take 5 rfl (by kernel_rfl) (fun _ _ _ _ h=>h) ⟨⟨_,h0⟩,rfl⟩ (fun K hK=>?_);go_simp;refine hK _ ?_;clear hK K
  refine wpAnyY_take 6 rfl (by kernel_rfl) (fun _ _ _ _ h=>h) ⟨⟨_,h0⟩,rfl⟩ (fun K hK=>?_);go_simp;refine hK _ ?_;clear hK K
  refine wpAnyY_done (by kernel_rfl) ?_ _
  clear k0 k1 hlk ST hin hne h0
  go_upto_region 4 with (fail)
  have k0:∀ o:WB V0,o.u.cell? ⟨b.R,5,none⟩=some (.map (some b.gc)):=fun o=>(ST1.out.below o.h).rm.cells.2.2.2.2.2.1
  have k1:∀ o:WB V0,o.u.cell? ⟨gi,5,none⟩=some (.string xc):=fun o=>by rw [← HXC.out];exact (ST1.out.below o.h).cells.2.2.2.1
  have hne:Nonempty (WB V0):=⟨⟨V0,Below.refl _ _⟩⟩
  have h0:Below V0.heap.size V0 V0.drew:=(Below.refl _ _).drew
  have ST2:=Lib.hid (ST1.out.below h0)
  refine wp_region_Z (fun w'=>∃ o:WB V0,w' = o.u) 6 (by kernel_rfl) ?_
  change wpAnyZ _ _ _ _ _ _ _ _ _ V0.drew
  generalize V0.drew=V1 at *
  refine wpAnyZ_take 0 rfl (by kernel_rfl) (by kernel_rfl) (fun _ _ _ _ h=>h) ⟨⟨_,h0⟩,rfl⟩ (fun K hK=>?_);go_simp;refine hK _ ?_;clear hK K
  refine wpAnyZ_take 1 rfl (by kernel_rfl) (by kernel_rfl) (fun _ _ _ _ h=>h) ⟨⟨_,h0⟩,rfl⟩ (fun K hK=>?_);go_simp;refine hK _ ?_;clear hK K
  refine wpAnyZ_take 2 rfl (by kernel_rfl) (by kernel_rfl) (fun _ _ _ _ h=>h) ⟨⟨_,h0⟩,rfl⟩ (fun K hK=>?_);go_simp;refine hK _ ?_;clear hK K
  refine wpAnyZ_take 3 rfl (by kernel_rfl) (by kernel_rfl) (fun _ _ _ _ h=>h) ⟨⟨_,h0⟩,rfl⟩ (fun K hK=>?_);go_simp;refine hK _ ?_;clear hK K
  refine wpAnyZ_take 4 rfl (by kernel_rfl) (by kernel_rfl) (fun _ _ _ _ h=>h) ⟨⟨_,h0⟩,rfl⟩ (fun K hK=>?_);go_simp;refine hK _ ?_;clear hK K
  refine wpAnyZ_take 5 rfl (by kernel_rfl) (by kernel_rfl) (fun _ _ _ _ h=>h) ⟨⟨_,h0⟩,rfl⟩ (fun K hK=>?_);go_simp;refine hK _ ?_;clear hK K
  obtain ⟨n0,hmc⟩:=ST2.out.rm.mc
  refine wpAnyZ_last rfl (by kernel_rfl) ?_
  refine wpList_mapF rfl _ _ _ _ rfl keyStr undMSB b.gc rfl hmc xc rfl (.bool true) rfl ?_
  intro w3 hm3 hg3 hs3
  go_wp2
  refine wpAnyZ_done (by kernel_rfl) ?_ _
  rw [setT_snoc] at hm3
  have S3:=Lib.hid (ST2.out.rm.putC hm3 hg3)
  have B3:=Lib.hid (ST2.out.bi.grown hg3 (blk_mapF ST2.out.bi hmc))
  have hw3:w.heap.size≤w3.heap.size:=S3.out.hb.size
  have INV0:=HIV.out.made HIA.out H6.out
  rw [HXC.out] at INV0
  have INV:=Lib.hid INV0
  clear k0 k1 ST1 ST2 hne h0 hmc hm3 hg3 hs3 INV0 hV hlo2
  have HST:Hid (∀ st',st' = ({ st with C:=st.C ++ [xc] }:RpS)→st'.T=st.T∧xc ∈ st'.C∧Bal st st'):=fun st' e=>by subst e;exact ⟨rfl,by simp,⟨Nat.le_refl _,rfl⟩⟩
  generalize hst1:({ st with C:=st.C ++ [xc] }:RpS)=st1 at *
  have HS1:=Lib.hid (HST.out st1 rfl)
  clear hst1 HST
  obtain ⟨z0,z1,z2,z3,z4,z5,z6,z7,z8⟩:=S3.out.cells
  obtain ⟨nt,hmt⟩:=S3.out.mt
  obtain ⟨Fm,hFm⟩:∃ Fm:Str × Str→Option Value,Fm=fun m=>(st1.tg m).map (fun _=>Value.map (some (ig m))):=⟨_,rfl⟩
  have HFM:Hid (∀ m v,Fm m=some v→(st1.tg m).isSome=true):=fun m v e=>by
   rw [hFm] at e
   cases h:st1.tg m with
   | none=>simp only [h] at e;cases e
   | some _=>rfl
  have hmt2:MapF w3 b.gt encM Fm nt:=by rw [hFm];exact hmt
  go_wp2_with (at_range;refine wpList_rangeF rfl _ _ rfl undMMM b.gt rfl hmt2 ?_;intro w4 left0 hit hall hln hb4 hs4)
  have R0:Hid (IL u ha hc fa fc b ig st1 st1 oa oc f q (fun m c=>c ≠ xc ∨ m ∈ ([]:List (Str × Str))) gi #[.int .i64 x.op,.int .i64 x.dst,.int .i64 x.a,.int .i64 x.b,.int .i64 x.n,.string x.cls,.string x.name,.slice ga x.args.length gc,.int .i64 x.goto,.int .i64 x.catch_] 57 w3.heap.size b.gt encM Fm nt left0 w w4) :=
   ⟨S3.out.below hb4,hit,INV.out.weak (fun m L _ c _ hy=>by rcases hy with hy | hy;exact hy;cases hy),Bal.refl _,fun _=>rfl,⟨rfl,rfl⟩,B3.out.below hb4⟩
  have HALL:Hid (∀ m,(st1.tg m).isSome=true→m ∈ left0.map (·.1)):=fun m hm=>by
   obtain ⟨v,hv⟩:=Option.isSome_iff_exists.1 hm
   exact List.mem_map.2 ⟨(m,.map (some (ig m))),hall m _ (by rw [hFm];simp only [hv];rfl),rfl⟩
  have HC1:Hid (xc ∈ st1.C):=HS1.out.2.1
  have HB1:Hid (Bal st st1):=HS1.out.2.2
  clear hFm hit hall hln hb4 hs4 hmt hmt2 S3 B3 INV z0 z1 z2 z3 z4 z5 z6 z7 z8 HS1 HIV hT
  generalize w3.heap.size=ri at *
  go_frame
  go_loopw [] (fun wr=>∃ (left:List ((Str × Str) × Value)) (done:List (Str × Str)) (st2:RpS) (oa:Option Addr) (oc:Nat),Hid (IL u ha hc fa fc b ig st1 st2 oa oc f q (fun m c=>c ≠ xc ∨ m ∈ done) gi #[.int .i64 x.op,.int .i64 x.dst,.int .i64 x.a,.int .i64 x.b,.int .i64 x.n,.string x.cls,.string x.name,.slice ga x.args.length gc,.int .i64 x.goto,.int .i64 x.catch_] 57 ri b.gt encM Fm nt left w wr)∧Hid ((done ++ left.map (·.1)).Perm (left0.map (·.1)))) (fun wr=>leftN wr ri)
  case atStart=>exact ⟨left0,[],st1,oa,oc,R0.out,List.Perm.refl _⟩
  case round =>
   clear R0
   obtain ⟨left,done,st2,oa,oc,R,PM⟩:=hrel
   go_wp2_with (at_next;refine wpList_nextF rfl _ rfl ri b.gt left rfl R.out.it ?_ ?_)
   ·intro h0
    subst h0
    have INV:Hid (RInv u f (q + 1) (fun _ _=>True) st2):=R.out.iv.made1 HIA.out H6.out (by rw [HXC.out,R.out.rs.1];exact HC1.out) (fun m L hm c hc=>.inr (by
     have h:=PM.out
     rw [List.map_nil,List.append_nil] at h
     exact h.mem_iff.2 (HALL.out m (by rw [← R.out.dm];rw [hm];rfl))))
    have BL:=Lib.hid (HB1.out.trans R.out.bl)
    have S9:=Lib.hid R.out.rm
    clear R PM
    go_wp2
    refine bodyPost_ret (v:=.tuple #[]) (by simp [results,Tryz.results62,go_sem]) rfl ?_
    exact ⟨rfl,ig,st2,oa,oc,S9.out,INV.out,BL.out⟩
   ·intro m1 m2 pv j w4 hp hF hit4 hg4 hs4 hen
    have PM2:=Lib.hid (perm_next PM.out hp)
    have hel:=(perm_erase hp).length_eq
    have hm4:=R.out.it.leftN
    have hlr:w.heap.size≤ri:=by omega
    have R4:=Lib.hid (R.out.next hit4 hg4 hlr)
    obtain ⟨L,hL⟩:∃ L,st2.tg (m1,m2)=some L:=by
     refine Option.isSome_iff_exists.1 ?_
     rw [R.out.dm]
     exact HFM.out _ _ hF
    have HL:=Lib.hid hL
    have hT2:=HTL.out _ _ _ _ R.out.iv
    clear R PM hF hit4 hg4 hs4 hp hL
    try simp only [encM] at hen
    have BZ:Hid (Blk (w4.alloc (.cells #[.string ⟨#[]⟩,.string ⟨#[]⟩] 102)) w4.heap.size _ 102):=blk_new ..
    have hsz:w4.heap.size≤w4.heap.size:=Nat.le_refl _
    go_upto_region 8 with (refine storeMeth rfl _ _ rfl w4.heap.size _ _ rfl rfl _ BZ.out rfl ?_)
    have HB5:=Lib.hid (below_row (one_below w4 (.cells #[.string ⟨#[]⟩,.string ⟨#[]⟩] 102)) hsz #[.string m1,.string m2])
    have B5:=Lib.hid (BZ.out.setRow #[.string m1,.string m2])
    have R5:=Lib.hid (R4.out.below HB5.out)
    clear R4 BZ HB5 hsz hen
    generalize (w4.alloc _).setRow w4.heap.size _=W5 at *
    generalize w4.heap.size=n5 at *
    have y0:=B5.out.cell 0 (by simp)
    have y1:=B5.out.cell 1 (by simp)
    have i5:=R5.out.bk.cell 5 (by simp)
    simp only [List.getElem_toArray,List.getElem_cons_zero,List.getElem_cons_succ] at y0 y1 i5
    rw [HXC.out] at i5
    go_wp2_with fail
    refine (HDI.out ig st2 oa oc _ (m1,m2) L xc R5.out.rm HL.out hT2).mono ?_
    rintro e w8 ⟨rfl,oa8,oc8,S8,C8,N8⟩
    have R8:=Lib.hid ((R5.out.disp HL.out (by rw [R5.out.rs.1];exact HC1.out) (.inl rfl) S8 C8 (by decide) (by decide)).weak (Y:=fun m c=>c ≠ xc ∨ m ∈ done ++ [(m1,m2)]) (fun m c hy=>by
     rcases hy with hy | hy
     ·exact .inl (.inl hy)
     ·rcases List.mem_append.1 hy with hy | hy
      ·exact .inl (.inr hy)
      ·by_cases e:c=xc
       ·exact .inr ⟨List.mem_singleton.1 hy,e⟩
       ·exact .inl (.inl e)))
    clear S8 C8 N8 R5 B5 y0 y1 i5
    have hm8:=R8.out.it.leftN
    go_wp2
    go_roundw
    case rel=>exact ⟨left.eraseIdx j,done ++ [(m1,m2)],_,oa8,oc8,R8.out,PM2.out⟩
    case measure =>
     rw [hm8,hm4]
     simp at hel
     omega
 case false =>
 cases h10:(x.op == 10)
 case true =>
  have H10:Hid (x.op=10):=by show x.op=10;simpa using h10
  go_upto_region 10 with (fail)
  clear p0 p1 i0 i5 i6 HDI
  have k0:∀ o:WB W,o.u.cell? ⟨b.R,0,none⟩=some (.slice ha u.h.length hc):=fun o=>(ST.out.below o.h).rm.cells.1
  have k1:∀ o:WB W,o.u.cell? ⟨b.R,1,none⟩=some (.slice fa u.fs.length fc):=fun o=>(ST.out.below o.h).rm.cells.2.1
  have k2:∀ o:WB W,o.u.cell? ⟨b.R,2,none⟩=some (.int .i64 u.main):=fun o=>(ST.out.below o.h).rm.cells.2.2.1
  have k3:∀ o:WB W,o.u.cell? ⟨gi,5,none⟩=some (.string xc):=fun o=>by rw [← HXC.out];exact (ST.out.below o.h).cells.2.2.2.1
  have k4:∀ o:WB W,o.u.cell? ⟨gi,6,none⟩=some (.string xn):=fun o=>by rw [← HXN.out];exact (ST.out.below o.h).cells.2.2.2.2
  have hne:Nonempty (WB W):=⟨⟨W,Below.refl _ _⟩⟩
  have HI0:=Lib.hid (HIV.out.stat0 HIA.out H10.out)
  have HI1:=Lib.hid (HIV.out.stat HIA.out H10.out)
  rw [HXC.out,HXN.out] at HI0 HI1
  generalize fnI u.fs xc xn=g at *
  refine wp_region_WB W (by kernel_rfl) ?_
  repeat (go_big_quiet_step ((rename_i o;exact (HFN.out _ (HM.out.2.below (ST.out.below o.h).rm.hb)).mono (fun _ _ h=>Ret.inB h))))
  refine wpQuiet_nil ?_
  intro _ hw'
  obtain ⟨o,rfl⟩:=hw'
  have ST1:=Lib.hid (ST.out.below o.h)
  clear k0 k1 k2 k3 k4 ST hne HFN
  generalize o.u=W1 at *
  by_cases hg:0≤g
  case neg =>
   have INV:=Lib.hid (HI0.out hg)
   have t1:=decide_eq_false hg
   clear hg HI0 HI1
   go_wp2
   refine bodyPost_ret (v:=.tuple #[]) (by simp [results,Tryz.results62,go_sem]) rfl ?_
   exact ⟨rfl,ig,st,oa,oc,ST1.out.rm,INV.out,Bal.refl _⟩
  have INV:=Lib.hid (HI1.out hg)
  have t1:=decide_eq_true hg
  clear hg HI0 HI1
  go_upto_region 12 with (fail)
  clear t1
  have k0:∀ o:WB W1,o.u.cell? ⟨b.R,8,none⟩=some (.map (some b.ge)):=fun o=>(ST1.out.below o.h).rm.cells.2.2.2.2.2.2.2.2
  have k1:∀ o:WB W1,o.u.cell? ⟨gp,0,none⟩=some (.int .i64 f):=fun o=>(ST1.out.below o.h).cells.1
  have k2:∀ o:WB W1,o.u.cell? ⟨gp,1,none⟩=some (.int .i64 q):=fun o=>(ST1.out.below o.h).cells.2.1
  have hne:Nonempty (WB W1):=⟨⟨W1,Below.refl _ _⟩⟩
  have h0:Below W1.heap.size W1 W1.drew:=(Below.refl _ _).drew
  have ST2:=Lib.hid (ST1.out.below h0)
  refine wp_region_Z (fun w'=>∃ o:WB W1,w' = o.u) 10 (by kernel_rfl) ?_
  change wpAnyZ _ _ _ _ _ _ _ _ _ W1.drew
  generalize W1.drew=V1 at *
  refine wpAnyZ_take 0 rfl (by kernel_rfl) (by kernel_rfl) (fun _ _ _ _ h=>h) ⟨⟨_,h0⟩,rfl⟩ (fun K hK=>?_);go_simp;refine hK _ ?_;clear hK K
  refine wpAnyZ_take 1 rfl (by kernel_rfl) (by kernel_rfl) (fun _ _ _ _ h=>h) ⟨⟨_,h0⟩,rfl⟩ (fun K hK=>?_);go_simp;refine hK _ ?_;clear hK K
  refine wpAnyZ_take 2 rfl (by kernel_rfl) (by kernel_rfl) (fun _ _ _ _ h=>h) ⟨⟨_,h0⟩,rfl⟩ (fun K hK=>?_);go_simp;refine hK _ ?_;clear hK K
  refine wpAnyZ_take 3 rfl (by kernel_rfl) (by kernel_rfl) (fun _ _ _ _ h=>h) ⟨⟨_,h0⟩,rfl⟩ (fun K hK=>?_);go_simp;refine hK _ ?_;clear hK K
  refine wpAnyZ_take 4 rfl (by kernel_rfl) (by kernel_rfl) (fun _ _ _ _ h=>h) ⟨⟨_,h0⟩,rfl⟩ (fun K hK=>?_);go_simp;refine hK _ ?_;clear hK K
  refine wpAnyZ_take 5 rfl (by kernel_rfl) (by kernel_rfl) (fun _ _ _ _ h=>h) ⟨⟨_,h0⟩,rfl⟩ (fun K hK=>?_);go_simp;refine hK _ ?_;clear hK K
  refine wpAnyZ_take 6 rfl (by kernel_rfl) (by kernel_rfl) (fun _ _ _ _ h=>h) ⟨⟨_,h0⟩,rfl⟩ (fun K hK=>?_);go_simp;refine hK _ ?_;clear hK K
  refine wpAnyZ_take 7 rfl (by kernel_rfl) (by kernel_rfl) (fun _ _ _ _ h=>h) ⟨⟨_,h0⟩,rfl⟩ (fun K hK=>?_);go_simp;refine hK _ ?_;clear hK K
  refine wpAnyZ_take 8 rfl (by kernel_rfl) (by kernel_rfl) (fun _ _ _ _ h=>h) ⟨⟨_,h0⟩,rfl⟩ (fun K hK=>?_);go_simp;refine hK _ ?_;clear hK K
  refine wpAnyZ_take 9 rfl (by kernel_rfl) (by kernel_rfl) (fun _ _ _ _ h=>h) ⟨⟨_,h0⟩,rfl⟩ (fun K hK=>?_);go_simp;refine hK _ ?_;clear hK K
  obtain ⟨E,⟨n0,hme⟩,hE⟩:=ST2.out.rm.me
  refine wpAnyZ_last rfl (by kernel_rfl) ?_
  refine wpList_mapF rfl _ _ _ _ rfl keyC undMCB b.ge rfl hme (f,q,g) rfl (.bool true) rfl ?_
  intro w3 hm3 hg3 hs3
  go_wp2
  refine wpAnyZ_done (by kernel_rfl) ?_ _
  have S3:=Lib.hid (ST2.out.rm.putE hE hme hm3 hg3)
  clear k0 k1 k2 ST1 ST2 hne h0 hme hm3 hg3 hs3 hE
  go_wp2_with fail
  refine (HRE.out _ _ _ _ g S3.out hT).mono ?_
  rintro e w8 ⟨rfl,oa8,oc8,S8,C8,N8⟩
  have S8:=Lib.hid S8
  clear C8 N8 S3
  go_wp2
  refine bodyPost_ret (v:=.tuple #[]) (by simp [results,Tryz.results62,go_sem]) rfl ?_
  exact ⟨rfl,ig,_,oa8,oc8,S8.out,INV.out,⟨(push_bal u.fs.length { st with ed:=fun e=>e=⟨f,q,g⟩ ∨ st.ed e } g).le,(push_bal u.fs.length { st with ed:=fun e=>e=⟨f,q,g⟩ ∨ st.ed e } g).eq⟩⟩
 case false =>
 cases h9:(x.op == 9)
 case false =>
  have INV:=Lib.hid (HIV.out.other HIA.out (by simpa using h6) (by simpa using h9) (by simpa using h10))
  go_wp2
  refine bodyPost_ret (v:=.tuple #[]) (by simp [results,Tryz.results62,go_sem]) rfl ?_
  exact ⟨rfl,ig,st,oa,oc,ST.out.rm,INV.out,Bal.refl _⟩
 case true =>
  have H9:Hid (x.op=9):=by show x.op=9;simpa using h9
  have BZ:Hid (Blk (W.alloc (.cells #[.string ⟨#[]⟩,.string ⟨#[]⟩] 102)) W.heap.size _ 102):=blk_new ..
  have hsz:W.heap.size≤W.heap.size:=Nat.le_refl _
  go_upto_region 16 with (refine storeMeth rfl _ _ rfl W.heap.size _ _ rfl rfl _ BZ.out rfl ?_)
  have HB5:=Lib.hid (below_row (one_below W (.cells #[.string ⟨#[]⟩,.string ⟨#[]⟩] 102)) hsz #[.string xc,.string xn])
  have BM:=Lib.hid (BZ.out.setRow #[.string xc,.string xn])
  have ST1:=Lib.hid (ST.out.below HB5.out)
  clear ST BZ HB5 hsz p0 p1 i0 i5 i6 HFN HRE hlo2
  generalize (W.alloc _).setRow W.heap.size _=W1 at *
  generalize W.heap.size=gm at *
  have k0:∀ o:WB W1,o.u.cell? ⟨b.R,7,none⟩=some (.map (some b.gv)):=fun o=>(ST1.out.below o.h).rm.cells.2.2.2.2.2.2.2.1
  have k1:∀ o:WB W1,o.u.cell? ⟨gp,0,none⟩=some (.int .i64 f):=fun o=>(ST1.out.below o.h).cells.1
  have k2:∀ o:WB W1,o.u.cell? ⟨gp,1,none⟩=some (.int .i64 q):=fun o=>(ST1.out.below o.h).cells.2.1
  have k3:∀ o:WB W1,o.u.cell? ⟨gm,0,none⟩=some (.string xc):=fun o=>(BM.out.below o.h).cell 0 (by simp)
  have k4:∀ o:WB W1,o.u.cell? ⟨gm,1,none⟩=some (.string xn):=fun o=>(BM.out.below o.h).cell 1 (by simp)
  have hne:Nonempty (WB W1):=⟨⟨W1,Below.refl _ _⟩⟩
  have h0:Below W1.heap.size W1 W1.drew:=(Below.refl _ _).drew
  have ST2:=Lib.hid (ST1.out.below h0)
  have BM2:=Lib.hid (BM.out.below h0)
  refine wp_region_Z (fun w'=>∃ o:WB W1,w' = o.u) 6 (by kernel_rfl) ?_
  change wpAnyZ _ _ _ _ _ _ _ _ _ W1.drew
  generalize W1.drew=V1 at *
  refine wpAnyZ_take 0 rfl (by kernel_rfl) (by kernel_rfl) (fun _ _ _ _ h=>h) ⟨⟨_,h0⟩,rfl⟩ (fun K hK=>?_);go_simp;refine hK _ ?_;clear hK K
  refine wpAnyZ_take 1 rfl (by kernel_rfl) (by kernel_rfl) (fun _ _ _ _ h=>h) ⟨⟨_,h0⟩,rfl⟩ (fun K hK=>?_);go_simp;refine hK _ ?_;clear hK K
  refine wpAnyZ_take 2 rfl (by kernel_rfl) (by kernel_rfl) (fun _ _ _ _ h=>h) ⟨⟨_,h0⟩,rfl⟩ (fun K hK=>?_);go_simp;refine hK _ ?_;clear hK K
  refine wpAnyZ_take 3 rfl (by kernel_rfl) (by kernel_rfl) (fun _ _ _ _ h=>h) ⟨⟨_,h0⟩,rfl⟩ (fun K hK=>?_);go_simp;refine hK _ ?_;clear hK K
  refine wpAnyZ_take 4 rfl (by kernel_rfl) (by kernel_rfl) (fun _ _ _ _ h=>h) ⟨⟨_,h0⟩,rfl⟩ (fun K hK=>?_);go_simp;refine hK _ ?_;clear hK K
  refine wpAnyZ_take 5 rfl (by kernel_rfl) (by kernel_rfl) (fun _ _ _ _ h=>h) ⟨⟨_,h0⟩,rfl⟩ (fun K hK=>?_);go_simp;refine hK _ ?_;clear hK K
  obtain ⟨n0,hmv⟩:=ST2.out.rm.mv
  refine wpAnyZ_last rfl (by kernel_rfl) ?_
  refine wpList_mapF rfl _ _ _ _ rfl keyP undMPM b.gv rfl hmv (f,q) rfl (encM (xc,xn)) rfl ?_
  intro w3 hm3 hg3 hs3
  go_wp2
  refine wpAnyZ_done (by kernel_rfl) ?_ _
  have S3:=Lib.hid (ST2.out.rm.putV (m:=(xc,xn)) hm3 hg3)
  have B3:=Lib.hid (BM2.out.grown hg3 (blk_mapF BM2.out hmv))
  clear k0 k1 k2 k3 k4 ST1 ST2 BM BM2 hne h0 hmv hm3 hg3 hs3
  go_upto_region 17 with (fail)
  have k0:∀ o:WB w3,o.u.cell? ⟨b.R,6,none⟩=some (.map (some b.gt)):=fun o=>(S3.out.below o.h).cells.2.2.2.2.2.2.1
  have k1:∀ o:WB w3,o.u.cell? ⟨gm,0,none⟩=some (.string xc):=fun o=>(B3.out.below o.h).cell 0 (by simp)
  have k2:∀ o:WB w3,o.u.cell? ⟨gm,1,none⟩=some (.string xn):=fun o=>(B3.out.below o.h).cell 1 (by simp)
  have hne:Nonempty (WB w3):=⟨⟨w3,Below.refl _ _⟩⟩
  have h0:Below w3.heap.size w3 w3.drew:=(Below.refl _ _).drew
  have S4:=Lib.hid (S3.out.below h0)
  have B4:=Lib.hid (B3.out.below h0)
  have hlk:∀ o:WB w3,(Instr.lookup 115 (.map (some b.gt)) (.agg #[.string xc,.string xn]) false).run Tryz.prog o.u = .ok (((st.tg (xc,xn)).map (fun _=>Value.map (some (ig (xc,xn))))).getD (.map none)) o.u:=fun o=>by
   obtain ⟨n,hm⟩:=(S3.out.below o.h).mt
   exact hm.lookup keyM undMMM (zeroMIB o.u) (xc,xn) false
  cases htg:st.tg (xc,xn) with
  | some L =>
    rw [htg] at hlk
    simp only [Option.map,Option.getD] at hlk
    have INV0:=HIV.out.call0 HIA.out H9.out (by rw [HXC.out,HXN.out];exact htg)
    rw [HXC.out,HXN.out] at INV0
    have INV:=Lib.hid INV0
    have hnq:=neqMap (ig (xc,xn))
    clear INV0 htg
    refine wp_region_Y (fun w'=>∃ o:WB w3,w' = o.u) (by kernel_rfl) ?_
    change wpAnyY _ _ _ _ _ _ _ _ w3.drew
    generalize w3.drew=V2 at *
    refine wpAnyY_take 0 rfl (by kernel_rfl) (fun _ _ _ _ h=>h) ⟨⟨_,h0⟩,rfl⟩ (fun K hK=>?_);go_simp;refine hK _ ?_;clear hK K
    refine wpAnyY_take 1 rfl (by kernel_rfl) (fun _ _ _ _ h=>h) ⟨⟨_,h0⟩,rfl⟩ (fun K hK=>?_);go_simp;refine hK _ ?_;clear hK K
    refine wpAnyY_take 2 rfl (by kernel_rfl) (fun _ _ _ _ h=>h) ⟨⟨_,h0⟩,rfl⟩ (fun K hK=>?_);go_simp;refine hK _ ?_;clear hK K
    refine wpAnyY_take 3 rfl (by kernel_rfl) (fun _ _ _ _ h=>h) ⟨⟨_,h0⟩,rfl⟩ (fun K hK=>?_);go_simp;refine hK _ ?_;clear hK K
    refine wpAnyY_take 4 rfl (by kernel_rfl) (fun _ _ _ _ h=>h) ⟨⟨_,h0⟩,rfl⟩ (fun K hK=>?_);go_simp;refine hK _ ?_;clear hK K
    refine wpAnyY_take 5 rfl (by kernel_rfl) (fun _ _ _ _ h=>h) ⟨⟨_,h0⟩,rfl⟩ (fun K hK=>?_);go_simp;refine hK _ ?_;clear hK K
    refine wpAnyY_take 6 rfl (by kernel_rfl) (fun _ _ _ _ h=>h) ⟨⟨_,h0⟩,rfl⟩ (fun K hK=>?_);go_simp;refine hK _ ?_;clear hK K
    refine wpAnyY_done (by kernel_rfl) ?_ _
    clear k0 k1 k2 hlk S3 B3
    go_wp2
    refine bodyPost_ret (v:=.tuple #[]) (by simp [results,Tryz.results62,go_sem]) rfl ?_
    exact ⟨rfl,ig,_,oa,oc,S4.out,INV.out,⟨Nat.le_refl _,rfl⟩⟩
  | none =>
    rw [htg] at hlk
    simp only [Option.map,Option.getD] at hlk
    have INV0:=HIV.out.call1 HIA.out H9.out (by rw [HXC.out,HXN.out];exact htg)
    rw [HXC.out,HXN.out] at INV0
    have INV:=Lib.hid INV0
    have HTG:Hid ((st.note (f,q) (xc,xn)).tg (xc,xn)=none):=htg
    have hnq:=neqNil
    clear INV0 htg
    refine wp_region_Y (fun w'=>∃ o:WB w3,w' = o.u) (by kernel_rfl) ?_
    change wpAnyY _ _ _ _ _ _ _ _ w3.drew
    generalize w3.drew=V2 at *
    refine wpAnyY_take 0 rfl (by kernel_rfl) (fun _ _ _ _ h=>h) ⟨⟨_,h0⟩,rfl⟩ (fun K hK=>?_);go_simp;refine hK _ ?_;clear hK K
    refine wpAnyY_take 1 rfl (by kernel_rfl) (fun _ _ _ _ h=>h) ⟨⟨_,h0⟩,rfl⟩ (fun K hK=>?_);go_simp;refine hK _ ?_;clear hK K
    refine wpAnyY_take 2 rfl (by kernel_rfl) (fun _ _ _ _ h=>h) ⟨⟨_,h0⟩,rfl⟩ (fun K hK=>?_);go_simp;refine hK _ ?_;clear hK K
    refine wpAnyY_take 3 rfl (by kernel_rfl) (fun _ _ _ _ h=>h) ⟨⟨_,h0⟩,rfl⟩ (fun K hK=>?_);go_simp;refine hK _ ?_;clear hK K
    refine wpAnyY_take 4 rfl (by kernel_rfl) (fun _ _ _ _ h=>h) ⟨⟨_,h0⟩,rfl⟩ (fun K hK=>?_);go_simp;refine hK _ ?_;clear hK K
    refine wpAnyY_take 5 rfl (by kernel_rfl) (fun _ _ _ _ h=>h) ⟨⟨_,h0⟩,rfl⟩ (fun K hK=>?_);go_simp;refine hK _ ?_;clear hK K
    refine wpAnyY_take 6 rfl (by kernel_rfl) (fun _ _ _ _ h=>h) ⟨⟨_,h0⟩,rfl⟩ (fun K hK=>?_);go_simp;refine hK _ ?_;clear hK K
    refine wpAnyY_done (by kernel_rfl) ?_ _
    clear k0 k1 k2 hlk S3 B3 hne h0 hnq
    go_upto_region 18 with (fail)
    have k0:∀ o:WB V2,o.u.cell? ⟨b.R,6,none⟩=some (.map (some b.gt)):=fun o=>(S4.out.below o.h).cells.2.2.2.2.2.2.1
    have k1:∀ o:WB V2,o.u.cell? ⟨gm,0,none⟩=some (.string xc):=fun o=>(B4.out.below o.h).cell 0 (by simp)
    have k2:∀ o:WB V2,o.u.cell? ⟨gm,1,none⟩=some (.string xn):=fun o=>(B4.out.below o.h).cell 1 (by simp)
    have hne:Nonempty (WB V2):=⟨⟨V2,Below.refl _ _⟩⟩
    have h0:Below V2.heap.size V2 V2.drew:=(Below.refl _ _).drew
    have S5:=Lib.hid (S4.out.below h0)
    have B5:=Lib.hid (B4.out.below h0)
    refine wp_region_Z (fun w'=>∃ o:WB V2,w' = o.u) 6 (by kernel_rfl) ?_
    change wpAnyZ _ _ _ _ _ _ _ _ _ V2.drew
    generalize V2.drew=V3 at *
    refine wpAnyZ_take 0 rfl (by kernel_rfl) (by kernel_rfl) (fun _ _ _ _ h=>h) ⟨⟨_,h0⟩,rfl⟩ (fun K hK=>?_);go_simp;refine hK _ ?_;clear hK K
    refine wpAnyZ_take 1 rfl (by kernel_rfl) (by kernel_rfl) (fun _ _ _ _ h=>h) ⟨⟨_,h0⟩,rfl⟩ (fun K hK=>?_);go_simp;refine hK _ ?_;clear hK K
    refine wpAnyZ_take 2 rfl (by kernel_rfl) (by kernel_rfl) (fun _ _ _ _ h=>h) ⟨⟨_,h0⟩,rfl⟩ (fun K hK=>?_);go_simp;refine hK _ ?_;clear hK K
    refine wpAnyZ_take 3 rfl (by kernel_rfl) (by kernel_rfl) (fun _ _ _ _ h=>h) ⟨⟨_,h0⟩,rfl⟩ (fun K hK=>?_);go_simp;refine hK _ ?_;clear hK K
    refine wpAnyZ_take 4 rfl (by kernel_rfl) (by kernel_rfl) (fun _ _ _ _ h=>h) ⟨⟨_,h0⟩,rfl⟩ (fun K hK=>?_);go_simp;refine hK _ ?_;clear hK K
    have hob:=one_below V3 (.map #[] 0)
    have h6:Below V2.heap.size V2 (V3.alloc (.map #[] 0)):=h0.trans (hob.mono h0.size)
    have S6:=Lib.hid (S5.out.below hob)
    have B6:=Lib.hid (B5.out.below hob)
    refine wpAnyZ_one 5 rfl (by kernel_rfl) ?_
    refine wpList_makeF rfl 95 rfl undMIB (Value.int .i64) ?_
    intro hmp
    go_wp2
    refine ⟨⟨⟨_,h6⟩,rfl⟩,?_⟩
    obtain ⟨n0,hmt⟩:=S6.out.mt
    refine wpAnyZ_last rfl (by kernel_rfl) ?_
    refine wpList_mapF rfl _ _ _ _ rfl keyM undMMM b.gt rfl hmt (xc,xn) rfl (.map (some V3.heap.size)) rfl ?_
    intro w7 hm7 hg7 hs7
    go_wp2
    refine wpAnyZ_done (by kernel_rfl) ?_ _
    have hgn:b.R < V3.heap.size:=S5.out.rb.lt
    have hgt:b.gt < V3.heap.size:=by have:=S5.out.od;omega
    have hnew:MapE w7 V3.heap.size (Value.int .i64) (setF []):=by
     rw [← setF_nil]
     exact ⟨_,hmp.grown hg7 (by simp;omega)⟩
    have S7:=Lib.hid (S6.out.putT HTG.out hgn (fun m' e=>by
     obtain ⟨L',hL'⟩:=Option.isSome_iff_exists.1 e
     have:=(S5.out.mi m' L' hL').lt
     omega) hm7 hnew hg7)
    have B7:=Lib.hid (B6.out.grown hg7 (blk_mapF B6.out hmt))
    have hw7:w.heap.size≤w7.heap.size:=S7.out.hb.size
    clear k0 k1 k2 S4 B4 S5 B5 S6 B6 hne h0 hob h6 hmp hmt hm7 hg7 hs7 hnew hgn hgt
    generalize (fun k'=>if k' = (xc,xn) then V3.heap.size else ig k')=ig7 at *
    have HST:Hid (∀ st',st' = (st.note (f,q) (xc,xn)).add (xc,xn) []→st'.T=st.T∧(st'.tg (xc,xn)).isSome=true∧st'.vt (f,q)=some (xc,xn)∧st'.C=st.C∧Bal st st'):=fun st' e=>by
     subst e
     exact ⟨rfl,by unfold RpS.add;simp,by unfold RpS.add RpS.note;simp,rfl,⟨Nat.le_refl _,rfl⟩⟩
    generalize hst1:(st.note (f,q) (xc,xn)).add (xc,xn) []=st1 at *
    obtain ⟨e1,e2,e3,e4,e5⟩:=HST.out st1 rfl
    have HT1:=Lib.hid e1
    have HD1:=Lib.hid e2
    have HV1:=Lib.hid e3
    have HC1:=Lib.hid e4
    have HB1:=Lib.hid e5
    clear hst1 HST e1 e2 e3 e4 e5 HTG
    obtain ⟨z0,z1,z2,z3,z4,z5,z6,z7,z8⟩:=S7.out.cells
    obtain ⟨nt,hmc⟩:=S7.out.mc
    go_wp2_with (at_range;refine wpList_rangeF rfl _ _ rfl undMSB b.gc rfl hmc ?_;intro w4 left0 hit hall hln hb4 hs4)
    have R0:Hid (IL u ha hc fa fc b ig7 st1 st1 oa oc f q (fun m c=>m ≠ (xc,xn) ∨ c ∈ ([]:List Str)) gm #[.string xc,.string xn] 102 w7.heap.size b.gc Value.string (setT st1.C) nt left0 w w4) :=
     ⟨S7.out.below hb4,hit,INV.out.weak (fun m L _ c _ hy=>by rcases hy with hy | hy;exact hy;cases hy),Bal.refl _,fun _=>rfl,⟨rfl,rfl⟩,B7.out.below hb4⟩
    have HALL:Hid (∀ c,c ∈ st1.C→c ∈ left0.map (·.1)):=fun c hc=>List.mem_map.2 ⟨(c,.bool true),hall c _ (setT_t hc),rfl⟩
    have HIN:Hid (∀ c v,setT st1.C c=some v→c ∈ st1.C):=fun c v e=>setT_mem e
    clear hit hall hln hb4 hs4 hmc S7 B7 INV z0 z1 z2 z3 z4 z5 z6 z7 z8 HIV hT HT1
    generalize w7.heap.size=ri at *
    go_frame
    go_loopw [] (fun wr=>∃ (left:List (Str × Value)) (done:List Str) (st2:RpS) (oa:Option Addr) (oc:Nat),Hid (IL u ha hc fa fc b ig7 st1 st2 oa oc f q (fun m c=>m ≠ (xc,xn) ∨ c ∈ done) gm #[.string xc,.string xn] 102 ri b.gc Value.string (setT st1.C) nt left w wr)∧Hid ((done ++ left.map (·.1)).Perm (left0.map (·.1)))) (fun wr=>leftN wr ri)
    case atStart=>exact ⟨left0,[],st1,oa,oc,R0.out,List.Perm.refl _⟩
    case round =>
     clear R0
     obtain ⟨left,done,st2,oa,oc,R,PM⟩:=hrel
     go_wp2_with (at_next;refine wpList_nextF rfl _ rfl ri b.gc left rfl R.out.it ?_ ?_)
     ·intro h0
      subst h0
      have INV:Hid (RInv u f (q + 1) (fun _ _=>True) st2):=R.out.iv.call2 HIA.out H9.out (by rw [HXC.out,HXN.out,R.out.rs.2];exact HV1.out) (fun m L hm c hc=>.inr (by
       have h:=PM.out
       rw [List.map_nil,List.append_nil] at h
       rw [R.out.rs.1] at hc
       exact h.mem_iff.2 (HALL.out c hc)))
      have BL:=Lib.hid (HB1.out.trans R.out.bl)
      have S9:=Lib.hid R.out.rm
      clear R PM
      go_wp2
      refine bodyPost_ret (v:=.tuple #[]) (by simp [results,Tryz.results62,go_sem]) rfl ?_
      exact ⟨rfl,ig7,st2,oa,oc,S9.out,INV.out,BL.out⟩
     ·intro c pv j w4 hp hF hit4 hg4 hs4 hen
      have PM2:=Lib.hid (perm_next PM.out hp)
      have hel:=(perm_erase hp).length_eq
      have hm4:=R.out.it.leftN
      have hlr:w.heap.size≤ri:=by omega
      have R4:=Lib.hid (R.out.next hit4 hg4 hlr)
      have HCC:=Lib.hid (HIN.out c pv hF)
      obtain ⟨L,hL⟩:∃ L,st2.tg (xc,xn)=some L:=by
       refine Option.isSome_iff_exists.1 ?_
       rw [R.out.dm]
       exact HD1.out
      have HL:=Lib.hid hL
      have hT2:=HTL.out _ _ _ _ R.out.iv
      clear R PM hF hit4 hg4 hs4 hp hL
      have y0:=R4.out.bk.cell 0 (by simp)
      have y1:=R4.out.bk.cell 1 (by simp)
      simp only [List.getElem_toArray,List.getElem_cons_zero,List.getElem_cons_succ] at y0 y1
      go_wp2_with fail
      refine (HDI.out ig7 st2 oa oc _ (xc,xn) L c R4.out.rm HL.out hT2).mono ?_
      rintro e w8 ⟨rfl,oa8,oc8,S8,C8,N8⟩
      have R8:=Lib.hid ((R4.out.disp HL.out (by rw [R4.out.rs.1];exact HCC.out) (.inr rfl) S8 C8 (by decide) (by decide)).weak (Y:=fun m c'=>m ≠ (xc,xn) ∨ c' ∈ done ++ [c]) (fun m c' hy=>by
       rcases hy with hy | hy
       ·exact .inl (.inl hy)
       ·rcases List.mem_append.1 hy with hy | hy
        ·exact .inl (.inr hy)
        ·by_cases e:m=(xc,xn)
         ·exact .inr ⟨e,List.mem_singleton.1 hy⟩
         ·exact .inl (.inl e)))
      clear S8 C8 N8 R4 y0 y1
      have hm8:=R8.out.it.leftN
      go_wp2
      go_roundw
      case rel=>exact ⟨left.eraseIdx j,done ++ [c],_,oa8,oc8,R8.out,PM2.out⟩
      case measure =>
       rw [hm8,hm4]
       simp at hel
       omega
end Go.Proofs.YtkbmnfijeknenaaGreatDoor
