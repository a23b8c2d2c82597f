/-
  The reference's Dispatch and created.
  The reference's call edges of functions that are marked.
-/
import Derived.Test.YtkbmnfijeknenaaGreatDoorPA
import Derived.Test.YtkbmnfijeknenaaGreatDoorSA
import Derived.Test.YtkbmnfijeknenaaGreatDoorG9
import Derived.Test.YtkbmnfijeknenaaGreatDoorWF
import Derived.Test.YtkbmnfijeknenaaGreatDoorHX
namespace Go.Proofs.YtkbmnfijeknenaaGreatDoor
open Go.RowKit Go.Unit0 Go.AM

set_option maxRecDepth 100000 in
set_option maxHeartbeats 4000000 in
theorem dispatchR (u:Unt) (ha:Option Addr) (hc:Nat) (fa:Option Addr) (fc:Nat) (s m:Str) (w:World) (h:ClssAt w ha u.h) (f:FncsAt w fa u.fs) (hb:BndU u) :
 Calls Tryz.prog 110 #[unV u ha hc fa fc,.string s,.string m] w (Ret w (.int .i64 (dspG u.h u.fs s m))):=by
 have S0:=Lib.hid (UB.start (hc:=hc) (fc:=fc) h f)
 have HLK:Hid (∀ w1,ClssAt w1 ha u.h→Calls Tryz.prog 162 #[.agg #[.slice ha u.h.length hc],.string s,.string m] w1 (LookW (lookP u.h s m) w1)):=fun w1 h1=>lookupRW u.h s m ha hc w1 h1 hb.h.l hb.h.m
 have HFN:Hid (∀ (y:Str) (w1:World),ClssAt w1 ha u.h→FncsAt w1 fa u.fs→Calls Tryz.prog 101 #[unV u ha hc fa fc,.string y,.string m] w1 (Ret w1 (.int .i64 (fnI u.fs y m)))):=fun y w1 h1 h2=>findR13 u ha hc fa fc y m w1 h1 h2 (by have:=hb.l;omega)
 have HDG:Hid (dspG u.h u.fs s m=match lookP u.h s m with | some (x,_)=>fnI u.fs x m | none=>-1):=rfl
 clear h f hb
 generalize lookP u.h s m=R at *
 generalize dspG u.h u.fs s m=dg at *
 unfold unV at *
 go_enter Tryz.func110,Tryz.ntmps110
 go_upto_region 1 with (fail)
 generalize w.alloc _=W at *
 obtain ⟨z0,z1,z2⟩:=S0.out.cells
 go_wp2_with fail
 refine (HLK.out _ S0.out.h).mono ?_
 rintro e w2 ⟨hb2,x,s1,s2,b1,ok,pa,n,pc,rfl,hr⟩
 have S2:=Lib.hid (S0.out.below hb2)
 have HR:=Lib.hid hr
 clear hb2 hr S0 z0 z1 z2
 generalize w2=W2 at *
 have B3:Hid (Blk (W2.alloc (.cells #[.string ⟨#[]⟩,.bool false,.slice none 0 0,.string ⟨#[]⟩] 79)) W2.heap.size _ 79):=blk_new ..
 have hsz:W2.heap.size≤W2.heap.size:=Nat.le_refl _
 go_upto_region 2 with (refine store114 rfl _ _ rfl W2.heap.size _ _ _ _ _ _ rfl rfl _ B3.out rfl ?_)
 have S4:=Lib.hid (S2.out.below (below_row (one_below W2 (.cells #[.string ⟨#[]⟩,.bool false,.slice none 0 0,.string ⟨#[]⟩] 79)) hsz #[.string s1,.bool b1,.slice pa n pc,.string s2]))
 clear S2 B3 hsz
 generalize (W2.alloc _).setRow W2.heap.size _=W4 at *
 obtain ⟨z0,z1,z2⟩:=S4.out.cells
 cases ok
 case false =>
  have HN:Hid (dg = -1):=by
   show _=_
   rcases HR.out with ⟨_,e⟩ | ⟨e,_⟩
   ·have:=HDG.out;rw [e] at this;exact this
   ·cases e
  clear HR HDG
  go_wp2
  go_ret
  exact ⟨ret_int HN.out.symm,S4.out.hb⟩
 have HG:Hid (dg=fnI u.fs x m):=by
  show _=_
  rcases HR.out with ⟨e,_⟩ | ⟨_,g,e⟩
  ·cases e
  ·have:=HDG.out;rw [e] at this;exact this
 have HF:=Lib.hid (HFN.out x)
 rw [← HG.out] at HF
 clear HR HDG HG HFN
 go_wp2_with fail
 refine (HF.out _ S4.out.h S4.out.f).mono ?_
 rintro e w5 ⟨rfl,hb5⟩
 have S5:=Lib.hid (S4.out.below hb5)
 clear hb5 S4 z0 z1 z2
 go_wp2
 go_ret
 exact ⟨rfl,S5.out.hb⟩
structure SE (u:Unt) (ha:Option Addr) (hc:Nat) (fa:Option Addr) (fc:Nat) (out:List Str) (oa:Option Addr) (oc:Nat) (w wr:World):Prop where
 ub:UB u ha hc fa fc w wr
 ow:wr.ownsRow (w.heap.size + 1) 9 1 (.slice oa out.length oc) out.length (out.map Value.string)
section
variable {u:Unt} {ha:Option Addr} {hc:Nat} {fa:Option Addr} {fc:Nat} {out:List Str} {oa:Option Addr} {oc:Nat} {w wr w':World}
theorem SE.below (k:SE u ha hc fa fc out oa oc w wr) (hb:Below wr.heap.size wr w'):SE u ha hc fa fc out oa oc w w':=⟨k.ub.below hb,owns_below k.ow hb⟩
theorem SE.grow {out':List Str} {oa':Option Addr} {oc':Nat} (h:ClssAt w ha u.h) (f:FncsAt w fa u.fs) (k:SE u ha hc fa fc out oa oc w wr) (own:w'.ownsRow (w.heap.size + 1) 9 1 (.slice oa' out'.length oc') out'.length (out'.map Value.string)) (hg:wr.grownBy w' (Value.slice oa out.length oc).ownBlock):SE u ha hc fa fc out' oa' oc' w w' :=
 ⟨k.ub.grow h f hg (fun q hq=>by have:=(k.ow.lt q hq).1;omega),own⟩
end
set_option maxRecDepth 100000 in
set_option maxHeartbeats 8000000 in
theorem createdR (u:Unt) (ha:Option Addr) (hc:Nat) (fa:Option Addr) (fc:Nat) (bs:List Bool) (a:Option Addr) (c:Nat) (w:World) (h:ClssAt w ha u.h) (hf:FncsAt w fa u.fs) (hB:BlsAt w a bs) (hl:bs.length=u.fs.length) (hb:FitOk u 150) :
 Calls Tryz.prog 108 #[unV u ha hc fa fc,.slice a bs.length c] w (StrsPost (crtU u.fs bs u.fs.length) w):=by
 have S0:Hid (SE u ha hc fa fc [] none 0 w (w.alloc (unC u ha hc fa fc))):=⟨UB.start h hf,World.ownsRow_nil _ _ _ _⟩
 have HM:Hid (ClssAt w ha u.h∧FncsAt w fa u.fs∧BlsAt w a bs):=⟨h,hf,hB⟩
 have hn:=hb.nf
 have HCL:Hid (∀ x ∈ u.fs,x.code.length≤150):=fun x hx=>(hb.f x hx).c
 have HE0:Hid ([]=crtU u.fs bs 0):=by show _=_;simp [crtU]
 clear h hf hb hB
 rw [hl]
 unfold unV
 go_enter Tryz.func108,Tryz.ntmps108
 go_upto_region 1 with (fail)
 generalize w.alloc _=W at *
 go_wp2
 go_loopw [5,6] (fun v i wr=>∃ (m:Nat) (out:List Str) (oa:Option Addr) (oc:Nat),m≤u.fs.length∧out.length≤m * 150∧v = .slice oa out.length oc∧i = .int .i64 m∧Hid (out=crtU u.fs bs m)∧Hid (SE u ha hc fa fc out oa oc w wr)) (fun _ i _=>u.fs.length - (intOf i).toNat)
 case atStart=>exact ⟨0,[],none,0,Nat.zero_le _,Nat.zero_le _,rfl,rfl,HE0.out,S0.out⟩
 case round =>
  clear S0 HE0
  obtain ⟨m,out,oa,oc,hm,hol,rfl,rfl,HI,S⟩:=hrel
  by_cases hlt:m < u.fs.length
  case neg =>
   have HF:Hid (out=crtU u.fs bs u.fs.length):=by show _=_;rw [HI.out,show m=u.fs.length by omega]
   go_wp2
   go_ret
   exact ⟨S.out.ub.hb,oa,oc,by rw [← HF.out] <;> rfl,by rw [← HF.out];exact owns_mono S.out.ow (Nat.le_succ _)⟩
  have hlu:m < u.fs.length:=hlt
  have hcl:=HCL.out _ (List.getElem_mem hlu)
  have HUT:=Lib.hid (@crtU_t u.fs bs m hlu)
  have HUF:=Lib.hid (@crtU_f u.fs bs m)
  have HFS:Hid (∀ (q:Nat) (hq:q < u.fs[m].code.length),crtF u.fs[m].code (q + 1)=crtF u.fs[m].code q ++ crtI u.fs[m].code[q]):=fun q hq=>crtF_succ hq
  have HF0:Hid (crtF u.fs[m].code 0 = []):=by show _=_;simp [crtF]
  obtain ⟨bB,oB,he,cB⟩:=HM.out.2.2 m (by omega)
  subst he
  have HBV:Hid (bs[m]? = some (bs[m]'(by omega))):=List.getElem?_eq_getElem (by omega)
  have HCB:=Lib.hid cB
  clear cB
  generalize bs[m]'(by omega)=bv at *
  have HFC:Hid (∀ wr,SE u ha hc fa fc out oa oc w wr ∨ True→True):=fun _ _=>trivial
  clear HFC
  cases bv
  case false =>
   have HN:=Lib.hid (HUF.out HBV.out)
   clear HUT HUF HFS HF0
   generalize hcn:u.fs[m].code.length=cl at *
   have HCN:=Lib.hid hcn
   clear hcn
   go_wp2
   obtain ⟨wo,rfl⟩:∃ wo,wo=wr:=⟨_,rfl⟩
   go_loopw [5,7] (fun v i wr=>v = .slice oa out.length oc∧i = .int .i64 0∧Hid (SE u ha hc fa fc out oa oc w wr)) (fun _ _ _=>0)
   case atStart=>exact ⟨rfl,rfl,S.out⟩
   case round =>
    clear S
    obtain ⟨rfl,rfl,S⟩:=hrel
    obtain ⟨z0,z1,z2⟩:=S.out.ub.cells
    obtain ⟨b,off,va,vc,ca,cc,he,-,-,-,-,-,-,m6,-,-⟩:=S.out.ub.f m hlu
    subst he
    rw [HCN.out] at m6
    have cB:=cell_below S.out.ub.hb HCB.out
    by_cases h0:0 < cl
    case neg =>
     obtain rfl:cl=0:=by omega
     go_wp2
     go_roundw
     case rel=>exact ⟨m + 1,out,oa,oc,by omega,by omega,rfl,by go_num,(by show _=_;rw [HN.out];exact HI.out),S.out⟩
     case measure=>simp [intOf];omega
    go_wp2
    go_roundw
    case rel=>exact ⟨m + 1,out,oa,oc,by omega,by omega,rfl,by go_num,(by show _=_;rw [HN.out];exact HI.out),S.out⟩
    case measure=>simp [intOf];omega
  have HN:=Lib.hid (HUT.out HBV.out)
  clear HUT HUF
  go_wp2
  obtain ⟨wo,rfl⟩:∃ wo,wo=wr:=⟨_,rfl⟩
  go_loopw [5,7] (fun v i wr=>∃ (q:Nat) (out2:List Str) (oa:Option Addr) (oc:Nat),q≤u.fs[m].code.length∧out2.length≤m * 150 + q∧v = .slice oa out2.length oc∧i = .int .i64 q∧Hid (out2=out ++ crtF u.fs[m].code q)∧Hid (SE u ha hc fa fc out2 oa oc w wr)) (fun _ i _=>u.fs[m].code.length - (intOf i).toNat)
  case atStart=>exact ⟨0,out,oa,oc,Nat.zero_le _,by omega,rfl,rfl,(by show _=_;rw [HF0.out,List.append_nil]),S.out⟩
  case round =>
   clear S
   obtain ⟨q,out2,oa2,oc2,hq,hol2,rfl,rfl,HJ,S⟩:=hrel
   obtain ⟨z0,z1,z2⟩:=S.out.ub.cells
   obtain ⟨b,off,va,vc,ca,cc,he,-,-,-,-,-,-,m6,-,hcode⟩:=S.out.ub.f m hlu
   subst he
   have cB:=cell_below S.out.ub.hb HCB.out
   by_cases hql:q < u.fs[m].code.length
   case neg =>
    have HE:Hid (out2=crtU u.fs bs (m + 1)):=by show _=_;rw [HN.out,HJ.out,HI.out,show q=u.fs[m].code.length by omega]
    clear hcode HFS HF0 HN
    generalize u.fs[m].code.length=cl at *
    go_wp2
    go_roundw
    case rel=>exact ⟨m + 1,out2,oa2,oc2,by omega,by omega,rfl,by go_num,HE.out,S.out⟩
    case measure=>simp [intOf];omega
   obtain ⟨b2,off2,ga,gc,he,m0,m1,m2,m3,m4,m5,m6b,m7,m8,m9,-⟩:=hcode q hql
   subst he
   have HFQ:=Lib.hid (HFS.out q hql)
   clear m1 m2 m3 m4 m6b m7 m8 m9 hcode
   generalize u.fs[m].code[q]=x at *
   cases h6:(x.op == 6)
   case false =>
    have HE:Hid (out2=out ++ crtF u.fs[m].code (q + 1)):=by
     show _=_
     rw [HFQ.out,HJ.out]
     have:¬ x.op=6:=by simpa using h6
     unfold crtI
     rw [if_neg this,List.append_nil]
    clear HFS HF0 HFQ HN HJ
    generalize u.fs[m].code.length=cl at *
    go_wp2
    go_roundw
    case rel=>exact ⟨q + 1,out2,oa2,oc2,by omega,by omega,rfl,by go_num,HE.out,S.out⟩
    case measure=>simp [intOf];omega
   have HE:Hid (out2 ++ [x.cls]=out ++ crtF u.fs[m].code (q + 1)):=by
    show _=_
    rw [HFQ.out,HJ.out]
    have:x.op=6:=by simpa using h6
    unfold crtI
    rw [if_pos this,List.append_assoc]
   clear HFS HF0 HFQ HN HJ
   generalize u.fs[m].code.length=cl at *
   have S1:=Lib.hid (S.out.below (one_below wr (.cells #[.string x.cls] 9)))
   have B1:Hid (Blk (wr.alloc (.cells #[.string x.cls] 9)) wr.heap.size #[.string x.cls] 9):=blk_new ..
   have hbs:w.heap.size + 1≤(wr.alloc (.cells #[.string x.cls] 9)).heap.size:=Nat.succ_le_of_lt S1.out.ub.b1.lt
   have hoc:out2.length≤1000000:=by omega
   go_wp2_with (at_builtin;refine app_str rfl _ _ rfl (w.heap.size + 1) _ out2 rfl S1.out.ow wr.heap.size x.cls rfl B1.out hoc hbs ?_;intro v' w3 own3 grown3;obtain ⟨-,oa3,oc3,rfl,-,-⟩:=owns_strs own3)
   have S3:=Lib.hid (SE.grow HM.out.1 HM.out.2.1 S1.out own3 grown3)
   clear S1 B1 own3 grown3 S
   have hlen2:(out2 ++ [x.cls]).length=out2.length + 1:=by simp
   go_roundw
   case rel=>exact ⟨q + 1,out2 ++ [x.cls],oa3,oc3,by omega,by omega,(by first | rfl | simp),by go_num,HE.out,S3.out⟩
   case measure=>simp [intOf];omega
end Go.Proofs.YtkbmnfijeknenaaGreatDoor
namespace Go.Proofs.YtkbmnfijeknenaaGreatDoor
open Go.RowKit Go.Unit0 Go.AM

structure CM (u:Unt) (ha:Option Addr) (hc:Nat) (fa:Option Addr) (fc:Nat) (made:List Str) (ma:Option Addr) (mc:Nat) (out:List Cal) (oa:Option Addr) (oc:Nat) (w wr:World):Prop where
 ce:CE u ha hc fa fc out oa oc w wr
 mo:wr.ownsRow 0 9 1 (.slice ma made.length mc) made.length (made.map Value.string)
structure CN (u:Unt) (ha:Option Addr) (hc:Nat) (fa:Option Addr) (fc:Nat) (made:List Str) (ma:Option Addr) (mc:Nat) (L:List Int) (la:Option Addr) (lc gi:Nat) (x:Ins) (ga:Option Addr) (gc:Nat) (out:List Cal) (oa:Option Addr) (oc:Nat) (w wr:World):Prop where
 cm:CM u ha hc fa fc made ma mc out oa oc w wr
 io:wr.ownsRow 0 3 1 (.slice la L.length lc) L.length (L.map intV)
 ib:Blk wr gi #[.int .i64 x.op,.int .i64 x.dst,.int .i64 x.a,.int .i64 x.b,.int .i64 x.n,.string x.cls,.string x.name,.slice ga x.args.length gc,.int .i64 x.goto,.int .i64 x.catch_] 57
section
variable {u:Unt} {ha:Option Addr} {hc:Nat} {fa:Option Addr} {fc:Nat} {made:List Str} {ma:Option Addr} {mc:Nat} {L:List Int} {la:Option Addr} {lc gi:Nat} {x:Ins} {ga:Option Addr} {gc:Nat} {out:List Cal} {oa:Option Addr} {oc:Nat} {w wr w':World}
theorem CM.below (k:CM u ha hc fa fc made ma mc out oa oc w wr) (hb:Below wr.heap.size wr w'):CM u ha hc fa fc made ma mc out oa oc w w':=⟨k.ce.below hb,owns_below k.mo hb⟩
theorem CN.below (k:CN u ha hc fa fc made ma mc L la lc gi x ga gc out oa oc w wr) (hb:Below wr.heap.size wr w'):CN u ha hc fa fc made ma mc L la lc gi x ga gc out oa oc w w':=⟨k.cm.below hb,owns_below k.io hb,k.ib.below hb⟩
theorem CN.grow {out':List Cal} {oa':Option Addr} {oc':Nat} (h:ClssAt w ha u.h) (f:FncsAt w fa u.fs) (k:CN u ha hc fa fc made ma mc L la lc gi x ga gc out oa oc w wr) (own:w'.ownsRow (w.heap.size + 1) 51 3 (.slice oa' out'.length oc') out'.length (flatC out')) (hg:wr.grownBy w' (Value.slice oa out.length oc).ownBlock):CN u ha hc fa fc made ma mc L la lc gi x ga gc out' oa' oc' w w' :=
 ⟨⟨k.cm.ce.grow h f own hg,owns_kept2 k.cm.mo k.cm.ce.ow (by decide) hg⟩,owns_kept2 k.io k.cm.ce.ow (by decide) hg,k.ib.grown hg (owns_ne k.cm.ce.ow k.ib (by decide))⟩
end
def okK (u:Unt) (made:List Str) (x:Ins) (g:Int) (j:Nat):Bool:=okG u (made.take j) x g
theorem okK_all {u:Unt} {made:List Str} {x:Ins} {g:Int} {j:Nat} (h:made.length≤j):okK u made x g j=okG u made x g:=by unfold okK;rw [List.take_of_length_le h]
theorem okK_zero (u:Unt) (made:List Str) (x:Ins) (g:Int):okK u made x g 0=(x.op == 10):=by unfold okK okG;simp
theorem okK_succ {u:Unt} {made:List Str} {x:Ins} {g:Int} {j:Nat} (h:j < made.length):okK u made x g (j + 1)=(okK u made x g j || (subP u.h made[j] x.cls && (dspG u.h u.fs made[j] x.name == g))):=by
 unfold okK okG
 rw [List.take_succ_eq_append_getElem h,List.any_append,← Bool.or_assoc]
 simp
noncomputable def rapK (u:Unt) (made:List Str) (x:Ins) (f i k:Nat):List Cal:=(((trgL u f i).take k).filter (okG u made x)).map (fun g=>⟨(f:Int),(i:Int),g⟩)
theorem rapK_t {u:Unt} {made:List Str} {x:Ins} {f i k:Nat} (hk:k < (trgL u f i).length) (h:okG u made x (trgL u f i)[k]=true):rapK u made x f i (k + 1)=rapK u made x f i k ++ [⟨(f:Int),(i:Int),(trgL u f i)[k]⟩]:=by
 unfold rapK
 rw [List.take_succ_eq_append_getElem hk,List.filter_append,List.map_append]
 simp [h]
theorem rapK_f {u:Unt} {made:List Str} {x:Ins} {f i k:Nat} (hk:k < (trgL u f i).length) (h:okG u made x (trgL u f i)[k]=false):rapK u made x f i (k + 1)=rapK u made x f i k:=by
 unfold rapK
 rw [List.take_succ_eq_append_getElem hk,List.filter_append,List.map_append]
 simp [h]
theorem rapK_all {u:Unt} {made:List Str} {f i k:Nat} (hf:f < u.fs.length) (hi:i < u.fs[f].code.length) (hk:(trgL u f i).length≤k):rapK u made u.fs[f].code[i] f i k=rapI u made f i:=by
 rw [rapI_at hf hi];unfold rapK;rw [List.take_of_length_le hk]
set_option maxRecDepth 100000 in
set_option maxHeartbeats 16000000 in
theorem rapidR (u:Unt) (ha:Option Addr) (hc:Nat) (fa:Option Addr) (fc:Nat) (bs:List Bool) (a:Option Addr) (c:Nat) (w:World) (h:ClssAt w ha u.h) (hf:FncsAt w fa u.fs) (hB:BlsAt w a bs) (hl:bs.length=u.fs.length) (hb:FitOk u 150) :
 Calls Tryz.prog 65 #[unV u ha hc fa fc,.slice a bs.length c] w (CallsPost (rapU u (crtU u.fs bs u.fs.length) bs u.fs.length) w):=by
 have hbd:=fitOk_bnd hb (by omega)
 have S0:Hid (CE u ha hc fa fc [] none 0 w (w.alloc (unC u ha hc fa fc))):=⟨UB.start h hf,World.ownsRow_nil _ _ _ _⟩
 have HM:Hid (ClssAt w ha u.h∧FncsAt w fa u.fs∧BlsAt w a bs):=⟨h,hf,hB⟩
 have HTG:Hid (∀ (f i:Int) (w1:World),ClssAt w1 ha u.h→FncsAt w1 fa u.fs→Calls Tryz.prog 15 #[unV u ha hc fa fc,.int .i64 f,.int .i64 i] w1 (SetPost (trgS u f i) w1)):=fun f i w1 h1 h2=>refTargets u ha hc fa fc f i w1 h1 h2 hbd (by have:=hb.nc;omega)
 have HCR:Hid (∀ w1,ClssAt w1 ha u.h→FncsAt w1 fa u.fs→BlsAt w1 a bs→Calls Tryz.prog 108 #[unV u ha hc fa fc,.slice a bs.length c] w1 (StrsPost (crtU u.fs bs u.fs.length) w1)):=fun w1 h1 h2 h3=>createdR u ha hc fa fc bs a c w1 h1 h2 h3 hl hb
 have HIS:Hid (∀ (s t:Str) (w1:World),ClssAt w1 ha u.h→Calls Tryz.prog 109 #[.agg #[.slice ha u.h.length hc],.string s,.string t] w1 (Ret w1 (.bool (subP u.h s t)))):=fun s t w1 h1=>by rw [subP_eq];exact isSub73 u.h s t ha hc w1 h1 (by have:=hb.nc;omega)
 have HDI:Hid (∀ (s t:Str) (w1:World),ClssAt w1 ha u.h→FncsAt w1 fa u.fs→Calls Tryz.prog 110 #[unV u ha hc fa fc,.string s,.string t] w1 (Ret w1 (.int .i64 (dspG u.h u.fs s t)))):=fun s t w1 h1 h2=>dispatchR u ha hc fa fc s t w1 h1 h2 hbd
 have hn:=hb.nf
 have HCL:Hid (∀ x ∈ u.fs,x.code.length≤150):=fun x hx=>(hb.f x hx).c
 have HML:Hid ((crtU u.fs bs u.fs.length).length≤1000000):=by
  have e:∀ m,m≤u.fs.length→(crtU u.fs bs m).length≤m * 150:=by
   intro m
   induction m with
   | zero=>intro _;simp [crtU]
   | succ m ih =>
     intro hm
     have h1:=ih (by omega)
     have hv:bs[m]? = some (bs[m]'(by omega)):=List.getElem?_eq_getElem (by omega)
     cases hb:bs[m]'(by omega)
     ·rw [crtU_f (by rw [hv,hb])];omega
     ·rw [crtU_t (by omega) (by rw [hv,hb]),List.length_append]
      have:=crtF_len (code:=(u.fs[m]'(by omega)).code) (Nat.le_refl _)
      have:=HCL.out _ (List.getElem_mem (show m < u.fs.length by omega))
      omega
  have:=e _ (Nat.le_refl _)
  show _≤_
  omega
 clear h hf hb hB hbd
 generalize crtU u.fs bs u.fs.length=made at *
 have HE0:Hid ([]=rapU u made bs 0):=by show _=_;simp [rapU]
 rw [hl] at HCR ⊢
 unfold unV at *
 go_enter Tryz.func65,Tryz.ntmps65
 go_upto_region 2 with (fail)
 generalize w.alloc _=W at *
 obtain ⟨z0,z1,z2⟩:=S0.out.ub.cells
 go_wp2_with fail
 refine (HCR.out _ S0.out.ub.h S0.out.ub.f (HM.out.2.2.below S0.out.ub.hb)).mono ?_
 rintro e w2 ⟨hb2,ma,mc,rfl,own2⟩
 have S2:Hid (CM u ha hc fa fc made ma mc [] none 0 w w2):=⟨S0.out.below hb2,owns_mono own2 (Nat.zero_le _)⟩
 clear S0 z0 z1 z2 hb2 own2 HCR
 go_wp2
 go_loopw [5,7] (fun v i wr=>∃ (m:Nat) (out:List Cal) (oa:Option Addr) (oc:Nat),m≤u.fs.length∧out.length≤m * 3000∧v = .slice oa out.length oc∧i = .int .i64 m∧Hid (out=rapU u made bs m)∧Hid (CM u ha hc fa fc made ma mc out oa oc w wr)) (fun _ i _=>u.fs.length - (intOf i).toNat)
 case atStart=>exact ⟨0,[],none,0,Nat.zero_le _,Nat.zero_le _,rfl,rfl,HE0.out,S2.out⟩
 case round =>
  clear S2 HE0
  obtain ⟨m,out,oa,oc,hm,hol,rfl,rfl,HI,S⟩:=hrel
  by_cases hlt:m < u.fs.length
  case neg =>
   have HF:Hid (out=rapU u made bs u.fs.length):=by show _=_;rw [HI.out,show m=u.fs.length by omega]
   go_wp2
   go_ret
   exact ⟨S.out.ce.ub.hb,oa,oc,by rw [← HF.out] <;> rfl,by rw [← HF.out];exact owns_mono S.out.ce.ow (Nat.le_succ _)⟩
  have hlu:m < u.fs.length:=hlt
  have hcl:=HCL.out _ (List.getElem_mem hlu)
  have HUT:=Lib.hid (@rapU_t u made bs m hlu)
  have HUF:=Lib.hid (@rapU_f u made bs m)
  obtain ⟨bB,oB,he,cB⟩:=HM.out.2.2 m (by omega)
  subst he
  have HBV:Hid (bs[m]? = some (bs[m]'(by omega))):=List.getElem?_eq_getElem (by omega)
  have HCB:=Lib.hid cB
  clear cB
  generalize bs[m]'(by omega)=bv at *
  cases bv
  case false =>
   have HN:=Lib.hid (HUF.out HBV.out)
   clear HUT HUF
   generalize hcn:u.fs[m].code.length=cl at *
   have HCN:=Lib.hid hcn
   clear hcn
   go_wp2
   obtain ⟨wo,rfl⟩:∃ wo,wo=wr:=⟨_,rfl⟩
   go_loopw [5,8] (fun v i wr=>v = .slice oa out.length oc∧i = .int .i64 0∧Hid (CM u ha hc fa fc made ma mc out oa oc w wr)) (fun _ _ _=>0)
   case atStart=>exact ⟨rfl,rfl,S.out⟩
   case round =>
    clear S
    obtain ⟨rfl,rfl,S⟩:=hrel
    obtain ⟨z0,z1,z2⟩:=S.out.ce.ub.cells
    obtain ⟨b,off,va,vc,ca,cc,he,-,-,-,-,-,-,m6,-,-⟩:=S.out.ce.ub.f m hlu
    subst he
    rw [HCN.out] at m6
    have cB:=cell_below S.out.ce.ub.hb HCB.out
    by_cases h0:0 < cl
    case neg =>
     obtain rfl:cl=0:=by omega
     go_wp2
     go_roundw
     case rel=>exact ⟨m + 1,out,oa,oc,by omega,by omega,rfl,by go_num,(by show _=_;rw [HN.out];exact HI.out),S.out⟩
     case measure=>simp [intOf];omega
    go_wp2
    go_roundw
    case rel=>exact ⟨m + 1,out,oa,oc,by omega,by omega,rfl,by go_num,(by show _=_;rw [HN.out];exact HI.out),S.out⟩
    case measure=>simp [intOf];omega
  have HN:=Lib.hid (HUT.out HBV.out)
  clear HUT HUF
  have HKA:Hid (∀ (q:Nat) (hq:q < u.fs[m].code.length) (k:Nat),(trgL u m q).length≤k→rapK u made u.fs[m].code[q] m q k=rapI u made m q):=fun q hq k hk=>rapK_all hlu hq hk
  have HN0:Hid (rapN u made m 0 = []):=by show _=_;simp [rapN]
  have HNS:=Lib.hid (rapN_succ u made m)
  generalize rapN u made m=RN at *
  go_wp2
  obtain ⟨wo,rfl⟩:∃ wo,wo=wr:=⟨_,rfl⟩
  go_loopw [5,8] (fun v i wr=>∃ (q:Nat) (out2:List Cal) (oa:Option Addr) (oc:Nat),q≤u.fs[m].code.length∧out2.length≤m * 3000 + q * 20∧v = .slice oa out2.length oc∧i = .int .i64 q∧Hid (out2=out ++ RN q)∧Hid (CM u ha hc fa fc made ma mc out2 oa oc w wr)) (fun _ i _=>u.fs[m].code.length - (intOf i).toNat)
  case atStart=>exact ⟨0,out,oa,oc,Nat.zero_le _,by omega,rfl,rfl,(by show _=_;rw [HN0.out,List.append_nil]),S.out⟩
  case round =>
   clear S
   obtain ⟨q,out2,oa2,oc2,hq,hol2,rfl,rfl,HJ,S⟩:=hrel
   obtain ⟨z0,z1,z2⟩:=S.out.ce.ub.cells
   obtain ⟨b,off,va,vc,ca,cc,he,-,-,-,-,-,-,m6,-,hcode⟩:=S.out.ce.ub.f m hlu
   subst he
   have cB:=cell_below S.out.ce.ub.hb HCB.out
   by_cases hql:q < u.fs[m].code.length
   case neg =>
    have HE:Hid (out2=rapU u made bs (m + 1)):=by show _=_;rw [HN.out,HJ.out,HI.out,show q=u.fs[m].code.length by omega]
    clear hcode HN HKA HNS HN0
    generalize u.fs[m].code.length=cl at *
    go_wp2
    go_roundw
    case rel=>exact ⟨m + 1,out2,oa2,oc2,by omega,by omega,rfl,by go_num,HE.out,S.out⟩
    case measure=>simp [intOf];omega
   obtain ⟨b2,off2,ga,gc,he,m0,m1,m2,m3,m4,m5,m6b,m7,m8,m9,-⟩:=hcode q hql
   subst he
   have HKQ:=Lib.hid (HKA.out q hql)
   clear hcode
   generalize u.fs[m].code[q]=x at *
   have BZ:Hid (Blk (wr.alloc zInC) wr.heap.size _ 57):=blk_new ..
   go_upto_region 10 with (refine storeInstr rfl rfl _ _ rfl wr.heap.size x ga gc rfl rfl _ BZ.out rfl ?_)
   have hrow:=below_row (one_below wr zInC) (Nat.le_refl wr.heap.size) #[.int .i64 x.op,.int .i64 x.dst,.int .i64 x.a,.int .i64 x.b,.int .i64 x.n,.string x.cls,.string x.name,.slice ga x.args.length gc,.int .i64 x.goto,.int .i64 x.catch_]
   have B2:=Lib.hid (BZ.out.setRow #[.int .i64 x.op,.int .i64 x.dst,.int .i64 x.a,.int .i64 x.b,.int .i64 x.n,.string x.cls,.string x.name,.slice ga x.args.length gc,.int .i64 x.goto,.int .i64 x.catch_])
   have S2:=Lib.hid (S.out.below hrow)
   clear S BZ hrow m0 m1 m2 m3 m4 m5 m6 m6b m7 m8 m9 z0 z1 z2 cB
   generalize (wr.alloc zInC).setRow wr.heap.size _=W2 at *
   generalize wr.heap.size=gi at *
   obtain ⟨z0,z1,z2⟩:=S2.out.ce.ub.cells
   go_wp2_with fail
   refine (HTG.out (m:Int) (q:Int) _ S2.out.ce.ub.h S2.out.ce.ub.f).mono ?_
   rintro e w3 ⟨hb3,L,la,lc,rfl,hp,hmem,ow3⟩
   have HL:Hid (L=trgL u m q):=trgL_unique hp hmem
   have hll:L.length≤20:=by
    have h1:=trgL_len u m q
    rw [← HL.out] at h1
    omega
   have S3:Hid (CN u ha hc (some ⟨b,off,none⟩) fc made ma mc L la lc gi x ga gc out2 oa2 oc2 w w3):=⟨S2.out.below hb3,owns_mono ow3 (Nat.zero_le _),B2.out.below hb3⟩
   have HKT:Hid (∀ (k:Nat) (hk:k < L.length),okG u made x L[k]=true→rapK u made x m q (k + 1)=rapK u made x m q k ++ [⟨(m:Int),(q:Int),L[k]⟩]):=fun k hk e=>by
    have:=HL.out
    subst this
    exact rapK_t hk e
   have HKF:Hid (∀ (k:Nat) (hk:k < L.length),okG u made x L[k]=false→rapK u made x m q (k + 1)=rapK u made x m q k):=fun k hk e=>by
    have:=HL.out
    subst this
    exact rapK_f hk e
   have HK0:Hid (rapK u made x m q 0 = []):=by show _=_;simp [rapK]
   have HKN:Hid (∀ k,L.length≤k→RN (q + 1)=RN q ++ rapK u made x m q k):=fun k hk=>by rw [HNS.out,HKQ.out k (by rw [← HL.out];exact hk)]
   clear hb3 hp hmem ow3 S2 B2 z0 z1 z2 HKQ HL
   generalize rapK u made x m q=RK at *
   go_wp2
   obtain ⟨wo2,rfl⟩:∃ wo2,wo2=w3:=⟨_,rfl⟩
   go_loopw [5,11] (fun v i wr=>∃ (k:Nat) (out3:List Cal) (oa:Option Addr) (oc:Nat),k≤L.length∧out3.length≤m * 3000 + q * 20 + k∧v = .slice oa out3.length oc∧i = .int .i64 k∧Hid (out3=out2 ++ RK k)∧Hid (CN u ha hc (some ⟨b,off,none⟩) fc made ma mc L la lc gi x ga gc out3 oa oc w wr)) (fun _ i _=>L.length - (intOf i).toNat)
   case atStart=>exact ⟨0,out2,oa2,oc2,Nat.zero_le _,by omega,rfl,rfl,(by show _=_;rw [HK0.out,List.append_nil]),S3.out⟩
   case round =>
    clear S3
    obtain ⟨k,out3,oa3,oc3,hk,hol3,rfl,rfl,HK,S⟩:=hrel
    by_cases hkl:k < L.length
    case neg =>
     have HE:Hid (out3=out ++ RN (q + 1)):=by
      show _=_
      rw [HK.out,HJ.out,HKN.out k (by omega),List.append_assoc]
     have hb2:out3.length≤m * 3000 + (q + 1) * 20:=by omega
     clear HK HKN HKT HKF
     go_wp2
     go_roundw
     case rel=>exact ⟨q + 1,out3,oa3,oc3,by omega,hb2,rfl,by go_num,HE.out,S.out.cm⟩
     case measure=>simp [intOf];omega
    have HTK:=Lib.hid (HKT.out k hkl)
    have HFK:=Lib.hid (HKF.out k hkl)
    obtain ⟨b3,o3,he,c3⟩:=(owns_ints' S.out.io).2 k hkl
    subst he
    have HZE:Hid (∃ g,g=L[k]):=⟨_,rfl⟩
    have HZ0:=Lib.hid (okK_zero u made x L[k])
    have HZS:Hid (∀ (j:Nat) (hj:j < made.length),okK u made x L[k] (j + 1)=(okK u made x L[k] j || (subP u.h made[j] x.cls && (dspG u.h u.fs made[j] x.name == L[k])))):=fun j hj=>okK_succ hj
    have HZA:Hid (∀ j,made.length≤j→okK u made x L[k] j=okG u made x L[k]):=fun j hj=>okK_all hj
    have HC3:Hid (∀ wx,CN u ha hc (some ⟨b,off,none⟩) fc made ma mc L (some ⟨b3,o3,none⟩) lc gi x ga gc out3 oa3 oc3 w wx→wx.cell? ⟨b3,o3 + k,none⟩=some (.int .i64 L[k])):=fun wx kx=>by
     obtain ⟨b',o',he,hc⟩:=(owns_ints' kx.io).2 k hkl
     cases he
     exact hc
    generalize L[k]=g at *
    generalize okK u made x g=OK at *
    have y0:=S.out.ib.cell 0 (by simp)
    simp only [List.getElem_toArray,List.getElem_cons_zero] at y0
    have HOP:Hid (OK 0=(x.op == 10)):=HZ0.out
    generalize hop:(x.op == 10)=op at *
    go_wp2
    clear hop y0 c3
    obtain ⟨wo3,rfl⟩:∃ wo3,wo3=wr:=⟨_,rfl⟩
    go_loopw [12,13] (fun v i wr=>∃ j:Nat,j≤made.length∧v = .bool (OK j)∧i = .int .i64 j∧Hid (CN u ha hc (some ⟨b,off,none⟩) fc made ma mc L (some ⟨b3,o3,none⟩) lc gi x ga gc out3 oa3 oc3 w wr)) (fun _ i _=>made.length - (intOf i).toNat)
    case atStart=>exact ⟨0,Nat.zero_le _,by rw [HOP.out],rfl,S.out⟩
    case round =>
     clear S
     obtain ⟨j,hj,rfl,rfl,S⟩:=hrel
     have hml:=HML.out
     by_cases hjl:j < made.length
     case neg =>
      have HOA:=HZA.out j (by omega)
      generalize hok:OK j=ok at *
      have HOK:Hid (ok=okG u made x g):=HOA
      clear hok HOA
      cases ok
      case false =>
       have HN3:Hid (out3=out2 ++ RK (k + 1)):=by show _=_;rw [HFK.out HOK.out.symm];exact HK.out
       clear HTK HFK HK HOK
       go_wp2
       go_roundw
       case rel=>exact ⟨k + 1,out3,oa3,oc3,by omega,by omega,rfl,by go_num,HN3.out,S.out⟩
       case measure=>simp [intOf];omega
      have HN3:Hid (out3 ++ [⟨(m:Int),(q:Int),g⟩]=out2 ++ RK (k + 1)):=by show _=_;rw [HTK.out HOK.out.symm,HK.out,List.append_assoc]
      clear HTK HFK HK HOK
      have c3:=HC3.out _ S.out
      have S1:=Lib.hid (S.out.below (one_below wr (.cells #[.int .i64 m,.int .i64 q,.int .i64 g] 51)))
      have B1:Hid (Blk (wr.alloc (.cells #[.int .i64 m,.int .i64 q,.int .i64 g] 51)) wr.heap.size #[.int .i64 m,.int .i64 q,.int .i64 g] 51):=blk_new ..
      have hbs:w.heap.size + 1≤(wr.alloc (.cells #[.int .i64 m,.int .i64 q,.int .i64 g] 51)).heap.size:=Nat.succ_le_of_lt S1.out.cm.ce.ub.b1.lt
      have hoc:out3.length≤1000000:=by omega
      go_wp2_with (at_builtin;refine appC rfl _ _ rfl (w.heap.size + 1) _ out3 rfl S1.out.cm.ce.ow wr.heap.size ⟨(m:Int),(q:Int),g⟩ rfl B1.out hoc hbs ?_;intro v7 W7 own7 hg7;obtain ⟨-,oa7,oc7,rfl,-,-⟩:=ownsC own7)
      have S7:=Lib.hid (CN.grow HM.out.1 HM.out.2.1 S1.out own7 hg7)
      clear own7 hg7 S1 B1 S c3
      have hlen:(out3 ++ [(⟨(m:Int),(q:Int),g⟩:Cal)]).length=out3.length + 1:=by simp
      go_roundw
      case rel=>exact ⟨k + 1,out3 ++ [(⟨(m:Int),(q:Int),g⟩:Cal)],oa7,oc7,by omega,by omega,(by first | rfl | simp),by go_num,HN3.out,S7.out⟩
      case measure=>simp [intOf];omega
     have HOS:=HZS.out j hjl
     have hms:=(owns_strs' S.out.cm.mo).2 j hjl
     obtain ⟨b4,o4,he,c4⟩:=hms
     subst he
     have HI1:=Lib.hid (HIS.out made[j] x.cls)
     have HD1:=Lib.hid (HDI.out made[j] x.name)
     generalize made[j]=mj at *
     generalize hsb:subP u.h mj x.cls=sb at *
     generalize hdg:dspG u.h u.fs mj x.name=dg at *
     clear hsb hdg
     generalize hok:OK j=ok at *
     clear hok
     have HNX:Hid (OK (j + 1)=(ok || (sb && (dg == g)))):=HOS
     clear HOS
     go_upto_region 18 with (fail)
     obtain ⟨z0,z1,z2⟩:=S.out.cm.ce.ub.cells
     have c3:=HC3.out _ S.out
     have y5:=S.out.ib.cell 5 (by simp)
     have y6:=S.out.ib.cell 6 (by simp)
     simp only [List.getElem_toArray,List.getElem_cons_zero,List.getElem_cons_succ] at y5 y6
     have k0:∀ o:WB wr,o.u.cell? ⟨w.heap.size,0,none⟩=some (.slice ha u.h.length hc):=fun o=>cell_below o.h z0
     have k1:∀ o:WB wr,o.u.cell? ⟨w.heap.size,1,none⟩=some (.slice (some ⟨b,off,none⟩) u.fs.length fc):=fun o=>cell_below o.h z1
     have k2:∀ o:WB wr,o.u.cell? ⟨w.heap.size,2,none⟩=some (.int .i64 u.main):=fun o=>cell_below o.h z2
     have k3:∀ o:WB wr,o.u.cell? ⟨gi,5,none⟩=some (.string x.cls):=fun o=>cell_below o.h y5
     have k4:∀ o:WB wr,o.u.cell? ⟨gi,6,none⟩=some (.string x.name):=fun o=>cell_below o.h y6
     have k5:∀ o:WB wr,o.u.cell? ⟨b4,o4 + j,none⟩=some (.string mj):=fun o=>cell_below o.h c4
     have k6:∀ o:WB wr,o.u.cell? ⟨b3,o3 + k,none⟩=some (.int .i64 g):=fun o=>cell_below o.h c3
     have hne:Nonempty (WB wr):=⟨⟨wr,Below.refl _ _⟩⟩
     clear z0 z1 z2 c3 c4 y5 y6
     cases ok
     case true =>
      refine wp_region_WB wr (by kernel_rfl) ?_
      repeat (go_big_quiet_step (fail))
      refine wpQuiet_nil ?_
      intro _ hw'
      obtain ⟨o,rfl⟩:=hw'
      have S5:=Lib.hid (S.out.below o.h)
      clear k0 k1 k2 k3 k4 k5 k6 S hne HI1 HD1
      go_wp2
      go_roundw
      case rel=>exact ⟨j + 1,by omega,by rw [HNX.out];rfl,by go_num,S5.out⟩
      case measure=>simp [intOf];omega
     case false =>
     cases sb
     case false =>
      refine wp_region_WB wr (by kernel_rfl) ?_
      repeat (go_big_quiet_step ((rename_i o;exact (HI1.out _ (S.out.below o.h).cm.ce.ub.h).mono (fun _ _ h=>Ret.inB h))))
      refine wpQuiet_nil ?_
      intro _ hw'
      obtain ⟨o,rfl⟩:=hw'
      have S5:=Lib.hid (S.out.below o.h)
      clear k0 k1 k2 k3 k4 k5 k6 S hne HI1 HD1
      go_wp2
      go_roundw
      case rel=>exact ⟨j + 1,by omega,by rw [HNX.out];rfl,by go_num,S5.out⟩
      case measure=>simp [intOf];omega
     case true =>
      generalize hde:(dg == g)=de at *
      refine wp_region_WB wr (by kernel_rfl) ?_
      repeat (go_big_quiet_step (first | (go_at_call 109;rename_i o;exact (HI1.out _ (S.out.below o.h).cm.ce.ub.h).mono (fun _ _ h=>Ret.inB h)) | (go_at_call 110;rename_i o;exact (HD1.out _ (S.out.below o.h).cm.ce.ub.h (S.out.below o.h).cm.ce.ub.f).mono (fun _ _ h=>Ret.inB h))))
      refine wpQuiet_nil ?_
      intro _ hw'
      obtain ⟨o,rfl⟩:=hw'
      have S5:=Lib.hid (S.out.below o.h)
      clear k0 k1 k2 k3 k4 k5 k6 S hne HI1 HD1 hde
      go_wp2
      go_roundw
      case rel=>exact ⟨j + 1,by omega,by rw [HNX.out];rfl,by go_num,S5.out⟩
      case measure=>simp [intOf];omega
end Go.Proofs.YtkbmnfijeknenaaGreatDoor
