/-
  The reference's methods.
  The reference's class.
  The reference's Check of a hierarchy.
  The reference's Name, Form, Has.
  The reference's Has.
  The reference's Fits.
-/
import Derived.Test.YtffcklfigpmlgaaGreatDoorVC
import Derived.Test.YtffcklfigpmlgaaGreatDoorUA
namespace Go.Proofs.YtffcklfigpmlgaaGreatDoor
open Go.RowKit Go.Unit0

def namesS (l:List Sgn):List Str:=l.map (·.name)
theorem methods_end {h:List Cls} {cl:Str} {l:List Sgn} {j:Nat} (hj:l.length≤j):methodsE identB h cl (namesS (l.take j)) (l.drop j)=0:=by
 rw [List.drop_of_length_le hj];rfl
theorem dupS_of {l:List Sgn} {j k:Nat} (hk:k < l.length) (hkj:k < j) {s:Str} (e:(l[k].name.toList == s.toList)=true):dupF (namesS (l.take j)) s=true:=by
 unfold dupF namesS
 rw [List.any_eq_true]
 refine ⟨l[k].name,List.mem_map.2 ⟨l[k],?_,rfl⟩,e⟩
 rw [List.mem_take_iff_getElem]
 exact ⟨k,by omega,rfl⟩
theorem dupS_not {l:List Sgn} {j:Nat} {s:Str} (e:∀ k (hk:k < l.length),k < j→(l[k].name.toList == s.toList)=false):dupF (namesS (l.take j)) s=false:=by
 unfold dupF namesS
 rw [List.any_eq_false]
 intro x hx
 obtain ⟨f,hf,rfl⟩:=List.mem_map.1 hx
 rw [List.mem_take_iff_getElem] at hf
 obtain ⟨k,hk,rfl⟩:=hf
 have:=e k (by omega) (by omega)
 unfold eqB
 rw [this];simp
theorem methods_at {h:List Cls} {cl:Str} {l:List Sgn} {j:Nat} (hj:j < l.length):methodsE identB h cl (namesS (l.take j)) (l.drop j) =
 if identB l[j].name=false then 5 else if dupF (namesS (l.take j)) l[j].name=true then 7 else if 6 < l[j].params.length then 3 else
 if typesE h l[j] ≠ 0 then typesE h l[j] else if overF h l[j] (upP h cl)=true then 11 else methodsE identB h cl (namesS (l.take (j + 1))) (l.drop (j + 1)):=by
 rw [List.drop_eq_getElem_cons hj]
 have e:namesS (l.take (j + 1))=namesS (l.take j) ++ [l[j].name]:=by unfold namesS;rw [List.take_succ_eq_append_getElem hj,List.map_append];rfl
 rw [e]
 rfl
set_option maxRecDepth 100000 in
set_option maxHeartbeats 8000000 in
theorem methods246 (h:List Cls) (i:Nat) (hi:i < h.length) (a:Option Addr) (c:Nat) (w:World) (hc:ClssAt w a h) (hl:h.length≤100000) (hm:∀ x ∈ h,x.methods.length≤100000) (hmp:∀ x ∈ h,∀ y ∈ x.methods,y.params.length≤100000) :
 Calls Tryz.prog 294 #[.agg #[.slice a h.length c],.int .i64 i] w (Ret w (.int .i64 (methodsE identB h h[i].name [] h[i].methods))):=by
 have HM:=Lib.hid hm;clear hm
 have HMP:=Lib.hid hmp;clear hmp
 have HB:=one_below w (.cells #[.slice a h.length c] 24)
 have S0:Hid (HX h a c w (w.alloc (.cells #[.slice a h.length c] 24))):=⟨HB,blk_new ..,hc.below HB⟩
 have hfl:=HM.out _ (List.getElem_mem hi)
 have HMY:=Lib.hid (HMP.out _ (List.getElem_mem hi))
 obtain ⟨b,off,fa,fc,ma,mc,rfl,m0,m1,m2,m3,_,hs⟩:=hc i hi
 have HS:=Lib.hid hs
 have HCL:Hid (∀ wr,HX h (some ⟨b,off,none⟩) c w wr→wr.cell? ⟨b,off + i * 4,none⟩=some (.string h[i].name)):=fun wr q=>cell_below q.hb m0
 have x3:=cell_below HB m3
 clear hc hs m0 m1 m2 m3 HB
 obtain ⟨R,hR⟩:∃ R,R=methodsE identB h h[i].name [] h[i].methods:=⟨_,rfl⟩
 rw [← hR]
 have HR:=Lib.hid hR;clear hR
 go_enter Tryz.func294,Tryz.ntmps294
 go_wp2
 clear x3
 generalize h[i].name=cl at *
 generalize h[i].methods=l at *
 go_loopw [6] (fun v wr=>∃ j:Nat,j≤l.length∧v = .int .i64 j∧Hid (HX h (some ⟨b,off,none⟩) c w wr)∧Hid (methodsE identB h cl (namesS (l.take j)) (l.drop j)=R)) (fun v _=>l.length - (intOf v).toNat)
 case atStart=>exact ⟨0,Nat.zero_le _,rfl,S0.out,HR.out.symm⟩
 case round =>
  clear S0
  obtain ⟨j,hj,rfl,S,HI⟩:=hrel
  by_cases hlt:j < l.length
  case neg =>
   have HF:Hid (R=0):=by show _=_;rw [← HI.out,methods_end (by omega)]
   go_wp2
   go_ret
   exact ⟨ret_int HF.out.symm,S.out.hb⟩
  have HE:=Lib.hid ((@methods_at h cl l j hlt).symm.trans HI.out)
  obtain ⟨lb,lo,pa,pc,rfl,n0,_⟩:=HS.out j hlt
  replace n0:=cell_below S.out.hb n0
  have hpl:=HMY.out _ (List.getElem_mem hlt)
  cases hid:identB l[j].name
  case false =>
   have HF:Hid (R=5):=by show _=_;rw [← HE.out,if_pos hid]
   generalize l[j]=f at *
   go_wp2_with (go_at_call 62;refine (ident201 _ _).mono ?_;rw [hid];rintro e w' ⟨rfl,hb'⟩)
   go_ret
   exact ⟨ret_int HF.out.symm,S.out.hb.trans (hb'.mono S.out.hb.size)⟩
  rw [if_neg (by simp [hid])] at HE
  have HDN:Hid (∀ k (hk:k < l.length),k < j→(l[k].name.toList == l[j].name.toList)=true→R=7):=fun k hk hkj e=>by
   rw [← HE.out,if_pos (dupS_of hk hkj e)]
  have HDM:Hid ((∀ k (hk:k < l.length),k < j→(l[k].name.toList == l[j].name.toList)=false)→(if 6 < l[j].params.length then 3 else if typesE h l[j] ≠ 0 then typesE h l[j] else if overF h l[j] (upP h cl)=true then 11 else methodsE identB h cl (namesS (l.take (j + 1))) (l.drop (j + 1)))=R):=fun e=>by
   have h1:=HE.out
   rw [dupS_not e,if_neg (by simp)] at h1
   exact h1
  clear HE HI
  generalize hff:l[j]=f at *
  have HFF:=Lib.hid hff;clear hff
  go_wp2_with (go_at_call 62;refine (ident201 _ _).mono ?_;rw [hid];rintro e wq ⟨rfl,hb'⟩)
  have Sq:=Lib.hid (S.out.below hb')
  clear S hb' n0
  go_loopw [7] (fun v wr=>∃ k:Nat,k≤j∧v = .int .i64 k∧Hid (HX h (some ⟨b,off,none⟩) c w wr)∧Hid (∀ q (hq:q < l.length),q < k→(l[q].name.toList == f.name.toList)=false)) (fun v _=>j - (intOf v).toNat)
  case atStart=>exact ⟨0,Nat.zero_le _,rfl,Sq.out,fun q hq hq0=>absurd hq0 (by omega)⟩
  case round =>
   clear Sq
   obtain ⟨k,hk,rfl,S,HD⟩:=hrel
   obtain ⟨lb',lo',pa,pc,he,n0,n1,n2,n3,hst⟩:=HS.out j hlt
   cases he
   rw [HFF.out] at n0 n1 n2 n3 hst
   replace n0:=cell_below S.out.hb n0
   replace n1:=cell_below S.out.hb n1
   replace n2:=cell_below S.out.hb n2
   replace n3:=cell_below S.out.hb n3
   have HST:=Lib.hid hst;clear hst
   by_cases hkj:k < j
   case neg =>
    obtain rfl:k=j:=by omega
    have HE:=Lib.hid (HDM.out HD.out)
    clear HDM HDN
    by_cases hbig:6 < f.params.length
    case pos =>
     have HF:Hid (R=3):=by have h1:=HE.out;rw [if_pos hbig] at h1;exact h1.symm
     have t1:decide ((6:Int) < (f.params.length:Int))=true:=by simp;omega
     clear hbig
     go_wp2
     go_ret
     exact ⟨ret_int HF.out.symm,S.out.hb⟩
    have t1:decide ((6:Int) < (f.params.length:Int))=false:=by simp;omega
    rw [if_neg hbig] at HE
    clear hbig
    have x0:=S.out.b1.cell 0 (by simp)
    have HPL:Hid (f.params.length≤100000):=by
     have:=HMY.out _ (List.getElem_mem hlt)
     rw [HFF.out] at this
     exact this
    have HTY:Hid (∀ o:WB wr,Calls Tryz.prog 366 #[.agg #[.slice (some ⟨b,off,none⟩) h.length c],.agg #[.string f.name,.bool f.stat,.slice pa f.params.length pc,.string f.result]] o.u (Ret o.u (.int .i64 (typesE h f)))):=fun o =>
     types276 h f (some ⟨b,off,none⟩) c pa pc o.u (S.out.hc.below o.h) (HST.out.below (S.out.hb.trans (o.h.mono S.out.hb.size))) hl HPL.out
    go_upto_region 14 with (fail)
    have k0:∀ o:WB wr,o.u.cell? ⟨w.heap.size,0,none⟩=some (.slice (some ⟨b,off,none⟩) h.length c):=fun o=>cell_below o.h x0
    have k1:∀ o:WB wr,o.u.cell? ⟨lb,lo + k * 4,none⟩=some (.string f.name):=fun o=>cell_below o.h n0
    have k2:∀ o:WB wr,o.u.cell? ⟨lb,lo + k * 4 + 1,none⟩=some (.bool f.stat):=fun o=>cell_below o.h n1
    have k3:∀ o:WB wr,o.u.cell? ⟨lb,lo + k * 4 + 2,none⟩=some (.slice pa f.params.length pc):=fun o=>cell_below o.h n2
    have k4:∀ o:WB wr,o.u.cell? ⟨lb,lo + k * 4 + 3,none⟩=some (.string f.result):=fun o=>cell_below o.h n3
    have hne:Nonempty (WB wr):=⟨⟨wr,Below.refl _ _⟩⟩
    refine wp_region_WB wr (by kernel_rfl) ?_
    repeat (go_big_quiet_step ((rename_i o;exact (HTY.out o).mono (fun _ _ h=>Ret.inB h))))
    refine wpQuiet_nil ?_
    intro _ hw'
    obtain ⟨o,rfl⟩:=hw'
    have S':=Lib.hid (S.out.below o.h)
    clear HTY
    by_cases ht:typesE h f=0
    case neg =>
     have HF:Hid (R=typesE h f):=by have h1:=HE.out;rw [if_pos ht] at h1;exact h1.symm
     have t2:(typesE h f != 0)=true:=by simpa using ht
     clear ht
     go_wp2
     go_ret
     exact ⟨ret_int HF.out.symm,S'.out.hb⟩
    have t2:(typesE h f != 0)=false:=by simp [ht]
    rw [if_neg (by simp [ht])] at HE
    clear ht
    replace x0:=cell_below o.h x0
    replace n0:=cell_below o.h n0
    replace n1:=cell_below o.h n1
    replace n2:=cell_below o.h n2
    replace n3:=cell_below o.h n3
    clear k0 k1 k2 k3 k4 hne
    go_upto_region 17 with (fail)
    have hb0:=S'.out.hb
    clear S
    generalize o.u=wv at *
    have x1:=HCL.out _ S'.out
    have HOV:Hid (∀ o:WB wv,Calls Tryz.prog 367 #[.agg #[.slice (some ⟨b,off,none⟩) h.length c],.string cl,.agg #[.string f.name,.bool f.stat,.slice pa f.params.length pc,.string f.result]] o.u (Ret o.u (.bool (overF h f (upP h cl))))):=fun o =>
     overrides277 h cl f (some ⟨b,off,none⟩) c pa pc o.u (S'.out.hc.below o.h) (HST.out.below (S'.out.hb.trans (o.h.mono S'.out.hb.size))) hl HM.out HMP.out
    have k5:∀ o:WB wv,o.u.cell? ⟨b,off + i * 4,none⟩=some (.string cl):=fun o=>cell_below o.h x1
    have k0:∀ o:WB wv,o.u.cell? ⟨w.heap.size,0,none⟩=some (.slice (some ⟨b,off,none⟩) h.length c):=fun o=>cell_below o.h x0
    have k1:∀ o:WB wv,o.u.cell? ⟨lb,lo + k * 4,none⟩=some (.string f.name):=fun o=>cell_below o.h n0
    have k2:∀ o:WB wv,o.u.cell? ⟨lb,lo + k * 4 + 1,none⟩=some (.bool f.stat):=fun o=>cell_below o.h n1
    have k3:∀ o:WB wv,o.u.cell? ⟨lb,lo + k * 4 + 2,none⟩=some (.slice pa f.params.length pc):=fun o=>cell_below o.h n2
    have k4:∀ o:WB wv,o.u.cell? ⟨lb,lo + k * 4 + 3,none⟩=some (.string f.result):=fun o=>cell_below o.h n3
    have hne:Nonempty (WB wv):=⟨⟨wv,Below.refl _ _⟩⟩
    clear x0 x1 n0 n1 n2 n3
    refine wp_region_WB wv (by kernel_rfl) ?_
    repeat (go_big_quiet_step ((rename_i o;exact (HOV.out o).mono (fun _ _ h=>Ret.inB h))))
    refine wpQuiet_nil ?_
    intro _ hw'
    obtain ⟨o,rfl⟩:=hw'
    have S3:=Lib.hid (S'.out.below o.h)
    clear HOV k0 k1 k2 k3 k4 k5
    cases hov:overF h f (upP h cl)
    case true =>
     have HF:Hid (R=11):=by have h1:=HE.out;rw [if_pos hov] at h1;exact h1.symm
     go_wp2
     go_ret
     exact ⟨ret_int HF.out.symm,S3.out.hb⟩
    case false =>
     have HN:Hid (methodsE identB h cl (namesS (l.take (k + 1))) (l.drop (k + 1))=R):=by have h1:=HE.out;rw [if_neg (by simp [hov])] at h1;exact h1
     go_wp2
     go_roundw
     case rel=>exact ⟨k + 1,by omega,by go_num,S3.out,HN.out⟩
     case measure=>simp [intOf];omega
   have hkl:k < l.length:=by omega
   obtain ⟨lb',lo',_,_,he,p0,_⟩:=HS.out k hkl
   cases he
   replace p0:=cell_below S.out.hb p0
   have HDK:=Lib.hid (HDN.out k hkl hkj)
   have HDS:Hid ((l[k].name.toList == f.name.toList)=false→∀ q (hq:q < l.length),q < k + 1→(l[q].name.toList == f.name.toList)=false):=fun e q hq hqk=>by
    by_cases e2:q < k
    ·exact HD.out q hq e2
    ·obtain rfl:q=k:=by omega
     exact e
   generalize l[k]=y at *
   go_upto_region 10 with (fail)
   have k0:∀ o:WB wr,o.u.cell? ⟨lb,lo + k * 4,none⟩=some (.string y.name):=fun o=>cell_below o.h p0
   have k1:∀ o:WB wr,o.u.cell? ⟨lb,lo + j * 4,none⟩=some (.string f.name):=fun o=>cell_below o.h n0
   have hne:Nonempty (WB wr):=⟨⟨wr,Below.refl _ _⟩⟩
   clear p0 n0 n1 n2 n3
   refine wp_region_WB wr (by kernel_rfl) ?_
   repeat (go_big_quiet_step (fail))
   refine wpQuiet_nil ?_
   intro _ hw'
   obtain ⟨o,rfl⟩:=hw'
   have S':=Lib.hid (S.out.below o.h)
   clear k0 k1
   cases hy:(y.name.toList == f.name.toList)
   case true =>
    have HF:Hid (R=7):=HDK.out hy
    go_wp2
    go_ret
    exact ⟨ret_int HF.out.symm,S'.out.hb⟩
   have HDD:=Lib.hid (HDS.out hy)
   go_wp2
   go_roundw
   case rel=>exact ⟨k + 1,by omega,by go_num,S'.out,HDD.out⟩
   case measure=>simp [intOf];omega
end Go.Proofs.YtffcklfigpmlgaaGreatDoor
namespace Go.Proofs.YtffcklfigpmlgaaGreatDoor
open Go.RowKit Go.Unit0

structure Bnd (h:List Cls):Prop where
 l:h.length≤100000
 f:∀ x ∈ h,x.fields.length≤100000
 m:∀ x ∈ h,x.methods.length≤100000
 p:∀ x ∈ h,∀ y ∈ x.methods,y.params.length≤100000
structure KX (h:List Cls) (x:Cls) (a:Option Addr) (c:Nat) (fa:Option Addr) (fc:Nat) (ma:Option Addr) (mc:Nat) (w wr:World):Prop where
 hb:Below w.heap.size w wr
 b1:Blk wr w.heap.size #[.slice a h.length c] 24
 b2:Blk wr (w.heap.size + 1) #[.string x.name,.string x.super,.slice fa x.fields.length fc,.slice ma x.methods.length mc] 85
 hc:ClssAt wr a h
theorem KX.below {h:List Cls} {x:Cls} {a:Option Addr} {c:Nat} {fa:Option Addr} {fc:Nat} {ma:Option Addr} {mc:Nat} {w wr w':World} (k:KX h x a c fa fc ma mc w wr) (hb:Below wr.heap.size wr w'):KX h x a c fa fc ma mc w w' :=
 ⟨k.hb.trans (hb.mono k.hb.size),k.b1.below hb,k.b2.below hb,k.hc.below hb⟩
theorem Blk.fourK {W:World} {g:Nat} {v0 v1 v2 v3:Value} {t:TypeId} (h:Blk W g #[v0,v1,v2,v3] t):W.cell? ⟨g,0,none⟩=some v0∧W.cell? ⟨g,1,none⟩=some v1∧W.cell? ⟨g,2,none⟩=some v2∧W.cell? ⟨g,3,none⟩=some v3 :=
 ⟨h.cell 0 (by simp),h.cell 1 (by simp),h.cell 2 (by simp),h.cell 3 (by simp)⟩
set_option maxRecDepth 100000 in
set_option maxHeartbeats 8000000 in
theorem class200 (h:List Cls) (i:Nat) (hi:i < h.length) (a:Option Addr) (c:Nat) (w:World) (hc:ClssAt w a h) (hb:Bnd h) :
 Calls Tryz.prog 203 #[.agg #[.slice a h.length c],.int .i64 i] w (Ret w (.int .i64 (classE identB h i h[i]))):=by
 have HBN:=Lib.hid hb;clear hb
 have hl:=HBN.out.l
 have HFD:Hid (∀ w1,ClssAt w1 a h→Calls Tryz.prog 293 #[.agg #[.slice a h.length c],.int .i64 i] w1 (Ret w1 (.int .i64 (fieldsE identB h h[i].super [] h[i].fields)))):=fun w1 hc1=>fields245 h i hi a c w1 hc1 hl HBN.out.f
 have HMD:Hid (∀ w1,ClssAt w1 a h→Calls Tryz.prog 294 #[.agg #[.slice a h.length c],.int .i64 i] w1 (Ret w1 (.int .i64 (methodsE identB h h[i].name [] h[i].methods)))):=fun w1 hc1=>methods246 h i hi a c w1 hc1 hl HBN.out.m HBN.out.p
 have hb1:=one_below w (.cells #[.slice a h.length c] 24)
 obtain ⟨b,off,fa,fc,ma,mc,rfl,m0,m1,m2,m3,_,_⟩:=hc i hi
 have C0:Hid (ClssAt w (some ⟨b,off,none⟩) h):=hc
 have B0:Hid (Blk ((w.alloc (.cells #[.slice (some ⟨b,off,none⟩) h.length c] 24)).alloc (.cells #[.string ⟨#[]⟩,.string ⟨#[]⟩,.slice none 0 0,.slice none 0 0] 85)) (w.heap.size + 1) #[.string ⟨#[]⟩,.string ⟨#[]⟩,.slice none 0 0,.slice none 0 0] 85):=blk_new2 ..
 have B1:Hid (Blk ((w.alloc (.cells #[.slice (some ⟨b,off,none⟩) h.length c] 24)).alloc (.cells #[.string ⟨#[]⟩,.string ⟨#[]⟩,.slice none 0 0,.slice none 0 0] 85)) w.heap.size #[.slice (some ⟨b,off,none⟩) h.length c] 24):=(blk_new ..).below (one_below ..)
 have HB:=Lib.hid (two_below w (.cells #[.slice (some ⟨b,off,none⟩) h.length c] 24) (.cells #[.string ⟨#[]⟩,.string ⟨#[]⟩,.slice none 0 0,.slice none 0 0] 85))
 replace m0:=cell_below hb1 m0
 replace m1:=cell_below hb1 m1
 replace m2:=cell_below hb1 m2
 replace m3:=cell_below hb1 m3
 clear hc hb1
 generalize h[i]=x at *
 obtain ⟨R,hR⟩:∃ R,R=classE identB h i x:=⟨_,rfl⟩
 rw [← hR]
 have HE:Hid (classE identB h i x=R):=hR.symm
 clear hR
 unfold classE at HE
 go_enter Tryz.func203,Tryz.ntmps203
 go_upto_region 2 with (refine store111 rfl _ _ rfl (w.heap.size + 1) _ _ _ _ _ _ _ _ rfl rfl _ B0.out rfl ?_)
 have S1:Hid (KX h x (some ⟨b,off,none⟩) c fa fc ma mc w (((w.alloc (.cells #[.slice (some ⟨b,off,none⟩) h.length c] 24)).alloc (.cells #[.string ⟨#[]⟩,.string ⟨#[]⟩,.slice none 0 0,.slice none 0 0] 85)).setRow (w.heap.size + 1) #[.string x.name,.string x.super,.slice fa x.fields.length fc,.slice ma x.methods.length mc])):=⟨below_row HB.out (by omega) _,B1.out.setRow_ne (by omega) _,B0.out.setRow _,C0.out.below (below_row HB.out (by omega) _)⟩
 generalize ((w.alloc (.cells #[.slice (some ⟨b,off,none⟩) h.length c] 24)).alloc (.cells #[.string ⟨#[]⟩,.string ⟨#[]⟩,.slice none 0 0,.slice none 0 0] 85)).setRow (w.heap.size + 1) #[.string x.name,.string x.super,.slice fa x.fields.length fc,.slice ma x.methods.length mc]=W at *
 clear B0 B1 HB C0 m0 m1 m2 m3
 obtain ⟨y0,y1,y2,y3⟩:=S1.out.b2.fourK
 have x0:=S1.out.b1.cell 0 (by simp)
 cases hid:identB x.name
 case false =>
  have HF:Hid (R=5):=by have h1:=HE.out;rw [if_pos hid] at h1;exact h1.symm
  go_wp2_with (go_at_call 62;refine (ident201 _ _).mono ?_;rw [hid];rintro e w' ⟨rfl,hb'⟩)
  go_ret
  exact ⟨ret_int HF.out.symm,S1.out.hb.trans (hb'.mono S1.out.hb.size)⟩
 rw [if_neg (by simp [hid])] at HE
 go_upto_region 4 with (go_at_call 62;refine (ident201 _ _).mono ?_;rw [hid];rintro e w' ⟨rfl,hb'⟩)
 have S2:=Lib.hid (S1.out.below hb')
 clear S1 hb' y0 y1 y2 y3 x0
 obtain ⟨y0,y1,y2,y3⟩:=S2.out.b2.fourK
 have x0:=S2.out.b1.cell 0 (by simp)
 go_wp2_with fail
 refine (find184 h x.name _ c _ S2.out.hc (by omega)).mono ?_
 rintro e w3 ⟨rfl,hb'⟩
 have S3:=Lib.hid (S2.out.below hb')
 clear S2 hb' y0 y1 y2 y3 x0
 obtain ⟨y0,y1,y2,y3⟩:=S3.out.b2.fourK
 have x0:=S3.out.b1.cell 0 (by simp)
 by_cases hfi:findI h x.name=i
 case neg =>
  have HF:Hid (R=7):=by have h1:=HE.out;rw [if_pos hfi] at h1;exact h1.symm
  have t1:(findI h x.name != (i:Int))=true:=by simpa using hfi
  clear hfi
  go_wp2
  go_ret
  exact ⟨ret_int HF.out.symm,S3.out.hb⟩
 have t1:(findI h x.name != (i:Int))=false:=by simp [hfi]
 rw [if_neg (by simp [hfi])] at HE
 clear hfi
 rw [empty_iff] at HE
 go_upto_region 6 with (fail)
 clear t1
 go_cut [33] (fun v wx=>v = .bool (!(x.super.toList == ([]:List UInt8)) && decide (findI h x.super < 0))∧Hid (KX h x (some ⟨b,off,none⟩) c fa fc ma mc w wx))
 case first =>
  cases hs:(x.super.toList == ([]:List UInt8))
  case false =>
   go_wp2_with fail
   refine (find184 h x.super _ c _ S3.out.hc (by omega)).mono ?_
   rintro e w4 ⟨rfl,hb'⟩
   have S4:=Lib.hid (S3.out.below hb')
   go_wp2
   go_meet
   exact ⟨by rw [hs];rfl,S4.out⟩
  case true =>
   go_wp2
   go_meet
   exact ⟨by rw [hs];rfl,S3.out⟩
 case rest =>
  obtain ⟨rfl,S4⟩:=hcut
  clear S3 y0 y1 y2 y3 x0
  cases hk:(!(x.super.toList == ([]:List UInt8)) && decide (findI h x.super < 0))
  case true =>
   have HF:Hid (R=6):=by have h1:=HE.out;rw [if_pos hk] at h1;exact h1.symm
   go_wp2
   go_ret
   exact ⟨ret_int HF.out.symm,S4.out.hb⟩
  rw [if_neg (by rw [hk];exact Bool.false_ne_true)] at HE
  obtain ⟨y0,y1,y2,y3⟩:=S4.out.b2.fourK
  have x0:=S4.out.b1.cell 0 (by simp)
  go_upto_region 8 with (fail)
  go_wp2_with fail
  refine (chain195 h x.name _ c _ S4.out.hc hl).mono ?_
  rintro e w5 ⟨hb',v,rfl,_⟩
  have S5:=Lib.hid (S4.out.below hb')
  clear S4 hb' y0 y1 y2 y3 x0
  obtain ⟨y0,y1,y2,y3⟩:=S5.out.b2.fourK
  have x0:=S5.out.b1.cell 0 (by simp)
  cases hcy:(chainP h x.name).2
  case true =>
   have HF:Hid (R=10):=by have h1:=HE.out;rw [if_pos hcy] at h1;exact h1.symm
   go_wp2
   go_ret
   exact ⟨ret_int HF.out.symm,S5.out.hb⟩
  rw [if_neg (by rw [hcy];exact Bool.false_ne_true)] at HE
  by_cases hbg:16 < x.fields.length ∨ 16 < x.methods.length
  case pos =>
   have HF:Hid (R=3):=by have h1:=HE.out;rw [if_pos hbg] at h1;exact h1.symm
   by_cases hf:16 < x.fields.length
   ·have t1:decide ((16:Int) < (x.fields.length:Int))=true:=by simp;omega
    clear hbg hf
    go_wp2
    go_ret
    exact ⟨ret_int HF.out.symm,S5.out.hb⟩
   ·have t1:decide ((16:Int) < (x.fields.length:Int))=false:=by simp;omega
    have t2:decide ((16:Int) < (x.methods.length:Int))=true:=by simp;omega
    clear hbg hf
    go_wp2
    go_ret
    exact ⟨ret_int HF.out.symm,S5.out.hb⟩
  have t1:decide ((16:Int) < (x.fields.length:Int))=false:=by simp;omega
  have t2:decide ((16:Int) < (x.methods.length:Int))=false:=by simp;omega
  rw [if_neg hbg] at HE
  clear hbg
  go_wp2_with fail
  refine (HFD.out _ S5.out.hc).mono ?_
  rintro e w6 ⟨rfl,hb'⟩
  have S6:=Lib.hid (S5.out.below hb')
  clear S5 hb' y0 y1 y2 y3 x0 t1 t2
  have x0:=S6.out.b1.cell 0 (by simp)
  generalize fieldsE identB h x.super [] x.fields=e1 at *
  by_cases h1:e1=0
  case neg =>
   have t1:(e1 != 0)=true:=by simpa using h1
   have HF:Hid (R=e1):=by have h2:=HE.out;rw [if_pos h1] at h2;exact h2.symm
   clear h1
   go_wp2
   go_ret
   exact ⟨ret_int HF.out.symm,S6.out.hb⟩
  have t1:(e1 != 0)=false:=by simp [h1]
  rw [if_neg (by simp [h1])] at HE
  clear h1
  go_wp2_with fail
  refine (HMD.out _ S6.out.hc).mono ?_
  rintro e w7 ⟨rfl,hb'⟩
  go_wp2
  go_ret
  exact ⟨ret_int HE.out,S6.out.hb.trans (hb'.mono S6.out.hb.size)⟩
end Go.Proofs.YtffcklfigpmlgaaGreatDoor
namespace Go.Proofs.YtffcklfigpmlgaaGreatDoor
open Go.RowKit Go.Unit0

set_option maxRecDepth 100000 in
set_option maxHeartbeats 8000000 in
theorem check142 (h:List Cls) (a:Option Addr) (c:Nat) (w:World) (hc:ClssAt w a h) (hb:Bnd h) :
 Calls Tryz.prog 124 #[.agg #[.slice a h.length c]] w (Ret w (.tuple #[.int .i64 (checkH identB h).1,.int .i64 (checkH identB h).2])):=by
 have HCL:Hid (∀ (i:Nat) (hi:i < h.length) (w:World),ClssAt w a h→Calls Tryz.prog 203 #[.agg #[.slice a h.length c],.int .i64 i] w (Ret w (.int .i64 (classE identB h i h[i])))):=fun i hi w hc=>class200 h i hi a c w hc hb
 have HBN:=Lib.hid hb;clear hb
 have HB:=one_below w (.cells #[.slice a h.length c] 24)
 have S0:Hid (HX h a c w (w.alloc (.cells #[.slice a h.length c] 24))):=⟨HB,blk_new ..,hc.below HB⟩
 clear hc HB
 have hl:=HBN.out.l
 by_cases hbig:64 < h.length
 case pos =>
  have HF:Hid (checkH identB h=(-1,3)):=if_pos hbig
  have t1:decide ((64:Int) < (h.length:Int))=true:=by simp;omega
  clear hbig
  go_enter Tryz.func124,Tryz.ntmps124
  go_wp2
  refine bodyPost_ret (v:=.tuple #[.int .i64 (-1),.int .i64 3]) (by simp [results,Tryz.results124,go_sem]) rfl ?_
  exact ⟨by rw [HF.out],S0.out.hb⟩
 have HF0:Hid (checkH identB h=checkF identB h h 0):=if_neg hbig
 have t1:decide ((64:Int) < (h.length:Int))=false:=by simp;omega
 clear hbig
 go_enter Tryz.func124,Tryz.ntmps124
 go_wp2
 clear t1
 go_loopw [4] (fun v wr=>∃ i:Nat,i≤h.length∧v = .int .i64 i∧Hid (HX h a c w wr)∧Hid (checkF identB h (h.drop i) i=checkH identB h)) (fun v _=>h.length - (intOf v).toNat)
 case atStart=>exact ⟨0,Nat.zero_le _,rfl,S0.out,HF0.out.symm⟩
 case round =>
  clear S0
  obtain ⟨i,hi,rfl,S,HI⟩:=hrel
  have x0:=S.out.b1.cell 0 (by simp)
  by_cases hlt:i < h.length
  case neg =>
   have HF:Hid (checkH identB h=(0,0)):=by show _=_;rw [← HI.out,checkF_end (by omega)]
   go_wp2
   refine bodyPost_ret (v:=.tuple #[.int .i64 0,.int .i64 0]) (by simp [results,Tryz.results124,go_sem]) rfl ?_
   exact ⟨by rw [HF.out],S.out.hb⟩
  have HE:=Lib.hid ((@checkF_at identB h h i hlt).symm.trans HI.out)
  have HC:=Lib.hid (HCL.out i hlt)
  generalize classE identB h i h[i]=e0 at *
  go_wp2_with fail
  refine (HC.out _ S.out.hc).mono ?_
  rintro e w2 ⟨rfl,hb2⟩
  have S2:=Lib.hid (S.out.below hb2)
  clear S hb2 x0 HC
  by_cases h0:e0=0
  case pos =>
   have t2:(e0 != 0)=false:=by simp [h0]
   have HN:Hid (checkF identB h (h.drop (i + 1)) (i + 1)=checkH identB h):=by have h1:=HE.out;rw [if_neg (by simp [h0])] at h1;exact h1
   clear h0
   go_wp2
   go_roundw
   case rel=>exact ⟨i + 1,by omega,by go_num,S2.out,HN.out⟩
   case measure=>simp [intOf];omega
  have t2:(e0 != 0)=true:=by simpa using h0
  have HF:Hid (checkH identB h=((i:Int),e0)):=by have h1:=HE.out;rw [if_pos h0] at h1;exact h1.symm
  clear h0
  go_wp2
  refine bodyPost_ret (v:=.tuple #[.int .i64 i,.int .i64 e0]) (by simp [results,Tryz.results124,go_sem]) rfl ?_
  exact ⟨by rw [HF.out],S2.out.hb⟩
end Go.Proofs.YtffcklfigpmlgaaGreatDoor
namespace Go.Proofs.YtffcklfigpmlgaaGreatDoor
open Go.RowKit Go.Unit0

def opNA:Array Value:=(opNames.map Value.string).toArray
def opFA:Array Value:=(opForms.map Value.string).toArray
theorem opN_block (w:World) (e:TypeId):∀ j,j < 17→(w.alloc (.cells opNA e)).cell? ⟨w.heap.size,j,none⟩=some (.string (opNames.getD j ⟨#[]⟩)):=by
 intro j hj
 have h':j < opNames.length:=hj
 rw [cell_of_row _ _ _ opNA e (0,0) (heap_alloc_new w _)]
 simp [opNA,h']
theorem opF_block (w:World) (e:TypeId):∀ j,j < 17→(w.alloc (.cells opFA e)).cell? ⟨w.heap.size,j,none⟩=some (.string (opForms.getD j ⟨#[]⟩)):=by
 intro j hj
 have h':j < opForms.length:=hj
 rw [cell_of_row _ _ _ opFA e (0,0) (heap_alloc_new w _)]
 simp [opFA,h']
set_option maxHeartbeats 1000000 in
theorem name204 (o:Int) (w:World):Calls Tryz.prog 206 #[.int .i64 o] w (Ret w (.string (nameP o))):=by
 have HB:Hid (Below w.heap.size w (w.alloc (.cells #[.string ⟨#[110,111,112]⟩,.string ⟨#[99,111,110,115,116]⟩,.string ⟨#[110,117,108,108]⟩,.string ⟨#[99,111,112,121]⟩,.string ⟨#[98,105,110]⟩,.string ⟨#[105,110,112,117,116]⟩,.string ⟨#[110,101,119]⟩,.string ⟨#[108,111,97,100]⟩,.string ⟨#[115,116,111,114,101]⟩,.string ⟨#[99,97,108,108]⟩,.string ⟨#[115,116,97,116,105,99]⟩,.string ⟨#[98,114,97,110,99,104]⟩,.string ⟨#[106,117,109,112]⟩,.string ⟨#[114,101,116,117,114,110]⟩,.string ⟨#[116,104,114,111,119]⟩,.string ⟨#[99,97,116,99,104]⟩,.string ⟨#[115,104,105,102,116]⟩] 9))):=one_below ..
 cases ho:opOk o
 case false =>
  have HF:Hid (nameP o=⟨#[]⟩):=by show _=_;unfold nameP;rw [if_neg (by simp [ho])]
  have h2:o < 0 ∨ 17≤o:=by unfold opOk at ho;simp at ho;omega
  clear ho
  rcases h2 with h2 | h2
  ·have t1:decide (o < 0)=true:=decide_eq_true h2
   clear h2
   go_enter Tryz.func206,Tryz.ntmps206
   go_wp2
   go_ret
   exact ⟨by rw [HF.out];rfl,HB.out⟩
  ·have t1:decide (o < 0)=false:=decide_eq_false (by omega)
   have t2:decide (17≤o)=true:=decide_eq_true h2
   clear h2
   go_enter Tryz.func206,Tryz.ntmps206
   go_wp2
   go_ret
   exact ⟨by rw [HF.out];rfl,HB.out⟩
 obtain ⟨k,hk,rfl⟩:=opOk_iff.1 ho
 have HF:Hid (nameP k=opNames.getD k ⟨#[]⟩):=by show _=_;unfold nameP;rw [if_pos ho];rfl
 have HN:Hid ((w.alloc (.cells #[.string ⟨#[110,111,112]⟩,.string ⟨#[99,111,110,115,116]⟩,.string ⟨#[110,117,108,108]⟩,.string ⟨#[99,111,112,121]⟩,.string ⟨#[98,105,110]⟩,.string ⟨#[105,110,112,117,116]⟩,.string ⟨#[110,101,119]⟩,.string ⟨#[108,111,97,100]⟩,.string ⟨#[115,116,111,114,101]⟩,.string ⟨#[99,97,108,108]⟩,.string ⟨#[115,116,97,116,105,99]⟩,.string ⟨#[98,114,97,110,99,104]⟩,.string ⟨#[106,117,109,112]⟩,.string ⟨#[114,101,116,117,114,110]⟩,.string ⟨#[116,104,114,111,119]⟩,.string ⟨#[99,97,116,99,104]⟩,.string ⟨#[115,104,105,102,116]⟩] 9)).cell? ⟨w.heap.size,k,none⟩=some (.string (opNames.getD k ⟨#[]⟩))):=opN_block w 9 k hk
 have t1:decide ((k:Int) < 0)=false:=decide_eq_false (by omega)
 have t2:decide ((17:Int)≤(k:Int))=false:=decide_eq_false (by omega)
 clear ho
 generalize opNames.getD k ⟨#[]⟩=s at *
 go_enter Tryz.func206,Tryz.ntmps206
 go_upto_region 2 with (fail)
 generalize w.alloc (.cells #[.string ⟨#[110,111,112]⟩,.string ⟨#[99,111,110,115,116]⟩,.string ⟨#[110,117,108,108]⟩,.string ⟨#[99,111,112,121]⟩,.string ⟨#[98,105,110]⟩,.string ⟨#[105,110,112,117,116]⟩,.string ⟨#[110,101,119]⟩,.string ⟨#[108,111,97,100]⟩,.string ⟨#[115,116,111,114,101]⟩,.string ⟨#[99,97,108,108]⟩,.string ⟨#[115,116,97,116,105,99]⟩,.string ⟨#[98,114,97,110,99,104]⟩,.string ⟨#[106,117,109,112]⟩,.string ⟨#[114,101,116,117,114,110]⟩,.string ⟨#[116,104,114,111,119]⟩,.string ⟨#[99,97,116,99,104]⟩,.string ⟨#[115,104,105,102,116]⟩] 9)=W at *
 have x0:=HN.out
 go_wp2
 go_ret
 exact ⟨by rw [HF.out];rfl,HB.out⟩
set_option maxHeartbeats 1000000 in
theorem form279 (o:Int) (w:World) (ho:opOk o=true):Calls Tryz.prog 368 #[.int .i64 o] w (Ret w (.string (formP o))):=by
 have HB:Hid (Below w.heap.size w (w.alloc (.cells #[.string ⟨#[]⟩,.string ⟨#[100,110]⟩,.string ⟨#[100]⟩,.string ⟨#[100,97]⟩,.string ⟨#[100,97,111,98]⟩,.string ⟨#[100]⟩,.string ⟨#[100,99]⟩,.string ⟨#[100,97,109]⟩,.string ⟨#[97,109,98]⟩,.string ⟨#[100,97,99,109,108]⟩,.string ⟨#[100,99,109,108]⟩,.string ⟨#[97,103]⟩,.string ⟨#[103]⟩,.string ⟨#[97]⟩,.string ⟨#[97]⟩,.string ⟨#[100,99]⟩,.string ⟨#[100,97,110]⟩] 9))):=one_below ..
 obtain ⟨k,hk,rfl⟩:=opOk_iff.1 ho
 have HF:Hid (formP k=opForms.getD k ⟨#[]⟩):=rfl
 have HN:Hid ((w.alloc (.cells #[.string ⟨#[]⟩,.string ⟨#[100,110]⟩,.string ⟨#[100]⟩,.string ⟨#[100,97]⟩,.string ⟨#[100,97,111,98]⟩,.string ⟨#[100]⟩,.string ⟨#[100,99]⟩,.string ⟨#[100,97,109]⟩,.string ⟨#[97,109,98]⟩,.string ⟨#[100,97,99,109,108]⟩,.string ⟨#[100,99,109,108]⟩,.string ⟨#[97,103]⟩,.string ⟨#[103]⟩,.string ⟨#[97]⟩,.string ⟨#[97]⟩,.string ⟨#[100,99]⟩,.string ⟨#[100,97,110]⟩] 9)).cell? ⟨w.heap.size,k,none⟩=some (.string (opForms.getD k ⟨#[]⟩))):=opF_block w 9 k hk
 clear ho
 generalize opForms.getD k ⟨#[]⟩=s at *
 go_enter Tryz.func368,Tryz.ntmps368
 go_upto_region 2 with (fail)
 generalize w.alloc (.cells #[.string ⟨#[]⟩,.string ⟨#[100,110]⟩,.string ⟨#[100]⟩,.string ⟨#[100,97]⟩,.string ⟨#[100,97,111,98]⟩,.string ⟨#[100]⟩,.string ⟨#[100,99]⟩,.string ⟨#[100,97,109]⟩,.string ⟨#[97,109,98]⟩,.string ⟨#[100,97,99,109,108]⟩,.string ⟨#[100,99,109,108]⟩,.string ⟨#[97,103]⟩,.string ⟨#[103]⟩,.string ⟨#[97]⟩,.string ⟨#[97]⟩,.string ⟨#[100,99]⟩,.string ⟨#[100,97,110]⟩] 9)=W at *
 have x0:=HN.out
 go_wp2
 go_ret
 exact ⟨by rw [HF.out];rfl,HB.out⟩
end Go.Proofs.YtffcklfigpmlgaaGreatDoor
namespace Go.Proofs.YtffcklfigpmlgaaGreatDoor
open Go.RowKit Go.Unit0

theorem names_ne:∀ k,k < 17→(opNames.getD k ⟨#[]⟩).data.toList ≠ []:=by decide
theorem name_empty (o:Int):((nameP o).toList == ([]:List UInt8)) = !opOk o:=by
 cases ho:opOk o
 ·have:nameP o=⟨#[]⟩:=by unfold nameP;rw [if_neg (by simp [ho])]
  rw [this,ByteArray.toList_eq];rfl
 ·obtain ⟨k,hk,rfl⟩:=opOk_iff.1 ho
  have:nameP k=opNames.getD k ⟨#[]⟩:=by unfold nameP;rw [if_pos ho];rfl
  rw [this,ByteArray.toList_eq]
  have:=names_ne k hk
  simpa using this
theorem forms_len:∀ k,k < 17→(opForms.getD k ⟨#[]⟩).size≤5:=by decide
theorem form_len {o:Int} (ho:opOk o=true):(formP o).size≤5:=by
 obtain ⟨k,hk,rfl⟩:=opOk_iff.1 ho
 exact forms_len k hk
def fitTo (s:ByteArray) (f:Int) (k:Nat):Prop:=∀ j (h:j < s.size),j < k→fitC f s[j].toNat=false
theorem fit_t {s:ByteArray} {f:Int} {k:Nat} (h:k < s.size) (e:fitC f s[k].toNat=true):s.toList.any (fun c=>fitC f c.toNat)=true:=by
 rw [ByteArray.toList_eq,List.any_eq_true]
 exact ⟨s[k],by simp [ByteArray.getElem_eq_getElem_data],e⟩
theorem fit_f {s:ByteArray} {f:Int} (h:fitTo s f s.size):s.toList.any (fun c=>fitC f c.toNat)=false:=by
 rw [ByteArray.toList_eq,List.any_eq_false]
 intro x hx
 obtain ⟨j,hj,rfl⟩:=List.getElem_of_mem hx
 have hj':j < s.size:=by simpa using hj
 have:=h j hj' hj'
 simp [ByteArray.getElem_eq_getElem_data] at this
 simpa using this
set_option maxHeartbeats 2000000 in
theorem has250 (o f:Int) (w:World):Calls Tryz.prog 295 #[.int .i64 o,.int .u8 f] w (Ret w (.bool (hasP o f))):=by
 have HNE:=name_empty o
 cases ho:opOk o
 case false =>
  have HF:Hid (hasP o f=false):=by show _=_;unfold hasP;rw [ho];rfl
  rw [ho] at HNE
  clear ho
  go_enter Tryz.func295,Tryz.ntmps295
  go_wp2_with (go_at_call 206;refine (name204 o _).mono ?_;rintro e w1 ⟨rfl,hb⟩)
  go_ret
  exact ⟨ret_bool HF.out.symm,hb⟩
 have HF:Hid (hasP o f=(formP o).toList.any (fun c=>fitC f c.toNat)):=by show _=_;unfold hasP;rw [ho];rfl
 rw [ho] at HNE
 have HFO:=Lib.hid (fun w=>form279 o w ho)
 have hlen:=form_len ho
 clear ho
 generalize formP o=s at *
 go_enter Tryz.func295,Tryz.ntmps295
 go_wp2_with (go_at_call 206;refine (name204 o _).mono ?_;rintro e w1 ⟨rfl,hb1⟩)
 refine (HFO.out _).mono ?_
 rintro e w2 ⟨rfl,hb2⟩
 have HB:=Lib.hid (hb1.trans (hb2.mono hb1.size))
 clear hb1 hb2
 go_wp2
 go_loop [6] (fun i=>∃ k:Nat,k≤s.size∧i = .int .i64 k∧Hid (fitTo s f k)) (fun i=>s.size - (intOf i).toNat)
 case atStart=>exact ⟨0,Nat.zero_le _,rfl,fun j h hj=>absurd hj (by omega)⟩
 case round =>
  obtain ⟨k,hk,rfl,HI⟩:=hrel
  by_cases hlt:k < s.size
  case neg =>
   have HV:=Lib.hid (HF.out.trans (fit_f fun j h hj=>HI.out j h (by omega)))
   go_wp2
   go_ret
   exact ⟨ret_bool HV.out.symm,HB.out⟩
  have HX:Hid (fitC f s[k].toNat=(((s[k].toNat:Int) == f) || ((f == 110) && ((s[k].toNat:Int) == 111)))):=rfl
  have HT:=Lib.hid (fun e=>HF.out.trans (@fit_t s f k hlt e))
  have HN:Hid (fitC f s[k].toNat=false→fitTo s f (k + 1)):=fun e j h hj=>by
   by_cases e2:j < k
   ·exact HI.out j h e2
   ·obtain rfl:j=k:=by omega
    exact e
  cases h1:((s[k].toNat:Int) == f) <;> cases h2:(f == 110) <;> cases h3:((s[k].toNat:Int) == 111)
  all_goals
   rw [h1,h2,h3] at HX
   first
   | (have HV:Hid (fitC f s[k].toNat=false):=HX.out
      have HNN:=Lib.hid (HN.out HV.out)
      go_wp2
      go_round
      case rel=>exact ⟨k + 1,by omega,by go_num,HNN.out⟩
      case measure=>simp [intOf];omega)
   | (have HV:Hid (fitC f s[k].toNat=true):=HX.out
      have HR:=Lib.hid (HT.out HV.out)
      go_wp2
      go_ret
      exact ⟨ret_bool HR.out.symm,HB.out⟩)
end Go.Proofs.YtffcklfigpmlgaaGreatDoor
namespace Go.Proofs.YtffcklfigpmlgaaGreatDoor
open Go.RowKit Go.Unit0

set_option maxHeartbeats 2000000 in
theorem fits253 (h:List Cls) (s t:Str) (a:Option Addr) (c:Nat) (w:World) (hc:ClssAt w a h) (hl:h.length≤100000) :
 Calls Tryz.prog 298 #[.agg #[.slice a h.length c],.string s,.string t] w (Ret w (.bool (fitsP h s t))):=by
 have HB:=one_below w (.cells #[.slice a h.length c] 24)
 have S0:Hid (HX h a c w (w.alloc (.cells #[.slice a h.length c] 24))):=⟨HB,blk_new ..,hc.below HB⟩
 clear hc HB
 have HE:Hid (fitsP h s t=if (s.toList == t.toList)=true then true else if (s.toList == [110,117,108,108])=true then !(t.toList == [105,110,116]) else isCls h s && isCls h t && isSub h s t):=by
  show _=_
  unfold fitsP eqB nullS intS
  rw [ByteArray.toList_eq ⟨#[110,117,108,108]⟩,ByteArray.toList_eq ⟨#[105,110,116]⟩]
 have HC0:=Lib.hid (fun s w1 hc1=>isClass252 h s a c w1 hc1 hl)
 have HC:Hid (∀ s w1,ClssAt w1 a h→Calls Tryz.prog 297 #[.agg #[.slice a h.length c],.string s] w1 (Ret w1 (.bool (isCls h s)))):=HC0.out
 clear HC0
 cases h1:(s.toList == t.toList)
 case true =>
  have HF:Hid (fitsP h s t=true):=by show _=_;rw [HE.out,if_pos h1]
  go_enter Tryz.func298,Tryz.ntmps298
  go_wp2
  go_ret
  exact ⟨ret_bool HF.out.symm,S0.out.hb⟩
 rw [if_neg (by simp [h1])] at HE
 cases h2:(s.toList == ([110,117,108,108]:List UInt8))
 case true =>
  have HF:Hid (fitsP h s t = !(t.toList == [105,110,116])):=by show _=_;rw [HE.out,if_pos h2]
  go_enter Tryz.func298,Tryz.ntmps298
  go_wp2
  go_ret
  exact ⟨ret_bool HF.out.symm,S0.out.hb⟩
 rw [if_neg (by rw [h2];exact Bool.false_ne_true)] at HE
 have HSB:Hid (∀ w1,ClssAt w1 a h→Calls Tryz.prog 369 #[.agg #[.slice a h.length c],.string s,.string t] w1 (Ret w1 (.bool (isSub h s t)))):=fun w1 hc1=>isSub73 h s t a c w1 hc1 hl
 have HC1:=Lib.hid (HC.out s)
 have HC2:=Lib.hid (HC.out t)
 clear HC
 generalize isCls h s=b1 at *
 generalize isCls h t=b2 at *
 generalize isSub h s t=b3 at *
 go_enter Tryz.func298,Tryz.ntmps298
 go_upto_region 5 with (fail)
 generalize w.alloc (.cells #[.slice a h.length c] 24)=W at *
 have x0:=S0.out.b1.cell 0 (by simp)
 go_wp2_with fail
 refine (HC1.out _ S0.out.hc).mono ?_
 rintro e w1 ⟨rfl,hb'⟩
 have S1:=Lib.hid (S0.out.below hb')
 clear S0 hb' x0 HC1
 have x0:=S1.out.b1.cell 0 (by simp)
 cases b1
 case false =>
  go_wp2
  go_ret
  exact ⟨ret_bool (by rw [HE.out];rfl),S1.out.hb⟩
 go_wp2_with fail
 refine (HC2.out _ S1.out.hc).mono ?_
 rintro e w2 ⟨rfl,hb'⟩
 have S2:=Lib.hid (S1.out.below hb')
 clear S1 hb' x0 HC2
 have x0:=S2.out.b1.cell 0 (by simp)
 cases b2
 case false =>
  go_wp2
  go_ret
  exact ⟨ret_bool (by rw [HE.out];rfl),S2.out.hb⟩
 go_wp2_with fail
 refine (HSB.out _ S2.out.hc).mono ?_
 rintro e w3 ⟨rfl,hb'⟩
 go_wp2
 go_ret
 exact ⟨ret_bool (by rw [HE.out];simp),S2.out.hb.trans (hb'.mono S2.out.hb.size)⟩
end Go.Proofs.YtffcklfigpmlgaaGreatDoor
