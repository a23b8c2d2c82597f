/-
  hier.Find of the program.
  The program's fields of a class.
-/
import Derived.Test.YtffcklfigpmlgaaGreatDoorVA
import Derived.Test.YtffcklfigpmlgaaGreatDoorPA
import Derived.Test.YtffcklfigpmlgaaGreatDoorNN
import Derived.Test.YtffcklfigpmlgaaGreatDoorTD
import Derived.Test.YtffcklfigpmlgaaGreatDoorHA
namespace Go.Unit0
theorem fnd_hit {t:Str} {l:List Cls} {k:Nat} (hk:k < l.length) (e:(l[k].name.toList == t.toList)=true):findFrom t (l.drop k) k=k:=by
 rw [List.drop_eq_getElem_cons hk];show (if eqB _ _=true then (k:Int) else _)=_;rw [if_pos (show eqB _ _=true from e)]
theorem fnd_miss {t:Str} {l:List Cls} {k:Nat} (hk:k < l.length) (e:(l[k].name.toList == t.toList)=false):findFrom t (l.drop k) k=findFrom t (l.drop (k + 1)) (k + 1):=by
 rw [List.drop_eq_getElem_cons hk];show (if eqB _ _=true then (k:Int) else _)=_;rw [if_neg (by simp [eqB,e])]
theorem fnd_end {t:Str} {l:List Cls} {k:Nat} (hk:l.length≤k):findFrom t (l.drop k) k = -1:=by
 rw [List.drop_of_length_le hk];rfl
end Go.Unit0
namespace Go.Proofs.YtffcklfigpmlgaaGreatDoor
open Go.RowKit Go.Unit0

set_option maxHeartbeats 1000000 in
theorem classClo (t:Str) (x:Cls) (fa:Option Addr) (fc:Nat) (ma:Option Addr) (mc:Nat) (p:Addr) (w:World) (hp:w.cell? p=some (.string t)) :
 Calls Tryz.prog 194 #[.agg #[.string x.name,.string x.super,.slice fa x.fields.length fc,.slice ma x.methods.length mc],.pointer (some p)] w (Ret w (.bool (x.name.toList == t.toList))):=by
 have HB:=Lib.hid (one_below w (.cells #[.string x.name,.string x.super,.slice fa x.fields.length fc,.slice ma x.methods.length mc] 85))
 have hp':=cell_below HB.out hp
 have HD:Hid ((x.name.toList == t.toList)=(x.name.toList == t.toList)):=rfl
 go_enter Tryz.func194,Tryz.ntmps194
 go_wp2
 go_ret
 exact ⟨rfl,HB.out⟩
set_option maxHeartbeats 2000000 in
theorem indexCl (l:List Cls) (t:Str) (a:Option Addr) (c:Nat) (p:Addr) (w:World) (hl:ClssAt w a l) (hn:l.length≤1000000) (hp:w.cell? p=some (.string t)) :
 Calls Tryz.prog 193 #[.slice a l.length c,.func (.func 194) #[] #[.pointer (some p)]] w (Ret w (.int .i64 (findI l t))):=by
 have HL:=Lib.hid hl;clear hl
 have HP:=Lib.hid hp;clear hp
 go_enter Tryz.func193,Tryz.ntmps193
 go_wp2
 go_loopw [8] (fun i wr=>∃ k:Nat,k≤l.length∧i = .int .i64 k∧Hid (findFrom t (l.drop k) k=findI l t)∧Hid (Below w.heap.size w wr)) (fun i _=>l.length - (intOf i).toNat)
 case atStart=>exact ⟨0,Nat.zero_le _,rfl,rfl,Below.refl _ _⟩
 case round =>
  obtain ⟨k,hk,rfl,HI,HB⟩:=hrel
  by_cases hlt:k < l.length
  ·obtain ⟨b,off,fa,fc,ma,mc,rfl,m0,m1,m2,m3,_,_⟩:=HL.out.below HB.out k hlt
   have HT:=Lib.hid (@fnd_hit t l k hlt)
   have HM:=Lib.hid (@fnd_miss t l k hlt)
   have HC:Hid (∀ x:Cls,Calls Tryz.prog 194 #[.agg #[.string x.name,.string x.super,.slice fa x.fields.length fc,.slice ma x.methods.length mc],.pointer (some p)] wr (Ret wr (.bool (x.name.toList == t.toList)))):=fun x=>classClo t x fa fc ma mc p wr (cell_below HB.out HP.out)
   generalize l[k]=x at *
   have HD:=Lib.hid (HC.out x)
   clear HC
   cases hq:(x.name.toList == t.toList)
   ·rw [hq] at HD
    have HN:=Lib.hid (HM.out hq)
    clear HM HT
    go_wp2_with (go_at_call 194;refine HD.out.mono ?_;rintro e w1 ⟨rfl,hb1⟩)
    go_roundw
    case rel=>exact ⟨k+1,by omega,by go_num,by show _=_;rw [← HN.out];exact HI.out,HB.out.trans (hb1.mono HB.out.size)⟩
    case measure=>simp [intOf];omega
   ·rw [hq] at HD
    have HN:=Lib.hid (HT.out hq)
    clear HM HT
    go_wp2_with (go_at_call 194;refine HD.out.mono ?_;rintro e w1 ⟨rfl,hb1⟩)
    go_ret
    exact ⟨ret_int (by rw [← HI.out,HN.out]),HB.out.trans (hb1.mono HB.out.size)⟩
  ·have HN:=Lib.hid (@fnd_end t l k (by omega))
   go_wp2
   go_ret
   exact ⟨ret_int (by rw [← HI.out,HN.out]),HB.out⟩
set_option maxHeartbeats 1000000 in
theorem hierFind (h:List Cls) (a:Option Addr) (c:Nat) (t:Str) (w:World) (hl:ClssAt w a h) (hn:h.length≤1000000) :
 Calls Tryz.prog 104 #[.agg #[.slice a h.length c],.string t] w (Ret w (.int .i64 (findI h t))):=by
 have HB:=Lib.hid (two_below w (.cells #[.slice a h.length c] 24) (.cells #[.string t] 9))
 have HX:Hid (∀ W,W=(w.alloc (.cells #[.slice a h.length c] 24)).alloc (.cells #[.string t] 9)→W.cell? ⟨w.heap.size + 1,0,none⟩=some (.string t)):=by
  rintro _ rfl
  have h2:=blk_new2 w #[.string t] 9 (.cells #[.slice a h.length c] 24)
  exact (h2.cell 0 (by simp)).trans (by simp)
 have HL:=Lib.hid hl;clear hl
 go_enter Tryz.func104,Tryz.ntmps104
 go_wp2_with (go_at_call 193;refine (indexCl h t a c _ _ (HL.out.below HB.out) hn (HX.out _ rfl)).mono ?_;rintro e w1 ⟨rfl,hb1⟩)
 go_ret
 exact ⟨rfl,HB.out.trans (hb1.mono HB.out.size)⟩
end Go.Proofs.YtffcklfigpmlgaaGreatDoor
namespace Go.Proofs.YtffcklfigpmlgaaGreatDoor
open Go.RowKit Go.Unit0 Go.AM

theorem fldsL_snoc {h:List Cls} {S:List Str} {k:Nat} (hk:k < S.length) {j:Nat} (hj:j < h.length) (e:findC h S[k]=some h[j]) :
 (S.take (k + 1)).flatMap (fun x=>(findC h x).elim [] (fun c=>c.fields.map (·.name)))=(S.take k).flatMap (fun x=>(findC h x).elim [] (fun c=>c.fields.map (·.name))) ++ h[j].fields.map (·.name):=by
 rw [take_snoc hk,List.flatMap_append];simp [e]
theorem fldsL_none {h:List Cls} {S:List Str} {k:Nat} (hk:k < S.length) (e:findC h S[k]=none) :
 (S.take (k + 1)).flatMap (fun x=>(findC h x).elim [] (fun c=>c.fields.map (·.name)))=(S.take k).flatMap (fun x=>(findC h x).elim [] (fun c=>c.fields.map (·.name))):=by
 rw [take_snoc hk,List.flatMap_append];simp [e]
structure FH (g:Nat) (A:Array Value) (out:List Str) (oa:Option Addr) (oc:Nat) (W wr:World):Prop where
 hb:Below W.heap.size W wr
 b1:Blk wr g A 65
 ow:wr.ownsRow W.heap.size 9 1 (.slice oa out.length oc) out.length (out.map Value.string)
section
variable {g:Nat} {A:Array Value} {out:List Str} {oa:Option Addr} {oc:Nat} {W wr w':World}
theorem FH.below (k:FH g A out oa oc W wr) (hb:Below wr.heap.size wr w'):FH g A out oa oc W w':=⟨k.hb.trans (hb.mono k.hb.size),k.b1.below hb,owns_below k.ow hb⟩
theorem FH.grow {out':List Str} {oa':Option Addr} {oc':Nat} (k:FH g A out oa oc W wr) (own:w'.ownsRow W.heap.size 9 1 (.slice oa' out'.length oc') out'.length (out'.map Value.string)) (hg:wr.grownBy w' (Value.slice oa out.length oc).ownBlock):FH g A out' oa' oc' W w' :=
 ⟨grow_below k.hb k.ow hg,k.b1.grown hg (owns_ne k.ow k.b1 (by decide)),own⟩
end
set_option maxRecDepth 100000 in
set_option maxHeartbeats 16000000 in
theorem fields41 (u:Unt) (ha:Option Addr) (hc:Nat) (fa:Option Addr) (fc:Nat) (r:Rsl) (p:RP) (sa:Option Addr) (sc n:Nat) (cls:Str) (w:World) (h:ClssAt w ha u.h) (hk:FitOk u 150) :
 Calls Tryz.prog 57 #[hpV u ha hc fa fc r p sa sc n,.string cls] w (StrsPost (setB (fldsL u.h cls)) w):=by
 have hnc:u.h.length≤12:=hk.nc
 have B0:Hid (FH w.heap.size (hpA u ha hc fa fc r p sa sc n) [] none 0 (w.alloc (hpC u ha hc fa fc r p sa sc n)) (w.alloc (hpC u ha hc fa fc r p sa sc n))):=⟨Below.refl _ _,blk_new ..,World.ownsRow_nil _ _ _ _⟩
 have HB0:=Lib.hid (one_below w (hpC u ha hc fa fc r p sa sc n))
 have HZ:Hid (w.heap.size < (w.alloc (hpC u ha hc fa fc r p sa sc n)).heap.size):=by show _ < _;simp
 have HC0:=Lib.hid (h.below HB0.out)
 have HFL:Hid (∀ x ∈ u.h,x.fields.length≤20):=fun x hx=>(hk.c x hx).f
 have HSU:Hid (∀ w1,ClssAt w1 ha u.h→Calls Tryz.prog 103 #[.agg #[.slice ha u.h.length hc],.string cls] w1 (StrsPost (supP u.h cls) w1)):=fun w1 h1=>supersP u.h cls ha hc w1 h1 (by omega)
 have HFI:Hid (∀ s w1,ClssAt w1 ha u.h→Calls Tryz.prog 104 #[.agg #[.slice ha u.h.length hc],.string s] w1 (Ret w1 (.int .i64 (findI u.h s)))):=fun s w1 h1=>hierFind u.h ha hc s w1 h1 (by omega)
 have hsl:(supP u.h cls).length≤12:=by have:=supP_len u.h cls;omega
 have HG0:Hid (((supP u.h cls).take (supP u.h cls).length).flatMap (fun x=>(findC u.h x).elim [] (fun c=>c.fields.map (·.name)))=fldsL u.h cls):=by show _=_;rw [List.take_length];unfold fldsL;rw [supP_eq]
 generalize supP u.h cls=S at *
 have HGS:Hid (∀ k (hk:k < S.length) (j:Nat) (hj:j < u.h.length),findC u.h S[k]=some u.h[j]→(S.take (k + 1)).flatMap (fun x=>(findC u.h x).elim [] (fun c=>c.fields.map (·.name)))=(S.take k).flatMap (fun x=>(findC u.h x).elim [] (fun c=>c.fields.map (·.name))) ++ u.h[j].fields.map (·.name)):=fun k hk j hj e=>fldsL_snoc hk hj e
 have HGN:Hid (∀ k (hk:k < S.length),findC u.h S[k]=none→(S.take (k + 1)).flatMap (fun x=>(findC u.h x).elim [] (fun c=>c.fields.map (·.name)))=(S.take k).flatMap (fun x=>(findC u.h x).elim [] (fun c=>c.fields.map (·.name)))):=fun k hk e=>fldsL_none hk e
 have HGZ:Hid ((S.take 0).flatMap (fun x=>(findC u.h x).elim [] (fun c=>c.fields.map (·.name))) = []):=rfl
 obtain ⟨G,hG⟩:∃ G:Nat→List Str,G=fun k=>(S.take k).flatMap (fun x=>(findC u.h x).elim [] (fun c=>c.fields.map (·.name))):=⟨_,rfl⟩
 have HG:Hid (∀ k,(S.take k).flatMap (fun x=>(findC u.h x).elim [] (fun c=>c.fields.map (·.name)))=G k):=fun k=>by rw [hG]
 clear hG
 simp only [HG.out] at HG0 HGS HGN HGZ
 clear HG h hk
 generalize fldsL u.h cls=FL at *
 unfold hpV hpC hpA at *
 go_enter Tryz.func57,Tryz.ntmps57
 go_upto_region 1 with (fail)
 generalize w.alloc _=W at *
 have z0:=B0.out.b1.cell 0 (by simp)
 simp only [List.getElem_toArray,List.getElem_cons_zero] at z0
 go_wp2_with (go_at_call 103;refine (HSU.out _ HC0.out).mono ?_;rintro e w1 ⟨hb1,la,lc,rfl,own1⟩)
 have B1:Hid (FH w.heap.size _ [] none 0 w1 w1):=⟨Below.refl _ _,B0.out.b1.below hb1,World.ownsRow_nil _ _ _ _⟩
 have HL1:=Lib.hid (owns_strs' own1).2
 have HBW:=Lib.hid (HB0.out.trans (hb1.mono HB0.out.size))
 have hww:w.heap.size≤w1.heap.size:=HBW.out.size
 have HC1:=Lib.hid (HC0.out.below hb1)
 clear B0 HB0 HZ HC0 hb1 own1 HSU z0
 generalize hW1:w1=W1 at *
 clear hW1
 go_loopw [5,17] (fun v i wr=>∃ (k:Nat) (oa:Option Addr) (oc:Nat),k≤S.length∧(G k).length≤k * 20∧v = .slice oa (G k).length oc∧i = .int .i64 k∧Hid (FH w.heap.size _ (G k) oa oc W1 wr)) (fun _ i _=>S.length - (intOf i).toNat)
 case atStart=>exact ⟨0,none,0,Nat.zero_le _,by rw [HGZ.out];exact Nat.le_refl _,by rw [HGZ.out];rfl,rfl,by rw [HGZ.out];exact B1.out⟩
 case round =>
  clear B1 HGZ
  obtain ⟨k,oa,oc,hk,hgl,rfl,rfl,B⟩:=hrel
  by_cases hlt:k < S.length
  case neg =>
   obtain rfl:k=S.length:=by omega
   rw [HG0.out] at B hgl ⊢
   have hol2:FL.length≤1000000:=by omega
   clear HGS HGN HFI
   go_wp2_with fail
   refine (sort_own FL oa oc W1 _ B.out.hb B.out.ow hol2).mono ?_
   rintro e w1 ⟨rfl,R1⟩
   have R1:=Lib.hid R1
   clear B
   have hs:=sortB_len FL
   go_wp2_with fail
   have e0:Value.slice oa FL.length oc = .slice oa (sortB FL).length oc:=by rw [hs]
   rw [e0]
   refine (compact_own (sortB FL) oa oc W1 _ R1.out.hb R1.out.ow (by omega)).mono ?_
   rintro e w2 ⟨rfl,R2⟩
   have R2:=Lib.hid R2
   clear R1 e0 hs
   go_wp2
   go_ret
   exact ⟨HBW.out.trans (R2.out.hb.mono hww),oa,oc,rfl,owns_mono R2.out.ow hww⟩
  obtain ⟨b,off,he,c0⟩:=(HL1.out.below B.out.hb) k hlt
  subst he
  have z0:=B.out.b1.cell 0 (by simp)
  simp only [List.getElem_toArray,List.getElem_cons_zero] at z0
  have HGS1:=Lib.hid (HGS.out k hlt)
  have HGN1:=Lib.hid (HGN.out k hlt)
  generalize S[k]=s at *
  have HF1:=Lib.hid (HFI.out s _ (HC1.out.below B.out.hb))
  have hfs:=find_spec u.h s
  rcases hfs with ⟨hf1,hf2⟩ | ⟨j,hj,hf1,hf2,-⟩
  ·have HN:=Lib.hid (HGN1.out hf1)
   rw [hf2] at HF1
   clear hf1 hf2 HGS1 HGN1
   go_wp2_with (go_at_call 104;refine HF1.out.mono ?_;rintro e w1 ⟨rfl,hb1⟩)
   go_roundw
   case rel=>exact ⟨k + 1,oa,oc,by omega,by rw [HN.out];omega,by rw [HN.out],by go_num,by rw [HN.out];exact B.out.below hb1⟩
   case measure=>simp [intOf];omega
  have HN:=Lib.hid (HGS1.out j hj hf2)
  rw [hf1] at HF1
  clear hf1 hf2 HGS1 HGN1
  go_upto_region 6 with (go_at_call 104;refine HF1.out.mono ?_;rintro e w1 ⟨rfl,hb1⟩)
  have B1:=Lib.hid (B.out.below hb1)
  clear B HF1 hb1 z0 c0
  have z0:=B1.out.b1.cell 0 (by simp)
  simp only [List.getElem_toArray,List.getElem_cons_zero] at z0
  obtain ⟨b2,off2,ffa,ffc,ma,mc,he,m0,m1,m2,m3,hfx,-⟩:=(HC1.out.below B1.out.hb) j hj
  subst he
  have hxl:=HFL.out _ (List.getElem_mem hj)
  have HFX:Hid (FldsAt W1 ffa u.h[j].fields):=by
   obtain ⟨b',off',ffa',ffc',ma',mc',he',-,-,n2,-,hfx',-⟩:=HC1.out j hj
   cases he'
   have:=cell_below B1.out.hb n2
   rw [m2] at this
   cases this
   exact hfx'
  generalize u.h[j].fields=xf at *
  clear hfx m0 m1 m3
  go_wp2
  clear z0 m2
  go_loopw [5,37] (fun v i wr=>∃ (q:Nat) (out':List Str) (oa:Option Addr) (oc:Nat),q≤xf.length∧out'.length≤k * 20 + q∧v = .slice oa out'.length oc∧i = .int .i64 (q:Nat)∧Hid (out' = G k ++ (xf.take q).map (·.name))∧Hid (FH w.heap.size _ out' oa oc W1 wr)) (fun _ i _=>xf.length - (intOf i).toNat)
  case atStart=>exact ⟨0,G k,oa,oc,Nat.zero_le _,by omega,rfl,rfl,(by show _=_;simp),B1.out⟩
  case round =>
   clear B1
   obtain ⟨q,out',oa',oc',hq,hol',rfl,rfl,HJ,B⟩:=hrel
   by_cases hkl:q < xf.length
   case neg =>
    have HE:Hid (out' = G (k + 1)):=by show _=_;rw [HN.out,HJ.out,show xf.take q=xf from List.take_of_length_le (by omega)]
    have hol2:out'.length≤(k + 1) * 20:=by omega
    obtain rfl:=HE.out
    clear HJ HE
    go_wp2
    go_roundw
    case rel=>exact ⟨k + 1,oa',oc',by omega,hol2,rfl,by go_num,B.out⟩
    case measure=>simp [intOf];omega
   have HFW:=Lib.hid (HFX.out.below B.out.hb)
   obtain ⟨b3,o3,he3,p0,p1⟩:=HFW.out q hkl
   subst he3
   have HJN:Hid (out' ++ [xf[q].name]=G k ++ (xf.take (q + 1)).map (·.name)):=by
    show _=_
    rw [HJ.out,List.take_succ_eq_append_getElem hkl,List.map_append,List.append_assoc];rfl
   generalize xf[q].name=nm at *
   generalize xf[q].type=ty at *
   have BZ:Hid (Blk (wr.alloc zFdC) wr.heap.size _ 126):=blk_new ..
   have hsz:wr.heap.size≤wr.heap.size:=Nat.le_refl _
   go_upto_region 10 with (refine storeField rfl rfl _ _ rfl wr.heap.size nm ty rfl rfl _ BZ.out rfl ?_)
   have HB2:=Lib.hid (below_row (one_below wr zFdC) hsz #[.string nm,.string ty])
   have B2:=Lib.hid (BZ.out.setRow #[.string nm,.string ty])
   have S2:=Lib.hid (B.out.below HB2.out)
   clear B BZ HB2 HFW p0 p1 hsz
   generalize (wr.alloc zFdC).setRow wr.heap.size _=W3 at *
   generalize wr.heap.size=n3 at *
   have y0:=B2.out.cell 0 (by simp)
   simp only [List.getElem_toArray,List.getElem_cons_zero] at y0
   have O1:=Lib.hid (S2.out.below (one_below W3 (.cells #[.string nm] 9)))
   have B1:Hid (Blk (W3.alloc (.cells #[.string nm] 9)) W3.heap.size #[.string nm] 9):=blk_new ..
   have hbs:=O1.out.hb.size
   have hoc:out'.length≤1000000:=by omega
   go_wp2_with (at_builtin;refine app_str rfl _ _ rfl W1.heap.size _ out' rfl O1.out.ow W3.heap.size nm rfl B1.out hoc hbs ?_;intro v' w3 own3 grown3)
   obtain ⟨-,oa3,oc3,rfl,-,-⟩:=owns_strs own3
   have S3:=Lib.hid (FH.grow O1.out own3 grown3)
   clear O1 B1 own3 grown3 S2 B2 y0
   have hlen:(out' ++ [nm]).length=out'.length + 1:=by simp
   go_wp2
   go_roundw
   case rel=>exact ⟨q + 1,out' ++ [nm],oa3,oc3,by omega,by omega,rfl,by go_num,HJN.out,S3.out⟩
   case measure=>simp [intOf];omega
end Go.Proofs.YtffcklfigpmlgaaGreatDoor
