/-
  The program's hierarchies: methodIn.
  The program's tables of a hierarchy: named.
-/
import Derived.Test.YtffcklfigpmlgaaGreatDoorTA
namespace Go.Proofs.YtffcklfigpmlgaaGreatDoor
open Go.RowKit Go.Unit0 Go.AM

def mthFrom (t:Str):List Sgn→Nat→Int
 | [],_=>-1
 | x :: l,k=>if (x.name.toList == t.toList)=true then (k:Int) else mthFrom t l (k + 1)
def mthI (l:List Sgn) (t:Str):Int:=mthFrom t l 0
theorem mth_hit {t:Str} {l:List Sgn} {k:Nat} (hk:k < l.length) (e:(l[k].name.toList == t.toList)=true):mthFrom t (l.drop k) k=k:=by
 rw [List.drop_eq_getElem_cons hk];show (if _ then (k:Int) else _)=_;rw [if_pos e]
theorem mth_miss {t:Str} {l:List Sgn} {k:Nat} (hk:k < l.length) (e:(l[k].name.toList == t.toList)=false):mthFrom t (l.drop k) k=mthFrom t (l.drop (k + 1)) (k + 1):=by
 rw [List.drop_eq_getElem_cons hk];show (if _ then (k:Int) else _)=_;rw [if_neg (by simp [e])]
theorem mth_end {t:Str} {l:List Sgn} {k:Nat} (hk:l.length≤k):mthFrom t (l.drop k) k = -1:=by
 rw [List.drop_of_length_le hk];rfl
set_option maxHeartbeats 1000000 in
theorem methodClo (t:Str) (x:Sgn) (pa:Option Addr) (pc:Nat) (p:Addr) (w:World) (hp:w.cell? p=some (.string t)) :
 Calls Tryz.prog 418 #[.agg #[.string x.name,.bool x.stat,.slice pa x.params.length pc,.string x.result],.pointer (some p)] w (Ret w (.bool (x.name.toList == t.toList))):=by
 have HB:=Lib.hid (one_below w (.cells #[.string x.name,.bool x.stat,.slice pa x.params.length pc,.string x.result] 87))
 have hp':=cell_below HB.out hp
 have HD:Hid ((x.name.toList == t.toList)=(x.name.toList == t.toList)):=rfl
 go_enter Tryz.func418,Tryz.ntmps418
 go_wp2
 go_ret
 exact ⟨rfl,HB.out⟩
set_option maxHeartbeats 2000000 in
theorem indexSg (l:List Sgn) (t:Str) (a:Option Addr) (c:Nat) (p:Addr) (w:World) (hl:SgnsAt w a l) (hn:l.length≤1000000) (hp:w.cell? p=some (.string t)) :
 Calls Tryz.prog 319 #[.slice a l.length c,.func (.func 418) #[] #[.pointer (some p)]] w (Ret w (.int .i64 (mthI l t))):=by
 have HL:=Lib.hid hl;clear hl
 have HP:=Lib.hid hp;clear hp
 go_enter Tryz.func319,Tryz.ntmps319
 go_wp2
 go_loopw [8] (fun i wr=>∃ k:Nat,k≤l.length∧i = .int .i64 k∧Hid (mthFrom t (l.drop k) k=mthI l t)∧Hid (Below w.heap.size w wr)) (fun i _=>l.length - (intOf i).toNat)
 case atStart=>exact ⟨0,Nat.zero_le _,rfl,rfl,Below.refl _ _⟩
 case round =>
  obtain ⟨k,hk,rfl,HI,HB⟩:=hrel
  by_cases hlt:k < l.length
  ·obtain ⟨b,off,pa,pc,rfl,m0,m1,m2,m3,_⟩:=HL.out.below HB.out k hlt
   have HT:=Lib.hid (@mth_hit t l k hlt)
   have HM:=Lib.hid (@mth_miss t l k hlt)
   have HC:Hid (∀ x:Sgn,Calls Tryz.prog 418 #[.agg #[.string x.name,.bool x.stat,.slice pa x.params.length pc,.string x.result],.pointer (some p)] wr (Ret wr (.bool (x.name.toList == t.toList)))):=fun x=>methodClo t x pa pc p wr (cell_below HB.out HP.out)
   generalize l[k]=x at *
   have HD:=Lib.hid (HC.out x)
   clear HC
   cases hq:(x.name.toList == t.toList)
   ·rw [hq] at HD
    have HN:=Lib.hid (HM.out hq)
    clear HM HT
    go_wp2_with (go_at_call 418;refine HD.out.mono ?_;rintro e w1 ⟨rfl,hb1⟩)
    go_roundw
    case rel=>exact ⟨k+1,by omega,by go_num,by show _=_;rw [← HN.out];exact HI.out,HB.out.trans (hb1.mono HB.out.size)⟩
    case measure=>simp [intOf];omega
   ·rw [hq] at HD
    have HN:=Lib.hid (HT.out hq)
    clear HM HT
    go_wp2_with (go_at_call 418;refine HD.out.mono ?_;rintro e w1 ⟨rfl,hb1⟩)
    go_ret
    exact ⟨ret_int (by rw [← HI.out,HN.out]),HB.out.trans (hb1.mono HB.out.size)⟩
  ·have HN:=Lib.hid (@mth_end t l k (by omega))
   go_wp2
   go_ret
   exact ⟨ret_int (by rw [← HI.out,HN.out]),HB.out⟩
set_option maxHeartbeats 1000000 in
theorem methodIn (x:Cls) (fa:Option Addr) (fc:Nat) (ma:Option Addr) (mc:Nat) (t:Str) (w:World) (hl:SgnsAt w ma x.methods) (hn:x.methods.length≤1000000) :
 Calls Tryz.prog 378 #[.agg #[.string x.name,.string x.super,.slice fa x.fields.length fc,.slice ma x.methods.length mc],.string t] w (Ret w (.int .i64 (mthI x.methods t))):=by
 have HB:=Lib.hid (two_below w (.cells #[.string x.name,.string x.super,.slice fa x.fields.length fc,.slice ma x.methods.length mc] 85) (.cells #[.string t] 9))
 have HX:Hid (∀ W,W=(w.alloc (.cells #[.string x.name,.string x.super,.slice fa x.fields.length fc,.slice ma x.methods.length mc] 85)).alloc (.cells #[.string t] 9)→W.cell? ⟨w.heap.size + 1,0,none⟩=some (.string t)):=by
  rintro _ rfl
  have h2:=blk_new2 w #[.string t] 9 (.cells #[.string x.name,.string x.super,.slice fa x.fields.length fc,.slice ma x.methods.length mc] 85)
  exact (h2.cell 0 (by simp)).trans (by simp)
 have HL:=Lib.hid hl;clear hl
 go_enter Tryz.func378,Tryz.ntmps378
 go_wp2_with (go_at_call 319;refine (indexSg x.methods t ma mc _ _ (HL.out.below HB.out) hn (HX.out _ rfl)).mono ?_;rintro e w1 ⟨rfl,hb1⟩)
 go_ret
 exact ⟨rfl,HB.out.trans (hb1.mono HB.out.size)⟩
end Go.Proofs.YtffcklfigpmlgaaGreatDoor
namespace Go.Proofs.YtffcklfigpmlgaaGreatDoor
open Go.RowKit Go.Unit0 Go.AM

theorem findI_in (h:List Cls) (s:Str):findI h s = -1 ∨ ∃ j:Nat,j < h.length∧findI h s=j:=by
 rcases find_spec h s with ⟨_,f2⟩ | ⟨j,hj,f1,_,_⟩
 ·exact .inl f2
 ·exact .inr ⟨j,hj,f1⟩
set_option maxHeartbeats 2000000 in
theorem tnamed (h:List Cls) (s:Str) (a:Option Addr) (c g:Nat) (w:World) (hc:ClssAt w a h) (hl:h.length≤100000) (hg:TabAt w g h) :
 Calls Tryz.prog 99 #[.agg #[.slice a h.length c,.map (some g)],.string s] w (IntsPost (chI h (findI h s)).1 w):=by
 have S:=Lib.hid (TB.start (c:=c) hc hg)
 have HF:Hid (∀ (w1:World),TabAt w1 g h→Calls Tryz.prog 188 #[.agg #[.slice a h.length c,.map (some g)],.string s] w1 (Ret w1 (.int .i64 (findI h s)))):=fun w1 h1=>tfind h s a c g w1 h1
 have HK:Hid (∀ (w1:World),ClssAt w1 a h→TabAt w1 g h→Calls Tryz.prog 187 #[.agg #[.slice a h.length c,.map (some g)],.int .i64 (findI h s)] w1 (ChPost h (findI h s) w1)):=fun w1 h1 h2=>tchain h a c g _ (findI_in h s) w1 h1 hl h2
 clear hc hg
 unfold ChPost at HK
 generalize findI h s=i at *
 generalize (chI h i).1=r at *
 generalize (chI h i).2=z at *
 go_enter Tryz.func99,Tryz.ntmps99
 go_upto_region 1 with (fail)
 generalize w.alloc _=W at *
 go_cut [5] (fun v wx=>∃ (oa:Option Addr) (oc:Nat),v = .slice oa r.length oc∧Hid (Below w.heap.size w wx)∧Hid (wx.ownsRow w.heap.size 3 1 (.slice oa r.length oc) r.length (r.map intV)))
 case first =>
  have hbs:=S.out.hb.size
  have k0:∀ o:WB W,o.u.cell? ⟨w.heap.size,0,none⟩=some (.slice a h.length c):=fun o=>(S.out.now o.h).1
  have k1:∀ o:WB W,o.u.cell? ⟨w.heap.size,1,none⟩=some (.map (some g)):=fun o=>(S.out.now o.h).2
  have hne:Nonempty (WB W):=⟨⟨W,Below.refl _ _⟩⟩
  have hcur:Below W.heap.size W W.drew:=(Below.refl _ _).drew
  refine wp_region_Y (fun w'=>∃ o:WB W,w' = o.u) (by kernel_rfl) ?_
  change wpAnyY _ _ _ _ _ _ _ _ W.drew
  refine wpAnyY_take 0 rfl (by kernel_rfl) (fun _ _ _ _ h=>h) ⟨⟨_,hcur⟩,rfl⟩ (fun K hK=>?_);go_simp;refine hK _ ?_;clear hK K
  refine wpAnyY_take 1 rfl (by kernel_rfl) (fun _ _ _ _ h=>h) ⟨⟨_,hcur⟩,rfl⟩ (fun K hK=>?_);go_simp;refine hK _ ?_;clear hK K
  refine wpAnyY_take 2 rfl (by kernel_rfl) (fun _ _ _ _ h=>h) ⟨⟨_,hcur⟩,rfl⟩ (fun K hK=>?_);go_simp;refine hK _ ?_;clear hK K
  refine wpAnyY_one 3 rfl (by kernel_rfl) ?_
  go_wp2_with fail
  refine (HF.out _ (S.out.below hcur).tg).mono ?_
  rintro e w2 ⟨rfl,hb2⟩
  have hcur2:Below W.heap.size W w2:=hcur.trans (hb2.mono hcur.size)
  go_wp2
  refine ⟨⟨⟨_,hcur2⟩,rfl⟩,?_⟩
  refine wpAnyY_one 4 rfl (by kernel_rfl) ?_
  go_wp2_with fail
  refine (HK.out _ (S.out.below hcur2).hc (S.out.below hcur2).tg).mono ?_
  rintro e w3 ⟨hb3,oa,oc,rfl,own⟩
  have hcur3:Below W.heap.size W w3:=hcur2.trans (hb3.mono hcur2.size)
  have OW:Hid (w3.ownsRow w.heap.size 3 1 (.slice oa r.length oc) r.length (r.map intV)):=owns_mono own (Nat.le_trans hbs hcur2.size)
  clear own
  go_wp2
  refine ⟨⟨⟨_,hcur3⟩,rfl⟩,?_⟩
  refine wpAnyY_one 5 rfl (by kernel_rfl) ?_
  go_wp2
  refine ⟨⟨⟨_,hcur3⟩,rfl⟩,?_⟩
  refine wpAnyY_take 6 rfl (by kernel_rfl) (fun _ _ _ _ h=>h) ⟨⟨_,hcur3⟩,rfl⟩ (fun K hK=>?_);go_simp;refine hK _ ?_;clear hK K
  refine wpAnyY_take 7 rfl (by kernel_rfl) (fun _ _ _ _ h=>h) ⟨⟨_,hcur3⟩,rfl⟩ (fun K hK=>?_);go_simp;refine hK _ ?_;clear hK K
  refine wpAnyY_take 8 rfl (by kernel_rfl) (fun _ _ _ _ h=>h) ⟨⟨_,hcur3⟩,rfl⟩ (fun K hK=>?_);go_simp;refine hK _ ?_;clear hK K
  refine wpAnyY_one 9 rfl (by kernel_rfl) ?_
  go_wp2
  refine ⟨⟨⟨_,hcur3⟩,rfl⟩,?_⟩
  refine wpAnyY_done (by kernel_rfl) ?_ _
  go_wp2
  go_meet
  exact ⟨oa,oc,rfl,S.out.hb.trans (hcur3.mono hbs),OW.out⟩
 case rest =>
  obtain ⟨oa,oc,rfl,HB,OW⟩:=hcut
  go_wp2
  go_ret
  exact ⟨HB.out,oa,oc,rfl,OW.out⟩
end Go.Proofs.YtffcklfigpmlgaaGreatDoor
