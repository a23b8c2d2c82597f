/-
  The program's hierarchies: Lookup; a list of strings cloned.
  The program's hierarchies: fieldIn and Field.
  Edges compared by the program.
  Cells compared and sorted by the program.
-/
import Derived.Test.YtffcklfigpmlgaaGreatDoorHA
import Derived.Test.YtffcklfigpmlgaaGreatDoorTD
import Derived.Test.YtffcklfigpmlgaaGreatDoorGA
import Derived.Test.YtffcklfigpmlgaaGreatDoorShelf
import Derived.Test.YtffcklfigpmlgaaGreatDoorHK
import Derived.Shelf.SlSortCmp.NoneTotal
import Derived.Test.YtffcklfigpmlgaaGreatDoorXA
import Derived.Test.YtffcklfigpmlgaaGreatDoorSortf
namespace Go.Proofs.YtffcklfigpmlgaaGreatDoor
open Go.RowKit Go.Unit0 Go.AM

structure LQ (h:List Cls) (a:Option Addr) (c g tb:Nat) (cs:Array Value) (w wr:World):Prop where
 hb:Below w.heap.size w wr
 bt:Blk wr tb #[.slice a h.length c,.map (some g)] 179
 rs:Blk wr (w.heap.size + 1) cs 87
 hc:ClssAt wr a h
 tg:TabAt wr g h
 sz:w.heap.size + 1 < wr.heap.size
theorem LQ.below {h:List Cls} {a:Option Addr} {c g tb:Nat} {cs:Array Value} {w wr w':World} (k:LQ h a c g tb cs w wr) (hb:Below wr.heap.size wr w'):LQ h a c g tb cs w w' :=
 ⟨k.hb.trans (hb.mono k.hb.size),k.bt.below hb,k.rs.below hb,k.hc.below hb,k.tg.below hb,Nat.lt_of_lt_of_le k.sz hb.size⟩
end Go.Proofs.YtffcklfigpmlgaaGreatDoor
namespace Go.Proofs.YtffcklfigpmlgaaGreatDoor
open Go.RowKit Go.Unit0 Go.AM

def fldFrom (t:Str):List Fld→Nat→Int
 | [],_=>-1
 | x :: l,k=>if (x.name.toList == t.toList)=true then (k:Int) else fldFrom t l (k + 1)
def fldI (l:List Fld) (t:Str):Int:=fldFrom t l 0
theorem fldI_hit {t:Str} {l:List Fld} {k:Nat} (hk:k < l.length) (e:(l[k].name.toList == t.toList)=true):fldFrom t (l.drop k) k=k:=by
 rw [List.drop_eq_getElem_cons hk];show (if _ then (k:Int) else _)=_;rw [if_pos e]
theorem fldI_miss {t:Str} {l:List Fld} {k:Nat} (hk:k < l.length) (e:(l[k].name.toList == t.toList)=false):fldFrom t (l.drop k) k=fldFrom t (l.drop (k + 1)) (k + 1):=by
 rw [List.drop_eq_getElem_cons hk];show (if _ then (k:Int) else _)=_;rw [if_neg (by simp [e])]
theorem fldI_end {t:Str} {l:List Fld} {k:Nat} (hk:l.length≤k):fldFrom t (l.drop k) k = -1:=by
 rw [List.drop_of_length_le hk];rfl
theorem fldFrom_spec (t:Str):∀ (l:List Fld) (k:Nat),(fldIn l t=none∧fldFrom t l k = -1) ∨ ∃ (j:Nat) (hj:j < l.length),fldFrom t l k=((k + j:Nat):Int)∧fldIn l t=some l[j]
 | [],k=>.inl ⟨rfl,rfl⟩
 | x :: l,k=>by
   by_cases e:(x.name.toList == t.toList)=true
   ·refine .inr ⟨0,by simp,?_,?_⟩
    ·show (if _ then (k:Int) else _)=_;rw [if_pos e];simp
    ·unfold fldIn;rw [List.find?_cons_of_pos (p:=fun f:Fld=>eqB f.name t) (show eqB _ _=true from e)];rfl
   ·have e1:fldFrom t (x :: l) k=fldFrom t l (k + 1):=by
     show (if _ then (k:Int) else _)=_;rw [if_neg e]
    have e2:fldIn (x :: l) t=fldIn l t:=by
     unfold fldIn;rw [List.find?_cons_of_neg (p:=fun f:Fld=>eqB f.name t) (show ¬ eqB _ _=true from e)]
    rw [e1,e2]
    rcases fldFrom_spec t l (k + 1) with h1 | ⟨j,hj,h1,h2⟩
    ·exact .inl h1
    ·exact .inr ⟨j + 1,by simp;omega,by rw [h1];omega,by rw [h2];simp⟩
theorem fldI_spec (l:List Fld) (t:Str):(fldIn l t=none∧fldI l t = -1) ∨ ∃ (j:Nat) (hj:j < l.length),fldI l t=(j:Int)∧fldIn l t=some l[j]:=by
 rcases fldFrom_spec t l 0 with h | ⟨j,hj,h1,h2⟩
 ·exact .inl h
 ·exact .inr ⟨j,hj,by unfold fldI;rw [h1];simp,h2⟩
set_option maxHeartbeats 1000000 in
theorem fieldClo (t:Str) (x:Fld) (p:Addr) (w:World) (hp:w.cell? p=some (.string t)) :
 Calls Tryz.prog 190 #[.agg #[.string x.name,.string x.type],.pointer (some p)] w (Ret w (.bool (x.name.toList == t.toList))):=by
 have HB:=Lib.hid (one_below w (.cells #[.string x.name,.string x.type] 126))
 have hp':=cell_below HB.out hp
 have HD:Hid ((x.name.toList == t.toList)=(x.name.toList == t.toList)):=rfl
 go_enter Tryz.func190,Tryz.ntmps190
 go_wp2
 go_ret
 exact ⟨rfl,HB.out⟩
set_option maxHeartbeats 2000000 in
theorem indexFd (l:List Fld) (t:Str) (a:Option Addr) (c:Nat) (p:Addr) (w:World) (hl:FldsAt w a l) (hn:l.length≤1000000) (hp:w.cell? p=some (.string t)) :
 Calls Tryz.prog 189 #[.slice a l.length c,.func (.func 190) #[] #[.pointer (some p)]] w (Ret w (.int .i64 (fldI l t))):=by
 have HL:=Lib.hid hl;clear hl
 have HP:=Lib.hid hp;clear hp
 go_enter Tryz.func189,Tryz.ntmps189
 go_wp2
 go_loopw [8] (fun i wr=>∃ k:Nat,k≤l.length∧i = .int .i64 k∧Hid (fldFrom t (l.drop k) k=fldI l t)∧Hid (Below w.heap.size w wr)) (fun i _=>l.length - (intOf i).toNat)
 case atStart=>exact ⟨0,Nat.zero_le _,rfl,rfl,Below.refl _ _⟩
 case round =>
  obtain ⟨k,hk,rfl,HI,HB⟩:=hrel
  by_cases hlt:k < l.length
  ·obtain ⟨b,off,rfl,m0,m1⟩:=HL.out.below HB.out k hlt
   have HT:=Lib.hid (@fldI_hit t l k hlt)
   have HM:=Lib.hid (@fldI_miss t l k hlt)
   have HC:Hid (∀ x:Fld,Calls Tryz.prog 190 #[.agg #[.string x.name,.string x.type],.pointer (some p)] wr (Ret wr (.bool (x.name.toList == t.toList)))):=fun x=>fieldClo t x p wr (cell_below HB.out HP.out)
   generalize l[k]=x at *
   have HD:=Lib.hid (HC.out x)
   clear HC
   cases hq:(x.name.toList == t.toList)
   ·rw [hq] at HD
    have HN:=Lib.hid (HM.out hq)
    clear HM HT
    go_wp2_with (go_at_call 190;refine HD.out.mono ?_;rintro e w1 ⟨rfl,hb1⟩)
    go_roundw
    case rel=>exact ⟨k+1,by omega,by go_num,by show _=_;rw [← HN.out];exact HI.out,HB.out.trans (hb1.mono HB.out.size)⟩
    case measure=>simp [intOf];omega
   ·rw [hq] at HD
    have HN:=Lib.hid (HT.out hq)
    clear HM HT
    go_wp2_with (go_at_call 190;refine HD.out.mono ?_;rintro e w1 ⟨rfl,hb1⟩)
    go_ret
    exact ⟨ret_int (by rw [← HI.out,HN.out]),HB.out.trans (hb1.mono HB.out.size)⟩
  ·have HN:=Lib.hid (@fldI_end t l k (by omega))
   go_wp2
   go_ret
   exact ⟨ret_int (by rw [← HI.out,HN.out]),HB.out⟩
set_option maxHeartbeats 1000000 in
theorem fieldIn (x:Cls) (fa:Option Addr) (fc:Nat) (ma:Option Addr) (mc:Nat) (t:Str) (w:World) (hl:FldsAt w fa x.fields) (hn:x.fields.length≤1000000) :
 Calls Tryz.prog 100 #[.agg #[.string x.name,.string x.super,.slice fa x.fields.length fc,.slice ma x.methods.length mc],.string t] w (Ret w (.int .i64 (fldI x.fields t))):=by
 have HB:=Lib.hid (two_below w (.cells #[.string x.name,.string x.super,.slice fa x.fields.length fc,.slice ma x.methods.length mc] 85) (.cells #[.string t] 9))
 have HX:Hid (∀ W,W=(w.alloc (.cells #[.string x.name,.string x.super,.slice fa x.fields.length fc,.slice ma x.methods.length mc] 85)).alloc (.cells #[.string t] 9)→W.cell? ⟨w.heap.size + 1,0,none⟩=some (.string t)):=by
  rintro _ rfl
  have h2:=blk_new2 w #[.string t] 9 (.cells #[.string x.name,.string x.super,.slice fa x.fields.length fc,.slice ma x.methods.length mc] 85)
  exact (h2.cell 0 (by simp)).trans (by simp)
 have HL:=Lib.hid hl;clear hl
 go_enter Tryz.func100,Tryz.ntmps100
 go_wp2_with (go_at_call 189;refine (indexFd x.fields t fa fc _ _ (HL.out.below HB.out) hn (HX.out _ rfl)).mono ?_;rintro e w1 ⟨rfl,hb1⟩)
 go_ret
 exact ⟨rfl,HB.out.trans (hb1.mono HB.out.size)⟩
structure FQ (h:List Cls) (a:Option Addr) (c g tb:Nat) (r:List Int) (oa:Option Addr) (w wr:World):Prop where
 hb:Below w.heap.size w wr
 bt:Blk wr tb #[.slice a h.length c,.map (some g)] 179
 hc:ClssAt wr a h
 it:IntsAt wr oa r
theorem FQ.below {h:List Cls} {a:Option Addr} {c g tb:Nat} {r:List Int} {oa:Option Addr} {w wr w':World} (k:FQ h a c g tb r oa w wr) (hb:Below wr.heap.size wr w'):FQ h a c g tb r oa w w' :=
 ⟨k.hb.trans (hb.mono k.hb.size),k.bt.below hb,k.hc.below hb,k.it.below hb⟩
theorem fldP_step {h:List Cls} {t:Str} {r:List Int} {q j:Nat} (hq:q < r.length) (hj:j < h.length) (e:r[q]=(j:Int)) (hf:findI h h[j].name=(j:Int)) :
 (fldIn h[j].fields t=none→fieldF h t ((r.drop q).map (nameAt h))=fieldF h t ((r.drop (q + 1)).map (nameAt h)))∧(∀ g,fldIn h[j].fields t=some g→fieldF h t ((r.drop q).map (nameAt h))=some (h[j].name,g)):=by
 have hc:=findC_fst hj hf
 have e1:(r.drop q).map (nameAt h)=h[j].name :: (r.drop (q + 1)).map (nameAt h):=by
  rw [List.drop_eq_getElem_cons hq,List.map_cons,e,nameAt_nat hj]
 rw [e1]
 constructor
 ·intro hn
  have:=fieldF_miss (h:=h) (s:=t) (L:=h[j].name :: (r.drop (q + 1)).map (nameAt h)) (k:=0) (by simp) hc hn
  simpa using this
 ·intro g hg
  have:=fieldF_hit (h:=h) (s:=t) (L:=h[j].name :: (r.drop (q + 1)).map (nameAt h)) (k:=0) (by simp) hc hg
  simpa using this
set_option maxRecDepth 100000 in
set_option maxHeartbeats 8000000 in
theorem fieldP86 (h:List Cls) (s t:Str) (a:Option Addr) (c:Nat) (w:World) (hc:ClssAt w a h) (hl:h.length≤100000) (hm:∀ x ∈ h,x.fields.length≤100000) :
 Calls Tryz.prog 55 #[.agg #[.slice a h.length c],.string s,.string t] w (FieldPost (fieldP h s t) w):=by
 have HB:=Lib.hid (one_below w (.cells #[.slice a h.length c] 24))
 have HX:Hid (Blk (w.alloc (.cells #[.slice a h.length c] 24)) w.heap.size #[.slice a h.length c] 24):=blk_new ..
 have HC0:=Lib.hid hc
 have HM:=Lib.hid hm
 have HT:Hid (∀ w1,ClssAt w1 a h→Calls Tryz.prog 98 #[.agg #[.slice a h.length c]] w1 (TabPost h a c w1)):=fun w1 h1=>tableOf h a c w1 h1 hl
 have HN:Hid (∀ g w1,ClssAt w1 a h→TabAt w1 g h→Calls Tryz.prog 99 #[.agg #[.slice a h.length c,.map (some g)],.string s] w1 (IntsPost (chI h (findI h s)).1 w1)):=fun g w1 h1 h2=>tnamed h s a c g w1 h1 hl h2
 have HP:Hid (fieldF h t ((chI h (findI h s)).1.map (nameAt h))=fieldP h s t):=by
  show _=fieldF h t (supers h s)
  rw [← supP_eq];rfl
 have HF:Hid (∀ x ∈ (chI h (findI h s)).1,isFst h x):=chI_fst fun k=>findI_fst k
 have hlen:(chI h (findI h s)).1.length≤h.length:=chI_len (findI_in h s)
 have HRS:=Tryz.results55
 clear hc hm
 generalize fieldP h s t=R at *
 generalize (chI h (findI h s)).1=r at *
 go_enter Tryz.func55,Tryz.ntmps55
 go_upto_region 1 with (fail)
 generalize w.alloc _=W at *
 have x0:=HX.out.cell 0 (by simp)
 go_upto_region 2 with (go_at_call 98;refine (HT.out _ (HC0.out.below HB.out)).mono ?_;rintro e w1 ⟨hb1,g,rfl,tg,hgg⟩)
 have hws:=HB.out.size
 have hb1':Below w.heap.size w w1:=HB.out.trans (hb1.mono hws)
 have hob:=one_below w1 (.cells #[.slice a h.length c,.map (some g)] 179)
 have hb2:=Lib.hid (hb1'.trans (hob.mono hb1'.size))
 have BT:Hid (Blk (w1.alloc (.cells #[.slice a h.length c,.map (some g)] 179)) w1.heap.size #[.slice a h.length c,.map (some g)] 179):=blk_new ..
 have TG:=Lib.hid (tg.below hob)
 have HC2:=Lib.hid (HC0.out.below hb2.out)
 clear hb1 hb1' hob tg HX x0 HB hws HT
 replace HN:=Lib.hid (HN.out g)
 generalize w1.heap.size=tb at *
 generalize w1.alloc _=W2 at *
 have t0:=BT.out.cell 0 (by simp)
 have t1:=BT.out.cell 1 (by simp)
 simp only [List.getElem_toArray,List.getElem_cons_zero,List.getElem_cons_succ] at t0 t1
 go_wp2_with (go_at_call 99;refine (HN.out _ HC2.out TG.out).mono ?_;rintro e w3 ⟨hb3,oa,oc,rfl,own⟩)
 obtain ⟨-,_,_,he,-,hat⟩:=owns_ints own
 cases he
 have S0:Hid (FQ h a c g tb r oa w w3):=⟨hb2.out.trans (hb3.mono hb2.out.size),BT.out.below hb3,HC2.out.below hb3,hat⟩
 clear hb2 hb3 BT TG HC2 HN own hat t0 t1
 go_loopw [20] (fun v wr=>∃ q:Nat,q≤r.length∧v = .int .i64 q∧Hid (fieldF h t ((r.drop q).map (nameAt h))=R)∧Hid (FQ h a c g tb r oa w wr)) (fun v _=>r.length - (intOf v).toNat)
 case atStart=>exact ⟨0,Nat.zero_le _,rfl,HP.out,S0.out⟩
 case round =>
  clear S0 HP
  obtain ⟨q,hq,rfl,HI,S⟩:=hrel
  by_cases hlt:q < r.length
  case neg =>
   have HE:Hid (R=none):=by
    show _=_
    rw [← HI.out,List.drop_of_length_le (by omega)];rfl
   go_wp2
   refine bodyPost_ret (v:=.tuple #[.string ⟨#[]⟩,.string ⟨#[]⟩,.bool false]) (by simp [results,go_sem]) rfl ?_
   exact ⟨S.out.hb,.inl ⟨HE.out,rfl⟩⟩
  obtain ⟨b1,o1,he,p1⟩:=S.out.it q hlt
  subst he
  obtain ⟨j,hj,ej,hf⟩:=HF.out _ (List.getElem_mem hlt)
  have HST:=Lib.hid (@fldP_step h t r q j hlt hj ej hf)
  rw [ej] at p1
  clear ej hf
  have hfl:=HM.out _ (List.getElem_mem hj)
  obtain ⟨b,off,fa,fc,ma,mc,he,m0,m1,m2,m3,hfs,_⟩:=S.out.hc j hj
  subst he
  have t0:=S.out.bt.cell 0 (by simp)
  simp only [List.getElem_toArray,List.getElem_cons_zero] at t0
  have HFS:=Lib.hid hfs
  have HSP:=Lib.hid (fldI_spec h[j].fields t)
  have HFI:Hid (∀ w1,FldsAt w1 fa h[j].fields→Calls Tryz.prog 100 #[.agg #[.string h[j].name,.string h[j].super,.slice fa h[j].fields.length fc,.slice ma h[j].methods.length mc],.string t] w1 (Ret w1 (.int .i64 (fldI h[j].fields t)))):=fun w1 h1=>fieldIn h[j] fa fc ma mc t w1 h1 (by omega)
  clear hfs
  generalize h[j]=x at *
  have BZ:Hid (Blk (wr.alloc (.cells #[.string ⟨#[]⟩,.string ⟨#[]⟩,.slice none 0 0,.slice none 0 0] 85)) wr.heap.size _ 85):=blk_new ..
  have hsz:wr.heap.size≤wr.heap.size:=Nat.le_refl _
  go_upto_region 6 with (refine store111 rfl _ _ rfl wr.heap.size _ _ _ _ _ _ _ _ rfl rfl _ BZ.out rfl ?_)
  have HB2:=Lib.hid (below_row (one_below wr (.cells #[.string ⟨#[]⟩,.string ⟨#[]⟩,.slice none 0 0,.slice none 0 0] 85)) hsz #[.string x.name,.string x.super,.slice fa x.fields.length fc,.slice ma x.methods.length mc])
  have B2:=Lib.hid (BZ.out.setRow #[.string x.name,.string x.super,.slice fa x.fields.length fc,.slice ma x.methods.length mc])
  have S2:=Lib.hid (S.out.below HB2.out)
  have HF2:=Lib.hid (HFS.out.below HB2.out)
  clear S BZ HB2 m0 m1 m2 m3 hsz t0 p1 HFS
  generalize (wr.alloc _).setRow wr.heap.size _=W4 at *
  generalize wr.heap.size=n2 at *
  have y0:=B2.out.cell 0 (by simp)
  have y1:=B2.out.cell 1 (by simp)
  have y2:=B2.out.cell 2 (by simp)
  have y3:=B2.out.cell 3 (by simp)
  simp only [List.getElem_toArray,List.getElem_cons_zero,List.getElem_cons_succ] at y0 y1 y2 y3
  go_upto_region 7 with (go_at_call 100;refine (HFI.out _ HF2.out).mono ?_;rintro e w5 ⟨rfl,hb5⟩)
  have S5:=Lib.hid (S2.out.below hb5)
  have F5:=Lib.hid (HF2.out.below hb5)
  have B5:=Lib.hid (B2.out.below hb5)
  clear S2 HF2 B2 hb5 y0 y1 y2 y3 HFI
  rcases HSP.out with ⟨e1,e2⟩ | ⟨k,hk,e2,e1⟩
  ·rw [e2]
   have HN2:=Lib.hid (HST.out.1 e1)
   clear e1 e2 HSP HST
   go_wp2
   go_roundw
   case rel=>exact ⟨q + 1,by omega,by go_num,by show _=_;rw [← HN2.out];exact HI.out,S5.out⟩
   case measure=>simp [intOf];omega
  ·rw [e2]
   have HR:Hid (R=some (x.name,x.fields[k])):=by show _=_;rw [← HI.out,HST.out.2 _ e1]
   clear e1 e2 HSP HST HI
   obtain ⟨b6,o6,he,f0,f1⟩:=F5.out k hk
   subst he
   have HBF:=Lib.hid S5.out.hb
   generalize x.fields[k]=y at *
   have t1:decide ((0:Int)≤(k:Int))=true:=by simp
   go_upto_region 8 with (fail)
   have hne:Nonempty (WB w5):=⟨⟨w5,Below.refl _ _⟩⟩
   have k0:∀ o:WB w5,o.u.cell? ⟨n2,0,none⟩=some (.string x.name):=fun o=>(B5.out.below o.h).cell 0 (by simp)
   have k2:∀ o:WB w5,o.u.cell? ⟨n2,2,none⟩=some (.slice (some ⟨b6,o6,none⟩) x.fields.length fc):=fun o=>(B5.out.below o.h).cell 2 (by simp)
   have k3:∀ o:WB w5,o.u.cell? ⟨b6,o6 + k * 2 + 1,none⟩=some (.string y.type):=fun o=>cell_below o.h f1
   refine wp_region_WB w5 (by kernel_rfl) ?_
   repeat (go_big_quiet_step (fail))
   refine wpQuiet_nil ?_
   intro _ hw'
   obtain ⟨o,rfl⟩:=hw'
   have hb:=HBF.out.trans (o.h.mono HBF.out.size)
   clear k0 k2 k3
   go_wp2
   refine bodyPost_ret (v:=.tuple #[.string x.name,.string y.type,.bool true]) (by simp [results,go_sem]) rfl ?_
   exact ⟨hb,.inr ⟨x.name,y,HR.out,rfl⟩⟩
end Go.Proofs.YtffcklfigpmlgaaGreatDoor
namespace Go.Proofs.YtffcklfigpmlgaaGreatDoor
open Go.RowKit Go.Unit0 Go.AM Go.Sort

theorem ints_new2 (w:World) (i j:Int):IntsAt (w.alloc (.cells #[.int .i64 i,.int .i64 j] 3)) (some ⟨w.heap.size,0,none⟩) [i,j]:=by
 intro k hk
 have hk2:k < 2:=by simpa using hk
 have hb:=(blk_new w #[.int .i64 i,.int .i64 j] 3).cell k (by simpa using hk2)
 refine ⟨_,_,rfl,?_⟩
 rw [Nat.zero_add,hb]
 rcases (show k=0 ∨ k=1 by omega) with rfl | rfl <;> rfl
set_option maxHeartbeats 1000000 in
theorem cmpOr (x y:Int) (a:Option Addr) (c:Nat) (w:World) (h:IntsAt w a [x,y]) :
 Calls Tryz.prog 27 #[.slice a 2 c] w (Same w (.int .i64 (if x=0 then y else x))):=by
 have HL:=Lib.hid h
 clear h
 obtain ⟨r,hr⟩:∃ r,r=(if x=0 then y else x):=⟨_,rfl⟩
 rw [← hr]
 have HR:=Lib.hid hr
 clear hr
 go_enter Tryz.func27,Tryz.ntmps27
 go_wp2
 go_loop [8] (fun i=>∃ k:Nat,k≤2∧i = .int .i64 k∧Hid (1≤k→x=0)∧Hid (2≤k→y=0)) (fun i=>2 - (intOf i).toNat)
 case atStart=>exact ⟨0,by omega,rfl,fun h=>by omega,fun h=>by omega⟩
 case round =>
  obtain ⟨k,hk,rfl,H1,H2⟩:=hrel
  by_cases hlt:k < 2
  case neg =>
   go_wp2
   go_ret
   exact ⟨ret_int (by rw [HR.out,if_pos (H1.out (by omega)),H2.out (by omega)]),rfl⟩
  obtain ⟨b,off,he,hc⟩:=HL.out k (by simpa using hlt)
  subst he
  have HZ:Hid ((k=0→[x,y][k]'(by simpa using hlt)=x)∧(k=1→[x,y][k]'(by simpa using hlt)=y)):=by
   constructor <;> (intro e;subst e;rfl)
  generalize [x,y][k]=z at *
  by_cases hz:z=0
  case pos =>
   subst hz
   go_wp2
   go_round
   case rel=>exact ⟨k + 1,by omega,by go_num,(fun _=>by
    by_cases e:k=0
    ·exact (HZ.out.1 e).symm
    ·exact H1.out (by omega)),fun _=>(HZ.out.2 (by omega)).symm⟩
   case measure=>simp [intOf];omega
  case neg =>
   have t1:(z == 0)=false:=by simpa using hz
   have HN:=Lib.hid hz
   clear hz
   go_wp2
   go_ret
   refine ⟨ret_int ?_,rfl⟩
   by_cases e:k=0
   ·have e1:=HZ.out.1 e
    rw [HR.out,← e1,if_neg HN.out]
   ·rw [HR.out,if_pos (H1.out (by omega)),HZ.out.2 (by omega)]
structure GR (W:World) where
 u:World
 h:∃ q os,u=grow (W.drewN q) os
theorem GR.below {W:World} (o:GR W):Go.RowKit.Below W.heap.size W o.u:=by
 obtain ⟨q,os,e⟩:=o.h
 rw [e]
 exact ⟨rfl,rfl,rfl,by simp [grow],fun k hk=>heap_grow_old _ _ (by simpa using hk)⟩
-- the row of cells
end Go.Proofs.YtffcklfigpmlgaaGreatDoor
namespace Go.Proofs.YtffcklfigpmlgaaGreatDoor
open Go.RowKit Go.Unit0 Go.AM Go.Sort

set_option maxHeartbeats 2000000 in
theorem cmpStr (x y:Str) (w:World):Calls Tryz.prog 29 #[.string x,.string y] w (Same w (.int .i64 (cmpB x y))):=by
 have HR:Hid (cmpB x y=if bl x < bl y then -1 else if bl y < bl x then 1 else 0):=rfl
 generalize cmpB x y=r at *
 have hxx:(x.toList == x.toList)=true:=by simp
 have hyy:(y.toList == y.toList)=true:=by simp
 cases e1:Op.bytesLess x.toList y.toList
 ·cases e2:Op.bytesLess y.toList x.toList
  ·have HV:Hid (0=r):=by show _=_;rw [HR.out,if_neg (less_f e1),if_neg (less_f e2)]
   have e3:(x.toList == y.toList)=true:=by
    rw [bl_eq (List.le_antisymm (bl_not_lt (less_f e2)) (bl_not_lt (less_f e1)))]
    simp
   clear HR
   go_enter Tryz.func29,Tryz.ntmps29
   go_wp2
   go_ret
   exact ⟨ret_int HV.out,rfl⟩
  ·have HV:Hid (1=r):=by show _=_;rw [HR.out,if_neg (less_f e1),if_pos (less_t e2)]
   have e3:(x.toList == y.toList)=false:=by
    cases h:(x.toList == y.toList) with
    | false=>rfl
    | true=>exact absurd (less_t e2) (by rw [eqB_iff.1 h];exact bl_irrefl _)
   clear HR
   go_enter Tryz.func29,Tryz.ntmps29
   go_wp2
   go_ret
   exact ⟨ret_int HV.out,rfl⟩
 ·have HV:Hid (-1=r):=by show _=_;rw [HR.out,if_pos (less_t e1)]
  clear HR
  go_enter Tryz.func29,Tryz.ntmps29
  go_wp2
  go_ret
  exact ⟨ret_int HV.out,rfl⟩
set_option maxHeartbeats 4000000 in
theorem cloCe (x y:Cel) (W:World) :
 Calls Tryz.prog 26 #[.agg #[.int .i64 x.s,.string x.f],.agg #[.int .i64 y.s,.string y.f]] W (fun e w'=>e = .returned (.int .i64 (cmpCel x y))∧∃ q os,w' = grow (W.drewN q) os):=by
 obtain ⟨x1,x2⟩:=x
 obtain ⟨y1,y2⟩:=y
 have H1:Hid (∀ w,Calls Tryz.prog 28 #[.int .i64 x1,.int .i64 y1] w (fun e w'=>e = .returned (.int .i64 (Lib.compareInt x1 y1))∧w' = w)):=fun w=>Tryz.cmp_Compare_int x1 y1 w
 have H2:Hid (∀ w,Calls Tryz.prog 29 #[.string x2,.string y2] w (Same w (.int .i64 (cmpB x2 y2)))):=fun w=>cmpStr x2 y2 w
 have HR:Hid (cmpCel ⟨x1,x2⟩ ⟨y1,y2⟩=if Lib.compareInt x1 y1=0 then cmpB x2 y2 else Lib.compareInt x1 y1):=rfl
 generalize cmpCel ⟨x1,x2⟩ ⟨y1,y2⟩=r at *
 generalize Lib.compareInt x1 y1=r1 at *
 generalize cmpB x2 y2=r2 at *
 have HO:Hid (∀ (a:Option Addr) (c:Nat) (w1:World),IntsAt w1 a [r1,r2]→Calls Tryz.prog 27 #[.slice a 2 c] w1 (Same w1 (.int .i64 r))):=fun a c w1 h=>by rw [HR.out];exact cmpOr r1 r2 a c w1 h
 clear HR
 have HX:Hid (Blk ((W.alloc (.cells #[.int .i64 x1,.string x2] 61)).alloc (.cells #[.int .i64 y1,.string y2] 61)) W.heap.size #[.int .i64 x1,.string x2] 61):=(blk_new ..).below (one_below ..)
 have HY:Hid (Blk ((W.alloc (.cells #[.int .i64 x1,.string x2] 61)).alloc (.cells #[.int .i64 y1,.string y2] 61)) (W.heap.size + 1) #[.int .i64 y1,.string y2] 61):=blk_new2 ..
 have HG:Hid (∃ os,(W.alloc (.cells #[.int .i64 x1,.string x2] 61)).alloc (.cells #[.int .i64 y1,.string y2] 61)=grow W os):=⟨_,by rw [alloc_eq_grow,alloc_eq_grow,grow_grow]⟩
 go_enter Tryz.func26,Tryz.ntmps26
 go_upto_region 1 with (fail)
 generalize (W.alloc _).alloc _=W1 at *
 have k0:∀ o:GR W1,o.u.cell? ⟨W.heap.size,0,none⟩=some (.int .i64 x1):=fun o=>(HX.out.below o.below).cell 0 (by simp)
 have k1:∀ o:GR W1,o.u.cell? ⟨W.heap.size,1,none⟩=some (.string x2):=fun o=>(HX.out.below o.below).cell 1 (by simp)
 have k2:∀ o:GR W1,o.u.cell? ⟨W.heap.size + 1,0,none⟩=some (.int .i64 y1):=fun o=>(HY.out.below o.below).cell 0 (by simp)
 have k3:∀ o:GR W1,o.u.cell? ⟨W.heap.size + 1,1,none⟩=some (.string y2):=fun o=>(HY.out.below o.below).cell 1 (by simp)
 have hcur:∃ q os,W1.drew=grow (W1.drewN q) os:=⟨1,#[],by rw [grow_empty];rfl⟩
 have hne:Nonempty (GR W1):=⟨⟨_,hcur⟩⟩
 refine wp_region_Y (fun w'=>∃ o:GR W1,w' = o.u) (by kernel_rfl) ?_
 change wpAnyY _ _ _ _ _ _ _ _ W1.drew
 refine wpAnyY_take 0 rfl (by kernel_rfl) (fun _ _ _ _ h=>h) ⟨⟨_,hcur⟩,rfl⟩ (fun K hK=>?_);go_simp;refine hK _ ?_;clear hK K
 refine wpAnyY_take 1 rfl (by kernel_rfl) (fun _ _ _ _ h=>h) ⟨⟨_,hcur⟩,rfl⟩ (fun K hK=>?_);go_simp;refine hK _ ?_;clear hK K
 refine wpAnyY_take 2 rfl (by kernel_rfl) (fun _ _ _ _ h=>h) ⟨⟨_,hcur⟩,rfl⟩ (fun K hK=>?_);go_simp;refine hK _ ?_;clear hK K
 refine wpAnyY_take 3 rfl (by kernel_rfl) (fun _ _ _ _ h=>h) ⟨⟨_,hcur⟩,rfl⟩ (fun K hK=>?_);go_simp;refine hK _ ?_;clear hK K
 refine wpAnyY_take 5 rfl (by kernel_rfl) (fun _ _ _ _ h=>h) ⟨⟨_,hcur⟩,rfl⟩ (fun K hK=>?_);go_simp;refine hK _ ?_;clear hK K
 refine wpAnyY_take 6 rfl (by kernel_rfl) (fun _ _ _ _ h=>h) ⟨⟨_,hcur⟩,rfl⟩ (fun K hK=>?_);go_simp;refine hK _ ?_;clear hK K
 refine wpAnyY_take 7 rfl (by kernel_rfl) (fun _ _ _ _ h=>h) ⟨⟨_,hcur⟩,rfl⟩ (fun K hK=>?_);go_simp;refine hK _ ?_;clear hK K
 refine wpAnyY_take 8 rfl (by kernel_rfl) (fun _ _ _ _ h=>h) ⟨⟨_,hcur⟩,rfl⟩ (fun K hK=>?_);go_simp;refine hK _ ?_;clear hK K
 refine wpAnyY_one 4 rfl (by kernel_rfl) ?_
 go_wp2_with fail
 refine (H1.out _).mono ?_
 rintro e w2 ⟨rfl,rfl⟩
 go_wp2
 refine ⟨⟨⟨_,hcur⟩,rfl⟩,?_⟩
 refine wpAnyY_one 9 rfl (by kernel_rfl) ?_
 go_wp2_with fail
 refine (H2.out _).mono ?_
 rintro e w2 ⟨rfl,rfl⟩
 go_wp2
 refine ⟨⟨⟨_,hcur⟩,rfl⟩,?_⟩
 refine wpAnyY_one 10 rfl (by kernel_rfl) ?_
 go_wp2
 have hcur2:∃ q os,(W1.alloc (.cells #[.int .i64 r1,.int .i64 r2] 3)).drew=grow (W1.drewN q) os:=⟨1,_,by rw [alloc_eq_grow];rfl⟩
 refine ⟨⟨⟨_,hcur2⟩,rfl⟩,?_⟩
 refine wpAnyY_one 11 rfl (by kernel_rfl) ?_
 go_wp2_with fail
 refine (HO.out (some ⟨W1.heap.size,0,none⟩) 2 _ ((ints_new2 W1 r1 r2).below ((Go.RowKit.Below.refl _ _).drew))).mono ?_
 rintro e w2 ⟨rfl,rfl⟩
 go_wp2
 refine ⟨⟨⟨_,hcur2⟩,rfl⟩,?_⟩
 refine wpAnyY_one 12 rfl (by kernel_rfl) ?_
 go_wp2
 refine ⟨⟨⟨_,hcur2⟩,rfl⟩,?_⟩
 refine wpAnyY_done (by kernel_rfl) ?_ _
 go_wp2
 go_ret
 refine ⟨rfl,?_⟩
 obtain ⟨os,hos⟩:=HG.out
 exact ⟨1,_,by rw [hos,alloc_eq_grow,grow_grow];rfl⟩
theorem flatK_Ce (L:List Cel):flatK encCe 2 L.toArray=(flatCe L).toArray:=by
 refine ext_get! (by simp [flatCe_len]) fun t ht=>?_
 have ht':t < L.toArray.size * 2:=by simpa using ht
 rw [get_flatK _ _ _ t ht']
 have h1:t / 2 < L.length:=by simp at ht';omega
 have h2:=flatCe_get L (t / 2) (t % 2) h1 (Nat.mod_lt _ (by omega))
 have h3:t / 2 * 2 + t % 2=t:=by omega
 rw [h3] at h2
 have h4:L.toArray[t / 2]! = L[t / 2]:=by simp [h1]
 rw [h4,List.getElem!_toArray,List.getElem!_eq_getElem?_getD,List.getElem!_eq_getElem?_getD,h2]
set_option maxHeartbeats 1000000 in
theorem sortCe_own (L:List Cel) (a:Option Addr) (c base:Nat) (w:World) (own:w.ownsRow base 61 2 (.slice a L.length c) L.length (flatCe L)) (hl:L.length≤1000000) :
 Calls Tryz.prog 25 #[.slice a L.length c,.func (.func 26) #[] #[]] w (fun e w'=>e = .returned (.tuple #[])∧w.grownBy w' (Value.slice a L.length c).ownBlock∧w'.ownsRow base 61 2 (.slice a L.length c) L.length (flatCe (celSort L))):=by
 have own0:=own
 obtain ⟨hln,hown⟩:=own
 rcases hown with ⟨e,h0⟩ | ⟨g,cap,cur,e,hbase,hh,hn,hcap,hsz,ht⟩
 ·have hl0:L = []:=List.eq_nil_of_length_eq_zero h0
  subst hl0
  cases e
  have h0:=AnyF.slices_SortFunc_none Tryz.sortCell none 0 (.func (.func 26) #[] #[]) w
  change Calls Tryz.prog 25 _ _ _ at h0
  refine h0.mono ?_
  rintro e w' ⟨rfl,rfl⟩
  refine ⟨rfl,World.grownBy.refl _ _,?_⟩
  have e0:celSort [] = []:=by simp [celSort]
  rw [e0]
  exact own0
 ·cases e
  have hg:g < w.heap.size:=(Array.getElem?_eq_some_iff.1 hh).1
  have eg:∀ args w,(callFunc 26 args).run Tryz.prog w = .ok (.enter 26 args) w:=enters_of Tryz.func26 (by kernel_rfl) rfl
  have hH:HoldsK encCe 2 w g 0 L.toArray:=by
   unfold HoldsK
   rw [flatK_Ce]
   intro j hj
   have hj':j < (flatCe L).length:=by simpa using hj
   refine ⟨?_,by simp [World.frozen?,hh]⟩
   have c:=own0.cells (g:=g) rfl j (flatCe L)[j] (List.getElem?_eq_getElem hj')
   rw [addr_add] at c
   rw [c]
   simp [hj']
  have h:=AnyQ.slices_SortFunc_total Tryz.sortCell 2 Tryz.isAgg61 Tryz.sizeOf61 encCe (fun _=>rfl) (fun x v hv=>by simp [encCe] at hv;rcases hv with rfl | rfl <;> rfl) cmpCel celSwo 26 #[] g 0 c L.toArray w eg (fun _ _ _ _ x y=>cloCe x y _) hH hg (by simp;omega) celTot
  change Calls Tryz.prog 25 _ _ _ at h
  have e1:L.toArray.size=L.length:=by simp
  rw [e1] at h
  refine h.mono ?_
  rintro e w' ⟨rfl,n,os,rfl⟩
  have e2:sortWorldK encCe 2 w g 0 n (L.toArray.toList.mergeSort fun x y=>!(ltOf cmpCel) y x).toArray os=grow (putRow id (Sort.ahead w n) g 0 (flatCe (celSort L)).toArray) os:=by
   unfold sortWorldK putRowK
   rw [flatK_Ce]
   rfl
  rw [e2]
  refine ⟨rfl,grownBy_put _,by rw [flatCe_len,celSort_len],.inr ⟨g,c,_,rfl,hbase,heap_put _ hh,hn,hcap,by simp [putCells,hsz],?_⟩⟩
  have e3:L.length * 2=(flatCe (celSort L)).length:=by rw [flatCe_len,celSort_len]
  rw [e3]
  refine take_put cur _ ?_
  rw [flatCe_len,celSort_len,hsz]
  omega
end Go.Proofs.YtffcklfigpmlgaaGreatDoor
