/-
  The program's error of a field.
-/
import Derived.Test.YtjnbddedmbhiaaaGreatDoorPk22
import Derived.Test.YtjnbddedmbhiaaaGreatDoorPk23
namespace Go.ak
def Bh(h:List ae)(i:Int):List bQ:=(h[i.toNat]?.map (·.fields)).getD []
open Go.Proofs.YtjnbddedmbhiaaaGreatDoor in
def nU(h:List ae)(s:Str):List Int->Bool
 |[]=>false
 |i::l=>if 0<=gN (Bh h i) s then true else nU h s l
open Go.Proofs.YtjnbddedmbhiaaaGreatDoor in
def qz(h:List ae)(up:List Int)(x:ae)(k:Nat)(f:bQ):Int :=
 if di f.name=true then(if iM h f.type=true then(if gN x.fields f.name<(k:Int)then 7 else if nU h f.name up=true then 7 else 0)else 8)else 5
end Go.ak
namespace Go.Proofs.YtjnbddedmbhiaaaGreatDoor
open Go.RowKit Go.ak Go.AM

set_option maxRecDepth 100000 in
theorem JG(a:Option Addr)(n cap:Nat)(hc:n+1<=cap):∃a',(∀w:World,(Instr.slice 28 (.slice a (n+1) cap) (some (.int .i64 1)) none none).run Tryz.prog w = .ok (.slice a' n (cap-1)) w)/\∀(w:World) (x:Int) (l:List Int),l.length=n->aM w a (x::l)->aM w a' l:=by
 refine⟨if cap=1 then a else a.map (·.add 1),fun w=>?_,fun w x l hl h=>?_⟩
 ·have hs:(sizeOf (Tryz.prog.elem 28)).run Tryz.prog w = .ok 1 w:=by kernel_rfl
  rw[run_slice_l w 28 a (n+1) cap Tryz.underlying28 .i64 1 (by omega) (by omega),hs]
  simp[Result.andThen,sliced]
 ·intro k hk
  obtain⟨b,off,rfl,hcell⟩:=h (k+1) (by simp;omega)
  refine⟨b,off+1,?_,?_⟩
  ·rw[if_neg (by omega)];simp[addr_add]
  ·rw[show off+1+k=off+(k+1) by omega,hcell];simp
theorem YX{h:List ae}{j:Nat}(hj:j<h.length):Bh h (j:Int)=h[j].fields:=by
 unfold Bh
 rw[Int.toNat_natCast,List.getElem?_eq_getElem hj];rfl
theorem YY(h:List ae)(s:Str)(l:List Int)(k:Nat)(hk:k<l.length):nU h s (l.drop k)=if 0<=gN (Bh h l[k]) s then true else nU h s (l.drop (k+1)):=by
 rw[List.drop_eq_getElem_cons hk];rfl
structure uK(h:List ae)(a:Option Addr)(c g:Nat)(i:Nat)(up:List Int)(oa:Option Addr)(w wr:World):Prop where
 tb:TB h a c g w wr
 kw:KW wr
 it:aM wr oa ((i:Int)::up)
theorem uK.below{h:List ae}{a:Option Addr}{c g i:Nat}{up:List Int}{oa:Option Addr}{w wr w':World}(k:uK h a c g i up oa w wr)(hb:Below wr.heap.size wr w'):uK h a c g i up oa w w':=⟨k.tb.below hb,k.kw.below hb,k.it.below hb⟩
structure FK(h:List ae)(a:Option Addr)(c g:Nat)(up:List Int)(ua:Option Addr)(n2:Nat)(f:bQ)(w wr:World):Prop where
 tb:TB h a c g w wr
 it:aM wr ua up
 fb:ah wr n2 #[.string f.name,.string f.type] 92
theorem FK.below{h:List ae}{a:Option Addr}{c g n2:Nat}{f:bQ}{up:List Int}{ua:Option Addr}{w wr w':World}(k:FK h a c g up ua n2 f w wr)(hb:Below wr.heap.size wr w'):FK h a c g up ua n2 f w w':=⟨k.tb.below hb,k.it.below hb,k.fb.below hb⟩
set_option maxRecDepth 100000 in
set_option maxHeartbeats 8000000 in
theorem RV(h:List ae)(a:Option Addr)(c g:Nat)(i:Nat)(hi:i<h.length)(up:List Int)(hup:∀y∈up,∃j:Nat,j<h.length/\y=(j:Int))(hul:up.length<=100000)(oa:Option Addr)(oc:Nat)(hoc:up.length+1<=oc)(k:Nat)(hk:k<h[i].fields.length)(hz:∀x∈h,x.fields.length<=1000000)
 (w:World) (hc:ay w a h) (hg:TabAt w g h) (hit:aM w oa ((i:Int)::up)) (hkw:KW w) :
 Calls Tryz.prog 175 #[.agg #[.slice a h.length c,.map (some g)],.slice oa (up.length+1) oc,.int .i64 k] w (aj w (.int .i64 (qz h up h[i] k h[i].fields[k]))):=by
 have S0:Hid (uK h a c g i up oa w _):=⟨TB.start (c:=c) hc hg,hkw.below (av w _),hit.below (av w _)⟩
 have HUP:=Lib.hid hup
 have HZ:=Lib.hid hz
 obtain⟨ua,hsl,htl⟩:=JG oa up.length oc hoc
 have HTL:=Lib.hid htl
 have HIN:Hid (∀(j:Nat) (hj:j<h.length) (s:Str) fa fc ma mc w1,aK w1 fa h[j].fields->Calls Tryz.prog 204 #[.agg #[.string h[j].name,.string h[j].aO,.slice fa h[j].fields.length fc,.slice ma h[j].methods.length mc],.string s] w1 (aj w1 (.int .i64 (gN h[j].fields s)))):=fun j hj s fa fc ma mc w1 h1=>OO h[j] fa fc ma mc s w1 h1 (HZ.out _ (List.getElem_mem hj))
 have HIT:Hid (∀s w1,ay w1 a h->TabAt w1 g h->Calls Tryz.prog 212 #[.agg #[.slice a h.length c,.map (some g)],.string s] w1 (aj w1 (.bool (iM h s)))):=fun s w1 h1 h2=>Nu h s a c g w1 h1 h2
 clear hc hg hit hkw hup hz htl HZ
 have HRE:Hid (qz h up h[i] k h[i].fields[k]=if di h[i].fields[k].name=true then(if iM h h[i].fields[k].type=true then(if gN h[i].fields h[i].fields[k].name<(k:Int)then 7 else if nU h h[i].fields[k].name up=true then 7 else 0)else 8)else 5):=rfl
 generalize qz h up h[i] k h[i].fields[k]=R at *
 go_enter Tryz.func175,Tryz.ntmps175
 go_upto_region 1 with (fail)
 generalize w.alloc _=W at *
 obtain⟨y0,y1⟩:=S0.out.tb.now (Below.refl _ _)
 obtain⟨b1,o1,he,p1⟩:=S0.out.it 0 (by simp)
 subst he
 simp only[Nat.add_zero,List.getElem_cons_zero]at p1
 obtain⟨b,off,fa,fc,ma,mc,he,m0,m1,m2,m3,hfs,-⟩:=S0.out.tb.hc i hi
 subst he
 have HF0:=Lib.hid hfs
 clear hfs
 have k0:∀o:WB W,o.u.cell? ⟨w.heap.size,0,none⟩=some (.slice (some ⟨b,off,none⟩) h.length c):=fun o=>cell_below o.h y0
 have k1:∀o:WB W,o.u.cell? ⟨b1,o1,none⟩=some (.int .i64 (i:Int)):=fun o=>cell_below o.h p1
 have k2:∀o:WB W,o.u.cell? ⟨b,off+i*4,none⟩=some (.string h[i].name):=fun o=>cell_below o.h m0
 have k3:∀o:WB W,o.u.cell? ⟨b,off+i*4+1,none⟩=some (.string h[i].aO):=fun o=>cell_below o.h m1
 have k4:∀o:WB W,o.u.cell? ⟨b,off+i*4+2,none⟩=some (.slice fa h[i].fields.length fc):=fun o=>cell_below o.h m2
 have k5:∀o:WB W,o.u.cell? ⟨b,off+i*4+3,none⟩=some (.slice ma h[i].methods.length mc):=fun o=>cell_below o.h m3
 have hne:Nonempty (WB W):=⟨⟨W,Below.refl _ _⟩⟩
 have h0:Below W.heap.size W W.drew:=(Below.refl _ _).drew
 clear y0 y1 p1 m0 m1 m2 m3
 have HIN2:=Lib.hid (HIN.out i hi)
 generalize h[i]=x at *
 refine dC (fun w'=>∃o:WB W,w' = o.u) (by kernel_rfl) ?_
 change bO _ _ _ _ _ _ _ _ W.drew
 generalize W.drew=V0 at *
 refine af 0 rfl (by kernel_rfl) (fun _ _ _ _ h=>h) ⟨⟨_,h0⟩,rfl⟩ (fun K hK=>?_);go_simp;refine hK _ ?_;clear hK K
 refine af 1 rfl (by kernel_rfl) (fun _ _ _ _ h=>h) ⟨⟨_,h0⟩,rfl⟩ (fun K hK=>?_);go_simp;refine hK _ ?_;clear hK K
 refine af 2 rfl (by kernel_rfl) (fun _ _ _ _ h=>h) ⟨⟨_,h0⟩,rfl⟩ (fun K hK=>?_);go_simp;refine hK _ ?_;clear hK K
 refine af 3 rfl (by kernel_rfl) (fun _ _ _ _ h=>h) ⟨⟨_,h0⟩,rfl⟩ (fun K hK=>?_);go_simp;refine hK _ ?_;clear hK K
 refine af 4 rfl (by kernel_rfl) (fun _ _ _ _ h=>h) ⟨⟨_,h0⟩,rfl⟩ (fun K hK=>?_);go_simp;refine hK _ ?_;clear hK K
 refine af 5 rfl (by kernel_rfl) (fun _ _ _ _ h=>h) ⟨⟨_,h0⟩,rfl⟩ (fun K hK=>?_);go_simp;refine hK _ ?_;clear hK K
 refine af 6 rfl (by kernel_rfl) (fun _ _ _ _ h=>h) ⟨⟨_,h0⟩,rfl⟩ (fun K hK=>?_);go_simp;refine hK _ ?_;clear hK K
 refine aP 7 rfl (by kernel_rfl) ?_
 go_wp2
 have h1:Below W.heap.size W (V0.alloc gT):=h0.trans ((av ..).mono h0.size)
 have BZ:Hid (ah (V0.alloc gT) V0.heap.size #[.string ⟨#[]⟩,.string ⟨#[]⟩,.slice none 0 0,.slice none 0 0] 45):=aL ..
 refine⟨⟨⟨_,h1⟩,rfl⟩,?_⟩
 refine aP 8 rfl (by kernel_rfl) ?_
 refine sJ rfl rfl _ _ rfl V0.heap.size x fa fc ma mc rfl rfl _ BZ.out rfl ?_
 go_wp2
 have h2:=bP h1 h0.size #[.string x.name,.string x.aO,.slice fa x.fields.length fc,.slice ma x.methods.length mc]
 refine⟨⟨⟨_,h2⟩,rfl⟩,?_⟩
 refine dh (by kernel_rfl) ?_ _
 have BC:=Lib.hid (BZ.out.setRow #[.string x.name,.string x.aO,.slice fa x.fields.length fc,.slice ma x.methods.length mc])
 have S1:=Lib.hid (S0.out.below h2)
 have HF1:=Lib.hid (HF0.out.below h2)
 clear k0 k1 k2 k3 k4 k5 hne h0 h1 h2 BZ S0 HF0
 generalize (V0.alloc _).setRow _ _=W1 at *
 generalize V0.heap.size=n1 at *
 have hkx:=hk
 obtain⟨b3,o3,he,f0,f1⟩:=HF1.out k hk
 subst he
 generalize x.fields[k]=f at *
 have z2:=BC.out.cell 2 (by simp)
 simp only[List.getElem_toArray,List.getElem_cons_zero,List.getElem_cons_succ]at z2
 have BF0:Hid (ah (W1.alloc uP) W1.heap.size #[.string ⟨#[]⟩,.string ⟨#[]⟩] 92):=aL ..
 have hY:=Lib.hid (bP (av W1 uP) (Nat.le_refl _) #[.string f.name,.string f.type])
 go_upto_region 3 with (refine JV rfl rfl _ _ rfl W1.heap.size f.name f.type rfl rfl _ BF0.out rfl ?_)
 have BF:=Lib.hid (BF0.out.setRow #[.string f.name,.string f.type])
 have S2:=Lib.hid (S1.out.below hY.out)
 have HF2:=Lib.hid (HF1.out.below hY.out)
 have BC2:=Lib.hid (BC.out.below hY.out)
 clear BF0 hY S1 HF1 BC z2 f0 f1
 generalize (W1.alloc uP).setRow W1.heap.size #[.string f.name,.string f.type]=W2 at *
 generalize W1.heap.size=n2 at *
 have q0:=BF.out.cell 0 (by simp)
 have q1:=BF.out.cell 1 (by simp)
 simp only[List.getElem_toArray,List.getElem_cons_zero,List.getElem_cons_succ]at q0 q1
 have HID:=Lib.hid (A8 f.name W2 S2.out.kw)
 cases e1:di f.name
 case false =>
  have e:R=5:=by rw[HRE.out,e1];rfl
  subst e
  rw[e1]at HID
  clear HRE
  go_wp2_with (go_at_call 119;refine HID.out.mono ?_;rintro e w4 ⟨rfl,rfl⟩)
  go_ret
  exact⟨rfl,S2.out.tb.hb⟩
 have HRE2:Hid (R=if iM h f.type=true then(if gN x.fields f.name<(k:Int)then 7 else if nU h f.name up=true then 7 else 0)else 8):=by show _=_;rw[HRE.out,e1];rfl
 rw[e1]at HID
 clear HRE e1
 go_upto_region 5 with (go_at_call 119;refine HID.out.mono ?_;rintro e w4 ⟨rfl,rfl⟩)
 clear HID
 obtain⟨y0,y1⟩:=S2.out.tb.now (Below.refl _ _)
 have HT2:=Lib.hid (HIT.out f.type _ S2.out.tb.hc S2.out.tb.tg)
 cases e2:iM h f.type
 case false =>
  have e:R=8:=by rw[HRE2.out,e2];rfl
  subst e
  rw[e2]at HT2
  clear HRE2
  go_wp2_with (go_at_call 212;refine HT2.out.mono ?_;rintro e w5 ⟨rfl,hb5⟩)
  go_ret
  exact⟨rfl,S2.out.tb.hb.trans (hb5.mono S2.out.tb.hb.size)⟩
 have HRE3:Hid (R=if gN x.fields f.name<(k:Int)then 7 else if nU h f.name up=true then 7 else 0):=by show _=_;rw[HRE2.out,e2];rfl
 rw[e2]at HT2
 clear HRE2 e2
 go_upto_region 7 with (go_at_call 212;refine HT2.out.mono ?_;rintro e w5 ⟨rfl,hb5⟩)
 have S5:=Lib.hid (S2.out.below hb5)
 have HF5:=Lib.hid (HF2.out.below hb5)
 have BC5:=Lib.hid (BC2.out.below hb5)
 have BF5:=Lib.hid (BF.out.below hb5)
 clear S2 HF2 BC2 BF hb5 HT2 q0 q1 y0 y1
 have q0:=BF5.out.cell 0 (by simp)
 have z0:=BC5.out.cell 0 (by simp)
 have z1:=BC5.out.cell 1 (by simp)
 have z2:=BC5.out.cell 2 (by simp)
 have z3:=BC5.out.cell 3 (by simp)
 simp only[List.getElem_toArray,List.getElem_cons_zero,List.getElem_cons_succ]at q0 z0 z1 z2 z3
 have HN5:=Lib.hid (HIN2.out f.name (some ⟨b3,o3,none⟩) fc ma mc w5 HF5.out)
 clear HIN2
 by_cases e3:gN x.fields f.name<(k:Int)
 case pos =>
  have e:R=7:=by rw[HRE3.out,if_pos e3]
  subst e
  generalize gN x.fields f.name=r at *
  have t3:decide (r<(k:Int))=true:=by simp[e3]
  clear HRE3
  go_wp2_with (go_at_call 204;refine HN5.out.mono ?_;rintro e w6 ⟨rfl,hb6⟩)
  go_ret
  exact⟨rfl,S5.out.tb.hb.trans (hb6.mono S5.out.tb.hb.size)⟩
 have HRE4:Hid (R=if nU h f.name up=true then 7 else 0):=by show _=_;rw[HRE3.out,if_neg e3]
 generalize gN x.fields f.name=r at *
 have t3:decide (r<(k:Int))=false:=by simp;omega
 clear HRE3
 go_upto_region 9 with (go_at_call 204;refine HN5.out.mono ?_;rintro e w6 ⟨rfl,hb6⟩)
 have S6:Hid (FK h (some ⟨b,off,none⟩) c g up ua n2 f w w6):=⟨(S5.out.below hb6).tb,HTL.out _ _ _ rfl (S5.out.below hb6).it,BF5.out.below hb6⟩
 clear S5 HF5 BC5 BF5 hb6 q0 z0 z1 z2 z3 HN5 t3 e3 HTL HIT
 go_wp2
 go_loopw[41] (fun v wr=>∃q:Nat,q<=up.length/\v = .int .i64 q/\Hid (R=if nU h f.name (up.drop q)=true then 7 else 0)/\Hid (FK h (some ⟨b,off,none⟩) c g up ua n2 f w wr)) (fun v _=>up.length-(intOf v).toNat)
 case atStart=>exact⟨0,Nat.zero_le _,rfl,HRE4.out,S6.out⟩
 case round =>
  clear S6 HRE4
  obtain⟨q,hq,rfl,HJ,S⟩:=hrel
  by_cases hlt:q<up.length
  case neg =>
   have e:R=0:=by rw[HJ.out,List.drop_of_length_le (by omega)];rfl
   subst e
   clear HJ
   go_wp2
   go_ret
   exact⟨rfl,S.out.tb.hb⟩
  obtain⟨b1,o1,he,p1⟩:=S.out.it q hlt
  subst he
  obtain⟨j,hj,ej⟩:=HUP.out _ (List.getElem_mem hlt)
  rw[ej]at p1
  have HJ2:Hid (R=if (if 0<=gN h[j].fields f.name then true else nU h f.name (up.drop (q+1)))=true then 7 else 0):=by
   show _=_
   rw[HJ.out,YY _ _ _ _ hlt,ej,YX hj]
  clear ej HJ
  obtain⟨b4,off4,fa4,fc4,ma4,mc4,he,m0,m1,m2,m3,hfs,-⟩:=S.out.tb.hc j hj
  cases he
  have HF4:=Lib.hid hfs
  clear hfs
  have HN4:Hid (∀w1,aK w1 fa4 h[j].fields->Calls Tryz.prog 204 #[.agg #[.string h[j].name,.string h[j].aO,.slice fa4 h[j].fields.length fc4,.slice ma4 h[j].methods.length mc4],.string f.name] w1 (aj w1 (.int .i64 (gN h[j].fields f.name)))):=fun w1 h1=>HIN.out j hj f.name fa4 fc4 ma4 mc4 w1 h1
  generalize gN h[j].fields f.name=r4 at *
  generalize h[j]=y at *
  go_upto_region 12 with (fail)
  obtain⟨y0,y1⟩:=S.out.tb.now (Below.refl _ _)
  have k0:∀o:WB wr,o.u.cell? ⟨w.heap.size,0,none⟩=some (.slice (some ⟨b,off,none⟩) h.length c):=fun o=>cell_below o.h y0
  have k2:∀o:WB wr,o.u.cell? ⟨b,off+j*4,none⟩=some (.string y.name):=fun o=>cell_below o.h m0
  have k3:∀o:WB wr,o.u.cell? ⟨b,off+j*4+1,none⟩=some (.string y.aO):=fun o=>cell_below o.h m1
  have k4:∀o:WB wr,o.u.cell? ⟨b,off+j*4+2,none⟩=some (.slice fa4 y.fields.length fc4):=fun o=>cell_below o.h m2
  have k5:∀o:WB wr,o.u.cell? ⟨b,off+j*4+3,none⟩=some (.slice ma4 y.methods.length mc4):=fun o=>cell_below o.h m3
  have k6:∀o:WB wr,o.u.cell? ⟨n2,0,none⟩=some (.string f.name):=fun o=>(S.out.below o.h).fb.cell 0 (by simp)
  have hne:Nonempty (WB wr):=⟨⟨wr,Below.refl _ _⟩⟩
  clear y0 y1 m0 m1 m2 m3 p1
  by_cases e5:0<=r4
  case pos =>
   have e:R=7:=by rw[HJ2.out,if_pos e5];rfl
   subst e
   have t5:decide (0<=r4)=true:=by simp[e5]
   clear HJ2
   refine bJ wr (by kernel_rfl) ?_
   repeat (go_big_quiet_step (first | (go_at_call 204;rename_i o;exact(HN4.out _ (HF4.out.below o.h)).mono (fun _ _ h=>aj.bu h)) | fail))
   refine wpQuiet_nil ?_
   intro _ hw'
   obtain⟨o,rfl⟩:=hw'
   have HB:=Lib.hid o.h
   clear hne k0 k2 k3 k4 k5 k6
   go_wp2
   go_ret
   exact⟨rfl,(S.out.below HB.out).tb.hb⟩
  case neg =>
   have HJ3:Hid (R=if nU h f.name (up.drop (q+1))=true then 7 else 0):=by show _=_;rw[HJ2.out,if_neg e5]
   have t5:decide (0<=r4)=false:=by simp;omega
   clear HJ2
   refine bJ wr (by kernel_rfl) ?_
   repeat (go_big_quiet_step (first | (go_at_call 204;rename_i o;exact(HN4.out _ (HF4.out.below o.h)).mono (fun _ _ h=>aj.bu h)) | fail))
   refine wpQuiet_nil ?_
   intro _ hw'
   obtain⟨o,rfl⟩:=hw'
   have HB:=Lib.hid o.h
   clear hne k0 k2 k3 k4 k5 k6
   go_wp2
   go_roundw
   case rel=>exact⟨q+1,by omega,by go_num,HJ3.out,S.out.below HB.out⟩
   case measure=>simp[intOf];omega
end Go.Proofs.YtjnbddedmbhiaaaGreatDoor
namespace Go.ak
def tH(h:List ae)(i:Int):List aH:=(h[i.toNat]?.map (·.methods)).getD []
def iq(m:aH):List aH->Bool
 |[]=>false
 |o::l=>if (o.name.toList==m.name.toList)=true then(if nI m o=true then iq m l else true)else iq m l
def iK(h:List ae)(m:aH):List Int->Bool
 |[]=>false
 |i::l=>if iq m (tH h i)=true then true else iK h m l
def qg(h:List ae):List Str->Bool
 |[]=>true
 |s::l=>if iM h s=true then qg h l else false
def vN(h:List ae)(up:List Int)(m:aH):Int :=
 if qg h m.params=true then(if (m.result.toList==[])=true then(if iK h m up=true then 11 else 0)else if iM h m.result=true then(if iK h m up=true then 11 else 0)else 8)else 8
open Go.Proofs.YtjnbddedmbhiaaaGreatDoor in
def jZ(h:List ae)(up:List Int)(x:ae)(k:Nat)(m:aH):Int :=
 if di m.name=true then(if dX x.methods m.name<(k:Int)then 7 else if 6<m.params.length then 3 else vN h up m)else 5
end Go.ak
namespace Go.Proofs.YtjnbddedmbhiaaaGreatDoor
open Go.RowKit Go.ak Go.AM

theorem Mh{h:List ae}{j:Nat}(hj:j<h.length):tH h (j:Int)=h[j].methods:=by
 unfold tH
 rw[Int.toNat_natCast,List.getElem?_eq_getElem hj];rfl
theorem Wh(h:List ae)(m:aH)(l:List Int)(k:Nat)(hk:k<l.length):iK h m (l.drop k)=if iq m (tH h l[k])=true then true else iK h m (l.drop (k+1)):=by
 rw[List.drop_eq_getElem_cons hk];rfl
theorem Wi(m:aH)(l:List aH)(k:Nat)(hk:k<l.length):iq m (l.drop k)=if (l[k].name.toList==m.name.toList)=true then(if nI m l[k]=true then iq m (l.drop (k+1))else true)else iq m (l.drop (k+1)):=by
 rw[List.drop_eq_getElem_cons hk];rfl
theorem UH(h:List ae)(l:List Str)(k:Nat)(hk:k<l.length):qg h (l.drop k)=if iM h l[k]=true then qg h (l.drop (k+1))else false:=by
 rw[List.drop_eq_getElem_cons hk];rfl
abbrev pM:Obj:=.cells #[.string ⟨#[]⟩,.bool false,.slice none 0 0,.string ⟨#[]⟩] 48
structure MK(h:List ae)(a:Option Addr)(c g:Nat)(L:List Int)(oa:Option Addr)(n2:Nat)(m:aH)(pa:Option Addr)(pc:Nat)(w wr:World):Prop where
 tb:TB h a c g w wr
 it:aM wr oa L
 sb:ah wr n2 #[.string m.name,.bool m.stat,.slice pa m.params.length pc,.string m.result] 48
 ps:bF wr pa m.params
section
variable {h:List ae}{a:Option Addr}{c g n2:Nat}{m:aH}{L:List Int}{oa:Option Addr}{pa:Option Addr}{pc:Nat}{w wr w':World}
theorem MK.below(k:MK h a c g L oa n2 m pa pc w wr)(hb:Below wr.heap.size wr w'):MK h a c g L oa n2 m pa pc w w':=⟨k.tb.below hb,k.it.below hb,k.sb.below hb,k.ps.below hb⟩
theorem MK.sig(k:MK h a c g L oa n2 m pa pc w wr):wr.cell? ⟨n2,0,none⟩=some (.string m.name)/\wr.cell? ⟨n2,1,none⟩=some (.bool m.stat)/\wr.cell? ⟨n2,2,none⟩=some (.slice pa m.params.length pc)/\wr.cell? ⟨n2,3,none⟩=some (.string m.result):=⟨k.sb.cell 0 (by simp),k.sb.cell 1 (by simp),k.sb.cell 2 (by simp),k.sb.cell 3 (by simp)⟩
end
set_option maxRecDepth 100000 in
set_option maxHeartbeats 8000000 in
theorem RL(h:List ae)(a:Option Addr)(c g:Nat)(i:Nat)(hi:i<h.length)(up:List Int)(hup:∀y∈up,∃j:Nat,j<h.length/\y=(j:Int))(hul:up.length<=100000)(oa:Option Addr)(oc:Nat)(hoc:up.length+1<=oc)(k:Nat)(hk:k<h[i].methods.length)(hz:∀x∈h,x.methods.length<=1000000)(hzp:∀x∈h,∀s∈x.methods,s.params.length<=1000000)
 (w:World) (hc:ay w a h) (hg:TabAt w g h) (hit:aM w oa ((i:Int)::up)) (hkw:KW w) :
 Calls Tryz.prog 176 #[.agg #[.slice a h.length c,.map (some g)],.slice oa (up.length+1) oc,.int .i64 k] w (aj w (.int .i64 (jZ h up h[i] k h[i].methods[k]))):=by
 have S0:Hid (uK h a c g i up oa w _):=⟨TB.start (c:=c) hc hg,hkw.below (av w _),hit.below (av w _)⟩
 have HUP:=Lib.hid hup
 have HZ:=Lib.hid hz
 have HZP:=Lib.hid hzp
 obtain⟨ua,hsl,htl⟩:=JG oa up.length oc hoc
 have HTL:=Lib.hid htl
 have HIN2:Hid (∀(s:Str) fa fc ma mc w1,kH w1 ma h[i].methods->Calls Tryz.prog 174 #[.agg #[.string h[i].name,.string h[i].aO,.slice fa h[i].fields.length fc,.slice ma h[i].methods.length mc],.string s] w1 (aj w1 (.int .i64 (dX h[i].methods s)))):=fun s fa fc ma mc w1 h1=>Mv h[i] fa fc ma mc s w1 h1 (HZ.out _ (List.getElem_mem hi))
 have HIT:Hid (∀s w1,ay w1 a h->TabAt w1 g h->Calls Tryz.prog 212 #[.agg #[.slice a h.length c,.map (some g)],.string s] w1 (aj w1 (.bool (iM h s)))):=fun s w1 h1 h2=>Nu h s a c g w1 h1 h2
 have HPL:h[i].methods[k].params.length<=1000000:=hzp _ (List.getElem_mem hi) _ (List.getElem_mem hk)
 clear hc hg hit hkw hup hz hzp htl
 have HRE:Hid (jZ h up h[i] k h[i].methods[k]=if di h[i].methods[k].name=true then(if dX h[i].methods h[i].methods[k].name<(k:Int)then 7 else if 6<h[i].methods[k].params.length then 3 else vN h up h[i].methods[k])else 5):=rfl
 generalize jZ h up h[i] k h[i].methods[k]=R at *
 go_enter Tryz.func176,Tryz.ntmps176
 go_upto_region 1 with (fail)
 generalize w.alloc _=W at *
 obtain⟨y0,y1⟩:=S0.out.tb.now (Below.refl _ _)
 obtain⟨b1,o1,he,p1⟩:=S0.out.it 0 (by simp)
 subst he
 simp only[Nat.add_zero,List.getElem_cons_zero]at p1
 obtain⟨b,off,fa,fc,ma,mc,he,m0,m1,m2,m3,-,hfs⟩:=S0.out.tb.hc i hi
 subst he
 have HF0:=Lib.hid hfs
 clear hfs
 have k0:∀o:WB W,o.u.cell? ⟨w.heap.size,0,none⟩=some (.slice (some ⟨b,off,none⟩) h.length c):=fun o=>cell_below o.h y0
 have k1:∀o:WB W,o.u.cell? ⟨b1,o1,none⟩=some (.int .i64 (i:Int)):=fun o=>cell_below o.h p1
 have k2:∀o:WB W,o.u.cell? ⟨b,off+i*4,none⟩=some (.string h[i].name):=fun o=>cell_below o.h m0
 have k3:∀o:WB W,o.u.cell? ⟨b,off+i*4+1,none⟩=some (.string h[i].aO):=fun o=>cell_below o.h m1
 have k4:∀o:WB W,o.u.cell? ⟨b,off+i*4+2,none⟩=some (.slice fa h[i].fields.length fc):=fun o=>cell_below o.h m2
 have k5:∀o:WB W,o.u.cell? ⟨b,off+i*4+3,none⟩=some (.slice ma h[i].methods.length mc):=fun o=>cell_below o.h m3
 have hne:Nonempty (WB W):=⟨⟨W,Below.refl _ _⟩⟩
 have h0:Below W.heap.size W W.drew:=(Below.refl _ _).drew
 clear y0 y1 p1 m0 m1 m2 m3
 generalize h[i]=x at *
 refine dC (fun w'=>∃o:WB W,w' = o.u) (by kernel_rfl) ?_
 change bO _ _ _ _ _ _ _ _ W.drew
 generalize W.drew=V0 at *
 refine af 0 rfl (by kernel_rfl) (fun _ _ _ _ h=>h) ⟨⟨_,h0⟩,rfl⟩ (fun K hK=>?_);go_simp;refine hK _ ?_;clear hK K
 refine af 1 rfl (by kernel_rfl) (fun _ _ _ _ h=>h) ⟨⟨_,h0⟩,rfl⟩ (fun K hK=>?_);go_simp;refine hK _ ?_;clear hK K
 refine af 2 rfl (by kernel_rfl) (fun _ _ _ _ h=>h) ⟨⟨_,h0⟩,rfl⟩ (fun K hK=>?_);go_simp;refine hK _ ?_;clear hK K
 refine af 3 rfl (by kernel_rfl) (fun _ _ _ _ h=>h) ⟨⟨_,h0⟩,rfl⟩ (fun K hK=>?_);go_simp;refine hK _ ?_;clear hK K
 refine af 4 rfl (by kernel_rfl) (fun _ _ _ _ h=>h) ⟨⟨_,h0⟩,rfl⟩ (fun K hK=>?_);go_simp;refine hK _ ?_;clear hK K
 refine af 5 rfl (by kernel_rfl) (fun _ _ _ _ h=>h) ⟨⟨_,h0⟩,rfl⟩ (fun K hK=>?_);go_simp;refine hK _ ?_;clear hK K
 refine af 6 rfl (by kernel_rfl) (fun _ _ _ _ h=>h) ⟨⟨_,h0⟩,rfl⟩ (fun K hK=>?_);go_simp;refine hK _ ?_;clear hK K
 refine aP 7 rfl (by kernel_rfl) ?_
 go_wp2
 have h1:Below W.heap.size W (V0.alloc gT):=h0.trans ((av ..).mono h0.size)
 have BZ:Hid (ah (V0.alloc gT) V0.heap.size #[.string ⟨#[]⟩,.string ⟨#[]⟩,.slice none 0 0,.slice none 0 0] 45):=aL ..
 refine⟨⟨⟨_,h1⟩,rfl⟩,?_⟩
 refine aP 8 rfl (by kernel_rfl) ?_
 refine sJ rfl rfl _ _ rfl V0.heap.size x fa fc ma mc rfl rfl _ BZ.out rfl ?_
 go_wp2
 have h2:=bP h1 h0.size #[.string x.name,.string x.aO,.slice fa x.fields.length fc,.slice ma x.methods.length mc]
 refine⟨⟨⟨_,h2⟩,rfl⟩,?_⟩
 refine dh (by kernel_rfl) ?_ _
 have BC:=Lib.hid (BZ.out.setRow #[.string x.name,.string x.aO,.slice fa x.fields.length fc,.slice ma x.methods.length mc])
 have S1:=Lib.hid (S0.out.below h2)
 have HF1:=Lib.hid (HF0.out.below h2)
 clear k0 k1 k2 k3 k4 k5 hne h0 h1 h2 BZ S0 HF0
 generalize (V0.alloc _).setRow _ _=W1 at *
 generalize V0.heap.size=n1 at *
 obtain⟨b3,o3,pa,pc,he,f0,f1,f2,f3,hps⟩:=HF1.out k hk
 subst he
 have HP1:=Lib.hid hps
 clear hps
 generalize x.methods[k]=m at *
 have z3:=BC.out.cell 3 (by simp)
 simp only[List.getElem_toArray,List.getElem_cons_zero,List.getElem_cons_succ]at z3
 have BF0:Hid (ah (W1.alloc pM) W1.heap.size #[.string ⟨#[]⟩,.bool false,.slice none 0 0,.string ⟨#[]⟩] 48):=aL ..
 have hY:=Lib.hid (bP (av W1 pM) (Nat.le_refl _) #[.string m.name,.bool m.stat,.slice pa m.params.length pc,.string m.result])
 go_upto_region 3 with (refine l5 rfl rfl _ _ rfl W1.heap.size m pa pc rfl rfl _ BF0.out rfl ?_)
 have BF:=Lib.hid (BF0.out.setRow #[.string m.name,.bool m.stat,.slice pa m.params.length pc,.string m.result])
 have S2:=Lib.hid (S1.out.below hY.out)
 have HF2:=Lib.hid (HF1.out.below hY.out)
 have HP2:=Lib.hid (HP1.out.below hY.out)
 have BC2:=Lib.hid (BC.out.below hY.out)
 clear BF0 hY S1 HF1 HP1 BC z3 f0 f1 f2 f3
 generalize (W1.alloc pM).setRow W1.heap.size #[.string m.name,.bool m.stat,.slice pa m.params.length pc,.string m.result]=W2 at *
 generalize W1.heap.size=n2 at *
 have q0:=BF.out.cell 0 (by simp)
 simp only[List.getElem_toArray,List.getElem_cons_zero]at q0
 have HID:=Lib.hid (A8 m.name W2 S2.out.kw)
 cases e1:di m.name
 case false =>
  have e:R=5:=by rw[HRE.out,e1];rfl
  subst e
  rw[e1]at HID
  clear HRE
  go_wp2_with (go_at_call 119;refine HID.out.mono ?_;rintro e w4 ⟨rfl,rfl⟩)
  go_ret
  exact⟨rfl,S2.out.tb.hb⟩
 have HRE2:Hid (R=if dX x.methods m.name<(k:Int)then 7 else if 6<m.params.length then 3 else vN h up m):=by show _=_;rw[HRE.out,e1];rfl
 rw[e1]at HID
 clear HRE e1
 go_upto_region 5 with (go_at_call 119;refine HID.out.mono ?_;rintro e w4 ⟨rfl,rfl⟩)
 clear HID
 have z0:=BC2.out.cell 0 (by simp)
 have z1:=BC2.out.cell 1 (by simp)
 have z2:=BC2.out.cell 2 (by simp)
 have z3:=BC2.out.cell 3 (by simp)
 simp only[List.getElem_toArray,List.getElem_cons_zero,List.getElem_cons_succ]at z0 z1 z2 z3
 have HN5:=Lib.hid (HIN2.out m.name fa fc (some ⟨b3,o3,none⟩) mc W2 HF2.out)
 clear HIN2
 by_cases e3:dX x.methods m.name<(k:Int)
 case pos =>
  have e:R=7:=by rw[HRE2.out,if_pos e3]
  subst e
  generalize dX x.methods m.name=r at *
  have t3:decide (r<(k:Int))=true:=by simp[e3]
  clear HRE2
  go_wp2_with (go_at_call 174;refine HN5.out.mono ?_;rintro e w6 ⟨rfl,hb6⟩)
  go_ret
  exact⟨rfl,S2.out.tb.hb.trans (hb6.mono S2.out.tb.hb.size)⟩
 have HRE3:Hid (R=if 6<m.params.length then 3 else vN h up m):=by show _=_;rw[HRE2.out,if_neg e3]
 generalize dX x.methods m.name=r at *
 have t3:decide (r<(k:Int))=false:=by simp;omega
 clear HRE2
 go_upto_region 7 with (go_at_call 174;refine HN5.out.mono ?_;rintro e w6 ⟨rfl,hb6⟩)
 have S6:Hid (MK h (some ⟨b,off,none⟩) c g ((i:Int)::up) (some ⟨b1,o1,none⟩) n2 m pa pc w w6):=⟨(S2.out.below hb6).tb,(S2.out.below hb6).it,BF.out.below hb6,HP2.out.below hb6⟩
 clear S2 HF2 HP2 BC2 BF hb6 q0 z0 z1 z2 z3 HN5 t3 e3
 obtain⟨s0,s1,s2,s3⟩:=S6.out.sig
 by_cases e4:6<m.params.length
 case pos =>
  have e:R=3:=by rw[HRE3.out,if_pos e4]
  subst e
  have t4:decide ((6:Int)<m.params.length)=true:=by simp;omega
  clear HRE3
  go_wp2
  go_ret
  exact⟨rfl,S6.out.tb.hb⟩
 have HRE4:Hid (R=vN h up m):=by show _=_;rw[HRE3.out,if_neg e4]
 have t4:decide ((6:Int)<m.params.length)=false:=by simp;omega
 clear HRE3
 go_wp2
 clear t4 s0 s1 s2 s3
 have HR0:Hid (R=if qg h m.params=true then(if (m.result.toList==[])=true then(if iK h m up=true then 11 else 0)else if iM h m.result=true then(if iK h m up=true then 11 else 0)else 8)else 8):=HRE4.out
 clear HRE4
 obtain⟨UPR,HUR⟩:∃z:Int,Hid (z=if iK h m up=true then 11 else 0):=⟨_,rfl⟩
 obtain⟨BB,HBB⟩:∃z:Bool,Hid (z=if (m.result.toList==[])=true then false else !(iM h m.result)):=⟨_,rfl⟩
 have HR5:Hid (R=if qg h m.params=true then(if BB=true then 8 else UPR)else 8):=by
  show _=_
  rw[HR0.out,HBB.out,HUR.out]
  cases qg h m.params<;>cases (m.result.toList==[])<;>cases iM h m.result<;>simp
 clear HR0
 go_loopw[44] (fun v wr=>∃q:Nat,q<=m.params.length/\v = .int .i64 q/\Hid (R=if qg h (m.params.drop q)=true then(if BB=true then 8 else UPR)else 8)/\Hid (MK h (some ⟨b,off,none⟩) c g ((i:Int)::up) (some ⟨b1,o1,none⟩) n2 m pa pc w wr)) (fun v _=>m.params.length-(intOf v).toNat)
 case atStart=>exact⟨0,Nat.zero_le _,rfl,HR5.out,S6.out⟩
 case round =>
  clear S6 HR5
  obtain⟨q,hq,rfl,HJ,S⟩:=hrel
  by_cases hlt:q<m.params.length
  case pos =>
   obtain⟨b4,o4,he,p4⟩:=S.out.ps q hlt
   subst he
   obtain⟨y0,y1⟩:=S.out.tb.now (Below.refl _ _)
   have HJ2:=Lib.hid (HJ.out.trans (by rw[UH h m.params q hlt]))
   have HT2:=Lib.hid (HIT.out m.params[q] _ S.out.tb.hc S.out.tb.tg)
   generalize m.params[q]=s at *
   clear HJ HBB HUR HIT HZ HZP HTL HUP
   cases e2:iM h s
   case false =>
    have e:R=8:=by rw[HJ2.out,e2];rfl
    subst e
    rw[e2]at HT2
    clear HJ2
    go_wp2_with (go_at_call 212;refine HT2.out.mono ?_;rintro e w5 ⟨rfl,hb5⟩)
    go_ret
    exact⟨rfl,S.out.tb.hb.trans (hb5.mono S.out.tb.hb.size)⟩
   have HJ3:Hid (R=if qg h (m.params.drop (q+1))=true then(if BB=true then 8 else UPR)else 8):=by show _=_;rw[HJ2.out,e2];rfl
   rw[e2]at HT2
   clear HJ2
   go_wp2_with (go_at_call 212;refine HT2.out.mono ?_;rintro e w5 ⟨rfl,hb5⟩)
   have S5:=Lib.hid (S.out.below hb5)
   clear S hb5
   go_roundw
   case rel=>exact⟨q+1,by omega,by go_num,HJ3.out,S5.out⟩
   case measure=>simp[intOf];omega
  have HJ3:Hid (R=if BB=true then 8 else UPR):=by show _=_;rw[HJ.out,List.drop_of_length_le (by omega)];rfl
  clear HJ
  go_upto_region 15 with (fail)
  obtain⟨y0,y1⟩:=S.out.tb.now (Below.refl _ _)
  obtain⟨s0,s1,s2,s3⟩:=S.out.sig
  have HT2:=Lib.hid (HIT.out m.result _ S.out.tb.hc S.out.tb.tg)
  go_cut[62] (fun v wc=>v = .bool BB/\Hid (MK h (some ⟨b,off,none⟩) c g ((i:Int)::up) (some ⟨b1,o1,none⟩) n2 m pa pc w wc))
  case first =>
   clear HJ3 HUR HIT HZ HZP HTL HUP
   cases er:(m.result.toList==[])
   case true =>
    have e:BB=false:=by rw[HBB.out,er];rfl
    subst e
    clear HBB HT2
    go_wp2
    go_meet
    exact⟨rfl,S.out⟩
   case false =>
    have HB2:Hid (BB = !(iM h m.result)):=by show _=_;rw[HBB.out,er];rfl
    clear HBB
    generalize iM h m.result=z at *
    go_wp2_with (go_at_call 212;refine HT2.out.mono ?_;rintro e w5 ⟨rfl,hb5⟩)
    go_meet
    exact⟨by rw[HB2.out],S.out.below hb5⟩
  case rest =>
  obtain⟨rfl,S2⟩:=hcut
  clear S HT2 y0 y1 s0 s1 s2 s3 HBB
  cases BB
  case true =>
   have e:R=8:=HJ3.out
   subst e
   clear HJ3
   go_wp2
   go_ret
   exact⟨rfl,S2.out.tb.hb⟩
  have HK0:Hid (R=if iK h m (up.drop 0)=true then 11 else 0):=HJ3.out.trans HUR.out
  clear HJ3 HUR
  have S3:Hid (MK h (some ⟨b,off,none⟩) c g up ua n2 m pa pc w wc):=⟨S2.out.tb,HTL.out _ _ _ rfl S2.out.it,S2.out.sb,S2.out.ps⟩
  clear S2 HTL HIT
  go_wp2
  go_loopw[66] (fun v wr=>∃q:Nat,q<=up.length/\v = .int .i64 q/\Hid (R=if iK h m (up.drop q)=true then 11 else 0)/\Hid (MK h (some ⟨b,off,none⟩) c g up ua n2 m pa pc w wr)) (fun v _=>up.length-(intOf v).toNat)
  case atStart=>exact⟨0,Nat.zero_le _,rfl,HK0.out,S3.out⟩
  case round =>
   clear S3 HK0 hlt hq
   obtain⟨q,hq,rfl,HJ,S⟩:=hrel
   by_cases hlt:q<up.length
   case neg =>
    have e:R=0:=by rw[HJ.out,List.drop_of_length_le (by omega)];rfl
    subst e
    clear HJ
    go_wp2
    go_ret
    exact⟨rfl,S.out.tb.hb⟩
   obtain⟨b4,o4,he,p4⟩:=S.out.it q hlt
   subst he
   obtain⟨j,hj,ej⟩:=HUP.out _ (List.getElem_mem hlt)
   rw[ej]at p4
   obtain⟨UQ,HUQ⟩:∃z:Bool,Hid (z=iK h m (up.drop (q+1))):=⟨_,rfl⟩
   have HJ2:Hid (R=if iq m (h[j].methods.drop 0)=true then 11 else if UQ=true then 11 else 0):=by
    show _=_
    rw[HJ.out,Wh _ _ _ _ hlt,ej,Mh hj,HUQ.out,List.drop_zero]
    cases iq m h[j].methods<;>rfl
   clear ej HJ
   obtain⟨b5,off5,fa5,fc5,ma5,mc5,he,m0,m1,m2,m3,-,hfs⟩:=S.out.tb.hc j hj
   cases he
   have HM0:=Lib.hid hfs
   have HZP5:=Lib.hid (HZP.out _ (List.getElem_mem hj))
   clear hfs m0 m1 m2
   have hml:=HZ.out _ (List.getElem_mem hj)
   generalize h[j].methods=ML at *
   obtain⟨y0,y1⟩:=S.out.tb.now (Below.refl _ _)
   go_wp2
   clear y0 y1 p4 m3
   go_loopw[77] (fun v wr=>∃r:Nat,r<=ML.length/\v = .int .i64 r/\Hid (R=if iq m (ML.drop r)=true then 11 else if UQ=true then 11 else 0)/\Hid (kH wr ma5 ML)/\Hid (MK h (some ⟨b,off,none⟩) c g up (some ⟨b4,o4,none⟩) n2 m pa pc w wr)) (fun v _=>ML.length-(intOf v).toNat)
   case atStart=>exact⟨0,Nat.zero_le _,rfl,HJ2.out,HM0.out,S.out⟩
   case round =>
    clear S HM0 HJ2
    obtain⟨r,hr,rfl,HJ,HM,S⟩:=hrel
    by_cases hlr:r<ML.length
    case neg =>
     have HJ3:Hid (R=if iK h m (up.drop (q+1))=true then 11 else 0):=by
      show _=_
      rw[HJ.out,List.drop_of_length_le (by omega),HUQ.out];rfl
     clear HJ HUQ
     go_wp2
     go_roundw
     case rel=>exact⟨q+1,by omega,by go_num,HJ3.out,S.out⟩
     case measure=>simp[intOf];omega
    obtain⟨b6,o6,qa,qc,he,f0,f1,f2,f3,hps⟩:=HM.out r hlr
    subst he
    have HPO:=Lib.hid hps
    have HJ2:=Lib.hid (HJ.out.trans (by rw[Wi m ML r hlr]))
    have hpo:=HZP5.out _ (List.getElem_mem hlr)
    clear hps HJ HUQ
    generalize ML[r]=o at *
    have BO0:Hid (ah (wr.alloc pM) wr.heap.size #[.string ⟨#[]⟩,.bool false,.slice none 0 0,.string ⟨#[]⟩] 48):=aL ..
    have hY:=Lib.hid (bP (av wr pM) (Nat.le_refl _) #[.string o.name,.bool o.stat,.slice qa o.params.length qc,.string o.result])
    go_upto_region 23 with (refine l5 rfl rfl _ _ rfl wr.heap.size o qa qc rfl rfl _ BO0.out rfl ?_)
    have BO:=Lib.hid (BO0.out.setRow #[.string o.name,.bool o.stat,.slice qa o.params.length qc,.string o.result])
    have S2:=Lib.hid (S.out.below hY.out)
    have HM2:=Lib.hid (HM.out.below hY.out)
    have HP2:=Lib.hid (HPO.out.below hY.out)
    clear BO0 hY S HM HPO f0 f1 f2 f3
    generalize (wr.alloc pM).setRow wr.heap.size #[.string o.name,.bool o.stat,.slice qa o.params.length qc,.string o.result]=W4 at *
    generalize wr.heap.size=n4 at *
    obtain⟨s0,s1,s2,s3⟩:=S2.out.sig
    have r0:=BO.out.cell 0 (by simp)
    have r1:=BO.out.cell 1 (by simp)
    have r2:=BO.out.cell 2 (by simp)
    have r3:=BO.out.cell 3 (by simp)
    simp only[List.getElem_toArray,List.getElem_cons_zero,List.getElem_cons_succ]at r0 r1 r2 r3
    have HOV:=Lib.hid (UM m o pa pc qa qc W4 S2.out.ps HP2.out HPL hpo)
    unfold fF at HOV
    clear HP2 BO
    cases eo:(o.name.toList==m.name.toList)
    case false =>
     have HJ3:Hid (R=if iq m (ML.drop (r+1))=true then 11 else if UQ=true then 11 else 0):=by show _=_;rw[HJ2.out,eo];rfl
     clear HJ2 HOV
     go_wp2
     go_roundw
     case rel=>exact⟨r+1,by omega,by go_num,HJ3.out,HM2.out,S2.out⟩
     case measure=>simp[intOf];omega
    cases ev:nI m o
    case false =>
     have e:R=11:=by rw[HJ2.out,eo,ev];rfl
     subst e
     rw[ev]at HOV
     clear HJ2
     go_wp2_with (go_at_call 213;refine HOV.out.mono ?_;rintro e w5 ⟨rfl,hb5⟩)
     go_ret
     exact⟨rfl,S2.out.tb.hb.trans (hb5.mono S2.out.tb.hb.size)⟩
    have HJ3:Hid (R=if iq m (ML.drop (r+1))=true then 11 else if UQ=true then 11 else 0):=by show _=_;rw[HJ2.out,eo,ev];rfl
    rw[ev]at HOV
    clear HJ2
    go_wp2_with (go_at_call 213;refine HOV.out.mono ?_;rintro e w5 ⟨rfl,hb5⟩)
    have S5:=Lib.hid (S2.out.below hb5)
    have HM5:=Lib.hid (HM2.out.below hb5)
    clear S2 HM2 hb5 s0 s1 s2 s3 r0 r1 r2 r3
    go_roundw
    case rel=>exact⟨r+1,by omega,by go_num,HJ3.out,HM5.out,S5.out⟩
    case measure=>simp[intOf];omega
end Go.Proofs.YtjnbddedmbhiaaaGreatDoor
namespace Go.ak
def qy(h:List ae)(up:List Int)(x:ae):List bQ->Nat->Int
 |[],_=>0
 |f::l,k=>if qz h up x k f=0 then qy h up x l (k+1)else qz h up x k f
def l8(h:List ae)(up:List Int)(x:ae):List aH->Nat->Int
 |[],_=>0
 |m::l,k=>if jZ h up x k m=0 then l8 h up x l (k+1)else jZ h up x k m
def BP(h:List ae)(up:List Int)(x:ae):Int:=if qy h up x x.fields 0=0 then l8 h up x x.methods 0 else qy h up x x.fields 0
open Go.Proofs.YtjnbddedmbhiaaaGreatDoor in
def gu(h:List ae)(i:Nat):List Int:=(bW h (i:Int)).1.drop 1
open Go.Proofs.YtjnbddedmbhiaaaGreatDoor in
def rV(h:List ae)(i:Nat)(x:ae):Int:=if 0<=(bW h (i:Int)).2 then 10 else if 16<x.fields.length then 3 else if 16<x.methods.length then 3 else BP h (gu h i) x
open Go.Proofs.YtjnbddedmbhiaaaGreatDoor in
def lD(h:List ae)(i:Nat)(x:ae):Int :=
 if di x.name=true then(if aI h x.name=(i:Int)then(if (x.aO.toList==[])=true then rV h i x else if aI h x.aO<0 then 6 else rV h i x)else 7)else 5
end Go.ak
namespace Go.Proofs.YtjnbddedmbhiaaaGreatDoor
open Go.RowKit Go.ak Go.AM

theorem YW(h:List ae)(up:List Int)(x:ae)(l:List bQ)(k:Nat)(hk:k<l.length):qy h up x (l.drop k) k=if qz h up x k l[k]=0 then qy h up x (l.drop (k+1)) (k+1)else qz h up x k l[k]:=by
 rw[List.drop_eq_getElem_cons hk];rfl
theorem We(h:List ae)(up:List Int)(x:ae)(l:List aH)(k:Nat)(hk:k<l.length):l8 h up x (l.drop k) k=if jZ h up x k l[k]=0 then l8 h up x (l.drop (k+1)) (k+1)else jZ h up x k l[k]:=by
 rw[List.drop_eq_getElem_cons hk];rfl
theorem PU{h:List ae}:∀(n:Nat) (i:Int) (l:List Int),∃m,(jg h n i l).1=l++m
 |0,_,l=>⟨[],by simp[jg]⟩
 |n+1,i,l=>by
  by_cases hq:0<=i/\i∉l
  ·obtain⟨m,hm⟩:=PU n (eH h i) (l++[i])
   exact⟨i::m,by rw[uz hq.1 hq.2,hm];simp⟩
  ·exact⟨[],by rw[qC hq];simp⟩
theorem Cc(h:List ae)(i:Nat):(bW h (i:Int)).1=(i:Int)::gu h i:=by
 obtain⟨m,hm⟩:=PU (h:=h) h.length (eH h i) ([]++[(i:Int)])
 have e:(bW h (i:Int)).1=(i:Int)::m:=by
  unfold bW
  rw[uz (by omega) (by simp),hm];rfl
 unfold gu
 rw[e];rfl
theorem PE{h:List ae}{i:Nat}(hi:i<h.length):∀y∈gu h i,∃j:Nat,j<h.length/\y=(j:Int):=fun y hy =>
 (zh (.inr ⟨i,hi,rfl⟩)).2 y (by rw[Cc];exact List.mem_cons_of_mem _ hy)
theorem PD{h:List ae}{i:Nat}(hi:i<h.length):(gu h i).length+1<=h.length:=by
 have:=zg (h:=h) (i:=(i:Int)) (.inr ⟨i,hi,rfl⟩)
 rw[Cc]at this
 simpa using this
structure CK(h:List ae)(a:Option Addr)(c g:Nat)(n1:Nat)(x:ae)(fa:Option Addr)(fc:Nat)(ma:Option Addr)(mc:Nat)(w wr:World):Prop where
 tb:TB h a c g w wr
 kw:KW wr
 cb:ah wr n1 #[.string x.name,.string x.aO,.slice fa x.fields.length fc,.slice ma x.methods.length mc] 45
section
variable {h:List ae}{a:Option Addr}{c g n1:Nat}{x:ae}{fa:Option Addr}{fc:Nat}{ma:Option Addr}{mc:Nat}{w wr w':World}
theorem CK.below(k:CK h a c g n1 x fa fc ma mc w wr)(hb:Below wr.heap.size wr w'):CK h a c g n1 x fa fc ma mc w w':=⟨k.tb.below hb,k.kw.below hb,k.cb.below hb⟩
theorem CK.cls(k:CK h a c g n1 x fa fc ma mc w wr):wr.cell? ⟨n1,0,none⟩=some (.string x.name)/\wr.cell? ⟨n1,1,none⟩=some (.string x.aO)/\wr.cell? ⟨n1,2,none⟩=some (.slice fa x.fields.length fc)/\wr.cell? ⟨n1,3,none⟩=some (.slice ma x.methods.length mc):=⟨k.cb.cell 0 (by simp),k.cb.cell 1 (by simp),k.cb.cell 2 (by simp),k.cb.cell 3 (by simp)⟩
end
set_option maxRecDepth 100000 in
set_option maxHeartbeats 8000000 in
theorem RX(h:List ae)(a:Option Addr)(c g:Nat)(i:Nat)(hi:i<h.length)(hl:h.length<=100000)(hz1:∀x∈h,x.fields.length<=1000000)(hz:∀x∈h,x.methods.length<=1000000)(hzp:∀x∈h,∀s∈x.methods,s.params.length<=1000000)
 (w:World) (hc:ay w a h) (hg:TabAt w g h) (hkw:KW w) :
 Calls Tryz.prog 116 #[.agg #[.slice a h.length c,.map (some g)],.int .i64 i] w (aj w (.int .i64 (lD h i h[i]))):=by
 have S0:Hid (TB h a c g w (w.alloc (.cells #[.slice a h.length c,.map (some g)] 206))/\KW (w.alloc (.cells #[.slice a h.length c,.map (some g)] 206))):=⟨TB.start (c:=c) hc hg,hkw.below (av w _)⟩
 have HRE:Hid (lD h i h[i]=if di h[i].name=true then(if aI h h[i].name=(i:Int)then(if (h[i].aO.toList==[])=true then rV h i h[i]else if aI h h[i].aO<0 then 6 else rV h i h[i])else 7)else 5):=rfl
 have HFF:Hid (∀(oa:Option Addr) (oc:Nat),(gu h i).length+1<=oc->∀(k:Nat) (hk:k<h[i].fields.length) (w1:World),ay w1 a h->TabAt w1 g h->aM w1 oa ((i:Int)::gu h i)->KW w1->Calls Tryz.prog 175 #[.agg #[.slice a h.length c,.map (some g)],.slice oa ((gu h i).length+1) oc,.int .i64 k] w1 (aj w1 (.int .i64 (qz h (gu h i) h[i] k h[i].fields[k])))) :=
  fun oa oc h1 k hk w1 h2 h3 h4 h5=>RV h a c g i hi (gu h i) (PE hi) (by have:=PD hi;omega) oa oc h1 k hk hz1 w1 h2 h3 h4 h5
 have HMM:Hid (∀(oa:Option Addr) (oc:Nat),(gu h i).length+1<=oc->∀(k:Nat) (hk:k<h[i].methods.length) (w1:World),ay w1 a h->TabAt w1 g h->aM w1 oa ((i:Int)::gu h i)->KW w1->Calls Tryz.prog 176 #[.agg #[.slice a h.length c,.map (some g)],.slice oa ((gu h i).length+1) oc,.int .i64 k] w1 (aj w1 (.int .i64 (jZ h (gu h i) h[i] k h[i].methods[k])))) :=
  fun oa oc h1 k hk w1 h2 h3 h4 h5=>RL h a c g i hi (gu h i) (PE hi) (by have:=PD hi;omega) oa oc h1 k hk hz hzp w1 h2 h3 h4 h5
 have HFD:Hid (∀s w1,TabAt w1 g h->Calls Tryz.prog 114 #[.agg #[.slice a h.length c,.map (some g)],.string s] w1 (aj w1 (.int .i64 (aI h s)))):=fun s w1 h1=>uW h s a c g w1 h1
 have HCH:Hid (∀w1,ay w1 a h->TabAt w1 g h->Calls Tryz.prog 173 #[.agg #[.slice a h.length c,.map (some g)],.int .i64 i] w1 (xn h i w1)):=fun w1 h1 h2=>Dm h a c g i (.inr ⟨i,hi,rfl⟩) w1 h1 hl h2
 have HCE:Hid (rV h i h[i]=if 0<=(bW h (i:Int)).2 then 10 else if 16<h[i].fields.length then 3 else if 16<h[i].methods.length then 3 else BP h (gu h i) h[i]):=rfl
 have HHD:=Lib.hid (Cc h i)
 clear hc hg hkw hz1 hz hzp
 generalize lD h i h[i]=R at *
 generalize rV h i h[i]=RC at *
 go_enter Tryz.func116,Tryz.ntmps116
 go_upto_region 1 with (fail)
 generalize w.alloc _=W at *
 obtain⟨y0,y1⟩:=S0.out.1.now (Below.refl _ _)
 obtain⟨b,off,fa,fc,ma,mc,he,m0,m1,m2,m3,-,-⟩:=S0.out.1.hc i hi
 subst he
 generalize h[i]=x at *
 have BZ:Hid (ah (W.alloc gT) W.heap.size #[.string ⟨#[]⟩,.string ⟨#[]⟩,.slice none 0 0,.slice none 0 0] 45):=aL ..
 have hY:=Lib.hid (bP (av W gT) (Nat.le_refl _) #[.string x.name,.string x.aO,.slice fa x.fields.length fc,.slice ma x.methods.length mc])
 go_upto_region 2 with (refine sJ rfl rfl _ _ rfl W.heap.size x fa fc ma mc rfl rfl _ BZ.out rfl ?_)
 have S1:Hid (CK h (some ⟨b,off,none⟩) c g W.heap.size x fa fc ma mc w _):=⟨S0.out.1.below hY.out,S0.out.2.below hY.out,BZ.out.setRow #[.string x.name,.string x.aO,.slice fa x.fields.length fc,.slice ma x.methods.length mc]⟩
 clear BZ hY S0 y0 y1 m0 m1 m2 m3
 generalize (W.alloc gT).setRow W.heap.size #[.string x.name,.string x.aO,.slice fa x.fields.length fc,.slice ma x.methods.length mc]=W1 at *
 generalize W.heap.size=n1 at *
 obtain⟨z0,z1,z2,z3⟩:=S1.out.cls
 obtain⟨y0,y1⟩:=S1.out.tb.now (Below.refl _ _)
 have HID:=Lib.hid (A8 x.name W1 S1.out.kw)
 cases e1:di x.name
 case false =>
  have e:R=5:=by rw[HRE.out,e1];rfl
  subst e
  rw[e1]at HID
  clear HRE HFF HMM HFD HCH HCE HHD
  go_wp2_with (go_at_call 119;refine HID.out.mono ?_;rintro e w4 ⟨rfl,rfl⟩)
  go_ret
  exact⟨rfl,S1.out.tb.hb⟩
 have HRE2:Hid (R=if aI h x.name=(i:Int)then(if (x.aO.toList==[])=true then RC else if aI h x.aO<0 then 6 else RC)else 7):=by show _=_;rw[HRE.out,e1];rfl
 rw[e1]at HID
 clear HRE e1
 go_upto_region 4 with (go_at_call 119;refine HID.out.mono ?_;rintro e w4 ⟨rfl,rfl⟩)
 clear HID
 have HF2:=Lib.hid (HFD.out x.name _ S1.out.tb.tg)
 by_cases e2:aI h x.name=(i:Int)
 case neg =>
  have e:R=7:=by rw[HRE2.out,if_neg e2]
  subst e
  generalize aI h x.name=r at *
  clear HRE2 HFF HMM HFD HCH HCE HHD
  go_wp2_with (go_at_call 114;refine HF2.out.mono ?_;rintro e w5 ⟨rfl,hb5⟩)
  go_ret
  exact⟨rfl,S1.out.tb.hb.trans (hb5.mono S1.out.tb.hb.size)⟩
 have HRE3:Hid (R=if (x.aO.toList==[])=true then RC else if aI h x.aO<0 then 6 else RC):=by show _=_;rw[HRE2.out,if_pos e2]
 rw[e2]at HF2
 clear HRE2 e2
 go_upto_region 6 with (go_at_call 114;refine HF2.out.mono ?_;rintro e w5 ⟨rfl,hb5⟩)
 have S5:=Lib.hid (S1.out.below hb5)
 clear S1 hb5 HF2 z0 z1 z2 z3 y0 y1
 obtain⟨z0,z1,z2,z3⟩:=S5.out.cls
 obtain⟨y0,y1⟩:=S5.out.tb.now (Below.refl _ _)
 obtain⟨BB,HBB⟩:∃z:Bool,Hid (z=if (x.aO.toList==[])=true then false else decide (aI h x.aO<0)):=⟨_,rfl⟩
 have HRE4:Hid (R=if BB=true then 6 else RC):=by
  show _=_
  rw[HRE3.out,HBB.out]
  cases (x.aO.toList==[])<;>by_cases hx:aI h x.aO<0<;>simp[hx]
 clear HRE3
 go_cut[36] (fun v wc=>v = .bool BB/\Hid (CK h (some ⟨b,off,none⟩) c g n1 x fa fc ma mc w wc))
 case first =>
  have HF2:=Lib.hid (HFD.out x.aO _ S5.out.tb.tg)
  clear HRE4 HFF HMM HFD HCH HCE HHD
  cases er:(x.aO.toList==[])
  case true =>
   have e:BB=false:=by rw[HBB.out,er];rfl
   subst e
   clear HBB HF2
   go_wp2
   go_meet
   exact⟨rfl,S5.out⟩
  case false =>
   have HB2:Hid (BB=decide (aI h x.aO<0)):=by show _=_;rw[HBB.out,er];rfl
   clear HBB
   generalize aI h x.aO=z at *
   go_wp2_with (go_at_call 114;refine HF2.out.mono ?_;rintro e w5 ⟨rfl,hb5⟩)
   go_meet
   exact⟨by rw[HB2.out],S5.out.below hb5⟩
 case rest =>
 obtain⟨rfl,S6⟩:=hcut
 clear S5 HBB z0 z1 z2 z3 y0 y1 HFD
 obtain⟨z0,z1,z2,z3⟩:=S6.out.cls
 obtain⟨y0,y1⟩:=S6.out.tb.now (Below.refl _ _)
 cases BB
 case true =>
  have e:R=6:=HRE4.out
  subst e
  clear HRE4 HFF HMM HCH HCE HHD
  go_wp2
  go_ret
  exact⟨rfl,S6.out.tb.hb⟩
 have HR7:Hid (R=if 0<=(bW h (i:Int)).2 then 10 else if 16<x.fields.length then 3 else if 16<x.methods.length then 3 else BP h (gu h i) x):=HRE4.out.trans HCE.out
 clear HRE4 HCE
 have HC2:=Lib.hid (HCH.out _ S6.out.tb.hc S6.out.tb.tg)
 clear HCH
 go_upto_region 9 with (go_at_call 173;refine HC2.out.mono ?_;rintro e w7 ⟨hb7,oa,oc,rfl,own⟩)
 have S7:=Lib.hid (S6.out.below hb7)
 obtain⟨hoc,hat⟩:=Al own
 have hlen:(bW h (i:Int)).1.length=(gu h i).length+1:=by rw[HHD.out];rfl
 have HIT:Hid (aM w7 oa ((i:Int)::gu h i)):=by rw[<-HHD.out];exact hat
 rw[hlen]at hoc
 rw[hlen]
 clear S6 hb7 own hat HHD hlen HC2 z0 z1 z2 z3 y0 y1
 generalize gu h i=up at *
 generalize (bW h (i:Int)).2=cy at *
 obtain⟨z0,z1,z2,z3⟩:=S7.out.cls
 cases hcb:decide (0<=cy)
 case true =>
  have ec:0<=cy:=of_decide_eq_true hcb
  have e:R=10:=by rw[HR7.out,if_pos ec]
  subst e
  clear hcb
  clear HR7 HFF HMM
  go_wp2
  go_ret
  exact⟨rfl,S7.out.tb.hb⟩
 have ec:¬ 0<=cy:=of_decide_eq_false hcb
 clear hcb
 by_cases ef:16<x.fields.length
 case pos =>
  have e:R=3:=by rw[HR7.out,if_neg ec,if_pos ef]
  subst e
  have t2:decide ((16:Int)<x.fields.length)=true:=by simp;omega
  clear HR7 HFF HMM
  go_wp2
  go_ret
  exact⟨rfl,S7.out.tb.hb⟩
 have t2:decide ((16:Int)<x.fields.length)=false:=by simp;omega
 by_cases em:16<x.methods.length
 case pos =>
  have e:R=3:=by rw[HR7.out,if_neg ec,if_neg ef,if_pos em]
  subst e
  have t3:decide ((16:Int)<x.methods.length)=true:=by simp;omega
  clear HR7 HFF HMM
  go_wp2
  go_ret
  exact⟨rfl,S7.out.tb.hb⟩
 have t3:decide ((16:Int)<x.methods.length)=false:=by simp;omega
 have HR8:Hid (R=if qy h up x (x.fields.drop 0) 0=0 then l8 h up x (x.methods.drop 0) 0 else qy h up x (x.fields.drop 0) 0):=by
  show _=_
  rw[HR7.out,if_neg ec,if_neg ef,if_neg em];rfl
 have hfl:x.fields.length<=16:=by omega
 have hml:x.methods.length<=16:=by omega
 clear HR7 ec ef em
 go_wp2
 clear t2 t3 z0 z1 z2 z3
 go_loopw[57] (fun v wr=>∃q:Nat,q<=x.fields.length/\v = .int .i64 q/\Hid (R=if qy h up x (x.fields.drop q) q=0 then l8 h up x (x.methods.drop 0) 0 else qy h up x (x.fields.drop q) q)/\Hid (CK h (some ⟨b,off,none⟩) c g n1 x fa fc ma mc w wr)/\Hid (aM wr oa ((i:Int)::up))) (fun v _=>x.fields.length-(intOf v).toNat)
 case atStart=>exact⟨0,Nat.zero_le _,rfl,HR8.out,S7.out,HIT.out⟩
 case round =>
  clear S7 HR8 HIT
  obtain⟨q,hq,rfl,HJ,S,HI⟩:=hrel
  obtain⟨y0,y1⟩:=S.out.tb.now (Below.refl _ _)
  by_cases hlt:q<x.fields.length
  case pos =>
   have HC:=Lib.hid (HFF.out oa oc hoc q hlt _ S.out.tb.hc S.out.tb.tg HI.out S.out.kw)
   have HJ2:=HJ.out
   rw[YW _ _ _ _ _ hlt]at HJ2
   generalize qz h up x q x.fields[q]=E at *
   by_cases e0:E=0
   case neg =>
    rw[if_neg e0,if_neg e0]at HJ2
    clear HJ HMM HFF
    go_wp2_with (go_at_call 175;refine HC.out.mono ?_;rintro e w5 ⟨rfl,hb5⟩)
    go_ret
    exact⟨eO HJ2.symm,S.out.tb.hb.trans (hb5.mono S.out.tb.hb.size)⟩
   rw[if_pos e0]at HJ2
   have HJ3:=Lib.hid HJ2
   subst e0
   clear HJ HJ2
   go_wp2_with (go_at_call 175;refine HC.out.mono ?_;rintro e w5 ⟨rfl,hb5⟩)
   have S5:=Lib.hid (S.out.below hb5)
   have HI5:=Lib.hid (HI.out.below hb5)
   clear S HI hb5 HC y0 y1
   go_roundw
   case rel=>exact⟨q+1,by omega,by go_num,HJ3.out,S5.out,HI5.out⟩
   case measure=>simp[intOf];omega
  have HJ2:Hid (R=l8 h up x (x.methods.drop 0) 0):=by
   show _=_
   rw[HJ.out,List.drop_of_length_le (by omega)];rfl
  clear HJ HFF
  obtain⟨z0,z1,z2,z3⟩:=S.out.cls
  go_wp2
  clear z0 z1 z2 z3 y0 y1 hq hlt
  go_loopw[71] (fun v wr=>∃q:Nat,q<=x.methods.length/\v = .int .i64 q/\Hid (R=l8 h up x (x.methods.drop q) q)/\Hid (CK h (some ⟨b,off,none⟩) c g n1 x fa fc ma mc w wr)/\Hid (aM wr oa ((i:Int)::up))) (fun v _=>x.methods.length-(intOf v).toNat)
  case atStart=>exact⟨0,Nat.zero_le _,rfl,HJ2.out,S.out,HI.out⟩
  case round =>
   clear S HJ2 HI
   obtain⟨q,hq,rfl,HJ,S,HI⟩:=hrel
   obtain⟨y0,y1⟩:=S.out.tb.now (Below.refl _ _)
   by_cases hlt:q<x.methods.length
   case pos =>
    have HC:=Lib.hid (HMM.out oa oc hoc q hlt _ S.out.tb.hc S.out.tb.tg HI.out S.out.kw)
    have HJ2:=HJ.out
    rw[We _ _ _ _ _ hlt]at HJ2
    generalize jZ h up x q x.methods[q]=E at *
    by_cases e0:E=0
    case neg =>
     rw[if_neg e0]at HJ2
     clear HJ HMM
     go_wp2_with (go_at_call 176;refine HC.out.mono ?_;rintro e w5 ⟨rfl,hb5⟩)
     go_ret
     exact⟨eO HJ2.symm,S.out.tb.hb.trans (hb5.mono S.out.tb.hb.size)⟩
    rw[if_pos e0]at HJ2
    have HJ3:=Lib.hid HJ2
    subst e0
    clear HJ HJ2
    go_wp2_with (go_at_call 176;refine HC.out.mono ?_;rintro e w5 ⟨rfl,hb5⟩)
    have S5:=Lib.hid (S.out.below hb5)
    have HI5:=Lib.hid (HI.out.below hb5)
    clear S HI hb5 HC y0 y1
    go_roundw
    case rel=>exact⟨q+1,by omega,by go_num,HJ3.out,S5.out,HI5.out⟩
    case measure=>simp[intOf];omega
   have e:R=0:=by rw[HJ.out,List.drop_of_length_le (by omega)];rfl
   subst e
   clear HJ HMM
   go_wp2
   go_ret
   exact⟨rfl,S.out.tb.hb⟩
end Go.Proofs.YtjnbddedmbhiaaaGreatDoor
