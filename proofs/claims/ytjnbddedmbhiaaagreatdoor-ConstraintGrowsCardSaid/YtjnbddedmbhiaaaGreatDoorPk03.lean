/-
  The reference's overrides.
-/
import Derived.Test.YtjnbddedmbhiaaaGreatDoorPk02
namespace Go.Proofs.YtjnbddedmbhiaaaGreatDoor
open Go.RowKit Go.ak

structure OW(h:List ae)(g:aH)(a:Option Addr)(c:Nat)(pa:Option Addr)(pc:Nat)(L:List Str)(oa:Option Addr)(w wr:World):Prop where
 hb:Below w.heap.size w wr
 bx:ah wr w.heap.size #[.slice a h.length c] 24
 b2:ah wr (w.heap.size+1) #[.string g.name,.bool g.stat,.slice pa g.params.length pc,.string g.result] 48
 sp:bF wr pa g.params
 st:bF wr oa L
def fV:Option (Str × bQ)->Value
 |none=>.tuple #[.string ⟨#[]⟩,.string ⟨#[]⟩,.bool false]
 |some (x,g)=>.tuple #[.string x,.string g.type,.bool true]
theorem Ik.ret{r:Option (Str × bQ)}{w w':World}{e:Ending}(h:Ik r w e w'):aj w (fV r) e w':=by
 obtain⟨hb,⟨rfl,rfl⟩ | ⟨x,g,rfl,rfl⟩⟩:=h
 ·exact⟨rfl,hb⟩
 ·exact⟨rfl,hb⟩
structure HX(h:List ae)(a:Option Addr)(c:Nat)(w wr:World):Prop where
 hb:Below w.heap.size w wr
 b1:ah wr w.heap.size #[.slice a h.length c] 24
 hc:ay wr a h
structure QK(h:List ae):Prop where
 l:h.length<=100000
 f:∀x∈h,x.fields.length<=100000
 m:∀x∈h,x.methods.length<=100000
 p:∀x∈h,∀y∈x.methods,y.params.length<=100000
def sW:Array Value:=(xZ.map Value.string).toArray
structure IW(x:Ins)(ga:Option Addr)(gc:Nat)(g:Nat)(w wr:World):Prop where
 hb:Below w.heap.size w wr
 b1:ah wr g #[.int .i64 x.op,.int .i64 x.dst,.int .i64 x.a,.int .i64 x.b,.int .i64 x.n,.string x.cls,.string x.name,.slice ga x.args.length gc,.int .i64 x.goto,.int .i64 x.aZ] 53
 ga:aM wr ga x.args
theorem IW.below{x:Ins}{ga:Option Addr}{gc g:Nat}{w wr w':World}(k:IW x ga gc g w wr)(hb:Below wr.heap.size wr w'):IW x ga gc g w w' :=
 ⟨k.hb.trans (hb.mono k.hb.size),k.b1.below hb,k.ga.below hb⟩
theorem IW.cells{x:Ins}{ga:Option Addr}{gc g:Nat}{w wr:World}(k:IW x ga gc g w wr) :
 wr.cell? ⟨g,0,none⟩=some (.int .i64 x.op)/\wr.cell? ⟨g,1,none⟩=some (.int .i64 x.dst)/\wr.cell? ⟨g,2,none⟩=some (.int .i64 x.a)/\wr.cell? ⟨g,3,none⟩=some (.int .i64 x.b)/\wr.cell? ⟨g,4,none⟩=some (.int .i64 x.n)/\wr.cell? ⟨g,5,none⟩=some (.string x.cls)/\wr.cell? ⟨g,6,none⟩=some (.string x.name)/\wr.cell? ⟨g,7,none⟩=some (.slice ga x.args.length gc)/\wr.cell? ⟨g,8,none⟩=some (.int .i64 x.goto)/\wr.cell? ⟨g,9,none⟩=some (.int .i64 x.aZ) :=
 ⟨k.b1.cell 0 (by simp),k.b1.cell 1 (by simp),k.b1.cell 2 (by simp),k.b1.cell 3 (by simp),k.b1.cell 4 (by simp),k.b1.cell 5 (by simp),k.b1.cell 6 (by simp),k.b1.cell 7 (by simp),k.b1.cell 8 (by simp),k.b1.cell 9 (by simp)⟩
def bN(x:Ins)(ga:Option Addr)(gc:Nat):Value:=.agg #[.int .i64 x.op,.int .i64 x.dst,.int .i64 x.a,.int .i64 x.b,.int .i64 x.n,.string x.cls,.string x.name,.slice ga x.args.length gc,.int .i64 x.goto,.int .i64 x.aZ]
theorem IW.start{x:Ins}{ga:Option Addr}{gc:Nat}{w:World}(h:aM w ga x.args):IW x ga gc w.heap.size w (w.alloc (.cells #[.int .i64 x.op,.int .i64 x.dst,.int .i64 x.a,.int .i64 x.b,.int .i64 x.n,.string x.cls,.string x.name,.slice ga x.args.length gc,.int .i64 x.goto,.int .i64 x.aZ] 53)) :=
 ⟨av ..,aL ..,h.below (av ..)⟩
theorem NJ:(Tryz.prog.info? 3).map (fun i=>(i.zero,i.size,i.bytes))=some (some (.int .i64 0),1,8):=by kernel_rfl
def bT(i:Int):Value:=.int .i64 i
theorem uE{ops:Array Oper}{rest:List Oper}{o:Oper}{a:Act}{Q:Exit->Act->World->Prop}{w:World}(hgd:o.guard=none)(s x:Operand)
 (ho:o.op = .call { callee:=.builtin .append,args:=#[s,x],argTypes:=#[28,28] })
 (base:Nat) (v:Value) (l:List Int) (hs:a.eval s=v) (hown:w.ownsRow base 3 1 v l.length (l.map bT))
 (ad:Option Addr) (c:Nat) (m:List Int) (hx:a.eval x = .slice ad m.length c) (hat:aM w ad m)
 (hn:l.length<=1000000) (hm:m.length<=1000000) (hbase:base<=w.heap.size)
 (h:∀v' w',w'.ownsRow base 3 1 v' (l++m).length ((l++m).map bT)->w.grownBy w' v.ownBlock->wpList Tryz.prog ops Q rest (a.put o.dst v') w'):wpList Tryz.prog ops Q (o::rest) a w:=by
 obtain⟨i0,hi,hz0,hz1,hz2⟩:=info_parts NJ
 cases ad with
 |none =>
  have hm0:m=[]:=by
   cases m with
   |nil=>rfl
   |cons y m=>obtain⟨_,_,he,_⟩:=hat 0 (by simp);cases he
  subst hm0
  refine wpList_plain hgd fun K hK=>?_
  have hrun:∀ty,(Builtin.append_ #[28,28] ty #[v,.slice none 0 c]).run Tryz.prog w = .ok v w:=fun ty=>by
   rcases hown.2 with ⟨rfl,_⟩ | ⟨g,cap,cur,rfl,_,_,hnc,_⟩
   ·simp[Builtin.append_,run_underlying Tryz.underlying28,sizeOf,typeInfo,hi,Builtin.lenOf,Builtin.firstCells]
   ·simp[Builtin.append_,run_underlying Tryz.underlying28,sizeOf,typeInfo,hi,Builtin.lenOf,Builtin.firstCells,hnc,storeCells]
  unfold Oper.wp
  simp[execOp,ho,resolve,invoke,builtin,hs,hx,hrun,Result.andThen]
  exact hK _ _ (h v w (by simpa using hown) (World.grownBy.refl w _))
 |some adr =>
  refine wpList_append_own w hgd s x 28 ho base 3 i0 (.int .i64 0) 1 8 Tryz.underlying28 hi hz0 hz1 hz2 rfl (by decide) v l.length (l.map bT) hs hown adr m.length c (m.map bT) hx (by simp) ?_ (by intro u hu;obtain⟨y,_,rfl⟩:=List.mem_map.1 hu;rfl) (by unfold maxLen;omega) (by omega) hbase ?_
  ·intro j u hu
   obtain⟨hj,rfl⟩:=List.getElem?_eq_some_iff.1 hu
   rw[List.length_map]at hj
   obtain⟨b,off,he,hc⟩:=hat j hj
   cases he
   rw[addr_add,hc]
   simp[bT]
  ·intro v' w' h1 h2 _
   refine h v' w' ?_ h2
   rw[List.map_append,List.length_append]
   exact h1
theorem jK{w:World}{base:Nat}{v:Value}{l:List Int}{n:Nat}(h:w.ownsRow base 3 1 v n (l.map bT)):n=l.length/\∃a cap,v = .slice a n cap/\n<=cap/\aM w a l:=by
 have hl:n=l.length:=by have:=h.1;simp at this;omega
 refine⟨hl,?_⟩
 rcases h.2 with ⟨rfl,h0⟩ | ⟨g,cap,cur,rfl,hb,hh,hn,_,hsz,ht⟩
 ·exact⟨none,0,by rw[h0],by omega,fun k hk=>by omega⟩
 ·refine⟨_,_,rfl,hn,fun k hk=>⟨g,0,rfl,?_⟩⟩
  have c:=h.cells (g:=g) rfl k (bT l[k]) (by simp[hk])
  rw[addr_add]at c
  exact c
theorem vZ{w0 w w':World}{e s n:Nat}{v:Value}{xs:List Value}(hb:Below w0.heap.size w0 w)(own:w.ownsRow w0.heap.size e s v n xs)(hg:w.grownBy w' v.ownBlock):Below w0.heap.size w0 w' :=
 hb.grown hg hb.size (fun g h=>(own.lt g h).1)
def oH(l:List Int)(w:World)(e:Ending)(w':World):Prop :=
 Below w.heap.size w w'/\∃a c,e = .returned (.slice a l.length c)/\w'.ownsRow w.heap.size 3 1 (.slice a l.length c) l.length (l.map bT)
theorem tZ(w:World)(i:Int):aM (w.alloc (.cells #[.int .i64 i] 3)) (some ⟨w.heap.size,0,none⟩) [i]:=by
 intro k hk
 have:k=0:=by simp at hk;omega
 subst this
 exact⟨_,_,rfl,(aL w #[.int .i64 i] 3).cell 0 (by simp)⟩

def eQ(f:aA)(va:Option Addr)(vc:Nat)(ca:Option Addr)(cc:Nat):Value:=.agg #[.string f.cls,.string f.name,.bool f.stat,.int .i64 f.params,.slice va f.vars.length vc,.string f.result,.slice ca f.code.length cc]
structure FW(f:aA)(va:Option Addr)(vc:Nat)(ca:Option Addr)(cc:Nat)(g:Nat)(w wr:World):Prop where
 hb:Below w.heap.size w wr
 b1:ah wr g #[.string f.cls,.string f.name,.bool f.stat,.int .i64 f.params,.slice va f.vars.length vc,.string f.result,.slice ca f.code.length cc] 51
 hv:aK wr va f.vars
 hc:dw wr ca f.code
section
variable {f:aA}{va:Option Addr}{vc:Nat}{ca:Option Addr}{cc g:Nat}{w wr w':World}
theorem FW.below(k:FW f va vc ca cc g w wr)(hb:Below wr.heap.size wr w'):FW f va vc ca cc g w w' :=
 ⟨k.hb.trans (hb.mono k.hb.size),k.b1.below hb,k.hv.below hb,k.hc.below hb⟩
theorem FW.cells(k:FW f va vc ca cc g w wr):wr.cell? ⟨g,0,none⟩=some (.string f.cls)/\wr.cell? ⟨g,1,none⟩=some (.string f.name)/\wr.cell? ⟨g,2,none⟩=some (.bool f.stat)/\wr.cell? ⟨g,3,none⟩=some (.int .i64 f.params)/\wr.cell? ⟨g,4,none⟩=some (.slice va f.vars.length vc)/\wr.cell? ⟨g,5,none⟩=some (.string f.result)/\wr.cell? ⟨g,6,none⟩=some (.slice ca f.code.length cc) :=
 ⟨k.b1.cell 0 (by simp),k.b1.cell 1 (by simp),k.b1.cell 2 (by simp),k.b1.cell 3 (by simp),k.b1.cell 4 (by simp),k.b1.cell 5 (by simp),k.b1.cell 6 (by simp)⟩
end
def QL(P:Bool->Prop)(w:World)(e:Ending)(w':World):Prop:=Below w.heap.size w w'/\∃b,e = .returned (.bool b)/\P b
structure FX(f:aA)(va:Option Addr)(vc:Nat)(ca:Option Addr)(cc:Nat)(x:Ins)(ga:Option Addr)(gc:Nat)(w wr:World):Prop where
 f:FW f va vc ca cc w.heap.size w wr
 x:IW x ga gc (w.heap.size+1) w wr
theorem FX.below{f:aA}{va:Option Addr}{vc:Nat}{ca:Option Addr}{cc:Nat}{x:Ins}{ga:Option Addr}{gc:Nat}{w wr w':World}(k:FX f va vc ca cc x ga gc w wr)(hb:Below wr.heap.size wr w'):FX f va vc ca cc x ga gc w w':=⟨k.f.below hb,k.x.below hb⟩
theorem FX.start{f:aA}{va:Option Addr}{vc:Nat}{ca:Option Addr}{cc:Nat}{x:Ins}{ga:Option Addr}{gc:Nat}{w:World}(hv:aK w va f.vars)(hc:dw w ca f.code)(hi:aM w ga x.args) :
 FX f va vc ca cc x ga gc w ((w.alloc (.cells #[.string f.cls,.string f.name,.bool f.stat,.int .i64 f.params,.slice va f.vars.length vc,.string f.result,.slice ca f.code.length cc] 51)).alloc (.cells #[.int .i64 x.op,.int .i64 x.dst,.int .i64 x.a,.int .i64 x.b,.int .i64 x.n,.string x.cls,.string x.name,.slice ga x.args.length gc,.int .i64 x.goto,.int .i64 x.aZ] 53)) :=
 have hb:=iH w (.cells #[.string f.cls,.string f.name,.bool f.stat,.int .i64 f.params,.slice va f.vars.length vc,.string f.result,.slice ca f.code.length cc] 51) (.cells #[.int .i64 x.op,.int .i64 x.dst,.int .i64 x.a,.int .i64 x.b,.int .i64 x.n,.string x.cls,.string x.name,.slice ga x.args.length gc,.int .i64 x.goto,.int .i64 x.aZ] 53)
 ⟨⟨hb,(aL ..).below (av ..),hv.below hb,hc.below hb⟩,⟨hb,gH ..,hi.below hb⟩⟩
end Go.Proofs.YtjnbddedmbhiaaaGreatDoor
namespace Go.ak
open Go.Proofs.YtjnbddedmbhiaaaGreatDoor
def jO(s:Str):Bool:=decide (0<s.size) && !(decide ((s.data[0]?.getD 0).toNat=48)&&decide (1<s.size))&&s.data.toList.all (fun c=>decide (48<=c.toNat)&&decide (c.toNat<=57))
def nz(s:Str):Bool:=if s.size<=32/\Go.Lib.hasPrefix s.data.toList [36]=true then jO (s.extract 1 s.size)else di s
def gG(l:List Ins)(i:Int):Bool:=decide (0<=i)&&decide (i<l.length)&&(l[i.toNat]?).elim false (fun x=>x.op==15)
theorem y0H{l:List Ins}{k:Nat}(hk:k<l.length):gG l k=(l[k].op==15):=by
 unfold gG
 have h1:decide ((k:Int)<l.length)=true:=by simp;omega
 rw[Int.toNat_natCast,List.getElem?_eq_getElem hk,h1];simp
theorem VR{s:Str}(h:s.size=0):jO s=false:=by simp[jO,h]
theorem VT{s:Str}(h:0<s.size)(h1:1<s.size)(h0:s[0].toNat=48):jO s=false:=by
 unfold jO
 rw[Ck h,h0]
 simp[h1]
theorem VU{s:Str}{k:Nat}(h:k<s.size)(hl:¬ (48<=s[k].toNat/\s[k].toNat<=57)):jO s=false:=by
 have:(s.data.toList.all (fun c=>decide (48<=c.toNat)&&decide (c.toNat<=57)))=false:=by
  rw[List.all_eq_false]
  refine⟨s[k],by simp[ByteArray.getElem_eq_getElem_data],?_⟩
  simp only[Bool.and_eq_true,decide_eq_true_eq]
  exact hl
 simp[jO,this]
theorem VS{s:Str}(h:0<s.size)(h0:¬ (s[0].toNat=48/\1<s.size))(hp:∀j (hj:j<s.size),48<=s[j].toNat/\s[j].toNat<=57):jO s=true:=by
 have:(s.data.toList.all (fun c=>decide (48<=c.toNat)&&decide (c.toNat<=57)))=true:=by
  rw[List.all_eq_true]
  intro c hc
  obtain⟨j,hj,rfl⟩:=List.getElem_of_mem hc
  have hj':j<s.size:=by simpa using hj
  have:=hp j hj'
  simpa[ByteArray.getElem_eq_getElem_data]using this
 unfold jO
 rw[Ck h,this]
 have:¬ (s[0].toNat=48)∨¬ 1<s.size:=by omega
 rcases this with e | e<;>simp[h,e]
end Go.ak
namespace Go.Proofs.YtjnbddedmbhiaaaGreatDoor
open Go.RowKit Go.ak

set_option maxRecDepth 100000 in
set_option maxHeartbeats 2000000 in
theorem VQ(s:ByteArray)(w:World)(hs:s.size<=1000000):Calls Tryz.prog 118 #[.string s] w (Same w (.bool (jO s))):=by
 by_cases h0:s.size=0
 ·have H:=Lib.hid (VR h0)
  have e:=nil_of_size h0
  go_enter Tryz.func118,Tryz.ntmps118
  go_wp2
  go_ret
  exact⟨ed H.out.symm,rfl⟩
 have e:=Md h0
 have e2:s.toList.isEmpty=false:=by cases h:s.toList<;>simp_all
 have hp:0<s.size:=by omega
 by_cases h1:s[0].toNat=48/\1<s.size
 ·have H:=Lib.hid (VT hp h1.2 h1.1)
  have t1:((s[0].toNat:Int)==48)=true:=by simp;omega
  have t2:decide ((1:Int)<s.size)=true:=by simp;omega
  clear h1
  go_enter Tryz.func118,Tryz.ntmps118
  go_wp2
  go_ret
  exact⟨ed H.out.symm,rfl⟩
 have HT:Hid ((∀j (hj:j<s.size),48<=s[j].toNat/\s[j].toNat<=57)->jO s=true):=fun h=>VS hp h1 h
 have HB:Hid (∀k (h:k<s.size),¬ (48<=s[k].toNat/\s[k].toNat<=57)->jO s=false):=fun k h hl=>VU h hl
 generalize jO s=R at *
 go_enter Tryz.func118,Tryz.ntmps118
 go_upto_region 1 with (fail)
 go_cut[15] (fun v wx=>v = .bool false/\Hid (w=wx))
 case first =>
  clear HT HB
  by_cases h2:s[0].toNat=48
  ·have t1:((s[0].toNat:Int)==48)=true:=by simp;omega
   have t2:decide ((1:Int)<s.size)=false:=by simp;omega
   clear h1
   go_wp2
   go_meet
   exact⟨rfl,rfl⟩
  ·have t1:((s[0].toNat:Int)==48)=false:=by simp;omega
   clear h1
   go_wp2
   go_meet
   exact⟨rfl,rfl⟩
 case rest =>
  obtain⟨rfl,HW⟩:=hcut
  obtain rfl:=HW.out
  clear HW h1 e e2
  go_wp2
  go_loop[18] (fun i=>∃k:Nat,k<=s.size/\i = .int .i64 k/\Hid (∀j (hj:j<s.size),j<k->48<=s[j].toNat/\s[j].toNat<=57)) (fun i=>s.size-(intOf i).toNat)
  case atStart=>exact⟨0,Nat.zero_le _,rfl,fun j _ h=>absurd h (by omega)⟩
  case round =>
   obtain⟨k,hk,rfl,HI⟩:=hrel
   by_cases hlt:k<s.size
   case neg =>
    have HF:Hid (R=true):=HT.out fun j hj=>HI.out j hj (by omega)
    go_wp2
    go_ret
    exact⟨ed HF.out.symm,rfl⟩
   have HBk:=Lib.hid (HB.out k hlt)
   have HIN:Hid (48<=s[k].toNat/\s[k].toNat<=57->∀j (hj:j<s.size),j<k+1->48<=s[j].toNat/\s[j].toNat<=57):=fun e j hj hjk=>by
    by_cases e2:j=k
    ·subst e2;exact e
    ·exact HI.out j hj (by omega)
   by_cases a1:s[k].toNat<48
   ·have HF:=Lib.hid (HBk.out (by omega))
    have t1:decide ((s[k].toNat:Int)<48)=true:=by simp;omega
    clear HIN HI HB HT
    go_wp2
    go_ret
    exact⟨ed HF.out.symm,rfl⟩
   ·have t1:decide ((s[k].toNat:Int)<48)=false:=by simp;omega
    by_cases a2:57<s[k].toNat
    ·have HF:=Lib.hid (HBk.out (by omega))
     have t2:decide ((57:Int)<s[k].toNat)=true:=by simp;omega
     clear HIN HI HB HT
     go_wp2
     go_ret
     exact⟨ed HF.out.symm,rfl⟩
    ·have t2:decide ((57:Int)<s[k].toNat)=false:=by simp;omega
     have HI2:=Lib.hid (HIN.out ⟨by omega,by omega⟩)
     clear HIN HI HBk
     go_wp2
     go_round
     case rel=>exact⟨k+1,by omega,by go_num,HI2.out⟩
     case measure=>simp[intOf];omega
set_option maxRecDepth 100000 in
set_option maxHeartbeats 2000000 in
theorem Q7(s:ByteArray)(w:World)(hw:KW w):Calls Tryz.prog 65 #[.string s] w (Same w (.bool (nz s))):=by
 have HPR:=Lib.hid (fun w1=>Tryz.Yu s ⟨#[36]⟩ w1)
 have HID:=Lib.hid (A8 s w hw)
 by_cases h1:s.size<=32
 ·have t1:decide ((s.size:Int)<=32)=true:=by simp;omega
  cases h2:Go.Lib.hasPrefix s.data.toList [36]with
  |true =>
   have HE:Hid (nz s=jO (s.extract 1 s.size)):=by show _=_;unfold nz;rw[if_pos ⟨h1,h2⟩]
   have hz:1<=s.size:=by
    cases hd:s.data.toList with
    |nil=>rw[hd]at h2;simp[Go.Lib.hasPrefix]at h2
    |cons a l =>
     have h3:s.data.toList.length=(a::l).length:=by rw[hd]
     rw[List.length_cons,Array.length_toList]at h3
     show 1<=s.data.size
     omega
   have HN:=Lib.hid (VQ (s.extract 1 s.size) w (by simp;omega))
   have HP2:Hid (Go.Lib.hasPrefix s.data.toList (⟨#[36]⟩:ByteArray).data.toList=true):=h2
   rw[HP2.out]at HPR
   rw[HE.out]
   generalize jO (s.extract 1 s.size)=R at *
   clear h2 HID HE
   go_enter Tryz.func65,Tryz.ntmps65
   go_wp2_with (first
    |(go_at_call 117;refine(HPR.out _).mono ?_;rintro e w' ⟨rfl,rfl⟩)
    |(go_at_call 118;refine HN.out.mono ?_;rintro e w' ⟨rfl,rfl⟩))
   go_ret
   exact⟨rfl,rfl⟩
  |false =>
   have HE:Hid (nz s=di s):=by show _=_;unfold nz;rw[if_neg (by rw[h2];simp)]
   have HP2:Hid (Go.Lib.hasPrefix s.data.toList (⟨#[36]⟩:ByteArray).data.toList=false):=h2
   rw[HP2.out]at HPR
   rw[HE.out]
   generalize di s=R at *
   clear h2 HE
   go_enter Tryz.func65,Tryz.ntmps65
   go_wp2_with (first
    |(go_at_call 117;refine(HPR.out _).mono ?_;rintro e w' ⟨rfl,rfl⟩)
    |(go_at_call 119;refine HID.out.mono ?_;rintro e w' ⟨rfl,rfl⟩))
   go_ret
   exact⟨rfl,rfl⟩
 ·have HE:Hid (nz s=di s):=by show _=_;unfold nz;rw[if_neg (fun h=>h1 h.1)]
  have t1:decide ((s.size:Int)<=32)=false:=by simp;omega
  rw[HE.out]
  generalize di s=R at *
  clear HE HPR
  go_enter Tryz.func65,Tryz.ntmps65
  go_wp2_with (go_at_call 119;refine HID.out.mono ?_;rintro e w' ⟨rfl,rfl⟩)
  go_ret
  exact⟨rfl,rfl⟩
end Go.Proofs.YtjnbddedmbhiaaaGreatDoor
namespace Go.Proofs.YtjnbddedmbhiaaaGreatDoor
open Go.RowKit Go.ak

theorem kR{ops:Array Oper}{rest:List Oper}{o:Oper}{a:Act}{w:World}{Q:Exit->Act->World->Prop}(hgd:o.guard=none)(hd:o.dst=none)(x y:Operand)(ho:o.op = .store 53 x y)
 (g:Nat) (i:Ins) (ga:Option Addr) (gc:Nat) (hx:a.eval x = .pointer (some ⟨g,0,none⟩)) (hy:a.eval y=bN i ga gc)
 (old:Array Value) (hg:ah w g old 53) (hold:old.size=10)
 (h:wpList Tryz.prog ops Q rest a (w.setRow g #[.int .i64 i.op,.int .i64 i.dst,.int .i64 i.a,.int .i64 i.b,.int .i64 i.n,.string i.cls,.string i.name,.slice ga i.args.length gc,.int .i64 i.goto,.int .i64 i.aZ])):wpList Tryz.prog ops Q (o::rest) a w :=
 wpList_store_row hgd 53 x y ho g _ hx hy 53 old hg (by kernel_rfl) hold (by simp[Value.oneCell']) (by rw[hd];exact h)
abbrev dP(f:aA)(va:Option Addr)(vc:Nat)(ca:Option Addr)(cc:Nat):Obj:=.cells #[.string f.cls,.string f.name,.bool f.stat,.int .i64 f.params,.slice va f.vars.length vc,.string f.result,.slice ca f.code.length cc] 51
abbrev bV:Obj:=.cells #[.int .i64 0,.int .i64 0,.int .i64 0,.int .i64 0,.int .i64 0,.string ⟨#[]⟩,.string ⟨#[]⟩,.slice none 0 0,.int .i64 0,.int .i64 0] 53
theorem FW.start{f:aA}{va:Option Addr}{vc:Nat}{ca:Option Addr}{cc:Nat}{w:World}(hv:aK w va f.vars)(hc:dw w ca f.code) :
 FW f va vc ca cc w.heap.size w (w.alloc (.cells #[.string f.cls,.string f.name,.bool f.stat,.int .i64 f.params,.slice va f.vars.length vc,.string f.result,.slice ca f.code.length cc] 51)) :=
 have hb:=av w (dP f va vc ca cc)
 ⟨hb,aL ..,hv.below hb,hc.below hb⟩
end Go.Proofs.YtjnbddedmbhiaaaGreatDoor
namespace Go.ak
theorem YO{t:Str}{l:List ae}{k:Nat}(hk:k<l.length)(e:(l[k].name.toList==t.toList)=true):fw t (l.drop k) k=k:=by
 rw[List.drop_eq_getElem_cons hk];show(if aD _ _=true then(k:Int)else _)=_;rw[if_pos (show aD _ _=true from e)]
theorem YN{t:Str}{l:List ae}{k:Nat}(hk:k<l.length)(e:(l[k].name.toList==t.toList)=false):fw t (l.drop k) k=fw t (l.drop (k+1)) (k+1):=by
 rw[List.drop_eq_getElem_cons hk];show(if aD _ _=true then(k:Int)else _)=_;rw[if_neg (by simp[aD,e])]
theorem XV:aY.toList=[105,110,116]:=by simp[aY,ByteArray.toList_eq]
theorem VF:tu.toList=[110,117,108,108]:=by simp[tu,ByteArray.toList_eq]
theorem eq_int(s:Str):(s.toList==[105,110,116])=aD s aY:=by unfold aD;rw[XV]
theorem Zv(s:Str):(s.toList==[110,117,108,108])=aD s tu:=by unfold aD;rw[VF]
theorem YP{t:Str}{l:List ae}{k:Nat}(hk:l.length<=k):fw t (l.drop k) k = -1:=by
 rw[List.drop_of_length_le hk];rfl
end Go.ak
namespace Go.Proofs.YtjnbddedmbhiaaaGreatDoor
open Go.RowKit Go.ak

set_option maxHeartbeats 1000000 in
theorem y0p(t:Str)(x:ae)(fa:Option Addr)(fc:Nat)(ma:Option Addr)(mc:Nat)(p:Addr)(w:World)(hp:w.cell? p=some (.string t)) :
 Calls Tryz.prog 121 #[.agg #[.string x.name,.string x.aO,.slice fa x.fields.length fc,.slice ma x.methods.length mc],.pointer (some p)] w (aj w (.bool (x.name.toList==t.toList))):=by
 have HB:=Lib.hid (av w (.cells #[.string x.name,.string x.aO,.slice fa x.fields.length fc,.slice ma x.methods.length mc] 45))
 have hp':=cell_below HB.out hp
 have HD:Hid ((x.name.toList==t.toList)=(x.name.toList==t.toList)):=rfl
 go_enter Tryz.func121,Tryz.ntmps121
 go_wp2
 go_ret
 exact⟨rfl,HB.out⟩
set_option maxHeartbeats 2000000 in
theorem Yb(l:List ae)(t:Str)(a:Option Addr)(c:Nat)(p:Addr)(w:World)(hl:ay w a l)(hn:l.length<=1000000)(hp:w.cell? p=some (.string t)) :
 Calls Tryz.prog 120 #[.slice a l.length c,.func (.func 121) #[] #[.pointer (some p)]] w (aj w (.int .i64 (aI l t))):=by
 have HL:=Lib.hid hl;clear hl
 have HP:=Lib.hid hp;clear hp
 go_enter Tryz.func120,Tryz.ntmps120
 go_wp2
 go_loopw[8] (fun i wr=>∃k:Nat,k<=l.length/\i = .int .i64 k/\Hid (fw t (l.drop k) k=aI l t)/\Hid (Below w.heap.size w wr)) (fun i _=>l.length-(intOf i).toNat)
 case atStart=>exact⟨0,Nat.zero_le _,rfl,rfl,Below.refl _ _⟩
 case round =>
  obtain⟨k,hk,rfl,HI,HB⟩:=hrel
  by_cases hlt:k<l.length
  ·obtain⟨b,off,fa,fc,ma,mc,rfl,m0,m1,m2,m3,_,_⟩:=HL.out.below HB.out k hlt
   have HT:=Lib.hid (@YO t l k hlt)
   have HM:=Lib.hid (@YN t l k hlt)
   have HC:Hid (∀x:ae,Calls Tryz.prog 121 #[.agg #[.string x.name,.string x.aO,.slice fa x.fields.length fc,.slice ma x.methods.length mc],.pointer (some p)] wr (aj wr (.bool (x.name.toList==t.toList)))):=fun x=>y0p t x fa fc ma mc p wr (cell_below HB.out HP.out)
   generalize l[k]=x at *
   have HD:=Lib.hid (HC.out x)
   clear HC
   cases hq:(x.name.toList==t.toList)
   ·rw[hq]at HD
    have HN:=Lib.hid (HM.out hq)
    clear HM HT
    go_wp2_with (go_at_call 121;refine HD.out.mono ?_;rintro e w1 ⟨rfl,hb1⟩)
    go_roundw
    case rel=>exact⟨k+1,by omega,by go_num,by show _=_;rw[<-HN.out];exact HI.out,HB.out.trans (hb1.mono HB.out.size)⟩
    case measure=>simp[intOf];omega
   ·rw[hq]at HD
    have HN:=Lib.hid (HT.out hq)
    clear HM HT
    go_wp2_with (go_at_call 121;refine HD.out.mono ?_;rintro e w1 ⟨rfl,hb1⟩)
    go_ret
    exact⟨eO (by rw[<-HI.out,HN.out]),HB.out.trans (hb1.mono HB.out.size)⟩
  ·have HN:=Lib.hid (@YP t l k (by omega))
   go_wp2
   go_ret
   exact⟨eO (by rw[<-HI.out,HN.out]),HB.out⟩
set_option maxHeartbeats 1000000 in
theorem yL(h:List ae)(a:Option Addr)(c:Nat)(t:Str)(w:World)(hl:ay w a h)(hn:h.length<=1000000) :
 Calls Tryz.prog 66 #[.agg #[.slice a h.length c],.string t] w (aj w (.int .i64 (aI h t))):=by
 have HB:=Lib.hid (iH w (.cells #[.slice a h.length c] 24) (.cells #[.string t] 9))
 have HX:Hid (∀W,W=(w.alloc (.cells #[.slice a h.length c] 24)).alloc (.cells #[.string t] 9)->W.cell? ⟨w.heap.size+1,0,none⟩=some (.string t)):=by
  rintro _ rfl
  have h2:=gH w #[.string t] 9 (.cells #[.slice a h.length c] 24)
  exact(h2.cell 0 (by simp)).trans (by simp)
 have HL:=Lib.hid hl;clear hl
 go_enter Tryz.func66,Tryz.ntmps66
 go_wp2_with (go_at_call 120;refine(Yb h t a c _ _ (HL.out.below HB.out) hn (HX.out _ rfl)).mono ?_;rintro e w1 ⟨rfl,hb1⟩)
 go_ret
 exact⟨rfl,HB.out.trans (hb1.mono HB.out.size)⟩
set_option maxHeartbeats 1000000 in
theorem FN(f:aA)(va:Option Addr)(vc:Nat)(ca:Option Addr)(cc:Nat)(i:Int)(w:World)(hc:dw w ca f.code) :
 Calls Tryz.prog 124 #[eQ f va vc ca cc,.int .i64 i] w (aj w (.bool (gG f.code i))):=by
 have HB:=Lib.hid (av w (dP f va vc ca cc))
 have HC:=Lib.hid hc
 clear hc
 unfold eQ
 by_cases h0:0<=i
 case neg =>
  have H:Hid (gG f.code i=false):=by show _=_;unfold gG;simp[h0]
  rw[H.out]
  have t1:=decide_eq_false h0
  go_enter Tryz.func124,Tryz.ntmps124
  go_wp2
  go_ret
  exact⟨rfl,HB.out⟩
 obtain⟨k,rfl⟩:∃k:Nat,i=k:=⟨i.toNat,by omega⟩
 by_cases h1:k<f.code.length
 case neg =>
  have H:Hid (gG f.code (k:Int)=false):=by show _=_;unfold gG;simp;omega
  rw[H.out]
  have t1:decide ((k:Int)<f.code.length)=false:=by simp;omega
  clear h0
  go_enter Tryz.func124,Tryz.ntmps124
  go_wp2
  go_ret
  exact⟨rfl,HB.out⟩
 have H:=Lib.hid (y0H h1)
 rw[H.out]
 have t1:decide ((k:Int)<f.code.length)=true:=by simp;omega
 obtain⟨b,off,ga,gc,rfl,m0,-⟩:=HC.out.below HB.out k h1
 generalize f.code[k].op=o at *
 clear H h0
 go_enter Tryz.func124,Tryz.ntmps124
 go_wp2
 go_ret
 exact⟨rfl,HB.out⟩
abbrev pR(h:List ae)(ha:Option Addr)(hc:Nat)(f:aA)(va:Option Addr)(vc:Nat)(ca:Option Addr)(cc:Nat):Array Value:=#[.slice ha h.length hc,.string f.cls,.string f.name,.bool f.stat,.int .i64 f.params,.slice va f.vars.length vc,.string f.result,.slice ca f.code.length cc]
def aR(h:List ae)(ha:Option Addr)(hc:Nat)(f:aA)(va:Option Addr)(vc:Nat)(ca:Option Addr)(cc:Nat):Value:=.agg (pR h ha hc f va vc ca cc)
structure TY(h:List ae)(ha:Option Addr)(hc:Nat)(f:aA)(va:Option Addr)(vc:Nat)(ca:Option Addr)(cc:Nat)(g:Nat)(w wr:World):Prop where
 hb:Below w.heap.size w wr
 b1:ah wr g (pR h ha hc f va vc ca cc) 159
 ch:ay wr ha h
 hv:aK wr va f.vars
section
variable {h:List ae}{ha:Option Addr}{hc:Nat}{f:aA}{va:Option Addr}{vc:Nat}{ca:Option Addr}{cc g:Nat}{w wr w':World}
theorem TY.below(k:TY h ha hc f va vc ca cc g w wr)(hb:Below wr.heap.size wr w'):TY h ha hc f va vc ca cc g w w':=⟨k.hb.trans (hb.mono k.hb.size),k.b1.below hb,k.ch.below hb,k.hv.below hb⟩
theorem TY.start(h0:ay w ha h)(hv:aK w va f.vars):TY h ha hc f va vc ca cc w.heap.size w (w.alloc (.cells (pR h ha hc f va vc ca cc) 159)):=⟨av ..,aL ..,h0.below (av ..),hv.below (av ..)⟩
theorem TY.cells(k:TY h ha hc f va vc ca cc g w wr):wr.cell? ⟨g,0,none⟩=some (.slice ha h.length hc)/\wr.cell? ⟨g,1,none⟩=some (.string f.cls)/\wr.cell? ⟨g,2,none⟩=some (.string f.name)/\wr.cell? ⟨g,3,none⟩=some (.bool f.stat)/\wr.cell? ⟨g,4,none⟩=some (.int .i64 f.params)/\wr.cell? ⟨g,5,none⟩=some (.slice va f.vars.length vc)/\wr.cell? ⟨g,6,none⟩=some (.string f.result)/\wr.cell? ⟨g,7,none⟩=some (.slice ca f.code.length cc) :=
 ⟨k.b1.cell 0 (by simp),k.b1.cell 1 (by simp),k.b1.cell 2 (by simp),k.b1.cell 3 (by simp),k.b1.cell 4 (by simp),k.b1.cell 5 (by simp),k.b1.cell 6 (by simp),k.b1.cell 7 (by simp)⟩
end
set_option maxHeartbeats 1000000 in
theorem Ju(h:List ae)(ha:Option Addr)(hc:Nat)(f:aA)(va:Option Addr)(vc:Nat)(ca:Option Addr)(cc:Nat)(k:Nat)(hk:k<f.vars.length)(w:World)(h0:ay w ha h)(hv:aK w va f.vars) :
 Calls Tryz.prog 128 #[aR h ha hc f va vc ca cc,.int .i64 (k:Int)] w (aj w (.string f.vars[k].type)):=by
 have S:Hid (TY h ha hc f va vc ca cc w.heap.size w _):=TY.start (hc:=hc) (vc:=vc) (ca:=ca) (cc:=cc) h0 hv
 clear h0 hv
 obtain⟨b,off,rfl,-,m1⟩:=S.out.hv k hk
 have HB:=Lib.hid S.out.hb
 unfold aR
 generalize f.vars[k].type=x at *
 clear S
 go_enter Tryz.func128,Tryz.ntmps128
 go_wp2
 go_ret
 exact⟨rfl,HB.out⟩
set_option maxHeartbeats 1000000 in
theorem Rj(h:List ae)(ha:Option Addr)(hc:Nat)(f:aA)(va:Option Addr)(vc:Nat)(ca:Option Addr)(cc:Nat)(k:Nat)(hk:k<f.vars.length)(w:World)(h0:ay w ha h)(hv:aK w va f.vars) :
 Calls Tryz.prog 126 #[aR h ha hc f va vc ca cc,.int .i64 (k:Int)] w (aj w (.bool (aD f.vars[k].type aY))):=by
 have S:Hid (TY h ha hc f va vc ca cc w.heap.size w _):=TY.start (hc:=hc) (vc:=vc) (ca:=ca) (cc:=cc) h0 hv
 have HO:Hid (∀w1,ay w1 ha h->aK w1 va f.vars->Calls Tryz.prog 128 #[aR h ha hc f va vc ca cc,.int .i64 (k:Int)] w1 (aj w1 (.string f.vars[k].type))):=fun w1 h1 h2=>Ju h ha hc f va vc ca cc k hk w1 h1 h2
 have HE:Hid ((f.vars[k].type.toList==[105,110,116])=aD f.vars[k].type aY):=eq_int _
 clear h0 hv
 generalize aD f.vars[k].type aY=R at *
 generalize f.vars[k].type=x at *
 unfold aR at *
 go_enter Tryz.func126,Tryz.ntmps126
 go_upto_region 1 with (fail)
 generalize w.alloc _=W at *
 obtain⟨z0,z1,z2,z3,z4,z5,z6,z7⟩:=S.out.cells
 go_wp2_with (go_at_call 128;refine(HO.out _ S.out.ch S.out.hv).mono ?_;rintro e w1 ⟨rfl,hb1⟩)
 go_ret
 exact⟨ed HE.out,S.out.hb.trans (hb1.mono S.out.hb.size)⟩
def jy(h:List ae)(t:Str):Bool:=!aD t aY&&decide (0<=aI h t)
set_option maxHeartbeats 1000000 in
theorem Dk(h:List ae)(ha:Option Addr)(hc:Nat)(f:aA)(va:Option Addr)(vc:Nat)(ca:Option Addr)(cc:Nat)(t:Str)(w:World)(h0:ay w ha h)(hv:aK w va f.vars)(hl:h.length<=1000000) :
 Calls Tryz.prog 130 #[aR h ha hc f va vc ca cc,.string t] w (aj w (.bool (jy h t))):=by
 have S:Hid (TY h ha hc f va vc ca cc w.heap.size w _):=TY.start (hc:=hc) (vc:=vc) (ca:=ca) (cc:=cc) h0 hv
 have HF:Hid (∀w1,ay w1 ha h->Calls Tryz.prog 66 #[.agg #[.slice ha h.length hc],.string t] w1 (aj w1 (.int .i64 (aI h t)))):=fun w1 h1=>yL h ha hc t w1 h1 hl
 clear h0 hv
 unfold aR jy
 cases h1:aD t aY with
 |true =>
  have e1:(t.toList==[105,110,116])=true:=(eq_int t).trans h1
  clear HF h1
  go_enter Tryz.func130,Tryz.ntmps130
  go_wp2
  go_ret
  exact⟨rfl,S.out.hb⟩
 |false =>
  have e1:(t.toList==[105,110,116])=false:=(eq_int t).trans h1
  clear h1
  generalize aI h t=n at *
  go_enter Tryz.func130,Tryz.ntmps130
  go_upto_region 1 with (fail)
  generalize w.alloc _=W at *
  obtain⟨z0,z1,z2,z3,z4,z5,z6,z7⟩:=S.out.cells
  go_wp2_with (go_at_call 66;refine(HF.out _ S.out.ch).mono ?_;rintro e w1 ⟨rfl,hb1⟩)
  go_ret
  exact⟨ed (by simp),S.out.hb.trans (hb1.mono S.out.hb.size)⟩
end Go.Proofs.YtjnbddedmbhiaaaGreatDoor
