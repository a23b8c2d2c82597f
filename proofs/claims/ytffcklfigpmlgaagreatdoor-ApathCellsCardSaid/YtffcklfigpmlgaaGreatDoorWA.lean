/-
  An instruction boxed; rows of numbers of one's own.
  The reference's Uses.
  The reference's ranges.
  The reference's leaves: it returns.
-/
import Derived.Test.YtffcklfigpmlgaaGreatDoorVD
import Derived.Test.YtffcklfigpmlgaaGreatDoorUA
namespace Go.Proofs.YtffcklfigpmlgaaGreatDoor
open Go.RowKit Go.Unit0

structure IW (x:Ins) (ga:Option Addr) (gc:Nat) (g:Nat) (w wr:World):Prop where
 hb:Below w.heap.size w wr
 b1:Blk wr g #[.int .i64 x.op,.int .i64 x.dst,.int .i64 x.a,.int .i64 x.b,.int .i64 x.n,.string x.cls,.string x.name,.slice ga x.args.length gc,.int .i64 x.goto,.int .i64 x.catch_] 92
 ga:IntsAt wr ga x.args
theorem IW.below {x:Ins} {ga:Option Addr} {gc g:Nat} {w wr w':World} (k:IW x ga gc g w wr) (hb:Below wr.heap.size wr w'):IW x ga gc g w w' :=
 ⟨k.hb.trans (hb.mono k.hb.size),k.b1.below hb,k.ga.below hb⟩
theorem IW.cells {x:Ins} {ga:Option Addr} {gc g:Nat} {w wr:World} (k:IW x ga gc g w wr) :
 wr.cell? ⟨g,0,none⟩=some (.int .i64 x.op)∧wr.cell? ⟨g,1,none⟩=some (.int .i64 x.dst)∧wr.cell? ⟨g,2,none⟩=some (.int .i64 x.a)∧wr.cell? ⟨g,3,none⟩=some (.int .i64 x.b)∧wr.cell? ⟨g,4,none⟩=some (.int .i64 x.n)∧wr.cell? ⟨g,5,none⟩=some (.string x.cls)∧wr.cell? ⟨g,6,none⟩=some (.string x.name)∧wr.cell? ⟨g,7,none⟩=some (.slice ga x.args.length gc)∧wr.cell? ⟨g,8,none⟩=some (.int .i64 x.goto)∧wr.cell? ⟨g,9,none⟩=some (.int .i64 x.catch_) :=
 ⟨k.b1.cell 0 (by simp),k.b1.cell 1 (by simp),k.b1.cell 2 (by simp),k.b1.cell 3 (by simp),k.b1.cell 4 (by simp),k.b1.cell 5 (by simp),k.b1.cell 6 (by simp),k.b1.cell 7 (by simp),k.b1.cell 8 (by simp),k.b1.cell 9 (by simp)⟩
def inV (x:Ins) (ga:Option Addr) (gc:Nat):Value:=.agg #[.int .i64 x.op,.int .i64 x.dst,.int .i64 x.a,.int .i64 x.b,.int .i64 x.n,.string x.cls,.string x.name,.slice ga x.args.length gc,.int .i64 x.goto,.int .i64 x.catch_]
theorem IW.start {x:Ins} {ga:Option Addr} {gc:Nat} {w:World} (h:IntsAt w ga x.args):IW x ga gc w.heap.size w (w.alloc (.cells #[.int .i64 x.op,.int .i64 x.dst,.int .i64 x.a,.int .i64 x.b,.int .i64 x.n,.string x.cls,.string x.name,.slice ga x.args.length gc,.int .i64 x.goto,.int .i64 x.catch_] 92)) :=
 ⟨one_below ..,blk_new ..,h.below (one_below ..)⟩
theorem infoI:(Tryz.prog.info? 3).map (fun i=>(i.zero,i.size,i.bytes))=some (some (.int .i64 0),1,8):=by kernel_rfl
def intV (i:Int):Value:=.int .i64 i
theorem app_ints {ops:Array Oper} {rest:List Oper} {o:Oper} {a:Act} {Q:Exit→Act→World→Prop} {w:World} (hgd:o.guard=none) (s x:Operand)
 (ho:o.op = .call { callee:=.builtin .append,args:=#[s,x],argTypes:=#[28,28] })
 (base:Nat) (v:Value) (l:List Int) (hs:a.eval s=v) (hown:w.ownsRow base 3 1 v l.length (l.map intV))
 (ad:Option Addr) (c:Nat) (m:List Int) (hx:a.eval x = .slice ad m.length c) (hat:IntsAt w ad m)
 (hn:l.length≤1000000) (hm:m.length≤1000000) (hbase:base≤w.heap.size)
 (h:∀ v' w',w'.ownsRow base 3 1 v' (l ++ m).length ((l ++ m).map intV)→w.grownBy w' v.ownBlock→wpList Tryz.prog ops Q rest (a.put o.dst v') w'):wpList Tryz.prog ops Q (o :: rest) a w:=by
 obtain ⟨i0,hi,hz0,hz1,hz2⟩:=info_parts infoI
 cases ad with
 | none =>
   have hm0:m = []:=by
    cases m with
    | nil=>rfl
    | cons y m=>obtain ⟨_,_,he,_⟩:=hat 0 (by simp);cases he
   subst hm0
   refine wpList_plain hgd fun K hK=>?_
   have hrun:∀ ty,(Builtin.append_ #[28,28] ty #[v,.slice none 0 c]).run Tryz.prog w = .ok v w:=fun ty=>by
    rcases hown.2 with ⟨rfl,_⟩ | ⟨g,cap,cur,rfl,_,_,hnc,_⟩
    ·simp [Builtin.append_,run_underlying Tryz.underlying28,sizeOf,typeInfo,hi,Builtin.lenOf,Builtin.firstCells]
    ·simp [Builtin.append_,run_underlying Tryz.underlying28,sizeOf,typeInfo,hi,Builtin.lenOf,Builtin.firstCells,hnc,storeCells]
   unfold Oper.wp
   simp [execOp,ho,resolve,invoke,builtin,hs,hx,hrun,Result.andThen]
   exact hK _ _ (h v w (by simpa using hown) (World.grownBy.refl w _))
 | some adr =>
   refine wpList_append_own w hgd s x 28 ho base 3 i0 (.int .i64 0) 1 8 Tryz.underlying28 hi hz0 hz1 hz2 rfl (by decide) v l.length (l.map intV) hs hown adr m.length c (m.map intV) hx (by simp) ?_ (by intro u hu;obtain ⟨y,_,rfl⟩:=List.mem_map.1 hu;rfl) (by unfold maxLen;omega) (by omega) hbase ?_
   ·intro j u hu
    obtain ⟨hj,rfl⟩:=List.getElem?_eq_some_iff.1 hu
    rw [List.length_map] at hj
    obtain ⟨b,off,he,hc⟩:=hat j hj
    cases he
    rw [addr_add,hc]
    simp [intV]
   ·intro v' w' h1 h2 _
    refine h v' w' ?_ h2
    rw [List.map_append,List.length_append]
    exact h1
theorem owns_ints {w:World} {base:Nat} {v:Value} {l:List Int} {n:Nat} (h:w.ownsRow base 3 1 v n (l.map intV)):n=l.length∧∃ a cap,v = .slice a n cap∧n≤cap∧IntsAt w a l:=by
 have hl:n=l.length:=by have:=h.1;simp at this;omega
 refine ⟨hl,?_⟩
 rcases h.2 with ⟨rfl,h0⟩ | ⟨g,cap,cur,rfl,hb,hh,hn,_,hsz,ht⟩
 ·exact ⟨none,0,by rw [h0],by omega,fun k hk=>by omega⟩
 ·refine ⟨_,_,rfl,hn,fun k hk=>⟨g,0,rfl,?_⟩⟩
  have c:=h.cells (g:=g) rfl k (intV l[k]) (by simp [hk])
  rw [addr_add] at c
  exact c
theorem grow_below {w0 w w':World} {e s n:Nat} {v:Value} {xs:List Value} (hb:Below w0.heap.size w0 w) (own:w.ownsRow w0.heap.size e s v n xs) (hg:w.grownBy w' v.ownBlock):Below w0.heap.size w0 w' :=
 hb.grown hg hb.size (fun g h=>(own.lt g h).1)
def IntsPost (l:List Int) (w:World) (e:Ending) (w':World):Prop :=
 Below w.heap.size w w'∧∃ a c,e = .returned (.slice a l.length c)∧w'.ownsRow w.heap.size 3 1 (.slice a l.length c) l.length (l.map intV)
theorem ints_new (w:World) (i:Int):IntsAt (w.alloc (.cells #[.int .i64 i] 3)) (some ⟨w.heap.size,0,none⟩) [i]:=by
 intro k hk
 have:k=0:=by simp at hk;omega
 subst this
 exact ⟨_,_,rfl,(blk_new w #[.int .i64 i] 3).cell 0 (by simp)⟩
end Go.Proofs.YtffcklfigpmlgaaGreatDoor
namespace Go.Proofs.YtffcklfigpmlgaaGreatDoor
open Go.RowKit Go.Unit0

structure UW (x:Ins) (ga:Option Addr) (gc:Nat) (out:List Int) (w wr:World) (v:Value):Prop where
 iw:IW x ga gc w.heap.size w wr
 ow:wr.ownsRow w.heap.size 3 1 v out.length (out.map intV)
theorem UW.below {x:Ins} {ga:Option Addr} {gc:Nat} {out:List Int} {w wr w':World} {v:Value} (k:UW x ga gc out w wr v) (hb:Below wr.heap.size wr w'):UW x ga gc out w w' v :=
 ⟨k.iw.below hb,owns_below k.ow hb⟩
theorem UW.grow {x:Ins} {ga:Option Addr} {gc:Nat} {out out':List Int} {w wr w':World} {v v':Value} (hi:IntsAt w ga x.args) (k:UW x ga gc out w wr v) (own:w'.ownsRow w.heap.size 3 1 v' out'.length (out'.map intV)) (hg:wr.grownBy w' v.ownBlock):UW x ga gc out' w w' v' :=
 ⟨⟨grow_below k.iw.hb k.ow hg,k.iw.b1.grown hg (owns_ne k.ow k.iw.b1 (by decide)),hi.below (grow_below k.iw.hb k.ow hg)⟩,own⟩
def usesA (x:Ins):List Int:=if (hasP x.op 97 && (x.op != 13 || x.a != -1))=true then [x.a] else []
def usesB (x:Ins):List Int:=if hasP x.op 98=true then [x.b] else []
set_option maxRecDepth 100000 in
set_option maxHeartbeats 4000000 in
theorem uses335 (x:Ins) (ga:Option Addr) (gc:Nat) (w:World) (hi:IntsAt w ga x.args) (hl:x.args.length≤100000) :
 Calls Tryz.prog 296 #[inV x ga gc] w (IntsPost (usesP x) w):=by
 have S0:=Lib.hid (show UW x ga gc [] w _ (.slice none 0 0) from ⟨IW.start (gc:=gc) hi,World.ownsRow_nil _ _ _ _⟩)
 have HI:=Lib.hid hi
 clear hi
 have HU:Hid (usesP x=usesA x ++ usesB x ++ (if hasP x.op 108=true then x.args else [])):=rfl
 have HA:Hid (usesA x=if (hasP x.op 97 && (x.op != 13 || x.a != -1))=true then [x.a] else []):=rfl
 have HB:Hid (usesB x=if hasP x.op 98=true then [x.b] else []):=rfl
 generalize usesA x=la at *
 generalize usesB x=lb at *
 unfold inV
 have H0:=Lib.hid (fun w1=>has250 x.op 97 w1)
 generalize hasP x.op 97=d0 at *
 have H1:=Lib.hid (fun w1=>has250 x.op 98 w1)
 generalize hasP x.op 98=d1 at *
 have H2:=Lib.hid (fun w1=>has250 x.op 108 w1)
 generalize hasP x.op 108=d2 at *
 go_enter Tryz.func296,Tryz.ntmps296
 go_upto_region 2 with (fail)
 go_cut [16] (fun v wx=>v = .bool (d0 && (x.op != 13 || x.a != -1))∧Hid (UW x ga gc [] w wx (.slice none 0 0)))
 case first =>
  go_wp2_with fail
  refine (H0.out _).mono ?_
  rintro e w' ⟨rfl,hb'⟩
  have S:=Lib.hid (S0.out.below hb')
  clear S0 hb'
  obtain ⟨y0,y1,y2,-⟩:=S.out.iw.cells
  cases d0
  case false =>
   go_wp2
   go_meet
   exact ⟨rfl,S.out⟩
  cases h13:(x.op != 13)
  all_goals
   go_wp2
   go_meet
   exact ⟨by simp [h13],S.out⟩
 case rest =>
  obtain ⟨rfl,S⟩:=hcut
  clear S0 H0
  go_upto_if 16 with (fail)
  go_cut [3] (fun v wx=>∃ oa oc,v = .slice oa la.length oc∧Hid (UW x ga gc la w wx v))
  case first =>
   cases hc:(d0 && (x.op != 13 || x.a != -1))
   case false =>
    obtain rfl:la = []:=by rw [HA.out,hc];rfl
    go_wp2
    go_meet
    exact ⟨none,0,rfl,S.out⟩
   obtain rfl:la = [x.a]:=by rw [HA.out,hc];rfl
   clear hc
   obtain ⟨-,-,y2,-⟩:=S.out.iw.cells
   have S1:=Lib.hid (S.out.below (one_below _ (.cells #[.int .i64 x.a] 3)))
   have hbs:=S.out.iw.hb.size
   go_wp2_with (at_builtin;refine app_ints rfl _ _ rfl w.heap.size _ [] rfl S1.out.ow _ 1 [x.a] rfl (ints_new _ _) (by simp) (by simp) (by simp;omega) ?_;intro v' w3 own3 grown3)
   have S2:=Lib.hid (S1.out.grow HI.out own3 grown3)
   obtain ⟨-,oa,oc,rfl,-,-⟩:=owns_ints own3
   go_wp2
   go_meet
   exact ⟨oa,oc,rfl,S2.out⟩
  case rest =>
   obtain ⟨oa,oc,rfl,S2⟩:=hcut
   clear S
   have hla:la.length≤1:=by rw [HA.out];split <;> simp
   obtain ⟨y0,-⟩:=S2.out.iw.cells
   go_wp2_with fail
   refine (H1.out _).mono ?_
   rintro e w' ⟨rfl,hb'⟩
   have S3:=Lib.hid (S2.out.below hb')
   clear S2 hb' y0
   go_upto_if 24 with (fail)
   go_cut [3] (fun v wx=>∃ oa oc,v = .slice oa (la ++ lb).length oc∧Hid (UW x ga gc (la ++ lb) w wx v))
   case first =>
    cases d1
    case false =>
     obtain rfl:lb = []:=by rw [HB.out];rfl
     go_wp2
     go_meet
     exact ⟨oa,oc,by simp,by simpa using S3⟩
    obtain rfl:lb = [x.b]:=by rw [HB.out];rfl
    obtain ⟨-,-,-,y2,-⟩:=S3.out.iw.cells
    have S4:=Lib.hid (S3.out.below (one_below _ (.cells #[.int .i64 x.b] 3)))
    have hbs:=S3.out.iw.hb.size
    go_wp2_with (at_builtin;refine app_ints rfl _ _ rfl w.heap.size _ la rfl S4.out.ow _ 1 [x.b] rfl (ints_new _ _) (by omega) (by simp) (by simp;omega) ?_;intro v' w3 own3 grown3)
    have S5:=Lib.hid (S4.out.grow HI.out own3 grown3)
    obtain ⟨-,oa,oc,rfl,-,-⟩:=owns_ints own3
    go_wp2
    go_meet
    exact ⟨oa,oc,rfl,S5.out⟩
   case rest =>
    obtain ⟨oa,oc,rfl,S4⟩:=hcut
    clear S3
    have hlb:lb.length≤1:=by rw [HB.out];split <;> simp
    have hlab:(la ++ lb).length≤2:=by simp;omega
    clear hla hlb HA HB H1
    generalize la ++ lb=lc at *
    obtain ⟨y0,-⟩:=S4.out.iw.cells
    go_wp2_with fail
    refine (H2.out _).mono ?_
    rintro e w' ⟨rfl,hb'⟩
    have S5:=Lib.hid (S4.out.below hb')
    clear S4 hb' y0
    cases d2
    case false =>
     have HF:Hid (usesP x=lc):=by show _=_;rw [HU.out];simp
     go_wp2
     go_ret
     exact ⟨S5.out.iw.hb,oa,oc,by rw [HF.out];rfl,by rw [HF.out];exact S5.out.ow⟩
    obtain ⟨-,-,-,-,-,-,-,y7,-⟩:=S5.out.iw.cells
    have hbs:=S5.out.iw.hb.size
    go_wp2_with (at_builtin;refine app_ints rfl _ _ rfl w.heap.size _ lc rfl S5.out.ow ga gc x.args rfl S5.out.iw.ga (by omega) (by omega) (by omega) ?_;intro v' w3 own3 grown3)
    have S6:=Lib.hid (S5.out.grow HI.out own3 grown3)
    obtain ⟨-,oa,oc,rfl,-,-⟩:=owns_ints own3
    have HF:Hid (usesP x=lc ++ x.args):=by show _=_;rw [HU.out];simp
    go_wp2
    go_ret
    exact ⟨S6.out.iw.hb,oa,oc,by rw [HF.out];rfl,by rw [HF.out];exact S6.out.ow⟩
end Go.Proofs.YtffcklfigpmlgaaGreatDoor
namespace Go.Proofs.YtffcklfigpmlgaaGreatDoor
open Go.RowKit Go.Unit0

def fnV (f:Fnc) (va:Option Addr) (vc:Nat) (ca:Option Addr) (cc:Nat):Value:=.agg #[.string f.cls,.string f.name,.bool f.stat,.int .i64 f.params,.slice va f.vars.length vc,.string f.result,.slice ca f.code.length cc]
structure FW (f:Fnc) (va:Option Addr) (vc:Nat) (ca:Option Addr) (cc:Nat) (g:Nat) (w wr:World):Prop where
 hb:Below w.heap.size w wr
 b1:Blk wr g #[.string f.cls,.string f.name,.bool f.stat,.int .i64 f.params,.slice va f.vars.length vc,.string f.result,.slice ca f.code.length cc] 90
 hv:FldsAt wr va f.vars
 hc:InssAt wr ca f.code
section
variable {f:Fnc} {va:Option Addr} {vc:Nat} {ca:Option Addr} {cc g:Nat} {w wr w':World}
theorem FW.below (k:FW f va vc ca cc g w wr) (hb:Below wr.heap.size wr w'):FW f va vc ca cc g w w' :=
 ⟨k.hb.trans (hb.mono k.hb.size),k.b1.below hb,k.hv.below hb,k.hc.below hb⟩
theorem FW.cells (k:FW f va vc ca cc g w wr):wr.cell? ⟨g,0,none⟩=some (.string f.cls)∧wr.cell? ⟨g,1,none⟩=some (.string f.name)∧wr.cell? ⟨g,2,none⟩=some (.bool f.stat)∧wr.cell? ⟨g,3,none⟩=some (.int .i64 f.params)∧wr.cell? ⟨g,4,none⟩=some (.slice va f.vars.length vc)∧wr.cell? ⟨g,5,none⟩=some (.string f.result)∧wr.cell? ⟨g,6,none⟩=some (.slice ca f.code.length cc) :=
 ⟨k.b1.cell 0 (by simp),k.b1.cell 1 (by simp),k.b1.cell 2 (by simp),k.b1.cell 3 (by simp),k.b1.cell 4 (by simp),k.b1.cell 5 (by simp),k.b1.cell 6 (by simp)⟩
end
def BPost (P:Bool→Prop) (w:World) (e:Ending) (w':World):Prop:=Below w.heap.size w w'∧∃ b,e = .returned (.bool b)∧P b
structure FX (f:Fnc) (va:Option Addr) (vc:Nat) (ca:Option Addr) (cc:Nat) (x:Ins) (ga:Option Addr) (gc:Nat) (w wr:World):Prop where
 f:FW f va vc ca cc w.heap.size w wr
 x:IW x ga gc (w.heap.size + 1) w wr
theorem FX.below {f:Fnc} {va:Option Addr} {vc:Nat} {ca:Option Addr} {cc:Nat} {x:Ins} {ga:Option Addr} {gc:Nat} {w wr w':World} (k:FX f va vc ca cc x ga gc w wr) (hb:Below wr.heap.size wr w'):FX f va vc ca cc x ga gc w w':=⟨k.f.below hb,k.x.below hb⟩
theorem FX.start {f:Fnc} {va:Option Addr} {vc:Nat} {ca:Option Addr} {cc:Nat} {x:Ins} {ga:Option Addr} {gc:Nat} {w:World} (hv:FldsAt w va f.vars) (hc:InssAt w ca f.code) (hi:IntsAt w ga x.args) :
 FX f va vc ca cc x ga gc w ((w.alloc (.cells #[.string f.cls,.string f.name,.bool f.stat,.int .i64 f.params,.slice va f.vars.length vc,.string f.result,.slice ca f.code.length cc] 90)).alloc (.cells #[.int .i64 x.op,.int .i64 x.dst,.int .i64 x.a,.int .i64 x.b,.int .i64 x.n,.string x.cls,.string x.name,.slice ga x.args.length gc,.int .i64 x.goto,.int .i64 x.catch_] 92)) :=
 have hb:=two_below w (.cells #[.string f.cls,.string f.name,.bool f.stat,.int .i64 f.params,.slice va f.vars.length vc,.string f.result,.slice ca f.code.length cc] 90) (.cells #[.int .i64 x.op,.int .i64 x.dst,.int .i64 x.a,.int .i64 x.b,.int .i64 x.n,.string x.cls,.string x.name,.slice ga x.args.length gc,.int .i64 x.goto,.int .i64 x.catch_] 92)
 ⟨⟨hb,(blk_new ..).below (one_below ..),hv.below hb,hc.below hb⟩,⟨hb,blk_new2 ..,hi.below hb⟩⟩
set_option maxRecDepth 100000 in
set_option maxHeartbeats 4000000 in
theorem ranges289 (f:Fnc) (va:Option Addr) (vc:Nat) (ca:Option Addr) (cc:Nat) (x:Ins) (ga:Option Addr) (gc:Nat) (w:World) (hv:FldsAt w va f.vars) (hc:InssAt w ca f.code) (hi:IntsAt w ga x.args) (hl:x.args.length≤100000) (_hnv:f.vars.length≤100000) (_hnc:f.code.length≤100000) :
 Calls Tryz.prog 208 #[fnV f va vc ca cc,inV x ga gc] w (BPost (fun b=>b=true→RangeOk f.vars.length f.code.length x) w):=by
 have S0:=Lib.hid (FX.start (vc:=vc) (cc:=cc) (gc:=gc) hv hc hi)
 clear hv hc hi
 have HU:=Lib.hid (fun w1 hi=>uses335 x ga gc w1 hi hl)
 unfold fnV
 unfold inV at *
 have HR:Hid (∀ h1 h2 h3,RangeOk f.vars.length f.code.length x):=fun h1 h2 h3=>⟨h1,h2,h3⟩
 have H0:=Lib.hid (fun w1=>has250 x.op 100 w1)
 generalize hasP x.op 100=d0 at *
 have H1:=Lib.hid (fun w1=>has250 x.op 103 w1)
 generalize hasP x.op 103=d1 at *
 generalize RangeOk f.vars.length f.code.length x=R at *
 go_enter Tryz.func208,Tryz.ntmps208
 go_upto_region 2 with (fail)
 generalize hW:(w.alloc _).alloc _=W at *
 clear hW
 obtain ⟨x0,x1,-⟩:=S0.out.x.cells
 go_cut [6] (fun v wx=>∃ b,v = .bool b∧Hid (b=(x.op == 9 || x.op == 10))∧Hid (FX f va vc ca cc x ga gc w wx))
 case first =>
  cases h9:(x.op == 9)
  all_goals
   go_wp2
   go_meet
   exact ⟨_,rfl,(by show _=_;simp [h9]),S0.out⟩
 case rest =>
  obtain ⟨call,rfl,HCL,S⟩:=hcut
  clear S0 x0 x1
  obtain ⟨x0,x1,-⟩:=S.out.x.cells
  go_upto_region 3 with (fail)
  go_cut [42] (fun v wx=>∃ b,v = .bool b∧Hid (b=(d0 && (decide (x.dst < 0) || decide ((f.vars.length:Int)≤x.dst)) && (!call || x.dst != -1)))∧Hid (FX f va vc ca cc x ga gc w wx))
  case first =>
   go_wp2_with fail
   refine (H0.out _).mono ?_
   rintro e w' ⟨rfl,hb'⟩
   have S2:=Lib.hid (S.out.below hb')
   clear S hb' x0 x1
   obtain ⟨x0,x1,-⟩:=S2.out.x.cells
   obtain ⟨-,-,-,-,y4,-⟩:=S2.out.f.cells
   cases d0
   case false =>
    go_wp2
    go_meet
    exact ⟨_,rfl,rfl,S2.out⟩
   cases h1:decide (x.dst < 0) <;> cases h2:decide ((f.vars.length:Int)≤x.dst) <;> cases call
   all_goals
    go_wp2
    go_meet
    exact ⟨_,rfl,(by show _=_;simp [h1,h2]),S2.out⟩
  case rest =>
   obtain ⟨b,rfl,HB,S2⟩:=hcut
   clear S x0 x1 H0
   cases b
   case true =>
    go_wp2
    go_ret
    exact ⟨S2.out.f.hb,_,rfl,fun h=>by cases h⟩
   have HD:Hid (d0=true→(0≤x.dst∧x.dst < f.vars.length) ∨ ((x.op=9 ∨ x.op=10)∧x.dst = -1)):=by
    intro h
    have h1:=HB.out
    have h2:=HCL.out
    subst h2 h
    simp at h1
    by_cases e:x.dst < 0 ∨ (f.vars.length:Int)≤x.dst
    ·exact .inr ⟨Classical.or_iff_not_imp_left.2 (h1 e).1,(h1 e).2⟩
    ·exact .inl (by omega)
   clear HB HCL
   obtain ⟨x0,x1,x2,x3,x4,x5,x6,x7,x8,x9⟩:=S2.out.x.cells
   have hgs:=S2.out.x.ga
   go_wp2_with fail
   refine (HU.out _ hgs).mono ?_
   rintro e w' ⟨hb',oa,oc,rfl,own⟩
   have S3:=Lib.hid (S2.out.below hb')
   have hos:=(owns_ints own).2
   obtain ⟨_,_,he,-,hos⟩:=hos
   cases he
   have OS:=Lib.hid hos
   have hul:=usesP_len x
   have HLI:Hid (∀ h1 h2,R):=fun h1 h2=>HR.out HD.out h1 h2
   clear S2 hb' own hos hgs x0 x1 x2 x3 x4 x5 x6 x7 x8 x9 HU HR HD
   generalize usesP x=L at *
   go_wp2
   go_loop [8] (fun i=>∃ k:Nat,k≤L.length∧i = .int .i64 k∧Hid (∀ j (h:j < L.length),j < k→0≤L[j]∧L[j] < f.vars.length)) (fun i=>L.length - (intOf i).toNat)
   case atStart=>exact ⟨0,Nat.zero_le _,rfl,fun j h hj=>absurd hj (by omega)⟩
   case round =>
    obtain ⟨k,hk,rfl,HI⟩:=hrel
    by_cases hlt:k < L.length
    case pos =>
     obtain ⟨b,off,rfl,c0⟩:=OS.out k hlt
     have HN:Hid (0≤L[k]∧L[k] < f.vars.length→∀ j (h:j < L.length),j < k + 1→0≤L[j]∧L[j] < f.vars.length):=fun e j h hj=>by
      by_cases e2:j < k
      ·exact HI.out j h e2
      ·obtain rfl:j=k:=by omega
       exact e
     generalize L[k]=v at *
     by_cases hv:0≤v∧v < f.vars.length
     case pos =>
      obtain ⟨hv1,hv2⟩:=hv
      have HNN:=Lib.hid (HN.out ⟨hv1,hv2⟩)
      go_wp2
      go_round
      case rel=>exact ⟨k + 1,by omega,by go_num,HNN.out⟩
      case measure=>simp [intOf];omega
     by_cases hv1:v < 0
     ·clear hv
      go_wp2
      go_ret
      exact ⟨S3.out.f.hb,_,rfl,fun h=>by cases h⟩
     ·have hv2:(f.vars.length:Int)≤v:=by omega
      clear hv
      go_wp2
      go_ret
      exact ⟨S3.out.f.hb,_,rfl,fun h=>by cases h⟩
    have HLL:Hid (∀ v ∈ L,0≤v∧v < f.vars.length):=fun v hv=>by
     obtain ⟨j,hj,rfl⟩:=List.getElem_of_mem hv
     exact HI.out j hj (by omega)
    have HG:Hid (∀ h2,R):=fun h2=>HLI.out HLL.out h2
    clear HLI HLL HI
    obtain ⟨x0,x1,x2,x3,x4,x5,x6,x7,x8,x9⟩:=S3.out.x.cells
    go_upto_region 11 with (fail)
    go_cut [79] (fun v wx=>∃ b,v = .bool b∧Hid (b=(d1 && (decide (x.goto < 0) || decide ((f.code.length:Int)≤x.goto))))∧Hid (FX f va vc ca cc x ga gc w wx))
    case first =>
     go_wp2_with fail
     refine (H1.out _).mono ?_
     rintro e w' ⟨rfl,hb'⟩
     have S4:=Lib.hid (S3.out.below hb')
     clear S3 hb' x0 x1 x2 x3 x4 x5 x6 x7 x8 x9
     obtain ⟨x0,x1,x2,x3,x4,x5,x6,x7,x8,x9⟩:=S4.out.x.cells
     obtain ⟨-,-,-,-,-,-,y6⟩:=S4.out.f.cells
     cases d1
     case false =>
      go_wp2
      go_meet
      exact ⟨_,rfl,rfl,S4.out⟩
     cases h1:decide (x.goto < 0) <;> cases h2:decide ((f.code.length:Int)≤x.goto)
     all_goals
      go_wp2
      go_meet
      exact ⟨_,rfl,(by show _=_;simp [h1,h2]),S4.out⟩
    case rest =>
     obtain ⟨b,rfl,HB,S4⟩:=hcut
     clear S3 x0 x1 x2 x3 x4 x5 x6 x7 x8 x9
     cases b
     case true =>
      go_wp2
      go_ret
      exact ⟨S4.out.f.hb,_,rfl,fun h=>by cases h⟩
     have HR:Hid R:=HG.out fun h=>by
      have h1:=HB.out
      subst h
      simp at h1
      omega
     clear HG HB H1
     have x9:=S4.out.x.b1.cell 9 (by simp)
     obtain ⟨-,-,-,-,-,-,y6⟩:=S4.out.f.cells
     by_cases h0:x.catch_ = -1
     ·have t1:(x.catch_ == -1)=true:=by simp [h0]
      clear h0
      go_wp2
      go_ret
      exact ⟨S4.out.f.hb,_,rfl,fun _=>HR.out⟩
     have t1:(x.catch_ == -1)=false:=by simp [h0]
     clear h0
     by_cases h1:x.catch_ < 0
     ·have t2:decide (0≤x.catch_)=false:=by simp;omega
      clear h1
      go_wp2
      go_ret
      exact ⟨S4.out.f.hb,_,rfl,fun _=>HR.out⟩
     by_cases h2:(f.code.length:Int)≤x.catch_
     ·have t2:decide (0≤x.catch_)=true:=by simp;omega
      have t3:decide (x.catch_ < (f.code.length:Int))=false:=by simp;omega
      clear h1 h2
      go_wp2
      go_ret
      exact ⟨S4.out.f.hb,_,rfl,fun _=>HR.out⟩
     obtain ⟨q,hq⟩:∃ q:Nat,x.catch_=q:=⟨x.catch_.toNat,by omega⟩
     have hqn:q < f.code.length:=by omega
     rw [hq] at x9
     clear h1 h2 hq t1
     obtain ⟨b,off,ga',gc',rfl,c0,-⟩:=S4.out.f.hc q hqn
     go_wp2
     go_ret
     exact ⟨S4.out.f.hb,_,rfl,fun _=>HR.out⟩
end Go.Proofs.YtffcklfigpmlgaaGreatDoor
namespace Go.Proofs.YtffcklfigpmlgaaGreatDoor
open Go.RowKit Go.Unit0

theorem storeInstr {ops:Array Oper} {rest:List Oper} {o:Oper} {a:Act} {w:World} {Q:Exit→Act→World→Prop} (hgd:o.guard=none) (hd:o.dst=none) (x y:Operand) (ho:o.op = .store 92 x y)
 (g:Nat) (i:Ins) (ga:Option Addr) (gc:Nat) (hx:a.eval x = .pointer (some ⟨g,0,none⟩)) (hy:a.eval y=inV i ga gc)
 (old:Array Value) (hg:Blk w g old 92) (hold:old.size=10)
 (h:wpList Tryz.prog ops Q rest a (w.setRow g #[.int .i64 i.op,.int .i64 i.dst,.int .i64 i.a,.int .i64 i.b,.int .i64 i.n,.string i.cls,.string i.name,.slice ga i.args.length gc,.int .i64 i.goto,.int .i64 i.catch_])):wpList Tryz.prog ops Q (o :: rest) a w :=
 wpList_store_row hgd 92 x y ho g _ hx hy 92 old hg (by kernel_rfl) hold (by simp [Value.oneCell']) (by rw [hd];exact h)
abbrev fnC (f:Fnc) (va:Option Addr) (vc:Nat) (ca:Option Addr) (cc:Nat):Obj:=.cells #[.string f.cls,.string f.name,.bool f.stat,.int .i64 f.params,.slice va f.vars.length vc,.string f.result,.slice ca f.code.length cc] 90
abbrev zInC:Obj:=.cells #[.int .i64 0,.int .i64 0,.int .i64 0,.int .i64 0,.int .i64 0,.string ⟨#[]⟩,.string ⟨#[]⟩,.slice none 0 0,.int .i64 0,.int .i64 0] 92
theorem FW.start {f:Fnc} {va:Option Addr} {vc:Nat} {ca:Option Addr} {cc:Nat} {w:World} (hv:FldsAt w va f.vars) (hc:InssAt w ca f.code) :
 FW f va vc ca cc w.heap.size w (w.alloc (.cells #[.string f.cls,.string f.name,.bool f.stat,.int .i64 f.params,.slice va f.vars.length vc,.string f.result,.slice ca f.code.length cc] 90)) :=
 have hb:=one_below w (fnC f va vc ca cc)
 ⟨hb,blk_new ..,hv.below hb,hc.below hb⟩
set_option maxRecDepth 100000 in
set_option maxHeartbeats 4000000 in
theorem leaves290 (f:Fnc) (va:Option Addr) (vc:Nat) (ca:Option Addr) (cc:Nat) (i:Nat) (hil:i < f.code.length) (w:World) (hv:FldsAt w va f.vars) (hc:InssAt w ca f.code) (hnc:f.code.length≤100000)
 (hg:hasP f.code[i].op 103=true→0≤f.code[i].goto∧f.code[i].goto < f.code.length) :
 Calls Tryz.prog 209 #[fnV f va vc ca cc,.int .i64 i] w (BPost (fun _=>True) w):=by
 have S0:=Lib.hid (FW.start (vc:=vc) (cc:=cc) hv hc)
 have hbb:=S0.out.hb
 have C0:=Lib.hid hc
 have V0:=Lib.hid hv
 have HG:=Lib.hid hg
 clear hv hc hg
 have S1:=Lib.hid (S0.out.below (one_below _ zInC))
 obtain ⟨b,off,ga,gc,rfl,m0,m1,m2,m3,m4,m5,m6,m7,m8,m9,m10⟩:=C0.out i hil
 have B0:Hid (Blk (((w.alloc (fnC f va vc (some ⟨b,off,none⟩) cc)).alloc zInC)) (w.heap.size + 1) _ 92):=blk_new2 ..
 have K0:=Lib.hid (two_below w (fnC f va vc (some ⟨b,off,none⟩) cc) zInC)
 replace m0:=cell_below hbb m0
 replace m1:=cell_below hbb m1
 replace m2:=cell_below hbb m2
 replace m3:=cell_below hbb m3
 replace m4:=cell_below hbb m4
 replace m5:=cell_below hbb m5
 replace m6:=cell_below hbb m6
 replace m7:=cell_below hbb m7
 replace m8:=cell_below hbb m8
 replace m9:=cell_below hbb m9
 have HGA:=Lib.hid m10
 clear hbb m10
 generalize hx:f.code[i]=x at *
 clear hx
 unfold fnV
 go_enter Tryz.func209,Tryz.ntmps209
 go_upto_region 2 with (refine storeInstr rfl rfl _ _ rfl (w.heap.size + 1) x ga gc rfl rfl _ B0.out rfl ?_)
 have S2:Hid (FX f va vc (some ⟨b,off,none⟩) cc x ga gc w (((w.alloc (fnC f va vc (some ⟨b,off,none⟩) cc)).alloc zInC).setRow (w.heap.size + 1) #[.int .i64 x.op,.int .i64 x.dst,.int .i64 x.a,.int .i64 x.b,.int .i64 x.n,.string x.cls,.string x.name,.slice ga x.args.length gc,.int .i64 x.goto,.int .i64 x.catch_])):=by
  have hb:=below_row K0.out (g:=w.heap.size + 1) (by omega) #[.int .i64 x.op,.int .i64 x.dst,.int .i64 x.a,.int .i64 x.b,.int .i64 x.n,.string x.cls,.string x.name,.slice ga x.args.length gc,.int .i64 x.goto,.int .i64 x.catch_]
  exact ⟨⟨hb,S1.out.b1.setRow_ne (by omega) _,V0.out.below hb,C0.out.below hb⟩,⟨hb,B0.out.setRow _,HGA.out.below hb⟩⟩
 clear S0 S1 B0 K0 m0 m1 m2 m3 m4 m5 m6 m7 m8 m9 HGA C0 V0
 generalize ((w.alloc (fnC f va vc (some ⟨b,off,none⟩) cc)).alloc zInC).setRow (w.heap.size + 1) #[.int .i64 x.op,.int .i64 x.dst,.int .i64 x.a,.int .i64 x.b,.int .i64 x.n,.string x.cls,.string x.name,.slice ga x.args.length gc,.int .i64 x.goto,.int .i64 x.catch_]=W at *
 have x0:=S2.out.x.b1.cell 0 (by simp)
 have y6:=S2.out.f.b1.cell 6 (by simp)
 go_cut [6] (fun v wx=>∃ b,v = .bool b∧W=wx)
 case first =>
  cases h1:(x.op == 12) <;> cases h2:(x.op == 13)
  all_goals
   go_wp2
   go_meet
   exact ⟨_,rfl,rfl⟩
 case rest =>
  obtain ⟨ends,rfl,rfl⟩:=hcut
  go_upto_region 3 with (fail)
  go_cut [44] (fun v wx=>∃ b,v = .bool b∧W=wx)
  case first =>
   cases ends
   case true =>
    go_wp2
    go_meet
    exact ⟨_,rfl,rfl⟩
   by_cases he:i + 1=f.code.length
   ·have t1:(((i:Int) + 1) == (f.code.length:Int))=true:=by simp;omega
    clear he
    go_wp2
    go_meet
    exact ⟨_,rfl,rfl⟩
   have t1:(((i:Int) + 1) == (f.code.length:Int))=false:=by simp;omega
   have hi1:i + 1 < f.code.length:=by omega
   obtain ⟨b',off',ga',gc',he',c0,-⟩:=S2.out.f.hc (i + 1) hi1
   cases he'
   clear he
   go_wp2
   go_meet
   exact ⟨_,rfl,rfl⟩
  case rest =>
   obtain ⟨b,rfl,rfl⟩:=hcut
   cases b
   case true =>
    go_wp2
    go_ret
    exact ⟨S2.out.f.hb,_,rfl,trivial⟩
   go_upto_region 5 with (fail)
   have H1:=Lib.hid (fun w1=>has250 x.op 103 w1)
   generalize hasP x.op 103=d1 at *
   go_wp2_with fail
   refine (H1.out _).mono ?_
   rintro e w' ⟨rfl,hb'⟩
   have S3:=Lib.hid (S2.out.below hb')
   clear S2 hb' x0 y6
   obtain ⟨x0,-,-,-,-,-,-,-,x8,-⟩:=S3.out.x.cells
   have y6:=S3.out.f.b1.cell 6 (by simp)
   cases d1
   case false =>
    by_cases hi0:i=0
    ·subst hi0
     go_wp2
     go_ret
     exact ⟨S3.out.f.hb,_,rfl,trivial⟩
    ·have t1:((i:Int) == 0)=false:=by simp;omega
     clear hi0
     go_wp2
     go_ret
     exact ⟨S3.out.f.hb,_,rfl,trivial⟩
   obtain ⟨q,hq⟩:∃ q:Nat,x.goto=q:=⟨x.goto.toNat,by have:=(HG.out rfl).1;omega⟩
   have hqn:q < f.code.length:=by have:=(HG.out rfl).2;omega
   rw [hq] at x8
   clear hq HG
   obtain ⟨b',off',ga',gc',he',c0,-⟩:=S3.out.f.hc q hqn
   cases he'
   generalize f.code[q].op=oq at *
   cases ho:(oq == 15)
   case true =>
    go_wp2
    go_ret
    exact ⟨S3.out.f.hb,_,rfl,trivial⟩
   by_cases hi0:i=0
   ·subst hi0
    go_wp2
    go_ret
    exact ⟨S3.out.f.hb,_,rfl,trivial⟩
   ·have t1:((i:Int) == 0)=false:=by simp;omega
    clear hi0
    go_wp2
    go_ret
    exact ⟨S3.out.f.hb,_,rfl,trivial⟩
end Go.Proofs.YtffcklfigpmlgaaGreatDoor
