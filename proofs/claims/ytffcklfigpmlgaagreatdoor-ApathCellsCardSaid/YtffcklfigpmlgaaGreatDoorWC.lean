/-
  The reference's access: it returns.
  The reference's declares and checkCall: they return.
  The reference's checkCall: it returns.
-/
import Derived.Test.YtffcklfigpmlgaaGreatDoorWA
import Derived.Test.YtffcklfigpmlgaaGreatDoorUA
namespace Go.Proofs.YtffcklfigpmlgaaGreatDoor
open Go.RowKit Go.Unit0

def IPost (P:Int→Prop) (w:World) (e:Ending) (w':World):Prop:=Below w.heap.size w w'∧∃ n,e = .returned (.int .i64 n)∧P n
structure TX (h:List Cls) (a:Option Addr) (c:Nat) (f:Fnc) (va:Option Addr) (vc:Nat) (ca:Option Addr) (cc:Nat) (x:Ins) (ga:Option Addr) (gc:Nat) (w wr:World):Prop where
 bh:Blk wr w.heap.size #[.slice a h.length c] 24
 hc:ClssAt wr a h
 f:FW f va vc ca cc (w.heap.size + 1) w wr
 x:IW x ga gc (w.heap.size + 2) w wr
section
variable {h:List Cls} {a:Option Addr} {c:Nat} {f:Fnc} {va:Option Addr} {vc:Nat} {ca:Option Addr} {cc:Nat} {x:Ins} {ga:Option Addr} {gc:Nat} {w wr w':World}
theorem TX.below (k:TX h a c f va vc ca cc x ga gc w wr) (hb:Below wr.heap.size wr w'):TX h a c f va vc ca cc x ga gc w w':=⟨k.bh.below hb,k.hc.below hb,k.f.below hb,k.x.below hb⟩
abbrev inC (x:Ins) (ga:Option Addr) (gc:Nat):Obj:=.cells #[.int .i64 x.op,.int .i64 x.dst,.int .i64 x.a,.int .i64 x.b,.int .i64 x.n,.string x.cls,.string x.name,.slice ga x.args.length gc,.int .i64 x.goto,.int .i64 x.catch_] 92
abbrev hiC (h:List Cls) (a:Option Addr) (c:Nat):Obj:=.cells #[.slice a h.length c] 24
theorem blk_new3 (w:World) (cs:Array Value) (t:TypeId) (o1 o2:Obj):Blk (((w.alloc o1).alloc o2).alloc (.cells cs t)) (w.heap.size + 2) cs t:=by
 have:=blk_new ((w.alloc o1).alloc o2) cs t
 simpa using this
theorem TX.start (hc:ClssAt w a h) (hv:FldsAt w va f.vars) (hi:InssAt w ca f.code) (hg:IntsAt w ga x.args) :
 TX h a c f va vc ca cc x ga gc w (((w.alloc (hiC h a c)).alloc (fnC f va vc ca cc)).alloc (inC x ga gc)):=by
 have hb:=three_below w (hiC h a c) (fnC f va vc ca cc) (inC x ga gc)
 have h1:Blk (w.alloc (hiC h a c)) w.heap.size #[.slice a h.length c] 24:=blk_new ..
 have h2:Blk ((w.alloc (hiC h a c)).alloc (fnC f va vc ca cc)) (w.heap.size + 1) _ 90:=blk_new2 ..
 exact ⟨(h1.below (one_below ..)).below (one_below ..),hc.below hb,⟨hb,h2.below (one_below ..),hv.below hb,hi.below hb⟩,⟨hb,blk_new3 ..,hg.below hb⟩⟩
def typOf (f:Fnc) (i:Nat):Str:=if h:i < f.vars.length then f.vars[i].type else ⟨#[]⟩
theorem FW.typ {g:Nat} (k:FW f va vc ca cc g w wr) {i:Nat} (hi:i < f.vars.length):∃ b off,va=some ⟨b,off,none⟩∧wr.cell? ⟨b,off + i * 2 + 1,none⟩=some (.string (typOf f i)):=by
 obtain ⟨b,off,e,-,h1⟩:=k.hv i hi
 exact ⟨b,off,e,by unfold typOf;rw [dif_pos hi];exact h1⟩
end
theorem isCls252 (h:List Cls) (s:Str) (a:Option Addr) (c:Nat) (w:World) (hc:ClssAt w a h) (hl:h.length≤100000):Calls Tryz.prog 297 #[.agg #[.slice a h.length c],.string s] w (Ret w (.bool (isCls h s))):=isClass252 h s a c w hc hl
set_option maxRecDepth 100000 in
set_option maxHeartbeats 4000000 in
theorem access338 (h:List Cls) (a:Option Addr) (c:Nat) (f:Fnc) (va:Option Addr) (vc:Nat) (ca:Option Addr) (cc:Nat) (x:Ins) (ga:Option Addr) (gc:Nat) (w:World)
 (hc:ClssAt w a h) (hv:FldsAt w va f.vars) (hi:InssAt w ca f.code) (hg:IntsAt w ga x.args) (hb:Bnd h) (_hnv:f.vars.length≤100000) (hR:RangeOk f.vars.length f.code.length x) (ho:x.op=7 ∨ x.op=8) :
 Calls Tryz.prog 299 #[.agg #[.slice a h.length c],fnV f va vc ca cc,inV x ga gc] w (IPost (fun _=>True) w):=by
 have S0:=Lib.hid (TX.start (c:=c) (vc:=vc) (cc:=cc) (gc:=gc) hc hv hi hg)
 have HBN:=Lib.hid hb
 clear hc hv hi hg hb
 have hA:0≤x.a∧x.a < f.vars.length:=by
  have h97:hasP x.op 97=true:=by rcases ho with e | e <;> rw [e,hasP_data] <;> decide
  rcases hR.a h97 with e | ⟨e,-⟩
  ·exact e
  ·omega
 have HD:Hid (x.op=7→∃ q:Nat,x.dst=q∧q < f.vars.length):=fun e=>by
  rcases hR.d (by rw [e,hasP_data];decide) with e2 | ⟨e2,-⟩
  ·exact ⟨x.dst.toNat,by omega,by omega⟩
  ·omega
 have HBB:Hid (x.op=8→∃ q:Nat,x.b=q∧q < f.vars.length):=fun e=>by
  have e2:=hR.b (by rw [e,hasP_data];decide)
  exact ⟨x.b.toNat,by omega,by omega⟩
 obtain ⟨qa,hqa⟩:∃ q:Nat,x.a=q:=⟨x.a.toNat,by omega⟩
 have hqn:qa < f.vars.length:=by omega
 have HO:=Lib.hid ho
 clear hR hA ho
 obtain ⟨-,-,x2,-⟩:=S0.out.x.cells
 rw [hqa] at x2
 clear hqa
 obtain ⟨b,off,rfl,m1⟩:=S0.out.f.typ hqn
 obtain ⟨-,-,-,-,y4,-⟩:=S0.out.f.cells
 unfold fnV inV
 go_enter Tryz.func299,Tryz.ntmps299
 go_upto_region 2 with (fail)
 generalize hW:((w.alloc _).alloc _).alloc _=W at *
 clear hW
 have z0:=S0.out.bh.cell 0 (by simp)
 go_wp2_with fail
 refine (isCls252 h _ a c _ S0.out.hc HBN.out.l).mono ?_
 rintro e w' ⟨rfl,hb'⟩
 have S1:=Lib.hid (S0.out.below hb')
 clear S0 hb' x2 m1 y4 z0
 generalize isCls h (typOf f qa)=d at *
 have z0:=S1.out.bh.cell 0 (by simp)
 have x6:=S1.out.x.b1.cell 6 (by simp)
 cases d
 case false =>
  go_wp2
  go_ret
  exact ⟨S1.out.f.hb,_,rfl,trivial⟩
 go_wp2_with fail
 refine (field275 h _ _ a c _ S1.out.hc HBN.out.l HBN.out.f).mono ?_
 intro e w' hp
 have hret:=FieldPost.ret hp
 obtain ⟨s1,s2,hs⟩:=fV_ex (fieldP h (typOf f qa) x.name)
 rw [hs] at hret
 obtain ⟨rfl,hb'⟩:=hret
 have S2:=Lib.hid (S1.out.below hb')
 clear S1 hb' z0 x6 hp hs
 generalize (fieldP h (typOf f qa) x.name).isSome=d at *
 cases d
 case false =>
  go_wp2
  go_ret
  exact ⟨S2.out.f.hb,_,rfl,trivial⟩
 have hne:Nonempty (WB w'):=⟨⟨w',Below.refl _ _⟩⟩
 obtain ⟨x0,x1,-,x3,-⟩:=S2.out.x.cells
 have y4:=S2.out.f.b1.cell 4 (by simp)
 have z0:=S2.out.bh.cell 0 (by simp)
 rcases HO.out with ho | ho
 ·obtain ⟨q,hq,hqn⟩:=HD.out ho
  rw [hq] at x1
  rw [ho] at x0
  obtain ⟨b',off',he,m0⟩:=S2.out.f.typ hqn
  cases he
  have HFT:Hid (∀ o:WB w',Calls Tryz.prog 298 #[.agg #[.slice a h.length c],.string s2,.string (typOf f q)] o.u (Ret o.u (.bool (fitsP h s2 (typOf f q))))):=fun o=>fits253 h _ _ a c o.u (S2.out.hc.below o.h) HBN.out.l
  generalize fitsP h s2 (typOf f q)=d at *
  have k0:∀ o:WB w',o.u.cell? ⟨w.heap.size + 2,0,none⟩=some (.int .i64 7):=fun o=>cell_below o.h x0
  have k1:∀ o:WB w',o.u.cell? ⟨w.heap.size + 2,1,none⟩=some (.int .i64 q):=fun o=>cell_below o.h x1
  have k2:∀ o:WB w',o.u.cell? ⟨w.heap.size + 1,4,none⟩=some (.slice (some ⟨b,off,none⟩) f.vars.length vc):=fun o=>cell_below o.h y4
  have k3:∀ o:WB w',o.u.cell? ⟨w.heap.size,0,none⟩=some (.slice a h.length c):=fun o=>cell_below o.h z0
  have k4:∀ o:WB w',o.u.cell? ⟨b,off + q * 2 + 1,none⟩=some (.string (typOf f q)):=fun o=>cell_below o.h m0
  clear HD HBB HO ho hq x0 x1 x3 y4 z0 m0
  go_upto_region 7 with (fail)
  refine wp_region_WB w' (by kernel_rfl) ?_
  cases d
  all_goals
   repeat (go_big_quiet_step ((rename_i o;exact (HFT.out o).mono (fun _ _ h=>Ret.inB h))))
   refine wpQuiet_nil ?_
   intro _ hw'
   obtain ⟨o,rfl⟩:=hw'
   have S3:=Lib.hid (S2.out.below o.h)
   clear k0 k1 k2 k3 k4
   go_wp2
   go_ret
   exact ⟨S3.out.f.hb,_,rfl,trivial⟩
 ·obtain ⟨q,hq,hqn⟩:=HBB.out ho
  rw [hq] at x3
  rw [ho] at x0
  obtain ⟨b',off',he,m0⟩:=S2.out.f.typ hqn
  cases he
  have HFT:Hid (∀ o:WB w',Calls Tryz.prog 298 #[.agg #[.slice a h.length c],.string (typOf f q),.string s2] o.u (Ret o.u (.bool (fitsP h (typOf f q) s2)))):=fun o=>fits253 h _ _ a c o.u (S2.out.hc.below o.h) HBN.out.l
  generalize fitsP h (typOf f q) s2=d at *
  have k0:∀ o:WB w',o.u.cell? ⟨w.heap.size + 2,0,none⟩=some (.int .i64 8):=fun o=>cell_below o.h x0
  have k1:∀ o:WB w',o.u.cell? ⟨w.heap.size + 2,3,none⟩=some (.int .i64 q):=fun o=>cell_below o.h x3
  have k2:∀ o:WB w',o.u.cell? ⟨w.heap.size + 1,4,none⟩=some (.slice (some ⟨b,off,none⟩) f.vars.length vc):=fun o=>cell_below o.h y4
  have k3:∀ o:WB w',o.u.cell? ⟨w.heap.size,0,none⟩=some (.slice a h.length c):=fun o=>cell_below o.h z0
  have k4:∀ o:WB w',o.u.cell? ⟨b,off + q * 2 + 1,none⟩=some (.string (typOf f q)):=fun o=>cell_below o.h m0
  clear HD HBB HO ho hq x0 x1 x3 y4 z0 m0
  go_upto_region 7 with (fail)
  refine wp_region_WB w' (by kernel_rfl) ?_
  cases d
  all_goals
   repeat (go_big_quiet_step ((rename_i o;exact (HFT.out o).mono (fun _ _ h=>Ret.inB h))))
   refine wpQuiet_nil ?_
   intro _ hw'
   obtain ⟨o,rfl⟩:=hw'
   have S3:=Lib.hid (S2.out.below o.h)
   clear k0 k1 k2 k3 k4
   go_wp2
   go_ret
   exact ⟨S3.out.f.hb,_,rfl,trivial⟩
end Go.Proofs.YtffcklfigpmlgaaGreatDoor
namespace Go.Proofs.YtffcklfigpmlgaaGreatDoor
open Go.RowKit Go.Unit0

structure CallOk (h:List Cls) (x:Ins):Prop where
 c:x.op=9→∃ y g,lookP h x.cls x.name=some (y,g)∧g.stat=false
 s:x.op=10→∃ g,lookP h x.cls x.name=some (x.cls,g)∧g.stat=true
theorem CallOk.other {h:List Cls} {x:Ins} (h9:x.op ≠ 9) (h10:x.op ≠ 10):CallOk h x:=⟨fun e=>absurd e h9,fun e=>absurd e h10⟩
def DeclPost (a:Option Addr) (h:List Cls) (s m:Str) (w:World) (e:Ending) (w':World):Prop:=Below w.heap.size w w'∧∃ (g:Sgn) (pa:Option Addr) (pc:Nat) (b:Bool),e = .returned (.tuple #[sgV g pa pc,.bool b])∧(g.params = [] ∨ SgnAt w a h g pa)∧g.params.length≤100000∧(b=true→lookP h s m=some (s,g)∧g.stat=true)
theorem params_strs {w W:World} {a:Option Addr} {h:List Cls} {g:Sgn} {pa:Option Addr} (k:g.params = [] ∨ SgnAt W a h g pa) (hb:Below w.heap.size w W) (hc:ClssAt w a h):StrsAt w pa g.params:=by
 rcases k with e | e
 ·rw [e];exact fun k hk=>absurd hk (by simp)
 ·exact e.strs hb hc
theorem SgnAt.before {w W:World} {a:Option Addr} {h:List Cls} {g:Sgn} {pa:Option Addr} (k:SgnAt W a h g pa) (hb:Below w.heap.size w W) (hc:ClssAt w a h):SgnAt w a h g pa:=by
 obtain ⟨i,hi,q,hq,b,off,ma,n,mc,b2,off2,pc,rfl,h1,rfl,h2,rfl⟩:=k
 obtain ⟨b',off',fa',fc',ma',mc',he,-,-,-,m3,-,hs⟩:=hc i hi
 cases he
 have e1:=cell_below hb m3
 rw [h1] at e1
 simp only [Option.some.injEq,Value.slice.injEq] at e1
 obtain ⟨e1,-,-⟩:=e1
 subst e1
 obtain ⟨b',off',pa',pc',he,-,-,n2,-,hst⟩:=hs q hq
 cases he
 have e2:=cell_below hb n2
 rw [h2] at e2
 simp only [Option.some.injEq,Value.slice.injEq] at e2
 obtain ⟨rfl,-,-⟩:=e2
 exact ⟨i,hi,q,hq,_,_,_,_,_,_,_,_,rfl,m3,rfl,n2,rfl⟩
theorem LookPost.look {a:Option Addr} {h:List Cls} {s m:Str} {w w':World} {e:Ending} (hb:Bnd h) (hp:LookPost a h (lookP h s m) w e w'):Below w.heap.size w w'∧∃ (x:Str) (g:Sgn) (pa:Option Addr) (pc:Nat) (b:Bool),e = .returned (.tuple #[.string x,sgV g pa pc,.bool b])∧(g.params = [] ∨ SgnAt w a h g pa)∧g.params.length≤100000∧(b=true→lookP h s m=some (x,g)):=by
 obtain ⟨hb',⟨-,rfl⟩ | ⟨x,g,pa,pc,e1,rfl,-,hs⟩⟩:=hp
 ·exact ⟨hb',⟨#[]⟩,⟨⟨#[]⟩,false,[],⟨#[]⟩⟩,none,0,false,rfl,.inl rfl,by simp,fun e=>by cases e⟩
 ·obtain ⟨-,c,hc,-,-,hg,-⟩:=lookF_mem e1
  exact ⟨hb',x,g,pa,pc,true,rfl,.inr hs,hb.p c hc g hg,fun _=>e1⟩
theorem storeSig {ops:Array Oper} {rest:List Oper} {o:Oper} {a:Act} {w:World} {Q:Exit→Act→World→Prop} (hgd:o.guard=none) (hd:o.dst=none) (x y:Operand) (ho:o.op = .store 87 x y)
 (g:Nat) (k:Sgn) (pa:Option Addr) (pc:Nat) (hx:a.eval x = .pointer (some ⟨g,0,none⟩)) (hy:a.eval y=sgV k pa pc)
 (old:Array Value) (hg:Blk w g old 87) (hold:old.size=4)
 (h:wpList Tryz.prog ops Q rest a (w.setRow g #[.string k.name,.bool k.stat,.slice pa k.params.length pc,.string k.result])):wpList Tryz.prog ops Q (o :: rest) a w :=
 wpList_store_row hgd 87 x y ho g _ hx hy 87 old hg (by kernel_rfl) hold (by simp [Value.oneCell']) (by rw [hd];exact h)
abbrev zSgC:Obj:=.cells #[.string ⟨#[]⟩,.bool false,.slice none 0 0,.string ⟨#[]⟩] 87
theorem results_ct {P:Program} {fn:Func} {p u:Tmp} {ty:TypeId} (h:fn.results = #[.cell p ty,.tmp u]) (tmps:Array Value) (w:World) (g:Nat) (cs:Array Value) (d:TypeDesc) (v2:Value)
 (hp:tmps.getD p undef = .pointer (some ⟨g,0,none⟩)) (h2:tmps.getD u undef=v2) (hg:Blk w g cs ty)
 (hu:P.underlying ty=some d) (hd:(match d with | .struct _ | .array _ _=>true | _=>false)=true) (hi:(P.info? ty).map (·.size)=some cs.size) :
 (results fn tmps).run P w = .ok (.tuple #[.agg cs,v2]) w:=by
 have hp':tmps[p]?.getD undef = .pointer (some ⟨g,0,none⟩):=by simpa using hp
 have h2':tmps[u]?.getD undef=v2:=by simpa using h2
 simp [results,h,hp',h2',asAddr,run_loadVar_row w g ty ty cs (0,0) d hg hu hd hi]
set_option maxRecDepth 100000 in
set_option maxHeartbeats 4000000 in
theorem declares366 (h:List Cls) (s m:Str) (a:Option Addr) (c:Nat) (w:World) (hc:ClssAt w a h) (hb:Bnd h) :
 Calls Tryz.prog 371 #[.agg #[.slice a h.length c],.string s,.string m] w (DeclPost a h s m w):=by
 have HBN:=Lib.hid hb
 have C0:=Lib.hid hc
 have HB2:=two_below w (hiC h a c) zSgC
 have C1:=Lib.hid (hc.below HB2)
 have b0:Blk (w.alloc (hiC h a c)) w.heap.size #[.slice a h.length c] 24:=blk_new ..
 have B0:Hid (Blk ((w.alloc (hiC h a c)).alloc zSgC) w.heap.size #[.slice a h.length c] 24):=b0.below (one_below ..)
 have B1:Hid (Blk ((w.alloc (hiC h a c)).alloc zSgC) (w.heap.size + 1) #[.string ⟨#[]⟩,.bool false,.slice none 0 0,.string ⟨#[]⟩] 87):=blk_new2 ..
 have hsz:((w.alloc (hiC h a c)).alloc zSgC).heap.size=w.heap.size + 2:=by simp
 have HB:=Lib.hid HB2
 have HSZ:=Lib.hid hsz
 clear hc hb b0 HB2 hsz
 go_enter Tryz.func371,Tryz.ntmps371
 go_upto_region 1 with (fail)
 generalize (w.alloc (hiC h a c)).alloc zSgC=W at *
 have z0:=B0.out.cell 0 (by simp)
 go_wp2_with fail
 refine (lookup110 h s m a c _ C1.out HBN.out.l HBN.out.m).mono ?_
 intro e w1 hp
 obtain ⟨hb',x,g,pa,pc,b,rfl,hs,hgl,hlk⟩:=LookPost.look HBN.out hp
 have LK:=Lib.hid hlk
 clear hlk
 have HB1:=Lib.hid (HB.out.trans (hb'.mono HB.out.size))
 have B1':=Lib.hid (B1.out.below hb')
 have SP:=Lib.hid (hs.imp id fun k=>k.before HB.out C0.out)
 have hw1:w.heap.size + 2≤w1.heap.size:=by have:=HSZ.out;have:=hb'.size;omega
 clear C1 B0 B1 HB HSZ hp hb' hs z0 HBN
 have B2:Hid (Blk (w1.alloc zSgC) w1.heap.size #[.string ⟨#[]⟩,.bool false,.slice none 0 0,.string ⟨#[]⟩] 87):=blk_new ..
 have B1'':=Lib.hid (B1'.out.below (one_below _ zSgC))
 have HB2:=Lib.hid (HB1.out.trans ((one_below w1 zSgC).mono (by omega)))
 go_upto_region 2 with (refine storeSig rfl rfl _ _ rfl w1.heap.size g pa pc rfl rfl _ B2.out rfl ?_)
 have hne1:w1.heap.size ≠ w.heap.size + 1:=by omega
 have B3:=Lib.hid (B2.out.setRow #[.string g.name,.bool g.stat,.slice pa g.params.length pc,.string g.result])
 have B4:=Lib.hid (B1''.out.setRow_ne (Ne.symm hne1) #[.string g.name,.bool g.stat,.slice pa g.params.length pc,.string g.result])
 have hg0:w.heap.size≤w1.heap.size:=by omega
 have HB4:=Lib.hid (below_row HB2.out hg0 #[.string g.name,.bool g.stat,.slice pa g.params.length pc,.string g.result])
 clear B1' B2 B1'' HB2 HB1
 generalize (w1.alloc zSgC).setRow w1.heap.size #[.string g.name,.bool g.stat,.slice pa g.params.length pc,.string g.result]=W3 at *
 generalize w1.heap.size=n3 at *
 have hne:Nonempty (WG W3 (w.heap.size + 1)):=⟨⟨W3,fun _ _ _=>rfl⟩⟩
 have k0:∀ o:WG W3 (w.heap.size + 1),o.u.cell? ⟨n3,0,none⟩=some (.string g.name):=fun o=>o.cell (B3.out.cell 0 (by simp)) hne1
 have k1:∀ o:WG W3 (w.heap.size + 1),o.u.cell? ⟨n3,1,none⟩=some (.bool g.stat):=fun o=>o.cell (B3.out.cell 1 (by simp)) hne1
 have k2:∀ o:WG W3 (w.heap.size + 1),o.u.cell? ⟨n3,2,none⟩=some (.slice pa g.params.length pc):=fun o=>o.cell (B3.out.cell 2 (by simp)) hne1
 have k3:∀ o:WG W3 (w.heap.size + 1),o.u.cell? ⟨n3,3,none⟩=some (.string g.result):=fun o=>o.cell (B3.out.cell 3 (by simp)) hne1
 have hcur:∀ k,k < W3.heap.size→k ≠ w.heap.size + 1→W3.drew.heap[k]? = W3.heap[k]?:=fun _ _ _=>rfl
 have D4:Hid (Blk W3.drew (w.heap.size + 1) #[.string ⟨#[]⟩,.bool false,.slice none 0 0,.string ⟨#[]⟩] 87):=B4.out
 have hcur2:∀ k,k < W3.heap.size→k ≠ w.heap.size + 1→(W3.drew.setRow (w.heap.size + 1) #[.string g.name,.bool g.stat,.slice pa g.params.length pc,.string g.result]).heap[k]? = W3.heap[k]?:=fun k _ hk2=>setRow_other W3.drew (w.heap.size + 1) k _ hk2
 have HF:Hid (Below w.heap.size w (W3.drew.setRow (w.heap.size + 1) #[.string g.name,.bool g.stat,.slice pa g.params.length pc,.string g.result])):=below_row HB4.out.drew (by omega) _
 cases b <;> cases heq:(x.toList == s.toList)
 all_goals
  refine wp_region_Y (fun w'=>∃ o:WG W3 (w.heap.size + 1),w' = o.u) (by kernel_rfl) ?_
  change wpAnyY _ _ _ _ _ _ _ _ W3.drew
  refine wpAnyY_take 0 rfl (by kernel_rfl) (fun _ _ _ _ h=>h) ⟨⟨_,hcur⟩,rfl⟩ (fun K hK=>?_);go_simp;refine hK _ ?_;clear hK K
  refine wpAnyY_take 1 rfl (by kernel_rfl) (fun _ _ _ _ h=>h) ⟨⟨_,hcur⟩,rfl⟩ (fun K hK=>?_);go_simp;refine hK _ ?_;clear hK K
  refine wpAnyY_take 2 rfl (by kernel_rfl) (fun _ _ _ _ h=>h) ⟨⟨_,hcur⟩,rfl⟩ (fun K hK=>?_);go_simp;refine hK _ ?_;clear hK K
  refine wpAnyY_take 3 rfl (by kernel_rfl) (fun _ _ _ _ h=>h) ⟨⟨_,hcur⟩,rfl⟩ (fun K hK=>?_);go_simp;refine hK _ ?_;clear hK K
  refine wpAnyY_take 4 rfl (by kernel_rfl) (fun _ _ _ _ h=>h) ⟨⟨_,hcur⟩,rfl⟩ (fun K hK=>?_);go_simp;refine hK _ ?_;clear hK K
  refine wpAnyY_take 5 rfl (by kernel_rfl) (fun _ _ _ _ h=>h) ⟨⟨_,hcur⟩,rfl⟩ (fun K hK=>?_);go_simp;refine hK _ ?_;clear hK K
  refine wpAnyY_take 6 rfl (by kernel_rfl) (fun _ _ _ _ h=>h) ⟨⟨_,hcur⟩,rfl⟩ (fun K hK=>?_);go_simp;refine hK _ ?_;clear hK K
  refine wpAnyY_take 7 rfl (by kernel_rfl) (fun _ _ _ _ h=>h) ⟨⟨_,hcur⟩,rfl⟩ (fun K hK=>?_);go_simp;refine hK _ ?_;clear hK K
  refine wpAnyY_take 8 rfl (by kernel_rfl) (fun _ _ _ _ h=>h) ⟨⟨_,hcur⟩,rfl⟩ (fun K hK=>?_);go_simp;refine hK _ ?_;clear hK K
  refine wpAnyY_take 9 rfl (by kernel_rfl) (fun _ _ _ _ h=>h) ⟨⟨_,hcur⟩,rfl⟩ (fun K hK=>?_);go_simp;refine hK _ ?_;clear hK K
  refine wpAnyY_take 10 rfl (by kernel_rfl) (fun _ _ _ _ h=>h) ⟨⟨_,hcur⟩,rfl⟩ (fun K hK=>?_);go_simp;refine hK _ ?_;clear hK K
  refine wpAnyY_one 11 rfl (by kernel_rfl) ?_
  go_wp2_with (refine storeSig rfl rfl _ _ rfl (w.heap.size + 1) g pa pc rfl rfl _ D4.out rfl ?_)
  refine ⟨⟨⟨_,hcur2⟩,rfl⟩,?_⟩
  refine wpAnyY_one 12 rfl (by kernel_rfl) ?_
  go_wp2
  refine ⟨⟨⟨_,hcur2⟩,rfl⟩,?_⟩
  refine wpAnyY_done (by kernel_rfl) ?_ _
  go_wp2
  refine bodyPost_ret (v:=.tuple #[sgV g pa pc,.bool _]) (results_ct Tryz.results371 _ _ (w.heap.size + 1) _ _ _ rfl rfl (D4.out.setRow _) Tryz.underlying87 rfl (by kernel_rfl)) rfl ?_
  refine ⟨HF.out,g,pa,pc,_,rfl,SP.out,hgl,?_⟩
  first
  | (intro e;cases e;done)
  | (intro e;exact ⟨by rw [LK.out (by trivial),eqB_iff.1 heq],e⟩)
end Go.Proofs.YtffcklfigpmlgaaGreatDoor
namespace Go.Proofs.YtffcklfigpmlgaaGreatDoor
open Go.RowKit Go.Unit0

structure TM (h:List Cls) (a:Option Addr) (f:Fnc) (va ca:Option Addr) (x:Ins) (ga:Option Addr) (w:World):Prop where
 hc:ClssAt w a h
 hv:FldsAt w va f.vars
 hi:InssAt w ca f.code
 hg:IntsAt w ga x.args
section
variable {h:List Cls} {a:Option Addr} {c:Nat} {f:Fnc} {va:Option Addr} {vc:Nat} {ca:Option Addr} {cc:Nat} {x:Ins} {ga:Option Addr} {gc:Nat} {w wr w':World}
structure CW (h:List Cls) (a:Option Addr) (c:Nat) (f:Fnc) (va:Option Addr) (vc:Nat) (ca:Option Addr) (cc:Nat) (x:Ins) (ga:Option Addr) (gc:Nat) (g:Sgn) (pa:Option Addr) (pc:Nat) (w wr:World):Prop where
 t:TX h a c f va vc ca cc x ga gc w wr
 s:Blk wr (w.heap.size + 3) #[.string g.name,.bool g.stat,.slice pa g.params.length pc,.string g.result] 87
 p:StrsAt wr pa g.params
theorem CW.below {g:Sgn} {pa:Option Addr} {pc:Nat} (k:CW h a c f va vc ca cc x ga gc g pa pc w wr) (hb:Below wr.heap.size wr w'):CW h a c f va vc ca cc x ga gc g pa pc w w':=⟨k.t.below hb,k.s.below hb,k.p.below hb⟩
theorem CW.row {g g':Sgn} {pa pa':Option Addr} {pc pc':Nat} (m:TM h a f va ca x ga w) (k:CW h a c f va vc ca cc x ga gc g pa pc w wr) (hp:StrsAt w pa' g'.params):CW h a c f va vc ca cc x ga gc g' pa' pc' w (wr.setRow (w.heap.size + 3) #[.string g'.name,.bool g'.stat,.slice pa' g'.params.length pc',.string g'.result]):=by
 have hb:=below_row k.t.f.hb (g:=w.heap.size + 3) (by omega) #[.string g'.name,.bool g'.stat,.slice pa' g'.params.length pc',.string g'.result]
 exact ⟨⟨k.t.bh.setRow_ne (by omega) _,m.hc.below hb,⟨hb,k.t.f.b1.setRow_ne (by omega) _,m.hv.below hb,m.hi.below hb⟩,⟨hb,k.t.x.b1.setRow_ne (by omega) _,m.hg.below hb⟩⟩,k.s.setRow _,hp.below hb⟩
def zSg:Sgn:=⟨⟨#[]⟩,false,[],⟨#[]⟩⟩
theorem CW.start (m:TM h a f va ca x ga w):CW h a c f va vc ca cc x ga gc zSg none 0 w ((((w.alloc (hiC h a c)).alloc (fnC f va vc ca cc)).alloc (inC x ga gc)).alloc zSgC):=by
 have k:=TX.start (c:=c) (vc:=vc) (cc:=cc) (gc:=gc) m.hc m.hv m.hi m.hg
 refine ⟨k.below (one_below ..),?_,fun k hk=>absurd hk (by simp [zSg])⟩
 have:=blk_new (((w.alloc (hiC h a c)).alloc (fnC f va vc ca cc)).alloc (inC x ga gc)) #[.string ⟨#[]⟩,.bool false,.slice none 0 0,.string ⟨#[]⟩] 87
 have e:(((w.alloc (hiC h a c)).alloc (fnC f va vc ca cc)).alloc (inC x ga gc)).heap.size=w.heap.size + 3:=by simp
 rw [e] at this
 exact this
end
set_option maxRecDepth 100000 in
set_option maxHeartbeats 4000000 in
theorem checkCall339 (h:List Cls) (a:Option Addr) (c:Nat) (f:Fnc) (va:Option Addr) (vc:Nat) (ca:Option Addr) (cc:Nat) (x:Ins) (ga:Option Addr) (gc:Nat) (w:World)
 (m:TM h a f va ca x ga w) (hb:Bnd h) (_hnv:f.vars.length≤100000) (hl:x.args.length≤100000) (hR:RangeOk f.vars.length f.code.length x) (ho:x.op=9 ∨ x.op=10) :
 Calls Tryz.prog 300 #[.agg #[.slice a h.length c],fnV f va vc ca cc,inV x ga gc] w (IPost (fun n=>n=0→CallOk h x) w):=by
 have S0:=Lib.hid (CW.start (c:=c) (vc:=vc) (cc:=cc) (gc:=gc) m)
 have M:=Lib.hid m
 have HBN:=Lib.hid hb
 have hd:=hR.d (by rcases ho with e | e <;> rw [e,hasP_data] <;> decide)
 have HARG:=Lib.hid (hR.args (by rcases ho with e | e <;> rw [e,hasP_data] <;> decide))
 have HD:Hid (x.dst = -1 ∨ ∃ q:Nat,x.dst=q∧q < f.vars.length):=by
  rcases hd with ⟨h1,h2⟩ | ⟨-,h2⟩
  ·exact .inr ⟨x.dst.toNat,by omega,by omega⟩
  ·exact .inl h2
 have HA:Hid (x.op=9→∃ q:Nat,x.a=q∧q < f.vars.length):=fun e=>by
  rcases hR.a (by rw [e,hasP_data];decide) with ⟨h1,h2⟩ | ⟨e2,-⟩
  ·exact ⟨x.a.toNat,by omega,by omega⟩
  ·omega
 have HO:=Lib.hid ho
 clear m hb hR hd ho
 unfold fnV inV
 go_enter Tryz.func300,Tryz.ntmps300
 go_upto_region 3 with (refine storeSig rfl rfl _ _ rfl (w.heap.size + 3) zSg none 0 rfl rfl _ S0.out.s rfl ?_)
 have S1:Hid (CW h a c f va vc ca cc x ga gc zSg none 0 w (((((w.alloc (hiC h a c)).alloc (fnC f va vc ca cc)).alloc (inC x ga gc)).alloc zSgC).setRow (w.heap.size + 3) #[.string zSg.name,.bool zSg.stat,.slice none zSg.params.length 0,.string zSg.result])):=CW.row (g':=zSg) M.out S0.out (fun k hk=>absurd hk (by simp [zSg]))
 clear S0
 generalize hW:((((w.alloc (hiC h a c)).alloc (fnC f va vc ca cc)).alloc (inC x ga gc)).alloc zSgC).setRow (w.heap.size + 3) _=W at *
 clear hW
 have x0:=S1.out.t.x.b1.cell 0 (by simp)
 go_upto_if 14 with (fail)
 go_cut [8] (fun v wx=>∃ b g pa pc,v = .bool b∧Hid (CW h a c f va vc ca cc x ga gc g pa pc w wx∧g.params.length≤100000∧(b=true→CallOk h x)))
 case first =>
  rcases HO.out with ho | ho
  ·obtain ⟨q,hq,hqn⟩:=HA.out ho
   have t9:(x.op == 9)=true:=by simp [ho]
   have x2:=S1.out.t.x.b1.cell 2 (by simp)
   rw [hq] at x2
   obtain ⟨b3,o3,rfl,m2⟩:=S1.out.t.f.typ hqn
   have y4:=S1.out.t.f.b1.cell 4 (by simp)
   have z0:=S1.out.t.bh.cell 0 (by simp)
   generalize typOf f q=tq at *
   have H9:=Lib.hid ho
   clear hq ho HO HA
   go_wp2_with fail
   clear t9
   refine (isCls252 h tq a c _ S1.out.t.hc HBN.out.l).mono ?_
   rintro e w' ⟨rfl,hb'⟩
   have S2:=Lib.hid (S1.out.below hb')
   clear S1 hb' x0 x2 m2 y4 z0
   generalize isCls h tq=d at *
   have x5:=S2.out.t.x.b1.cell 5 (by simp)
   have x6:=S2.out.t.x.b1.cell 6 (by simp)
   have z0:=S2.out.t.bh.cell 0 (by simp)
   cases d
   case false =>
    go_wp2
    go_ret
    exact ⟨S2.out.t.f.hb,_,rfl,fun e=>by cases e⟩
   cases hcl:(tq.toList == x.cls.toList)
   case false =>
    go_wp2
    go_ret
    exact ⟨S2.out.t.f.hb,_,rfl,fun e=>by cases e⟩
   go_wp2_with fail
   refine (lookup110 h tq x.name a c _ S2.out.t.hc HBN.out.l HBN.out.m).mono ?_
   intro e w1 hp
   obtain ⟨hb',s,g,pa,pc,b,rfl,hs,hgl,hlk⟩:=LookPost.look HBN.out hp
   have LK:Hid (b=true→lookP h x.cls x.name=some (s,g)):=fun e=>by rw [← eqB_iff.1 hcl];exact hlk e
   have S3:=Lib.hid (S2.out.below hb')
   have SP:=Lib.hid (params_strs hs S2.out.t.f.hb M.out.hc)
   clear S2 hb' hp hs x5 x6 z0 hcl hlk
   go_upto_region 8 with (refine storeSig rfl rfl _ _ rfl (w.heap.size + 3) g pa pc rfl rfl _ S3.out.s rfl ?_)
   have S4:=Lib.hid (CW.row (g':=g) (pc':=pc) M.out S3.out SP.out)
   clear S3 SP
   generalize w1.setRow (w.heap.size + 3) _=W5 at *
   have s1:=S4.out.s.cell 1 (by simp)
   generalize hst:g.stat=st at s1
   have HST:=Lib.hid hst
   clear hst
   cases b <;> cases st
   all_goals
    go_wp2
    go_meet
    refine ⟨_,g,pa,pc,rfl,S4.out,hgl,?_⟩
    first
    | (intro e;cases e;done)
    | (intro _;exact ⟨fun _=>⟨_,g,LK.out (by trivial),HST.out⟩,fun e=>by rw [H9.out] at e;cases e⟩)
  ·have t9:(x.op == 9)=false:=by simp [ho]
   have x5:=S1.out.t.x.b1.cell 5 (by simp)
   have x6:=S1.out.t.x.b1.cell 6 (by simp)
   have z0:=S1.out.t.bh.cell 0 (by simp)
   have H10:=Lib.hid ho
   clear ho HO HA
   go_wp2_with fail
   clear t9
   refine (declares366 h x.cls x.name a c _ S1.out.t.hc HBN.out).mono ?_
   rintro e w1 ⟨hb',g,pa,pc,b,rfl,hs,hgl,hdc⟩
   have HDC:=Lib.hid hdc
   have S3:=Lib.hid (S1.out.below hb')
   have SP:=Lib.hid (params_strs hs S1.out.t.f.hb M.out.hc)
   clear S1 hb' hs x5 x6 z0 hdc
   go_wp2_with (refine storeSig rfl rfl _ _ rfl (w.heap.size + 3) g pa pc rfl rfl _ S3.out.s rfl ?_)
   have S4:=Lib.hid (CW.row (g':=g) (pc':=pc) M.out S3.out SP.out)
   clear S3 SP
   go_wp2
   go_meet
   exact ⟨_,g,pa,pc,rfl,S4.out,hgl,fun e=>⟨fun e2=>(by rw [H10.out] at e2;cases e2),fun _=>⟨g,HDC.out e⟩⟩⟩
 case rest =>
  obtain ⟨b,g,pa,pc,rfl,S2⟩:=hcut
  clear S1 x0 HA HO
  have hgl:=S2.out.2.1
  have HCO:=Lib.hid S2.out.2.2
  replace S2:=Lib.hid S2.out.1
  cases b
  case false =>
   go_wp2
   go_ret
   exact ⟨S2.out.t.f.hb,_,rfl,fun e=>by cases e⟩
  replace HCO:=Lib.hid (HCO.out rfl)
  have s2:=S2.out.s.cell 2 (by simp)
  have x7:=S2.out.t.x.b1.cell 7 (by simp)
  by_cases hln:g.params.length=x.args.length
  case neg =>
   have t1:((g.params.length:Int) != (x.args.length:Int))=true:=by simp;omega
   clear hln
   go_wp2
   go_ret
   exact ⟨S2.out.t.f.hb,_,rfl,fun e=>by cases e⟩
  have t1:((g.params.length:Int) != (x.args.length:Int))=false:=by simp;omega
  have HLN:=Lib.hid hln
  clear hln
  go_wp2
  clear t1 s2 x7
  go_loopw [10] (fun i wr=>∃ k:Nat,k≤x.args.length∧i = .int .i64 k∧Hid (CW h a c f va vc ca cc x ga gc g pa pc w wr)) (fun i _=>x.args.length - (intOf i).toNat)
  case atStart=>exact ⟨0,Nat.zero_le _,rfl,S2.out⟩
  case round =>
   clear S2
   obtain ⟨k,hk,rfl,S⟩:=hrel
   have x7:=S.out.t.x.b1.cell 7 (by simp)
   by_cases hlt:k < x.args.length
   case pos =>
    have hlt2:k < g.params.length:=by have:=HLN.out;omega
    obtain ⟨q,hq,hqn⟩:∃ q:Nat,x.args[k]=q∧q < f.vars.length:=by
     have:=HARG.out x.args[k] (List.getElem_mem hlt)
     exact ⟨x.args[k].toNat,by omega,by omega⟩
    obtain ⟨b1,o1,rfl,m0⟩:=S.out.t.x.ga k hlt
    obtain ⟨b2,o2,rfl,m1⟩:=S.out.p k hlt2
    obtain ⟨b3,o3,rfl,m2⟩:=S.out.t.f.typ hqn
    rw [hq] at m0
    have s2:=S.out.s.cell 2 (by simp)
    have y4:=S.out.t.f.b1.cell 4 (by simp)
    have z0:=S.out.t.bh.cell 0 (by simp)
    have HFT:Hid (∀ o:WB wr,Calls Tryz.prog 298 #[.agg #[.slice a h.length c],.string (typOf f q),.string g.params[k]] o.u (Ret o.u (.bool (fitsP h (typOf f q) g.params[k])))):=fun o=>fits253 h _ _ a c o.u (S.out.t.hc.below o.h) HBN.out.l
    generalize fitsP h (typOf f q) g.params[k]=d at *
    generalize g.params[k]=gk at *
    generalize typOf f q=tq at *
    have hne:Nonempty (WB wr):=⟨⟨wr,Below.refl _ _⟩⟩
    have k0:∀ o:WB wr,o.u.cell? ⟨w.heap.size + 2,7,none⟩=some (.slice (some ⟨b1,o1,none⟩) x.args.length gc):=fun o=>cell_below o.h x7
    have k1:∀ o:WB wr,o.u.cell? ⟨b1,o1 + k,none⟩=some (.int .i64 q):=fun o=>cell_below o.h m0
    have k2:∀ o:WB wr,o.u.cell? ⟨w.heap.size + 1,4,none⟩=some (.slice (some ⟨b3,o3,none⟩) f.vars.length vc):=fun o=>cell_below o.h y4
    have k3:∀ o:WB wr,o.u.cell? ⟨b3,o3 + q * 2 + 1,none⟩=some (.string tq):=fun o=>cell_below o.h m2
    have k4:∀ o:WB wr,o.u.cell? ⟨w.heap.size + 3,2,none⟩=some (.slice (some ⟨b2,o2,none⟩) g.params.length pc):=fun o=>cell_below o.h s2
    have k5:∀ o:WB wr,o.u.cell? ⟨b2,o2 + k,none⟩=some (.string gk):=fun o=>cell_below o.h m1
    have k6:∀ o:WB wr,o.u.cell? ⟨w.heap.size,0,none⟩=some (.slice a h.length c):=fun o=>cell_below o.h z0
    clear m0 m1 m2 s2 y4 z0 hq
    go_upto_region 17 with (fail)
    clear x7
    refine wp_region_WB wr (by kernel_rfl) ?_
    cases d
    all_goals
     repeat (go_big_quiet_step ((rename_i o;exact (HFT.out o).mono (fun _ _ h=>Ret.inB h))))
     refine wpQuiet_nil ?_
     intro _ hw'
     obtain ⟨o,rfl⟩:=hw'
     have S3:=Lib.hid (S.out.below o.h)
     clear k0 k1 k2 k3 k4 k5 k6
     go_wp2
     first
     | (go_ret;exact ⟨S3.out.t.f.hb,_,rfl,fun _=>HCO.out⟩)
     | (go_roundw
        case rel=>exact ⟨k + 1,by omega,by go_num,S3.out⟩
        case measure=>simp [intOf];omega)
   clear HLN HARG
   go_upto_region 19 with (fail)
   have hne:Nonempty (WB wr):=⟨⟨wr,Below.refl _ _⟩⟩
   have x1:=S.out.t.x.b1.cell 1 (by simp)
   have s3:=S.out.s.cell 3 (by simp)
   have y4:=S.out.t.f.b1.cell 4 (by simp)
   have z0:=S.out.t.bh.cell 0 (by simp)
   have k0:∀ o:WB wr,o.u.cell? ⟨w.heap.size + 3,3,none⟩=some (.string g.result):=fun o=>cell_below o.h s3
   have k2:∀ o:WB wr,o.u.cell? ⟨w.heap.size,0,none⟩=some (.slice a h.length c):=fun o=>cell_below o.h z0
   rcases HD.out with hd | ⟨q,hq,hqn⟩
   ·rw [hd] at x1
    have k1:∀ o:WB wr,o.u.cell? ⟨w.heap.size + 2,1,none⟩=some (.int .i64 (-1)):=fun o=>cell_below o.h x1
    clear x7 x1 s3 y4 z0 hd HD
    refine wp_region_WB wr (by kernel_rfl) ?_
    repeat (go_big_quiet_step (fail))
    refine wpQuiet_nil ?_
    intro _ hw'
    obtain ⟨o,rfl⟩:=hw'
    have S3:=Lib.hid (S.out.below o.h)
    clear k0 k1 k2
    go_wp2
    go_ret
    exact ⟨S3.out.t.f.hb,_,rfl,fun _=>HCO.out⟩
   rw [hq] at x1
   obtain ⟨b3,o3,rfl,m2⟩:=S.out.t.f.typ hqn
   have k1:∀ o:WB wr,o.u.cell? ⟨w.heap.size + 2,1,none⟩=some (.int .i64 q):=fun o=>cell_below o.h x1
   have HFT:Hid (∀ o:WB wr,Calls Tryz.prog 298 #[.agg #[.slice a h.length c],.string g.result,.string (typOf f q)] o.u (Ret o.u (.bool (fitsP h g.result (typOf f q))))):=fun o=>fits253 h _ _ a c o.u (S.out.t.hc.below o.h) HBN.out.l
   generalize fitsP h g.result (typOf f q)=d at *
   generalize typOf f q=tq at *
   have k3:∀ o:WB wr,o.u.cell? ⟨w.heap.size + 1,4,none⟩=some (.slice (some ⟨b3,o3,none⟩) f.vars.length vc):=fun o=>cell_below o.h y4
   have k4:∀ o:WB wr,o.u.cell? ⟨b3,o3 + q * 2 + 1,none⟩=some (.string tq):=fun o=>cell_below o.h m2
   have t1:(((q:Int)) != -1)=true:=by simp
   clear x7 x1 s3 y4 z0 hq HD m2
   cases hr:(g.result.toList == ([]:List UInt8)) <;> cases d
   all_goals
    refine wp_region_WB wr (by kernel_rfl) ?_
    repeat (go_big_quiet_step ((rename_i o;exact (HFT.out o).mono (fun _ _ h=>Ret.inB h))))
    refine wpQuiet_nil ?_
    intro _ hw'
    obtain ⟨o,rfl⟩:=hw'
    have S3:=Lib.hid (S.out.below o.h)
    clear k0 k1 k2 k3 k4
    go_wp2
    go_ret
    exact ⟨S3.out.t.f.hb,_,rfl,fun _=>HCO.out⟩
end Go.Proofs.YtffcklfigpmlgaaGreatDoor
