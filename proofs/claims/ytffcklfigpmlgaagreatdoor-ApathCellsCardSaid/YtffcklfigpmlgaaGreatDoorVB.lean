/-
  The reference's Lookup.
  The reference's Field.
  The reference's up, SameSig, types.
-/
import Derived.Test.YtffcklfigpmlgaaGreatDoorVA
import Derived.Test.YtffcklfigpmlgaaGreatDoorRG
namespace Go.Proofs.YtffcklfigpmlgaaGreatDoor
open Go.RowKit Go.Unit0

structure WB (W:World) where
 u:World
 h:Below W.heap.size W u
theorem WB.step {W:World} (o:WB W) {w':World} (h:Below o.u.heap.size o.u w'):∃ o':WB W,w' = o'.u:=⟨⟨w',o.h.trans (h.mono o.h.size)⟩,rfl⟩
structure WG (W:World) (g:Nat) where
 u:World
 h:∀ k,k < W.heap.size→k ≠ g→u.heap[k]? = W.heap[k]?
theorem WG.cell {W:World} {g:Nat} (o:WG W g) {b i:Nat} {v:Value} (h:W.cell? ⟨b,i,none⟩=some v) (hne:b ≠ g):o.u.cell? ⟨b,i,none⟩=some v:=by
 rw [World.cell?_of_block (w:=W) (o.h b (World.block_lt_of_cell? W _ h) hne)];exact h
structure LW (h:List Cls) (a:Option Addr) (c:Nat) (L:List Str) (oa:Option Addr) (z:Array Value) (zt:TypeId) (w wr:World):Prop where
 hb:Below w.heap.size w wr
 bx:Blk wr w.heap.size #[.slice a h.length c] 24
 rs:Blk wr (w.heap.size + 1) z zt
 st:StrsAt wr oa L
 fr:Fr oa (w.heap.size + 2)
theorem LW.below {h:List Cls} {a:Option Addr} {c:Nat} {L:List Str} {oa:Option Addr} {z:Array Value} {zt:TypeId} {w wr w':World} (x:LW h a c L oa z zt w wr) (hb:Below wr.heap.size wr w'):LW h a c L oa z zt w w' :=
 ⟨x.hb.trans (hb.mono x.hb.size),x.bx.below hb,x.rs.below hb,x.st.below hb,x.fr⟩
def LookPost (a:Option Addr) (h:List Cls) (r:Option (Str × Sgn)) (w:World) (e:Ending) (w':World):Prop:=Below w.heap.size w w' ∧
 ((r=none∧e = .returned (.tuple #[.string ⟨#[]⟩,.agg #[.string ⟨#[]⟩,.bool false,.slice none 0 0,.string ⟨#[]⟩],.bool false])) ∨
  ∃ x g pa pc,r=some (x,g)∧e = .returned (.tuple #[.string x,.agg #[.string g.name,.bool g.stat,.slice pa g.params.length pc,.string g.result],.bool true])∧StrsAt w pa g.params∧SgnAt w a h g pa)
theorem store114 {ops:Array Oper} {rest:List Oper} {o:Oper} {a:Act} {w:World} {Q:Exit→Act→World→Prop} (hgd:o.guard=none) (x y:Operand) (ho:o.op = .store 87 x y)
 (g:Nat) (s1 s2:ByteArray) (b:Bool) (pa:Option Addr) (n pc:Nat) (hx:a.eval x = .pointer (some ⟨g,0,none⟩)) (hy:a.eval y = .agg #[.string s1,.bool b,.slice pa n pc,.string s2])
 (old:Array Value) (hg:Blk w g old 87) (hold:old.size=4)
 (h:wpList Tryz.prog ops Q rest (a.put o.dst undef) (w.setRow g #[.string s1,.bool b,.slice pa n pc,.string s2])):wpList Tryz.prog ops Q (o :: rest) a w :=
 wpList_store_row hgd 87 x y ho g _ hx hy 87 old hg (by kernel_rfl) hold (by simp [Value.oneCell']) h
theorem store111 {ops:Array Oper} {rest:List Oper} {o:Oper} {a:Act} {w:World} {Q:Exit→Act→World→Prop} (hgd:o.guard=none) (x y:Operand) (ho:o.op = .store 85 x y)
 (g:Nat) (s1 s2:ByteArray) (fa:Option Addr) (n fc:Nat) (ma:Option Addr) (k mc:Nat) (hx:a.eval x = .pointer (some ⟨g,0,none⟩)) (hy:a.eval y = .agg #[.string s1,.string s2,.slice fa n fc,.slice ma k mc])
 (old:Array Value) (hg:Blk w g old 85) (hold:old.size=4)
 (h:wpList Tryz.prog ops Q rest (a.put o.dst undef) (w.setRow g #[.string s1,.string s2,.slice fa n fc,.slice ma k mc])):wpList Tryz.prog ops Q (o :: rest) a w :=
 wpList_store_row hgd 85 x y ho g _ hx hy 85 old hg (by kernel_rfl) hold (by simp [Value.oneCell']) h
theorem results_tct {P:Program} {fn:Func} {t p u:Tmp} {ty:TypeId} (h:fn.results = #[.tmp t,.cell p ty,.tmp u]) (tmps:Array Value) (w:World) (g:Nat) (cs:Array Value) (d:TypeDesc) (v1 v2:Value)
 (h1:tmps.getD t undef=v1) (hp:tmps.getD p undef = .pointer (some ⟨g,0,none⟩)) (h2:tmps.getD u undef=v2) (hg:Blk w g cs ty)
 (hu:P.underlying ty=some d) (hd:(match d with | .struct _ | .array _ _=>true | _=>false)=true) (hi:(P.info? ty).map (·.size)=some cs.size) :
 (results fn tmps).run P w = .ok (.tuple #[v1,.agg cs,v2]) w:=by
 have hp':tmps[p]?.getD undef = .pointer (some ⟨g,0,none⟩):=by simpa using hp
 have h1':tmps[t]?.getD undef=v1:=by simpa using h1
 have h2':tmps[u]?.getD undef=v2:=by simpa using h2
 simp [results,h,hp',h1',h2',asAddr,run_loadVar_row w g ty ty cs (0,0) d hg hu hd hi]
theorem below_row {w wr:World} {g:Nat} (h:Below w.heap.size w wr) (hg:w.heap.size≤g) (cs:Array Value):Below w.heap.size w (wr.setRow g cs):=below_setRow h hg cs
set_option maxRecDepth 100000 in
set_option maxHeartbeats 4000000 in
theorem lookup110 (h:List Cls) (s m:Str) (a:Option Addr) (c:Nat) (w:World) (hc:ClssAt w a h) (hl:h.length≤100000) (hm:∀ x ∈ h,x.methods.length≤100000) :
 Calls Tryz.prog 370 #[.agg #[.slice a h.length c],.string s,.string m] w (LookPost a h (lookP h s m) w):=by
 have HM:=Lib.hid hm;clear hm
 have HC0:=Lib.hid hc;clear hc
 have HB:=Lib.hid (two_below w (.cells #[.slice a h.length c] 24) (.cells #[.string ⟨#[]⟩,.bool false,.slice none 0 0,.string ⟨#[]⟩] 87))
 have HX:Hid (Blk ((w.alloc (.cells #[.slice a h.length c] 24)).alloc (.cells #[.string ⟨#[]⟩,.bool false,.slice none 0 0,.string ⟨#[]⟩] 87)) w.heap.size #[.slice a h.length c] 24):=(blk_new ..).below (one_below ..)
 have HZ:Hid (Blk ((w.alloc (.cells #[.slice a h.length c] 24)).alloc (.cells #[.string ⟨#[]⟩,.bool false,.slice none 0 0,.string ⟨#[]⟩] 87)) (w.heap.size + 1) #[.string ⟨#[]⟩,.bool false,.slice none 0 0,.string ⟨#[]⟩] 87):=blk_new2 ..
 go_enter Tryz.func370,Tryz.ntmps370
 go_upto_region 1 with (fail)
 generalize hW:(w.alloc (.cells #[.slice a h.length c] 24)).alloc (.cells #[.string ⟨#[]⟩,.bool false,.slice none 0 0,.string ⟨#[]⟩] 87)=W at *
 clear hW
 have x0:=HX.out.cell 0 (by simp)
 go_wp2_with fail
 refine (supers132 h s a c _ (HC0.out.below HB.out) hl).mono ?_
 rintro e w1 ⟨hb1,oa,oc,rfl,hown⟩
 have S1:Hid (LW h a c (supers h s) oa #[.string ⟨#[]⟩,.bool false,.slice none 0 0,.string ⟨#[]⟩] 87 w w1):=⟨HB.out.trans (hb1.mono HB.out.size),HX.out.below hb1,HZ.out.below hb1,(owns_strs' hown).2,owns_fr hown HZ.out.lt⟩
 clear hown hb1 x0 HB HX HZ
 have hL:=supers_len h s
 have HAT:Hid (∀ k (hk:k < (supers h s).length),∃ j,∃ hj:j < h.length,findI h (supers h s)[k]=j∧findC h (supers h s)[k]=some h[j]):=fun k hk=>chain_at hk
 have HLP:Hid (lookP h s m=lookF h m (supers h s)):=rfl
 generalize supers h s=L at *
 go_wp2
 go_loopw [10] (fun i wr=>∃ k:Nat,k≤L.length∧i = .int .i64 k∧Hid (LW h a c L oa #[.string ⟨#[]⟩,.bool false,.slice none 0 0,.string ⟨#[]⟩] 87 w wr)∧Hid (lookF h m (L.drop k)=lookP h s m)) (fun i _=>L.length - (intOf i).toNat)
 case atStart=>exact ⟨0,Nat.zero_le _,rfl,S1.out,HLP.out.symm⟩
 case round =>
  clear S1
  obtain ⟨k,hk,rfl,S,HI⟩:=hrel
  by_cases hlt:k < L.length
  case neg =>
   have HF:Hid (lookP h s m=none):=by show _=_;rw [← HI.out,look_end (by omega)]
   go_wp2_with (refine store114 rfl _ _ rfl (w.heap.size + 1) _ _ _ _ _ _ rfl rfl _ S.out.rs rfl ?_)
   refine bodyPost_ret (v:=.tuple #[.string ⟨#[]⟩,.agg #[.string ⟨#[]⟩,.bool false,.slice none 0 0,.string ⟨#[]⟩],.bool false]) (results_tct Tryz.results370 _ _ (w.heap.size + 1) _ _ _ _ rfl rfl rfl (S.out.rs.setRow _) Tryz.underlying87 rfl (by kernel_rfl)) rfl ?_
   exact ⟨below_row S.out.hb (by omega) _,.inl ⟨HF.out,rfl⟩⟩
  obtain ⟨j,hj,f1,f2⟩:=HAT.out k hlt
  obtain ⟨ob,oo,rfl,l0⟩:=S.out.st k hlt
  have x0:=S.out.bx.cell 0 (by simp)
  go_upto_region 5 with (fail)
  go_cut [11] (fun s wx=>∃ g,s = .pointer (some ⟨g,0,none⟩)∧Hid (LW h a c L (some ⟨ob,oo,none⟩) #[.string ⟨#[]⟩,.bool false,.slice none 0 0,.string ⟨#[]⟩] 87 w wx)∧Hid (∃ fa fc ma mc,Blk wx g #[.string h[j].name,.string h[j].super,.slice fa h[j].fields.length fc,.slice ma h[j].methods.length mc] 85∧FldsAt w fa h[j].fields∧SgsIn w a j h[j].methods ma))
  case first =>
   have hC:=HC0.out.below S.out.hb
   have HCW:=Lib.hid (HC0.out j hj)
   obtain ⟨b,off,fa,fc,ma,mc,rfl,m0,m1,m2,m3,hf,hs⟩:=HC0.out j hj
   have HFS:Hid (FldsAt w fa h[j].fields∧SgsIn w (some ⟨b,off,none⟩) j h[j].methods ma):=⟨hf,hs,b,off,_,mc,rfl,m3⟩
   clear hf hs HCW
   have hne:Nonempty (WB wr):=⟨⟨wr,Below.refl _ _⟩⟩
   have k0:∀ o:WB wr,o.u.cell? ⟨w.heap.size,0,none⟩=some (.slice (some ⟨b,off,none⟩) h.length c):=fun o=>cell_below o.h x0
   have k1:∀ o:WB wr,o.u.cell? ⟨ob,oo + k,none⟩=some (.string L[k]):=fun o=>cell_below o.h l0
   have k2:∀ o:WB wr,o.u.cell? ⟨b,off + j * 4,none⟩=some (.string h[j].name):=fun o=>cell_below o.h (cell_below S.out.hb m0)
   have k3:∀ o:WB wr,o.u.cell? ⟨b,off + j * 4 + 1,none⟩=some (.string h[j].super):=fun o=>cell_below o.h (cell_below S.out.hb m1)
   have k4:∀ o:WB wr,o.u.cell? ⟨b,off + j * 4 + 2,none⟩=some (.slice fa h[j].fields.length fc):=fun o=>cell_below o.h (cell_below S.out.hb m2)
   have k5:∀ o:WB wr,o.u.cell? ⟨b,off + j * 4 + 3,none⟩=some (.slice ma h[j].methods.length mc):=fun o=>cell_below o.h (cell_below S.out.hb m3)
   have HFD:Hid (∀ o:WB wr,Calls Tryz.prog 122 #[.agg #[.slice (some ⟨b,off,none⟩) h.length c],.string L[k]] o.u (Ret o.u (.int .i64 j))):=fun o=>by
    have:=find184 h L[k] (some ⟨b,off,none⟩) c o.u ((HC0.out.below S.out.hb).below o.h) (by omega)
    rw [f1] at this;exact this
   clear m0 m1 m2 m3 x0 l0 f1 f2 hC
   generalize h[j]=x at *
   generalize L[k]=n at *
   refine wp_region_Y (fun w'=>∃ o:WB wr,w' = o.u) (by kernel_rfl) ?_
   change wpAnyY _ _ _ _ _ _ _ _ wr.drew
   have hcur:Below wr.heap.size wr wr.drew:=(Below.refl _ _).drew
   refine wpAnyY_take 0 rfl (by kernel_rfl) (fun _ _ _ _ h=>h) ⟨⟨_,hcur⟩,rfl⟩ (fun K hK=>?_);go_simp;refine hK _ ?_;clear hK K
   refine wpAnyY_take 1 rfl (by kernel_rfl) (fun _ _ _ _ h=>h) ⟨⟨_,hcur⟩,rfl⟩ (fun K hK=>?_);go_simp;refine hK _ ?_;clear hK K
   refine wpAnyY_take 2 rfl (by kernel_rfl) (fun _ _ _ _ h=>h) ⟨⟨_,hcur⟩,rfl⟩ (fun K hK=>?_);go_simp;refine hK _ ?_;clear hK K
   refine wpAnyY_take 3 rfl (by kernel_rfl) (fun _ _ _ _ h=>h) ⟨⟨_,hcur⟩,rfl⟩ (fun K hK=>?_);go_simp;refine hK _ ?_;clear hK K
   refine wpAnyY_take 4 rfl (by kernel_rfl) (fun _ _ _ _ h=>h) ⟨⟨_,hcur⟩,rfl⟩ (fun K hK=>?_);go_simp;refine hK _ ?_;clear hK K
   refine wpAnyY_take 5 rfl (by kernel_rfl) (fun _ _ _ _ h=>h) ⟨⟨_,hcur⟩,rfl⟩ (fun K hK=>?_);go_simp;refine hK _ ?_;clear hK K
   refine wpAnyY_take 6 rfl (by kernel_rfl) (fun _ _ _ _ h=>h) ⟨⟨_,hcur⟩,rfl⟩ (fun K hK=>?_);go_simp;refine hK _ ?_;clear hK K
   refine wpAnyY_two 7 10 rfl rfl (by kernel_rfl) ?_ ?_
   ·go_wp2_with fail
    refine (HFD.out ⟨_,hcur⟩).mono ?_
    rintro e w2 ⟨rfl,hb2⟩
    have hcur2:Below wr.heap.size wr w2:=hcur.trans (hb2.mono hcur.size)
    go_wp2
    refine ⟨⟨⟨_,hcur2⟩,rfl⟩,?_⟩
    refine wpAnyY_take 8 rfl (by kernel_rfl) (fun _ _ _ _ h=>h) ⟨⟨_,hcur2⟩,rfl⟩ (fun K hK=>?_);go_simp;refine hK _ ?_;clear hK K
    refine wpAnyY_take 9 rfl (by kernel_rfl) (fun _ _ _ _ h=>h) ⟨⟨_,hcur2⟩,rfl⟩ (fun K hK=>?_);go_simp;refine hK _ ?_;clear hK K
    have hcur3:Below wr.heap.size wr (w2.alloc (.cells #[.string ⟨#[]⟩,.string ⟨#[]⟩,.slice none 0 0,.slice none 0 0] 85)):=hcur2.trans ((one_below ..).mono hcur2.size)
    have B3:Hid (Blk (w2.alloc (.cells #[.string ⟨#[]⟩,.string ⟨#[]⟩,.slice none 0 0,.slice none 0 0] 85)) w2.heap.size #[.string ⟨#[]⟩,.string ⟨#[]⟩,.slice none 0 0,.slice none 0 0] 85):=blk_new ..
    refine wpAnyY_one 10 rfl (by kernel_rfl) ?_
    go_wp2
    refine ⟨⟨⟨_,hcur3⟩,rfl⟩,?_⟩
    have hz2:=hcur2.size
    have hcur4:Below wr.heap.size wr ((w2.alloc (.cells #[.string ⟨#[]⟩,.string ⟨#[]⟩,.slice none 0 0,.slice none 0 0] 85)).setRow w2.heap.size #[.string x.name,.string x.super,.slice fa x.fields.length fc,.slice ma x.methods.length mc]):=below_setRow hcur3 hz2 _
    refine wpAnyY_one 11 rfl (by kernel_rfl) ?_
    go_wp2_with (refine store111 rfl _ _ rfl w2.heap.size _ _ _ _ _ _ _ _ rfl rfl _ B3.out rfl ?_)
    refine ⟨⟨⟨_,hcur4⟩,rfl⟩,?_⟩
    refine wpAnyY_done (by kernel_rfl) ?_ _
    go_wp2
    go_meet
    exact ⟨w2.heap.size,rfl,S.out.below hcur4,fa,fc,ma,mc,B3.out.setRow _,HFS.out.1,HFS.out.2⟩
   ·go_wp2
    have hcur2:Below wr.heap.size wr (wr.drew.alloc (.cells #[.string ⟨#[]⟩,.string ⟨#[]⟩,.slice none 0 0,.slice none 0 0] 85)):=hcur.trans ((one_below ..).mono hcur.size)
    have B2:Hid (Blk (wr.drew.alloc (.cells #[.string ⟨#[]⟩,.string ⟨#[]⟩,.slice none 0 0,.slice none 0 0] 85)) wr.drew.heap.size #[.string ⟨#[]⟩,.string ⟨#[]⟩,.slice none 0 0,.slice none 0 0] 85):=blk_new ..
    refine ⟨⟨⟨_,hcur2⟩,rfl⟩,?_⟩
    refine wpAnyY_one 7 rfl (by kernel_rfl) ?_
    go_wp2_with fail
    refine (HFD.out ⟨_,hcur2⟩).mono ?_
    rintro e w3 ⟨rfl,hb3⟩
    have hcur3:Below wr.heap.size wr w3:=hcur2.trans (hb3.mono hcur2.size)
    have B3:=Lib.hid (B2.out.below hb3)
    go_wp2
    refine ⟨⟨⟨_,hcur3⟩,rfl⟩,?_⟩
    refine wpAnyY_take 8 rfl (by kernel_rfl) (fun _ _ _ _ h=>h) ⟨⟨_,hcur3⟩,rfl⟩ (fun K hK=>?_);go_simp;refine hK _ ?_;clear hK K
    refine wpAnyY_take 9 rfl (by kernel_rfl) (fun _ _ _ _ h=>h) ⟨⟨_,hcur3⟩,rfl⟩ (fun K hK=>?_);go_simp;refine hK _ ?_;clear hK K
    have hcur4:Below wr.heap.size wr (w3.setRow wr.drew.heap.size #[.string x.name,.string x.super,.slice fa x.fields.length fc,.slice ma x.methods.length mc]):=below_setRow hcur3 (Nat.le_refl _) _
    refine wpAnyY_one 11 rfl (by kernel_rfl) ?_
    go_wp2_with (refine store111 rfl _ _ rfl wr.drew.heap.size _ _ _ _ _ _ _ _ rfl rfl _ B3.out rfl ?_)
    refine ⟨⟨⟨_,hcur4⟩,rfl⟩,?_⟩
    refine wpAnyY_done (by kernel_rfl) ?_ _
    go_wp2
    go_meet
    exact ⟨wr.drew.heap.size,rfl,S.out.below hcur4,fa,fc,ma,mc,B3.out.setRow _,HFS.out.1,HFS.out.2⟩
  case rest =>
   obtain ⟨g,rfl,S2,B2⟩:=hcut
   obtain ⟨fa,fc,ma,mc,B2,hf,hs⟩:=B2.out
   have HLOC:=Lib.hid (fun q hq b off pa n pc=>@SgsIn.at w a h j ma hj hs q hq b off pa n pc)
   have HS:=Lib.hid hs.1
   have B:=Lib.hid B2
   clear hf hs B2 S x0 l0
   have HMX:h[j].methods.length≤100000:=HM.out _ (List.getElem_mem hj)
   have HH:Hid (∀ g,sgnIn h[j].methods m=some g→lookP h s m=some (L[k],g)):=fun g e=>by rw [← HI.out,look_hit hlt f2 e]
   have HN:Hid (sgnIn h[j].methods m=none→lookF h m (L.drop (k + 1))=lookP h s m):=fun e=>by rw [← HI.out,look_miss hlt f2 e]
   clear f1 f2 HI
   have y2:=B.out.cell 3 (by simp)
   obtain ⟨b',o',he,hlk⟩:=S2.out.st k hlt
   cases he
   simp at y2
   generalize h[j]=x at *
   generalize L[k]=n at *
   go_wp2
   go_loop [12] (fun i=>∃ q:Nat,q≤x.methods.length∧i = .int .i64 q∧Hid (sgnIn (x.methods.drop q) m=sgnIn x.methods m)) (fun i=>x.methods.length - (intOf i).toNat)
   case atStart=>exact ⟨0,Nat.zero_le _,rfl,rfl⟩
   case round =>
    obtain ⟨q,hq,rfl,HI⟩:=hrel
    by_cases hql:q < x.methods.length
    case neg =>
     have HNN:=Lib.hid (HN.out (by rw [← HI.out,sgn_end (by omega)]))
     go_wp2
     go_roundw
     case rel=>exact ⟨k + 1,by omega,by go_num,S2.out,HNN.out⟩
     case measure=>simp [intOf];omega
    obtain ⟨b,off,pa,pc,rfl,m0,m1,m2,m3,hst⟩:=HS.out.below S2.out.hb q hql
    have HT:=Lib.hid (@sgn_hit m x.methods q hql)
    have HMI:=Lib.hid (@sgn_miss m x.methods q hql)
    have HSQ:Hid (StrsAt w pa x.methods[q].params):=by
     obtain ⟨b2,off2,pa2,pc2,he,n0,n1,n2,n3,hst2⟩:=HS.out q hql
     cases he
     have:=cell_below S2.out.hb n2
     rw [m2] at this
     cases this
     exact hst2
    have HLC:Hid (SgnAt w a h x.methods[q] pa):=by
     obtain ⟨b2,off2,pa2,pc2,he,n0,n1,n2,n3,hst2⟩:=HS.out q hql
     cases he
     have:=cell_below S2.out.hb n2
     rw [m2] at this
     cases this
     exact HLOC.out q hql _ _ _ _ _ rfl n2
    clear hst
    generalize x.methods[q]=y at *
    cases hy:(y.name.toList == m.toList)
    case false =>
     have HNN:=Lib.hid (HMI.out hy)
     go_wp2
     go_round
     case rel=>exact ⟨q + 1,by omega,by go_num,by show _=_;rw [← HNN.out];exact HI.out⟩
     case measure=>simp [intOf];omega
    have HF:=Lib.hid (HH.out y (by rw [← HI.out,HT.out hy]))
    have hobn:ob ≠ w.heap.size + 1:=by have:=S2.out.fr ob oo rfl;omega
    have hgn:g ≠ w.heap.size + 1:=by
     rintro rfl
     have e1:=B.out
     have e2:=S2.out.rs
     unfold Blk at e1 e2
     rw [e1] at e2
     simp at e2
    have hbn:b ≠ w.heap.size + 1:=by
     obtain ⟨b2,off2,pa2,pc2,he,n0,_⟩:=HS.out q hql
     cases he
     have:=World.block_lt_of_cell? w _ n0
     simp at this;omega
    go_upto_region 10 with (fail)
    have hne:Nonempty (WG wc (w.heap.size + 1)):=⟨⟨wc,fun _ _ _=>rfl⟩⟩
    have k0:∀ o:WG wc (w.heap.size + 1),o.u.cell? ⟨ob,oo + k,none⟩=some (.string n):=fun o=>o.cell hlk hobn
    have k1:∀ o:WG wc (w.heap.size + 1),o.u.cell? ⟨g,3,none⟩=some (.slice (some ⟨b,off,none⟩) x.methods.length mc):=fun o=>o.cell y2 hgn
    have k2:∀ o:WG wc (w.heap.size + 1),o.u.cell? ⟨b,off + q * 4,none⟩=some (.string y.name):=fun o=>o.cell m0 hbn
    have k3:∀ o:WG wc (w.heap.size + 1),o.u.cell? ⟨b,off + q * 4 + 1,none⟩=some (.bool y.stat):=fun o=>o.cell m1 hbn
    have k4:∀ o:WG wc (w.heap.size + 1),o.u.cell? ⟨b,off + q * 4 + 2,none⟩=some (.slice pa y.params.length pc):=fun o=>o.cell m2 hbn
    have k5:∀ o:WG wc (w.heap.size + 1),o.u.cell? ⟨b,off + q * 4 + 3,none⟩=some (.string y.result):=fun o=>o.cell m3 hbn
    clear m0 m1 m2 m3 y2 hlk
    refine wp_region_Y (fun w'=>∃ o:WG wc (w.heap.size + 1),w' = o.u) (by kernel_rfl) ?_
    change wpAnyY _ _ _ _ _ _ _ _ wc.drew
    have hcur:∀ k,k < wc.heap.size→k ≠ w.heap.size + 1→wc.drew.heap[k]? = wc.heap[k]?:=fun _ _ _=>rfl
    refine wpAnyY_take 0 rfl (by kernel_rfl) (fun _ _ _ _ h=>h) ⟨⟨_,hcur⟩,rfl⟩ (fun K hK=>?_);go_simp;refine hK _ ?_;clear hK K
    refine wpAnyY_take 1 rfl (by kernel_rfl) (fun _ _ _ _ h=>h) ⟨⟨_,hcur⟩,rfl⟩ (fun K hK=>?_);go_simp;refine hK _ ?_;clear hK K
    refine wpAnyY_take 2 rfl (by kernel_rfl) (fun _ _ _ _ h=>h) ⟨⟨_,hcur⟩,rfl⟩ (fun K hK=>?_);go_simp;refine hK _ ?_;clear hK K
    refine wpAnyY_take 3 rfl (by kernel_rfl) (fun _ _ _ _ h=>h) ⟨⟨_,hcur⟩,rfl⟩ (fun K hK=>?_);go_simp;refine hK _ ?_;clear hK K
    refine wpAnyY_take 4 rfl (by kernel_rfl) (fun _ _ _ _ h=>h) ⟨⟨_,hcur⟩,rfl⟩ (fun K hK=>?_);go_simp;refine hK _ ?_;clear hK K
    refine wpAnyY_take 5 rfl (by kernel_rfl) (fun _ _ _ _ h=>h) ⟨⟨_,hcur⟩,rfl⟩ (fun K hK=>?_);go_simp;refine hK _ ?_;clear hK K
    refine wpAnyY_take 6 rfl (by kernel_rfl) (fun _ _ _ _ h=>h) ⟨⟨_,hcur⟩,rfl⟩ (fun K hK=>?_);go_simp;refine hK _ ?_;clear hK K
    refine wpAnyY_take 7 rfl (by kernel_rfl) (fun _ _ _ _ h=>h) ⟨⟨_,hcur⟩,rfl⟩ (fun K hK=>?_);go_simp;refine hK _ ?_;clear hK K
    refine wpAnyY_take 8 rfl (by kernel_rfl) (fun _ _ _ _ h=>h) ⟨⟨_,hcur⟩,rfl⟩ (fun K hK=>?_);go_simp;refine hK _ ?_;clear hK K
    refine wpAnyY_one 9 rfl (by kernel_rfl) ?_
    go_wp2
    refine ⟨⟨⟨_,hcur⟩,rfl⟩,?_⟩
    clear k0 k1 k2 k3 k4 k5
    have S3:=Lib.hid (S2.out.below (show Below wc.heap.size wc wc.drew from (Below.refl _ _).drew))
    clear S2
    have hcur2:∀ k,k < wc.heap.size→k ≠ w.heap.size + 1→(wc.drew.setRow (w.heap.size + 1) #[.string y.name,.bool y.stat,.slice pa y.params.length pc,.string y.result]).heap[k]? = wc.heap[k]?:=fun k _ hk2=>setRow_other wc.drew (w.heap.size + 1) k _ hk2
    refine wpAnyY_one 10 rfl (by kernel_rfl) ?_
    go_wp2_with (refine store114 rfl _ _ rfl (w.heap.size + 1) _ _ _ _ _ _ rfl rfl _ S3.out.rs rfl ?_)
    refine ⟨⟨⟨_,hcur2⟩,rfl⟩,?_⟩
    refine wpAnyY_one 11 rfl (by kernel_rfl) ?_
    go_wp2
    refine ⟨⟨⟨_,hcur2⟩,rfl⟩,?_⟩
    refine wpAnyY_done (by kernel_rfl) ?_ _
    go_wp2
    refine bodyPost_ret (v:=.tuple #[.string n,.agg #[.string y.name,.bool y.stat,.slice pa y.params.length pc,.string y.result],.bool true]) (results_tct Tryz.results370 _ _ (w.heap.size + 1) _ _ _ _ rfl rfl rfl (S3.out.rs.setRow _) Tryz.underlying87 rfl (by kernel_rfl)) rfl ?_
    exact ⟨below_row S3.out.hb (by omega) _,.inr ⟨n,y,pa,pc,HF.out,rfl,HSQ.out,HLC.out⟩⟩
end Go.Proofs.YtffcklfigpmlgaaGreatDoor
namespace Go.Proofs.YtffcklfigpmlgaaGreatDoor
open Go.RowKit Go.Unit0

structure LW0 (h:List Cls) (a:Option Addr) (c:Nat) (L:List Str) (oa:Option Addr) (w wr:World):Prop where
 hb:Below w.heap.size w wr
 bx:Blk wr w.heap.size #[.slice a h.length c] 24
 st:StrsAt wr oa L
theorem LW0.below {h:List Cls} {a:Option Addr} {c:Nat} {L:List Str} {oa:Option Addr} {w wr w':World} (x:LW0 h a c L oa w wr) (hb:Below wr.heap.size wr w'):LW0 h a c L oa w w' :=
 ⟨x.hb.trans (hb.mono x.hb.size),x.bx.below hb,x.st.below hb⟩
def FieldPost (r:Option (Str × Fld)) (w:World) (e:Ending) (w':World):Prop:=Below w.heap.size w w' ∧
 ((r=none∧e = .returned (.tuple #[.string ⟨#[]⟩,.string ⟨#[]⟩,.bool false])) ∨
  ∃ x g,r=some (x,g)∧e = .returned (.tuple #[.string x,.string g.type,.bool true]))
set_option maxRecDepth 100000 in
set_option maxHeartbeats 4000000 in
theorem field275 (h:List Cls) (s m:Str) (a:Option Addr) (c:Nat) (w:World) (hc:ClssAt w a h) (hl:h.length≤100000) (hm:∀ x ∈ h,x.fields.length≤100000) :
 Calls Tryz.prog 64 #[.agg #[.slice a h.length c],.string s,.string m] w (FieldPost (fieldP h s m) w):=by
 have HM:=Lib.hid hm;clear hm
 have HC0:=Lib.hid hc;clear hc
 have HB:=Lib.hid (one_below w (.cells #[.slice a h.length c] 24))
 have HX:Hid (Blk (w.alloc (.cells #[.slice a h.length c] 24)) w.heap.size #[.slice a h.length c] 24):=blk_new ..
 go_enter Tryz.func64,Tryz.ntmps64
 go_upto_region 1 with (fail)
 generalize hW:w.alloc (.cells #[.slice a h.length c] 24)=W at *
 clear hW
 have x0:=HX.out.cell 0 (by simp)
 go_wp2_with fail
 refine (supers132 h s a c _ (HC0.out.below HB.out) hl).mono ?_
 rintro e w1 ⟨hb1,oa,oc,rfl,hown⟩
 have S1:Hid (LW0 h a c (supers h s) oa w w1):=⟨HB.out.trans (hb1.mono HB.out.size),HX.out.below hb1,(owns_strs' hown).2⟩
 clear hown hb1 x0 HB HX
 have hL:=supers_len h s
 have HAT:Hid (∀ k (hk:k < (supers h s).length),∃ j,∃ hj:j < h.length,findI h (supers h s)[k]=j∧findC h (supers h s)[k]=some h[j]):=fun k hk=>chain_at hk
 have HLP:Hid (fieldP h s m=fieldF h m (supers h s)):=rfl
 generalize supers h s=L at *
 go_wp2
 go_loopw [10] (fun i wr=>∃ k:Nat,k≤L.length∧i = .int .i64 k∧Hid (LW0 h a c L oa w wr)∧Hid (fieldF h m (L.drop k)=fieldP h s m)) (fun i _=>L.length - (intOf i).toNat)
 case atStart=>exact ⟨0,Nat.zero_le _,rfl,S1.out,HLP.out.symm⟩
 case round =>
  clear S1
  obtain ⟨k,hk,rfl,S,HI⟩:=hrel
  by_cases hlt:k < L.length
  case neg =>
   have HF:Hid (fieldP h s m=none):=by show _=_;rw [← HI.out,fieldF_end (by omega)]
   go_wp2
   refine bodyPost_ret (v:=.tuple #[.string ⟨#[]⟩,.string ⟨#[]⟩,.bool false]) (by simp [results,Tryz.results64,go_sem]) rfl ?_
   exact ⟨S.out.hb,.inl ⟨HF.out,rfl⟩⟩
  obtain ⟨j,hj,f1,f2⟩:=HAT.out k hlt
  obtain ⟨ob,oo,rfl,l0⟩:=S.out.st k hlt
  have x0:=S.out.bx.cell 0 (by simp)
  go_upto_region 5 with (fail)
  go_cut [11] (fun s wx=>∃ g,s = .pointer (some ⟨g,0,none⟩)∧Hid (LW0 h a c L (some ⟨ob,oo,none⟩) w wx)∧Hid (∃ fa fc ma mc,Blk wx g #[.string h[j].name,.string h[j].super,.slice fa h[j].fields.length fc,.slice ma h[j].methods.length mc] 85∧FldsAt w fa h[j].fields∧SgnsAt w ma h[j].methods))
  case first =>
   have hC:=HC0.out.below S.out.hb
   have HCW:=Lib.hid (HC0.out j hj)
   obtain ⟨b,off,fa,fc,ma,mc,rfl,m0,m1,m2,m3,hf,hs⟩:=HC0.out j hj
   have HFS:Hid (FldsAt w fa h[j].fields∧SgnsAt w ma h[j].methods):=⟨hf,hs⟩
   clear hf hs HCW
   have hne:Nonempty (WB wr):=⟨⟨wr,Below.refl _ _⟩⟩
   have k0:∀ o:WB wr,o.u.cell? ⟨w.heap.size,0,none⟩=some (.slice (some ⟨b,off,none⟩) h.length c):=fun o=>cell_below o.h x0
   have k1:∀ o:WB wr,o.u.cell? ⟨ob,oo + k,none⟩=some (.string L[k]):=fun o=>cell_below o.h l0
   have k2:∀ o:WB wr,o.u.cell? ⟨b,off + j * 4,none⟩=some (.string h[j].name):=fun o=>cell_below o.h (cell_below S.out.hb m0)
   have k3:∀ o:WB wr,o.u.cell? ⟨b,off + j * 4 + 1,none⟩=some (.string h[j].super):=fun o=>cell_below o.h (cell_below S.out.hb m1)
   have k4:∀ o:WB wr,o.u.cell? ⟨b,off + j * 4 + 2,none⟩=some (.slice fa h[j].fields.length fc):=fun o=>cell_below o.h (cell_below S.out.hb m2)
   have k5:∀ o:WB wr,o.u.cell? ⟨b,off + j * 4 + 3,none⟩=some (.slice ma h[j].methods.length mc):=fun o=>cell_below o.h (cell_below S.out.hb m3)
   have HFD:Hid (∀ o:WB wr,Calls Tryz.prog 122 #[.agg #[.slice (some ⟨b,off,none⟩) h.length c],.string L[k]] o.u (Ret o.u (.int .i64 j))):=fun o=>by
    have:=find184 h L[k] (some ⟨b,off,none⟩) c o.u ((HC0.out.below S.out.hb).below o.h) (by omega)
    rw [f1] at this;exact this
   clear m0 m1 m2 m3 x0 l0 f1 f2 hC
   generalize h[j]=x at *
   generalize L[k]=n at *
   refine wp_region_Y (fun w'=>∃ o:WB wr,w' = o.u) (by kernel_rfl) ?_
   change wpAnyY _ _ _ _ _ _ _ _ wr.drew
   have hcur:Below wr.heap.size wr wr.drew:=(Below.refl _ _).drew
   refine wpAnyY_take 0 rfl (by kernel_rfl) (fun _ _ _ _ h=>h) ⟨⟨_,hcur⟩,rfl⟩ (fun K hK=>?_);go_simp;refine hK _ ?_;clear hK K
   refine wpAnyY_take 1 rfl (by kernel_rfl) (fun _ _ _ _ h=>h) ⟨⟨_,hcur⟩,rfl⟩ (fun K hK=>?_);go_simp;refine hK _ ?_;clear hK K
   refine wpAnyY_take 2 rfl (by kernel_rfl) (fun _ _ _ _ h=>h) ⟨⟨_,hcur⟩,rfl⟩ (fun K hK=>?_);go_simp;refine hK _ ?_;clear hK K
   refine wpAnyY_take 3 rfl (by kernel_rfl) (fun _ _ _ _ h=>h) ⟨⟨_,hcur⟩,rfl⟩ (fun K hK=>?_);go_simp;refine hK _ ?_;clear hK K
   refine wpAnyY_take 4 rfl (by kernel_rfl) (fun _ _ _ _ h=>h) ⟨⟨_,hcur⟩,rfl⟩ (fun K hK=>?_);go_simp;refine hK _ ?_;clear hK K
   refine wpAnyY_take 5 rfl (by kernel_rfl) (fun _ _ _ _ h=>h) ⟨⟨_,hcur⟩,rfl⟩ (fun K hK=>?_);go_simp;refine hK _ ?_;clear hK K
   refine wpAnyY_take 6 rfl (by kernel_rfl) (fun _ _ _ _ h=>h) ⟨⟨_,hcur⟩,rfl⟩ (fun K hK=>?_);go_simp;refine hK _ ?_;clear hK K
   refine wpAnyY_two 7 10 rfl rfl (by kernel_rfl) ?_ ?_
   ·go_wp2_with fail
    refine (HFD.out ⟨_,hcur⟩).mono ?_
    rintro e w2 ⟨rfl,hb2⟩
    have hcur2:Below wr.heap.size wr w2:=hcur.trans (hb2.mono hcur.size)
    go_wp2
    refine ⟨⟨⟨_,hcur2⟩,rfl⟩,?_⟩
    refine wpAnyY_take 8 rfl (by kernel_rfl) (fun _ _ _ _ h=>h) ⟨⟨_,hcur2⟩,rfl⟩ (fun K hK=>?_);go_simp;refine hK _ ?_;clear hK K
    refine wpAnyY_take 9 rfl (by kernel_rfl) (fun _ _ _ _ h=>h) ⟨⟨_,hcur2⟩,rfl⟩ (fun K hK=>?_);go_simp;refine hK _ ?_;clear hK K
    have hcur3:Below wr.heap.size wr (w2.alloc (.cells #[.string ⟨#[]⟩,.string ⟨#[]⟩,.slice none 0 0,.slice none 0 0] 85)):=hcur2.trans ((one_below ..).mono hcur2.size)
    have B3:Hid (Blk (w2.alloc (.cells #[.string ⟨#[]⟩,.string ⟨#[]⟩,.slice none 0 0,.slice none 0 0] 85)) w2.heap.size #[.string ⟨#[]⟩,.string ⟨#[]⟩,.slice none 0 0,.slice none 0 0] 85):=blk_new ..
    refine wpAnyY_one 10 rfl (by kernel_rfl) ?_
    go_wp2
    refine ⟨⟨⟨_,hcur3⟩,rfl⟩,?_⟩
    have hz2:=hcur2.size
    have hcur4:Below wr.heap.size wr ((w2.alloc (.cells #[.string ⟨#[]⟩,.string ⟨#[]⟩,.slice none 0 0,.slice none 0 0] 85)).setRow w2.heap.size #[.string x.name,.string x.super,.slice fa x.fields.length fc,.slice ma x.methods.length mc]):=below_setRow hcur3 hz2 _
    refine wpAnyY_one 11 rfl (by kernel_rfl) ?_
    go_wp2_with (refine store111 rfl _ _ rfl w2.heap.size _ _ _ _ _ _ _ _ rfl rfl _ B3.out rfl ?_)
    refine ⟨⟨⟨_,hcur4⟩,rfl⟩,?_⟩
    refine wpAnyY_done (by kernel_rfl) ?_ _
    go_wp2
    go_meet
    exact ⟨w2.heap.size,rfl,S.out.below hcur4,fa,fc,ma,mc,B3.out.setRow _,HFS.out.1,HFS.out.2⟩
   ·go_wp2
    have hcur2:Below wr.heap.size wr (wr.drew.alloc (.cells #[.string ⟨#[]⟩,.string ⟨#[]⟩,.slice none 0 0,.slice none 0 0] 85)):=hcur.trans ((one_below ..).mono hcur.size)
    have B2:Hid (Blk (wr.drew.alloc (.cells #[.string ⟨#[]⟩,.string ⟨#[]⟩,.slice none 0 0,.slice none 0 0] 85)) wr.drew.heap.size #[.string ⟨#[]⟩,.string ⟨#[]⟩,.slice none 0 0,.slice none 0 0] 85):=blk_new ..
    refine ⟨⟨⟨_,hcur2⟩,rfl⟩,?_⟩
    refine wpAnyY_one 7 rfl (by kernel_rfl) ?_
    go_wp2_with fail
    refine (HFD.out ⟨_,hcur2⟩).mono ?_
    rintro e w3 ⟨rfl,hb3⟩
    have hcur3:Below wr.heap.size wr w3:=hcur2.trans (hb3.mono hcur2.size)
    have B3:=Lib.hid (B2.out.below hb3)
    go_wp2
    refine ⟨⟨⟨_,hcur3⟩,rfl⟩,?_⟩
    refine wpAnyY_take 8 rfl (by kernel_rfl) (fun _ _ _ _ h=>h) ⟨⟨_,hcur3⟩,rfl⟩ (fun K hK=>?_);go_simp;refine hK _ ?_;clear hK K
    refine wpAnyY_take 9 rfl (by kernel_rfl) (fun _ _ _ _ h=>h) ⟨⟨_,hcur3⟩,rfl⟩ (fun K hK=>?_);go_simp;refine hK _ ?_;clear hK K
    have hcur4:Below wr.heap.size wr (w3.setRow wr.drew.heap.size #[.string x.name,.string x.super,.slice fa x.fields.length fc,.slice ma x.methods.length mc]):=below_setRow hcur3 (Nat.le_refl _) _
    refine wpAnyY_one 11 rfl (by kernel_rfl) ?_
    go_wp2_with (refine store111 rfl _ _ rfl wr.drew.heap.size _ _ _ _ _ _ _ _ rfl rfl _ B3.out rfl ?_)
    refine ⟨⟨⟨_,hcur4⟩,rfl⟩,?_⟩
    refine wpAnyY_done (by kernel_rfl) ?_ _
    go_wp2
    go_meet
    exact ⟨wr.drew.heap.size,rfl,S.out.below hcur4,fa,fc,ma,mc,B3.out.setRow _,HFS.out.1,HFS.out.2⟩
  case rest =>
   obtain ⟨g,rfl,S2,B2⟩:=hcut
   obtain ⟨fa,fc,ma,mc,B2,hf,hs⟩:=B2.out
   have HS:=Lib.hid hf
   have B:=Lib.hid B2
   clear hf hs B2 S x0 l0
   have HMX:h[j].fields.length≤100000:=HM.out _ (List.getElem_mem hj)
   have HH:Hid (∀ g,fldIn h[j].fields m=some g→fieldP h s m=some (L[k],g)):=fun g e=>by rw [← HI.out,fieldF_hit hlt f2 e]
   have HN:Hid (fldIn h[j].fields m=none→fieldF h m (L.drop (k + 1))=fieldP h s m):=fun e=>by rw [← HI.out,fieldF_miss hlt f2 e]
   clear f1 f2 HI
   have y2:=B.out.cell 2 (by simp)
   obtain ⟨b',o',he,hlk⟩:=S2.out.st k hlt
   cases he
   simp at y2
   generalize h[j]=x at *
   generalize L[k]=n at *
   go_wp2
   go_loop [12] (fun i=>∃ q:Nat,q≤x.fields.length∧i = .int .i64 q∧Hid (fldIn (x.fields.drop q) m=fldIn x.fields m)) (fun i=>x.fields.length - (intOf i).toNat)
   case atStart=>exact ⟨0,Nat.zero_le _,rfl,rfl⟩
   case round =>
    obtain ⟨q,hq,rfl,HI⟩:=hrel
    by_cases hql:q < x.fields.length
    case neg =>
     have HNN:=Lib.hid (HN.out (by rw [← HI.out,fld_end (by omega)]))
     go_wp2
     go_roundw
     case rel=>exact ⟨k + 1,by omega,by go_num,S2.out,HNN.out⟩
     case measure=>simp [intOf];omega
    obtain ⟨b,off,rfl,m0,m1⟩:=HS.out.below S2.out.hb q hql
    have HT:=Lib.hid (@fld_hit m x.fields q hql)
    have HMI:=Lib.hid (@fld_miss m x.fields q hql)
    generalize x.fields[q]=y at *
    cases hy:(y.name.toList == m.toList)
    case false =>
     have HNN:=Lib.hid (HMI.out hy)
     go_wp2
     go_round
     case rel=>exact ⟨q + 1,by omega,by go_num,by show _=_;rw [← HNN.out];exact HI.out⟩
     case measure=>simp [intOf];omega
    have HF:=Lib.hid (HH.out y (by rw [← HI.out,HT.out hy]))
    go_upto_region 10 with (fail)
    have hne:Nonempty (WB wc):=⟨⟨wc,Below.refl _ _⟩⟩
    have k0:∀ o:WB wc,o.u.cell? ⟨ob,oo + k,none⟩=some (.string n):=fun o=>cell_below o.h hlk
    have k1:∀ o:WB wc,o.u.cell? ⟨g,2,none⟩=some (.slice (some ⟨b,off,none⟩) x.fields.length fc):=fun o=>cell_below o.h y2
    have k3:∀ o:WB wc,o.u.cell? ⟨b,off + q * 2 + 1,none⟩=some (.string y.type):=fun o=>cell_below o.h m1
    clear m0 m1 y2 hlk
    refine wp_region_Y (fun w'=>∃ o:WB wc,w' = o.u) (by kernel_rfl) ?_
    change wpAnyY _ _ _ _ _ _ _ _ wc.drew
    have hcur:Below wc.heap.size wc wc.drew:=(Below.refl _ _).drew
    refine wpAnyY_take 0 rfl (by kernel_rfl) (fun _ _ _ _ h=>h) ⟨⟨_,hcur⟩,rfl⟩ (fun K hK=>?_);go_simp;refine hK _ ?_;clear hK K
    refine wpAnyY_take 1 rfl (by kernel_rfl) (fun _ _ _ _ h=>h) ⟨⟨_,hcur⟩,rfl⟩ (fun K hK=>?_);go_simp;refine hK _ ?_;clear hK K
    refine wpAnyY_take 2 rfl (by kernel_rfl) (fun _ _ _ _ h=>h) ⟨⟨_,hcur⟩,rfl⟩ (fun K hK=>?_);go_simp;refine hK _ ?_;clear hK K
    refine wpAnyY_take 3 rfl (by kernel_rfl) (fun _ _ _ _ h=>h) ⟨⟨_,hcur⟩,rfl⟩ (fun K hK=>?_);go_simp;refine hK _ ?_;clear hK K
    refine wpAnyY_take 4 rfl (by kernel_rfl) (fun _ _ _ _ h=>h) ⟨⟨_,hcur⟩,rfl⟩ (fun K hK=>?_);go_simp;refine hK _ ?_;clear hK K
    refine wpAnyY_take 5 rfl (by kernel_rfl) (fun _ _ _ _ h=>h) ⟨⟨_,hcur⟩,rfl⟩ (fun K hK=>?_);go_simp;refine hK _ ?_;clear hK K
    refine wpAnyY_take 6 rfl (by kernel_rfl) (fun _ _ _ _ h=>h) ⟨⟨_,hcur⟩,rfl⟩ (fun K hK=>?_);go_simp;refine hK _ ?_;clear hK K
    refine wpAnyY_take 7 rfl (by kernel_rfl) (fun _ _ _ _ h=>h) ⟨⟨_,hcur⟩,rfl⟩ (fun K hK=>?_);go_simp;refine hK _ ?_;clear hK K
    refine wpAnyY_take 8 rfl (by kernel_rfl) (fun _ _ _ _ h=>h) ⟨⟨_,hcur⟩,rfl⟩ (fun K hK=>?_);go_simp;refine hK _ ?_;clear hK K
    refine wpAnyY_take 9 rfl (by kernel_rfl) (fun _ _ _ _ h=>h) ⟨⟨_,hcur⟩,rfl⟩ (fun K hK=>?_);go_simp;refine hK _ ?_;clear hK K
    refine wpAnyY_one 10 rfl (by kernel_rfl) ?_
    go_wp2
    refine ⟨⟨⟨_,hcur⟩,rfl⟩,?_⟩
    refine wpAnyY_one 11 rfl (by kernel_rfl) ?_
    go_wp2
    refine ⟨⟨⟨_,hcur⟩,rfl⟩,?_⟩
    refine wpAnyY_one 12 rfl (by kernel_rfl) ?_
    go_wp2
    refine ⟨⟨⟨_,hcur⟩,rfl⟩,?_⟩
    clear k0 k1 k3
    have hb:=S2.out.hb.trans (hcur.mono S2.out.hb.size)
    refine wpAnyY_done (by kernel_rfl) ?_ _
    go_wp2
    refine bodyPost_ret (v:=.tuple #[.string n,.string y.type,.bool true]) (by simp [results,Tryz.results64,go_sem]) rfl ?_
    exact ⟨hb,.inr ⟨n,y,HF.out,rfl⟩⟩
end Go.Proofs.YtffcklfigpmlgaaGreatDoor
namespace Go.Proofs.YtffcklfigpmlgaaGreatDoor
open Go.RowKit Go.Unit0

theorem wp_region_WB {id:Nat} {Q:Exit→Act→World→Prop} {a:Act} {l:List Oper} (W:World) (hB:Region.lexB .any l.toArray=true)
 (h:wpQuiet Tryz.prog l.toArray (fun w'=>∃ o:WB W,w' = o.u) (fun a'=>∀ w',(∃ o:WB W,w' = o.u)→Q .normal a' w') l a):(Code.region id l.toArray true).wp Tryz.prog Q a W :=
 wp_region_quiet (C:=fun w'=>∃ o:WB W,w' = o.u) (by kernel_rfl) hB ⟨⟨_,(Below.refl _ W).drew⟩,rfl⟩ (by simpa using h)
theorem Ret.inB {W:World} {o:WB W} {v:Value} {e:Ending} {w':World} (h:Ret o.u v e w'):e = .returned v∧∃ o':WB W,w' = o'.u:=⟨h.1,o.step h.2⟩
theorem Same.inB {W:World} {o:WB W} {v:Value} {e:Ending} {w':World} (h:Same o.u v e w'):e = .returned v∧∃ o':WB W,w' = o'.u:=⟨h.1,o,h.2.symm⟩
def sgV (g:Sgn) (pa:Option Addr) (pc:Nat):Value:=.agg #[.string g.name,.bool g.stat,.slice pa g.params.length pc,.string g.result]
structure SW (g k:Sgn) (pa:Option Addr) (pc:Nat) (qa:Option Addr) (qc:Nat) (w wr:World):Prop where
 hb:Below w.heap.size w wr
 b1:Blk wr w.heap.size #[.string g.name,.bool g.stat,.slice pa g.params.length pc,.string g.result] 87
 b2:Blk wr (w.heap.size + 1) #[.string k.name,.bool k.stat,.slice qa k.params.length qc,.string k.result] 87
 sp:StrsAt wr pa g.params
 sq:StrsAt wr qa k.params
theorem SW.below {g k:Sgn} {pa:Option Addr} {pc:Nat} {qa:Option Addr} {qc:Nat} {w wr w':World} (x:SW g k pa pc qa qc w wr) (hb:Below wr.heap.size wr w'):SW g k pa pc qa qc w w' :=
 ⟨x.hb.trans (hb.mono x.hb.size),x.b1.below hb,x.b2.below hb,x.sp.below hb,x.sq.below hb⟩
theorem sameSig_len {g k:Sgn} (h:g.params.length ≠ k.params.length):sameSig g k=false:=by
 have:(g.params.length == k.params.length)=false:=by simpa using h
 unfold sameSig;rw [this];rfl
theorem sameSig_res {g k:Sgn} (h:(g.result.toList == k.result.toList)=false):sameSig g k=false:=by
 have:eqB g.result k.result=false:=h
 unfold sameSig;rw [this];simp
theorem sameSig_par {g k:Sgn} (h:eqL g.params k.params=false):sameSig g k=false:=by
 unfold sameSig;rw [h];simp
theorem sameSig_t {g k:Sgn} (h1:g.params.length=k.params.length) (h2:(g.result.toList == k.result.toList)=true) (h3:eqL g.params k.params=true):sameSig g k=true:=by
 have:eqB g.result k.result=true:=h2
 unfold sameSig;rw [this,h3,h1];simp
set_option maxRecDepth 100000 in
set_option maxHeartbeats 2000000 in
theorem sameSig293 (g k:Sgn) (pa:Option Addr) (pc:Nat) (qa:Option Addr) (qc:Nat) (w:World) (hp:StrsAt w pa g.params) (hq:StrsAt w qa k.params) (hl:g.params.length≤100000) :
 Calls Tryz.prog 412 #[sgV g pa pc,sgV k qa qc] w (Ret w (.bool (sameSig g k))):=by
 unfold sgV
 have HB:=Lib.hid (two_below w (.cells #[.string g.name,.bool g.stat,.slice pa g.params.length pc,.string g.result] 87) (.cells #[.string k.name,.bool k.stat,.slice qa k.params.length qc,.string k.result] 87))
 have HP:=Lib.hid (hp.below HB.out)
 have HQ:=Lib.hid (hq.below HB.out)
 clear hp hq
 by_cases hlen:g.params.length=k.params.length
 case neg =>
  have HF:=Lib.hid (sameSig_len hlen)
  have t1:((g.params.length:Int) != (k.params.length:Int))=true:=by simp;omega
  clear hlen
  go_enter Tryz.func412,Tryz.ntmps412
  go_wp2
  go_ret
  exact ⟨ret_bool HF.out.symm,HB.out⟩
 have t1:((g.params.length:Int) != (k.params.length:Int))=false:=by simp;omega
 have HLEN:=Lib.hid hlen;clear hlen
 cases hres:(g.result.toList == k.result.toList)
 case false =>
  have HF:=Lib.hid (sameSig_res hres)
  go_enter Tryz.func412,Tryz.ntmps412
  go_wp2
  go_ret
  exact ⟨ret_bool HF.out.symm,HB.out⟩
 have HRES:=Lib.hid hres
 have S0:Hid (SW g k pa pc qa qc w ((w.alloc (.cells #[.string g.name,.bool g.stat,.slice pa g.params.length pc,.string g.result] 87)).alloc (.cells #[.string k.name,.bool k.stat,.slice qa k.params.length qc,.string k.result] 87))):=⟨HB.out,(blk_new ..).below (one_below ..),blk_new2 ..,HP.out,HQ.out⟩
 clear HP HQ HB
 go_enter Tryz.func412,Tryz.ntmps412
 go_wp2
 go_loopw [5] (fun i wr=>∃ q:Nat,q≤g.params.length∧i = .int .i64 q∧Hid (∀ j,j < q→∀ (ha:j < g.params.length) (hb:j < k.params.length),(g.params[j].toList == k.params[j].toList)=true)∧Hid (SW g k pa pc qa qc w wr)) (fun i _=>g.params.length - (intOf i).toNat)
 case atStart=>exact ⟨0,Nat.zero_le _,rfl,(fun j hj=>absurd hj (by omega)),S0.out⟩
 case round =>
  clear S0
  obtain ⟨q,hq,rfl,HI,S⟩:=hrel
  have x2:=S.out.b1.cell 2 (by simp)
  have y2:=S.out.b2.cell 2 (by simp)
  by_cases hlt:q < g.params.length
  case neg =>
   have HF:=Lib.hid (sameSig_t HLEN.out HRES.out (eqL_all HLEN.out fun j ha hb=>HI.out j (by omega) ha hb))
   go_wp2
   go_ret
   exact ⟨ret_bool HF.out.symm,S.out.hb⟩
  have hlt2:q < k.params.length:=by have:=HLEN.out;omega
  obtain ⟨b1,o1,rfl,m0⟩:=S.out.sp q hlt
  obtain ⟨b2,o2,rfl,n0⟩:=S.out.sq q hlt2
  cases hxy:(g.params[q].toList == k.params[q].toList)
  case false =>
   have HF:=Lib.hid (sameSig_par (eqL_miss hlt hlt2 hxy))
   generalize g.params[q]=x at *
   generalize k.params[q]=y at *
   go_upto_region 6 with (fail)
   have hne:Nonempty (WB wr):=⟨⟨wr,Below.refl _ _⟩⟩
   have k0:∀ o:WB wr,o.u.cell? ⟨w.heap.size,2,none⟩=some (.slice (some ⟨b1,o1,none⟩) g.params.length pc):=fun o=>cell_below o.h x2
   have k1:∀ o:WB wr,o.u.cell? ⟨w.heap.size + 1,2,none⟩=some (.slice (some ⟨b2,o2,none⟩) k.params.length qc):=fun o=>cell_below o.h y2
   have k2:∀ o:WB wr,o.u.cell? ⟨b1,o1 + q,none⟩=some (.string x):=fun o=>cell_below o.h m0
   have k3:∀ o:WB wr,o.u.cell? ⟨b2,o2 + q,none⟩=some (.string y):=fun o=>cell_below o.h n0
   clear x2 y2 m0 n0
   refine wp_region_WB wr (by kernel_rfl) ?_
   repeat (go_big_quiet_step (fail))
   refine wpQuiet_nil ?_
   intro _ hw'
   obtain ⟨o,rfl⟩:=hw'
   have S':=Lib.hid (S.out.below o.h)
   clear k0 k1 k2 k3
   go_wp2
   go_ret
   exact ⟨ret_bool HF.out.symm,S'.out.hb⟩
  have HI2:Hid (∀ j,j < q + 1→∀ (ha:j < g.params.length) (hb:j < k.params.length),(g.params[j].toList == k.params[j].toList)=true):=by
   intro j hj ha hb
   by_cases e:j < q
   ·exact HI.out j e ha hb
   ·obtain rfl:j=q:=by omega
    exact hxy
  clear HI
  generalize g.params[q]=x at *
  generalize k.params[q]=y at *
  go_upto_region 6 with (fail)
  have hne:Nonempty (WB wr):=⟨⟨wr,Below.refl _ _⟩⟩
  have k0:∀ o:WB wr,o.u.cell? ⟨w.heap.size,2,none⟩=some (.slice (some ⟨b1,o1,none⟩) g.params.length pc):=fun o=>cell_below o.h x2
  have k1:∀ o:WB wr,o.u.cell? ⟨w.heap.size + 1,2,none⟩=some (.slice (some ⟨b2,o2,none⟩) k.params.length qc):=fun o=>cell_below o.h y2
  have k2:∀ o:WB wr,o.u.cell? ⟨b1,o1 + q,none⟩=some (.string x):=fun o=>cell_below o.h m0
  have k3:∀ o:WB wr,o.u.cell? ⟨b2,o2 + q,none⟩=some (.string y):=fun o=>cell_below o.h n0
  clear x2 y2 m0 n0
  refine wp_region_WB wr (by kernel_rfl) ?_
  repeat (go_big_quiet_step (fail))
  refine wpQuiet_nil ?_
  intro _ hw'
  obtain ⟨o,rfl⟩:=hw'
  have S':=Lib.hid (S.out.below o.h)
  clear k0 k1 k2 k3
  go_wp2
  go_roundw
  case rel=>exact ⟨q + 1,by omega,by go_num,HI2.out,S'.out⟩
  case measure=>simp [intOf];omega
structure HW (h:List Cls) (g:Sgn) (a:Option Addr) (c:Nat) (pa:Option Addr) (pc:Nat) (w wr:World):Prop where
 hb:Below w.heap.size w wr
 b1:Blk wr w.heap.size #[.slice a h.length c] 24
 b2:Blk wr (w.heap.size + 1) #[.string g.name,.bool g.stat,.slice pa g.params.length pc,.string g.result] 87
 hc:ClssAt wr a h
 sp:StrsAt wr pa g.params
theorem HW.below {h:List Cls} {g:Sgn} {a:Option Addr} {c:Nat} {pa:Option Addr} {pc:Nat} {w wr w':World} (x:HW h g a c pa pc w wr) (hb:Below wr.heap.size wr w'):HW h g a c pa pc w w' :=
 ⟨x.hb.trans (hb.mono x.hb.size),x.b1.below hb,x.b2.below hb,x.hc.below hb,x.sp.below hb⟩
theorem types_par {h:List Cls} {g:Sgn} {q:Nat} (hq:q < g.params.length) (e:typeB h g.params[q]=false):typesE h g=8:=by
 have:g.params.all (typeB h)=false:=by rw [List.all_eq_false];exact ⟨_,List.getElem_mem hq,by simp [e]⟩
 unfold typesE;rw [if_pos this]
theorem types_res {h:List Cls} {g:Sgn} (h1:∀ j (hj:j < g.params.length),typeB h g.params[j]=true):typesE h g=if !emptyB g.result && !typeB h g.result then 8 else 0:=by
 have:g.params.all (typeB h)=true:=by
  rw [List.all_eq_true]
  intro x hx
  obtain ⟨j,hj,rfl⟩:=List.getElem_of_mem hx
  exact h1 j hj
 unfold typesE;rw [if_neg (by simp [this])]
theorem empty_iff {s:Str}:emptyB s=(s.toList == []):=by
 unfold emptyB;cases s.toList <;> rfl
set_option maxRecDepth 100000 in
set_option maxHeartbeats 2000000 in
theorem types276 (h:List Cls) (g:Sgn) (a:Option Addr) (c:Nat) (pa:Option Addr) (pc:Nat) (w:World) (hc:ClssAt w a h) (hp:StrsAt w pa g.params) (hl:h.length≤100000) (hl2:g.params.length≤100000) :
 Calls Tryz.prog 366 #[.agg #[.slice a h.length c],sgV g pa pc] w (Ret w (.int .i64 (typesE h g))):=by
 unfold sgV
 have HB:=two_below w (.cells #[.slice a h.length c] 24) (.cells #[.string g.name,.bool g.stat,.slice pa g.params.length pc,.string g.result] 87)
 have S0:Hid (HW h g a c pa pc w ((w.alloc (.cells #[.slice a h.length c] 24)).alloc (.cells #[.string g.name,.bool g.stat,.slice pa g.params.length pc,.string g.result] 87))):=⟨HB,(blk_new ..).below (one_below ..),blk_new2 ..,hc.below HB,hp.below HB⟩
 clear hc hp HB
 go_enter Tryz.func366,Tryz.ntmps366
 go_wp2
 go_loopw [5] (fun i wr=>∃ q:Nat,q≤g.params.length∧i = .int .i64 q∧Hid (∀ j,j < q→∀ (hj:j < g.params.length),typeB h g.params[j]=true)∧Hid (HW h g a c pa pc w wr)) (fun i _=>g.params.length - (intOf i).toNat)
 case atStart=>exact ⟨0,Nat.zero_le _,rfl,(fun j hj=>absurd hj (by omega)),S0.out⟩
 case round =>
  clear S0
  obtain ⟨q,hq,rfl,HI,S⟩:=hrel
  have x0:=S.out.b1.cell 0 (by simp)
  have y2:=S.out.b2.cell 2 (by simp)
  have y3:=S.out.b2.cell 3 (by simp)
  by_cases hlt:q < g.params.length
  case neg =>
   have HF:=Lib.hid (@types_res h g (fun j hj=>HI.out j (by omega) hj))
   rw [empty_iff] at HF
   cases hr:(g.result.toList == ([]:List UInt8))
   case true =>
    rw [hr] at HF
    go_wp2
    go_ret
    exact ⟨ret_int (by rw [HF.out];rfl),S.out.hb⟩
   rw [hr] at HF
   go_wp2_with fail
   refine (type203 h g.result a c _ S.out.hc hl).mono ?_
   rintro e w2 ⟨rfl,hb2⟩
   have S2:=Lib.hid (S.out.below hb2)
   cases ht:typeB h g.result
   ·rw [ht] at HF
    go_wp2
    go_ret
    exact ⟨ret_int (by rw [HF.out];rfl),S2.out.hb⟩
   ·rw [ht] at HF
    go_wp2
    go_ret
    exact ⟨ret_int (by rw [HF.out];rfl),S2.out.hb⟩
  obtain ⟨b1,o1,rfl,m0⟩:=S.out.sp q hlt
  have HT:=Lib.hid (@types_par h g q hlt)
  have HI2:Hid (typeB h g.params[q]=true→∀ j,j < q + 1→∀ (hj:j < g.params.length),typeB h g.params[j]=true):=by
   intro e j hj hj2
   by_cases e2:j < q
   ·exact HI.out j e2 hj2
   ·obtain rfl:j=q:=by omega
    exact e
  clear HI
  generalize g.params[q]=x at *
  go_upto_region 4 with (fail)
  have hne:Nonempty (WB wr):=⟨⟨wr,Below.refl _ _⟩⟩
  have k0:∀ o:WB wr,o.u.cell? ⟨w.heap.size,0,none⟩=some (.slice a h.length c):=fun o=>cell_below o.h x0
  have k1:∀ o:WB wr,o.u.cell? ⟨w.heap.size + 1,2,none⟩=some (.slice (some ⟨b1,o1,none⟩) g.params.length pc):=fun o=>cell_below o.h y2
  have k2:∀ o:WB wr,o.u.cell? ⟨b1,o1 + q,none⟩=some (.string x):=fun o=>cell_below o.h m0
  clear x0 y2 y3 m0
  refine wp_region_WB wr (by kernel_rfl) ?_
  repeat (go_big_quiet_step ((rename_i o;exact (type203 h x a c _ (S.out.hc.below o.h) hl).mono (fun _ _ h=>Ret.inB h))))
  refine wpQuiet_nil ?_
  intro _ hw'
  obtain ⟨o,rfl⟩:=hw'
  have S':=Lib.hid (S.out.below o.h)
  clear k0 k1 k2
  cases ht:typeB h x
  ·have HF:=Lib.hid (HT.out ht)
   go_wp2
   go_ret
   exact ⟨ret_int HF.out.symm,S'.out.hb⟩
  ·have HN:=Lib.hid (HI2.out ht)
   go_wp2
   go_roundw
   case rel=>exact ⟨q + 1,by omega,by go_num,HN.out,S'.out⟩
   case measure=>simp [intOf];omega
end Go.Proofs.YtffcklfigpmlgaaGreatDoor
