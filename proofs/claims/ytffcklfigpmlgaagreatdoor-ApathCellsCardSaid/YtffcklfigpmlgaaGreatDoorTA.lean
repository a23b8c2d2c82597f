/-
  The program's tables of a hierarchy: find, super.
  The program's tables of a hierarchy: super.
  The program's tables of a hierarchy: chain.
  The program's tables of a hierarchy: tableOf.
  The program's tables of a hierarchy: tableOf.
-/
import Derived.Test.YtffcklfigpmlgaaGreatDoorVA
import Derived.Test.YtffcklfigpmlgaaGreatDoorMP
import Derived.Test.YtffcklfigpmlgaaGreatDoorVB
import Derived.Test.YtffcklfigpmlgaaGreatDoorWA
namespace Go.Proofs.YtffcklfigpmlgaaGreatDoor
open Go.RowKit Go.Unit0 Go.AM

theorem keyStr:MKey Tryz.prog 9 Value.string:=mkey_str (by kernel_rfl)
theorem keyInt:MKey Tryz.prog 3 (Value.int .i64):=mkey_int (by kernel_rfl)
theorem undMSI:Tryz.prog.underlying 177=some (.map 9 3):=by kernel_rfl
theorem undMIB:Tryz.prog.underlying 159=some (.map 3 4):=by kernel_rfl
theorem zeroInt (w:World):(zeroValue 3).run Tryz.prog w = .ok (.int .i64 0) w:=by kernel_rfl
theorem zeroBool (w:World):(zeroValue 4).run Tryz.prog w = .ok (.bool false) w:=by kernel_rfl
def tabF (h:List Cls) (s:Str):Option Value:=if 0≤findI h s then some (.int .i64 (findI h s)) else none
abbrev TabAt (w:World) (g:Nat) (h:List Cls):Prop:=MapF w g Value.string (tabF h) h.length
theorem findI_neg {h:List Cls} {s:Str} (e:¬ 0≤findI h s):findI h s = -1:=by
 rcases find_spec h s with ⟨f1,f2⟩ | ⟨j,hj,f1,f2,_⟩ <;> omega
set_option maxHeartbeats 1000000 in
theorem tfind (h:List Cls) (s:Str) (a:Option Addr) (c g:Nat) (w:World) (hg:TabAt w g h) :
 Calls Tryz.prog 188 #[.agg #[.slice a h.length c,.map (some g)],.string s] w (Ret w (.int .i64 (findI h s))):=by
 have HB:=Lib.hid (one_below w (.cells #[.slice a h.length c,.map (some g)] 179))
 have HG:=Lib.hid (hg.below HB.out)
 clear hg
 go_enter Tryz.func188,Tryz.ntmps188
 by_cases hq:0≤findI h s
 ·have HF:Hid (tabF h s=some (.int .i64 (findI h s))):=by show _=_;unfold tabF;rw [if_pos hq]
  generalize tabF h=F at *
  generalize findI h s=r at *
  go_wp2_with (at_lookup;refine wpList_lookF rfl _ _ _ _ rfl keyStr undMSI _ (zeroInt _) g rfl HG.out s rfl ?_;rw [HF.out])
  go_ret
  exact ⟨rfl,HB.out⟩
 ·have HF:Hid (tabF h s=none):=by show _=_;unfold tabF;rw [if_neg hq]
  have hr:=findI_neg hq
  rw [hr]
  generalize tabF h=F at *
  go_wp2_with (at_lookup;refine wpList_lookF rfl _ _ _ _ rfl keyStr undMSI _ (zeroInt _) g rfl HG.out s rfl ?_;rw [HF.out])
  go_ret
  exact ⟨rfl,HB.out⟩
end Go.Proofs.YtffcklfigpmlgaaGreatDoor
namespace Go.Proofs.YtffcklfigpmlgaaGreatDoor
open Go.RowKit Go.Unit0 Go.AM

structure TB (h:List Cls) (a:Option Addr) (c g:Nat) (w wr:World):Prop where
 hb:Below w.heap.size w wr
 b1:Blk wr w.heap.size #[.slice a h.length c,.map (some g)] 179
 hc:ClssAt wr a h
 tg:TabAt wr g h
theorem TB.below {h:List Cls} {a:Option Addr} {c g:Nat} {w wr w':World} (k:TB h a c g w wr) (hb:Below wr.heap.size wr w'):TB h a c g w w':=⟨k.hb.trans (hb.mono k.hb.size),k.b1.below hb,k.hc.below hb,k.tg.below hb⟩
theorem TB.start {h:List Cls} {a:Option Addr} {c g:Nat} {w:World} (hc:ClssAt w a h) (tg:TabAt w g h):TB h a c g w (w.alloc (.cells #[.slice a h.length c,.map (some g)] 179)) :=
 ⟨one_below ..,blk_new ..,hc.below (one_below ..),tg.below (one_below ..)⟩
theorem TB.now {h:List Cls} {a:Option Addr} {c g:Nat} {w wr o:World} (k:TB h a c g w wr) (hb:Below wr.heap.size wr o):o.cell? ⟨w.heap.size,0,none⟩=some (.slice a h.length c)∧o.cell? ⟨w.heap.size,1,none⟩=some (.map (some g)) :=
 ⟨(k.below hb).b1.cell 0 (by simp),(k.below hb).b1.cell 1 (by simp)⟩
def supI (h:List Cls) (x:Cls):Int:=if (x.super.toList == ([]:List UInt8))=true then -1 else findI h x.super
set_option maxHeartbeats 2000000 in
theorem tsuper (h:List Cls) (a:Option Addr) (c g i:Nat) (hi:i < h.length) (w:World) (hc:ClssAt w a h) (_hl:h.length≤100000) (hg:TabAt w g h) :
 Calls Tryz.prog 282 #[.agg #[.slice a h.length c,.map (some g)],.int .i64 i] w (Ret w (.int .i64 (supI h h[i]))):=by
 have S:=Lib.hid (TB.start (c:=c) hc hg)
 have HF:Hid (∀ (s:Str) (w1:World),TabAt w1 g h→Calls Tryz.prog 188 #[.agg #[.slice a h.length c,.map (some g)],.string s] w1 (Ret w1 (.int .i64 (findI h s)))):=fun s w1 h1=>tfind h s a c g w1 h1
 clear hc hg
 have HD:Hid (supI h h[i]=if (h[i].super.toList == ([]:List UInt8))=true then -1 else findI h h[i].super):=rfl
 generalize supI h h[i]=r at *
 go_enter Tryz.func282,Tryz.ntmps282
 go_upto_region 1 with (fail)
 generalize w.alloc _=W at *
 obtain ⟨z0,z1⟩:=S.out.now (Below.refl _ _)
 obtain ⟨b,off,fa,fc,ma,mc,he,m0,m1,m2,m3,_,_⟩:=S.out.hc i hi
 subst he
 generalize h[i]=x at *
 cases hq:(x.super.toList == ([]:List UInt8))
 ·rw [hq,if_neg (by simp)] at HD
  go_upto_region 3 with (fail)
  have hne:Nonempty (WB W):=⟨⟨W,Below.refl _ _⟩⟩
  have k0:∀ o:WB W,o.u.cell? ⟨w.heap.size,0,none⟩=some (.slice (some ⟨b,off,none⟩) h.length c):=fun o=>(S.out.now o.h).1
  have k1:∀ o:WB W,o.u.cell? ⟨w.heap.size,1,none⟩=some (.map (some g)):=fun o=>(S.out.now o.h).2
  have k2:∀ o:WB W,o.u.cell? ⟨b,off + i * 4 + 1,none⟩=some (.string x.super):=fun o=>cell_below o.h m1
  clear z0 z1 m0 m1 m2 m3
  refine wp_region_WB W (by kernel_rfl) ?_
  repeat (go_big_quiet_step ((rename_i o;exact (HF.out x.super _ (S.out.below o.h).tg).mono (fun _ _ h=>Ret.inB h))))
  refine wpQuiet_nil ?_
  intro _ hw'
  obtain ⟨o,rfl⟩:=hw'
  have S':=Lib.hid (S.out.below o.h)
  clear k0 k1 k2
  go_wp2
  go_ret
  exact ⟨ret_int HD.out.symm,S'.out.hb⟩
 ·rw [hq,if_pos rfl] at HD
  go_wp2
  go_ret
  exact ⟨ret_int HD.out.symm,S.out.hb⟩
end Go.Proofs.YtffcklfigpmlgaaGreatDoor
namespace Go.Proofs.YtffcklfigpmlgaaGreatDoor
open Go.RowKit Go.Unit0 Go.AM

theorem owns_mapF {κ:Type} [DecidableEq κ] {w:World} {base e s n:Nat} {v:Value} {xs:List Value} (h:w.ownsRow base e s v n xs) {g:Nat} {enc:κ→Value} {F:κ→Option Value} {m:Nat} (hm:MapF w g enc F m):some g ≠ v.ownBlock:=by
 obtain ⟨l,ar,c,hg,_⟩:=hm.ex
 rcases h.2 with ⟨rfl,_⟩ | ⟨g',cap,cur,rfl,_,hh,_⟩
 ·simp [Value.ownBlock]
 ·simp only [Value.ownBlock,ne_eq,Option.some.injEq]
  rintro rfl
  rw [hg] at hh
  cases hh
theorem owns_put {κ:Type} [DecidableEq κ] {w w':World} {base e s n:Nat} {v:Value} {xs:List Value} (h:w.ownsRow base e s v n xs) {g:Nat} {enc:κ→Value} {F:κ→Option Value} {m:Nat} (hm:MapF w g enc F m) (hg:w.grownBy w' (some g)):w'.ownsRow base e s v n xs :=
 h.kept hg (.inr (fun e=>owns_mapF h hm e.symm))
theorem blk_mapF {κ:Type} [DecidableEq κ] {w:World} {b:Nat} {cs:Array Value} {t:TypeId} (h:Blk w b cs t) {g:Nat} {enc:κ→Value} {F:κ→Option Value} {m:Nat} (hm:MapF w g enc F m):some b ≠ some g:=by
 obtain ⟨l,ar,c,hg,_⟩:=hm.ex
 intro e
 cases e
 unfold Blk at h
 rw [hg] at h
 cases h
def supAt (h:List Cls) (i:Int):Int:=match h[i.toNat]? with
 | some x=>supI h x
 | none=>-1
def chIF (h:List Cls):Nat→Int→List Int→List Int × Int
 | 0,i,l=>(l,i)
 | n + 1,i,l=>if 0≤i∧i ∉ l then chIF h n (supAt h i) (l ++ [i]) else (l,i)
def chI (h:List Cls) (i:Int):List Int × Int:=chIF h (h.length + 1) i []
theorem chIF_go {h:List Cls} {n:Nat} {i:Int} {l:List Int} (h1:0≤i) (h2:i ∉ l):chIF h (n + 1) i l=chIF h n (supAt h i) (l ++ [i]):=by
 show (if 0≤i∧i ∉ l then chIF h n (supAt h i) (l ++ [i]) else (l,i))=_
 rw [if_pos ⟨h1,h2⟩]
theorem chIF_stop {h:List Cls} {n:Nat} {i:Int} {l:List Int} (h1:¬ (0≤i∧i ∉ l)):chIF h (n + 1) i l=(l,i):=by
 show (if 0≤i∧i ∉ l then chIF h n (supAt h i) (l ++ [i]) else (l,i))=_
 rw [if_neg h1]
def setF (l:List Int) (k:Int):Option Value:=if k ∈ l then some (.bool true) else none
theorem setF_snoc (l:List Int) (i:Int):(fun k'=>if k' = i then some (.bool true) else setF l k')=setF (l ++ [i]):=by
 funext k
 unfold setF
 by_cases h1:k=i
 ·subst h1;simp
 ·rw [if_neg h1];simp [h1]
theorem setF_nil:(fun _:Int=>(none:Option Value))=setF []:=by funext k;simp [setF]
theorem nodup_len (n:Nat) (l:List Int) (hn:l.Nodup) (h:∀ x ∈ l,∃ j:Nat,j < n∧x=j):l.length≤n:=by
 have:=nodup_sub_len (m:=(List.range n).map (fun j:Nat=>(j:Int))) hn (fun x hx=>by
  obtain ⟨j,hj,rfl⟩:=h x hx
  exact List.mem_map.2 ⟨j,List.mem_range.2 hj,rfl⟩)
 simpa using this
structure CH (h:List Cls) (a:Option Addr) (c g:Nat) (gm:Nat) (i0:Int) (w wr:World) (n:Nat) (i:Int) (l:List Int) (v:Value):Prop where
 tb:TB h a c g w wr
 mp:MapF wr gm (Value.int .i64) (setF l) l.length
 ge:w.heap.size≤gm
 ow:wr.ownsRow w.heap.size 3 1 v l.length (l.map intV)
 nd:l.Nodup
 al:∀ x ∈ l,∃ j:Nat,j < h.length∧x=j
 il:i = -1 ∨ ∃ j:Nat,j < h.length∧i=j
 eq:chIF h n i l=chI h i0
 ln:n + l.length=h.length + 1
theorem CH.below {h:List Cls} {a:Option Addr} {c g gm:Nat} {i0:Int} {w wr w':World} {n:Nat} {i:Int} {l:List Int} {v:Value} (k:CH h a c g gm i0 w wr n i l v) (hb:Below wr.heap.size wr w'):CH h a c g gm i0 w w' n i l v :=
 ⟨k.tb.below hb,k.mp.below hb,k.ge,owns_below k.ow hb,k.nd,k.al,k.il,k.eq,k.ln⟩
theorem supAt_in {h:List Cls} (i:Int):supAt h i = -1 ∨ ∃ j:Nat,j < h.length∧supAt h i=j:=by
 unfold supAt
 split
 ·rename_i x _
  unfold supI
  split
  ·exact .inl rfl
  ·rcases find_spec h x.super with ⟨_,f2⟩ | ⟨j,hj,f1,_,_⟩
   ·exact .inl f2
   ·exact .inr ⟨j,hj,f1⟩
 ·exact .inl rfl
def ChPost (h:List Cls) (i:Int) (w:World) (e:Ending) (w':World):Prop :=
 Below w.heap.size w w'∧∃ oa oc,e = .returned (.tuple #[.slice oa (chI h i).1.length oc,.bool (decide (0≤(chI h i).2))])∧w'.ownsRow w.heap.size 3 1 (.slice oa (chI h i).1.length oc) (chI h i).1.length ((chI h i).1.map intV)
set_option maxRecDepth 100000 in
set_option maxHeartbeats 4000000 in
theorem tchain (h:List Cls) (a:Option Addr) (c g:Nat) (i0:Int) (hi:i0 = -1 ∨ ∃ j:Nat,j < h.length∧i0=j) (w:World) (hc:ClssAt w a h) (hl:h.length≤100000) (hg:TabAt w g h) :
 Calls Tryz.prog 187 #[.agg #[.slice a h.length c,.map (some g)],.int .i64 i0] w (ChPost h i0 w):=by
 have S0:=Lib.hid (TB.start (c:=c) hc hg)
 have HS:Hid (∀ (j:Nat) (hj:j < h.length) (w1:World),ClssAt w1 a h→TabAt w1 g h→Calls Tryz.prog 282 #[.agg #[.slice a h.length c,.map (some g)],.int .i64 j] w1 (Ret w1 (.int .i64 (supI h h[j])))):=fun j hj w1 h1 h2=>tsuper h a c g j hj w1 h1 hl h2
 have HC0:=Lib.hid hc
 have HT0:=Lib.hid hg
 clear hc hg
 go_enter Tryz.func187,Tryz.ntmps187
 go_upto_region 1 with (fail)
 generalize w.alloc _=W at *
 have hWs:=S0.out.hb.size
 go_wp2_with (refine wpList_makeF rfl 159 rfl undMIB (Value.int .i64) ?_;intro hmp)
 have R0:Hid (CH h a c g W.heap.size i0 w (W.alloc (.map #[] 0)) (h.length + 1) i0 [] (.slice none 0 0)) :=
  ⟨S0.out.below (one_below ..),by rw [← setF_nil];exact hmp,hWs,World.ownsRow_nil _ _ _ _,List.nodup_nil,by simp,hi,rfl,by simp⟩
 generalize hgm:W.heap.size=gm at *
 generalize W.alloc (.map #[] 0)=W1 at *
 clear hmp S0 hgm hWs
 go_loopw [1,4] (fun i v wr=>∃ n j l,∃ (oa:Option Addr) (oc:Nat),i = .int .i64 j∧v = .slice oa l.length oc∧Hid (CH h a c g gm i0 w wr n j l (.slice oa l.length oc))) (fun _ v _=>h.length + 1 - slLen v)
 case atStart=>exact ⟨_,_,[],none,0,rfl,rfl,R0.out⟩
 case round =>
  clear R0
  obtain ⟨n,j,l,oa,oc,rfl,rfl,R⟩:=hrel
  have hll:=nodup_len _ _ R.out.nd R.out.al
  have hln:=R.out.ln
  obtain ⟨n,rfl⟩:∃ m,n=m + 1:=⟨n - 1,by omega⟩
  by_cases hj:0≤j
  case neg =>
   have HE:Hid (chI h i0=(l,j)):=by show _=_;rw [← R.out.eq,chIF_stop (fun k=>hj k.1)]
   go_wp2
   refine bodyPost_ret (v:=.tuple #[.slice oa l.length oc,.bool false]) (by simp [results,Tryz.results187,go_sem]) rfl ?_
   exact ⟨R.out.tb.hb,oa,oc,by rw [HE.out];simp [hj],by rw [HE.out];exact R.out.ow⟩
  case pos =>
   by_cases hm:j ∈ l
   case pos =>
    have HE:Hid (chI h i0=(l,j)):=by show _=_;rw [← R.out.eq,chIF_stop (fun k=>k.2 hm)]
    have hlk:(Instr.lookup 159 (.map (some gm)) (.int .i64 j) false).run Tryz.prog wr = .ok (.bool true) wr:=by rw [R.out.mp.lookup keyInt undMIB (zeroBool wr) j false];simp [setF,hm]
    go_wp2
    refine bodyPost_ret (v:=.tuple #[.slice oa l.length oc,.bool true]) (by simp [results,Tryz.results187,go_sem]) rfl ?_
    exact ⟨R.out.tb.hb,oa,oc,by rw [HE.out];simp [hj],by rw [HE.out];exact R.out.ow⟩
   case neg =>
    have hlk:(Instr.lookup 159 (.map (some gm)) (.int .i64 j) false).run Tryz.prog wr = .ok (.bool false) wr:=by rw [R.out.mp.lookup keyInt undMIB (zeroBool wr) j false];simp [setF,hm]
    have HE:Hid (chIF h n (supAt h j) (l ++ [j])=chI h i0):=by show _=_;rw [← R.out.eq,chIF_go hj hm]
    obtain ⟨k,hk,rfl⟩:∃ k:Nat,k < h.length∧j=k:=by
     rcases R.out.il with rfl | h1
     ·omega
     ·exact h1
    have hws:=R.out.tb.hb.size
    go_upto_region 4 with (at_mapUpdate;refine wpList_mapF rfl _ _ _ _ rfl keyInt undMIB gm rfl R.out.mp (k:Int) rfl (.bool true) rfl ?_;intro w2 hm2 hg2 hs2)
    have hb2:Below w.heap.size w w2:=R.out.tb.hb.grown hg2 hws (fun q hq=>by cases hq;exact R.out.ge)
    have MP2:Hid (MapF w2 gm (Value.int .i64) (setF (l ++ [(k:Int)])) (l.length + 1)):=by rw [setF_snoc] at hm2;exact hm2
    have OW2:=Lib.hid (owns_put R.out.ow R.out.mp hg2)
    have X2:=Lib.hid (R.out.tb.b1.grown hg2 (blk_mapF R.out.tb.b1 R.out.mp))
    have HB2:=Lib.hid hb2
    have hs2':w.heap.size≤w2.heap.size:=by omega
    have HN:=Lib.hid R.out.nd
    have HA:=Lib.hid R.out.al
    have hge:=R.out.ge
    clear R hm2 hg2 hb2 hlk hs2
    have O1:=Lib.hid (owns_below OW2.out (one_below w2 (.cells #[.int .i64 k] 3)))
    have M1:=Lib.hid (MP2.out.below (one_below w2 (.cells #[.int .i64 k] 3)))
    have X1:=Lib.hid (X2.out.below (one_below w2 (.cells #[.int .i64 k] 3)))
    have B1:=Lib.hid (HB2.out.trans ((one_below w2 (.cells #[.int .i64 k] 3)).mono hs2'))
    go_upto_region 5 with (at_builtin;refine app_ints rfl _ _ rfl w.heap.size _ l rfl O1.out _ 1 [(k:Int)] rfl (ints_new _ _) (by omega) (by simp) (by simp;omega) ?_;intro v' w3 own3 grown3)
    have hb3:Below w.heap.size w w3:=B1.out.grown grown3 (by simp;omega) (fun q hq=>(O1.out.lt q hq).1)
    have M3:=Lib.hid (M1.out.grown grown3 (owns_mapF O1.out M1.out))
    have X3:=Lib.hid (X1.out.grown grown3 (owns_ne O1.out X1.out (by decide)))
    have OW3:=Lib.hid own3
    obtain ⟨hlen3,oa',oc',rfl,-,-⟩:=owns_ints own3
    have S3:Hid (TB h a c g w w3):=⟨hb3,X3.out,HC0.out.below hb3,HT0.out.below hb3⟩
    clear O1 M1 X1 B1 own3 grown3 hb3 OW2 X2 HB2 MP2 X3
    obtain ⟨z0,z1⟩:=S3.out.now (Below.refl _ _)
    go_wp2_with (go_at_call 282;refine (HS.out k hk _ S3.out.hc S3.out.tg).mono ?_;rintro e w4 ⟨rfl,hb4⟩)
    have hsk:supAt h (k:Int)=supI h h[k]:=by simp [supAt,hk]
    have S4:=Lib.hid (S3.out.below hb4)
    have M4:=Lib.hid (M3.out.below hb4)
    have OW4:=Lib.hid (owns_below OW3.out hb4)
    go_roundw
    case rel =>
     refine ⟨n,supI h h[k],l ++ [(k:Int)],oa',oc',rfl,by simp,S4.out,by simpa using M4.out,hge,OW4.out,?_,?_,by rw [← hsk];exact supAt_in _,by rw [← hsk];exact HE.out,by simp;omega⟩
     ·rw [List.nodup_append]
      exact ⟨HN.out,by simp,fun x hx y hy e=>by rw [List.mem_singleton.1 hy] at e;exact hm (e ▸ hx)⟩
     ·intro x hx
      rcases List.mem_append.1 hx with hx | hx
      ·exact HA.out x hx
      ·exact ⟨k,hk,List.mem_singleton.1 hx⟩
    case measure=>simp [slLen];omega
end Go.Proofs.YtffcklfigpmlgaaGreatDoor
namespace Go.Proofs.YtffcklfigpmlgaaGreatDoor
open Go.RowKit Go.Unit0 Go.AM

theorem findFrom_snoc (s:Str) (x:Cls):∀ (l:List Cls) (k:Nat),findFrom s (l ++ [x]) k=if 0≤findFrom s l k then findFrom s l k else if eqB x.name s=true then ((k + l.length:Nat):Int) else -1
 | [],k=>by
   show (if eqB x.name s=true then (k:Int) else findFrom s [] (k + 1))=_
   rw [if_neg (show ¬ (0:Int)≤findFrom s [] k by show ¬ (0:Int)≤-1;omega)]
   rfl
 | y :: l,k=>by
   show (if eqB y.name s=true then (k:Int) else findFrom s (l ++ [x]) (k + 1))=_
   by_cases h:eqB y.name s=true
   ·have e:findFrom s (y :: l) k=k:=by show (if eqB y.name s=true then (k:Int) else _)=_;rw [if_pos h]
    rw [if_pos h,e,if_pos (by omega)]
   ·have e:findFrom s (y :: l) k=findFrom s l (k + 1):=by show (if eqB y.name s=true then (k:Int) else _)=_;rw [if_neg h]
    rw [if_neg h,e,findFrom_snoc s x l (k + 1),List.length_cons]
    have:k + 1 + l.length=k + (l.length + 1):=by omega
    rw [this]
theorem findI_snoc (s:Str) (x:Cls) (l:List Cls):findI (l ++ [x]) s=if 0≤findI l s then findI l s else if eqB x.name s=true then (l.length:Int) else -1:=by
 have:=findFrom_snoc s x l 0
 rw [Nat.zero_add] at this
 exact this
theorem tabF_nil:(fun _:Str=>(none:Option Value))=tabF []:=by funext s;rfl
theorem tabF_old {l:List Cls} {x:Cls} (h:0≤findI l x.name):tabF (l ++ [x])=tabF l:=by
 funext s
 unfold tabF
 rw [findI_snoc]
 by_cases h1:0≤findI l s
 ·rw [if_pos h1]
 ·rw [if_neg h1,if_neg h1]
  have:eqB x.name s=false:=by
   cases hq:eqB x.name s with
   | false=>rfl
   | true =>
     have:x.name=s:=bytes_same hq
     rw [this] at h
     exact absurd h h1
  rw [this];simp
theorem tabF_new {l:List Cls} {x:Cls} (h:¬ 0≤findI l x.name):(fun s=>if s=x.name then some (.int .i64 (l.length:Int)) else tabF l s)=tabF (l ++ [x]):=by
 funext s
 unfold tabF
 rw [findI_snoc]
 by_cases hs:s=x.name
 ·subst hs
  rw [if_pos rfl,if_neg h,if_pos (show eqB x.name x.name=true by simp [eqB]),if_pos (by omega)]
 ·rw [if_neg hs]
  have:eqB x.name s=false:=by
   cases hq:eqB x.name s with
   | false=>rfl
   | true=>exact absurd (bytes_same hq).symm hs
  rw [this,if_neg (by simp:¬ false=true)]
  by_cases h1:0≤findI l s
  ·simp [h1]
  ·simp [h1]
structure TO (h:List Cls) (a:Option Addr) (c:Nat) (w wr:World) (b gm:Nat) (k:Nat):Prop where
 hb:Below w.heap.size w wr
 bx:Blk wr w.heap.size #[.slice a h.length c] 24
 rs:Blk wr (w.heap.size + 1) #[.slice none 0 0,.map none] 179
 tb:Blk wr b #[.slice a h.length c,.map (some gm)] 179
 mp:MapF wr gm Value.string (tabF (h.take k)) k
 gb:w.heap.size + 2≤b
 gg:w.heap.size + 2≤gm
theorem TO.below {h:List Cls} {a:Option Addr} {c:Nat} {w wr w':World} {b gm k:Nat} (x:TO h a c w wr b gm k) (hb:Below wr.heap.size wr w'):TO h a c w w' b gm k :=
 ⟨x.hb.trans (hb.mono x.hb.size),x.bx.below hb,x.rs.below hb,x.tb.below hb,x.mp.below hb,x.gb,x.gg⟩
theorem storeTab {ops:Array Oper} {rest:List Oper} {o:Oper} {a:Act} {w:World} {Q:Exit→Act→World→Prop} (hgd:o.guard=none) (x y:Operand) (ho:o.op = .store 179 x y)
 (g:Nat) (ad:Option Addr) (n c gm:Nat) (hx:a.eval x = .pointer (some ⟨g,0,none⟩)) (hy:a.eval y = .agg #[.slice ad n c,.map (some gm)])
 (old:Array Value) (hg:Blk w g old 179) (hold:old.size=2)
 (h:wpList Tryz.prog ops Q rest (a.put o.dst undef) (w.setRow g #[.slice ad n c,.map (some gm)])):wpList Tryz.prog ops Q (o :: rest) a w :=
 wpList_store_row hgd 179 x y ho g _ hx hy 179 old hg (by kernel_rfl) hold (by simp [Value.oneCell']) h
theorem makeHint (n:Nat) (w:World):(Instr.makeMap 177 (some (.int .i64 (n:Int)))).run Tryz.prog w = .ok (.map (some w.heap.size)) (w.alloc (.map #[] 0)):=by
 simp [Instr.makeMap,run_underlying undMSI,newObj,asInt]
 rfl
def TabPost (h:List Cls) (a:Option Addr) (c:Nat) (w:World) (e:Ending) (w':World):Prop:=Below w.heap.size w w'∧∃ g,e = .returned (.agg #[.slice a h.length c,.map (some g)])∧TabAt w' g h∧w.heap.size≤g
end Go.Proofs.YtffcklfigpmlgaaGreatDoor
namespace Go.Proofs.YtffcklfigpmlgaaGreatDoor
open Go.RowKit Go.Unit0 Go.AM

theorem more {κ:Type} [DecidableEq κ] {w:World} {g n m:Nat} {enc:κ→Value} {F:κ→Option Value} (h:MapF w g enc F n) (hm:n≤m):MapF w g enc F m:=by
 obtain ⟨l,ar,c,h1,h2,h3,h4,h5,h6⟩:=h.ex
 exact ⟨l,ar,c,h1,h2,h3,h4,by omega,h6⟩
theorem results_c {P:Program} {fn:Func} {p:Tmp} {ty:TypeId} (h:fn.results = #[.cell p ty]) (tmps:Array Value) (w:World) (g:Nat) (cs:Array Value) (d:TypeDesc)
 (hp:tmps.getD p undef = .pointer (some ⟨g,0,none⟩)) (hg:Blk w g cs ty)
 (hu:P.underlying ty=some d) (hd:(match d with | .struct _ | .array _ _=>true | _=>false)=true) (hi:(P.info? ty).map (·.size)=some cs.size) :
 (results fn tmps).run P w = .ok (.agg cs) w:=by
 have hp':tmps[p]?.getD undef = .pointer (some ⟨g,0,none⟩):=by simpa using hp
 simp [results,h,hp',asAddr,run_loadVar_row w g ty ty cs (0,0) d hg hu hd hi]
set_option maxRecDepth 100000 in
set_option maxHeartbeats 4000000 in
theorem tableOf (h:List Cls) (a:Option Addr) (c:Nat) (w:World) (hc:ClssAt w a h) (hl:h.length≤100000) :
 Calls Tryz.prog 98 #[.agg #[.slice a h.length c]] w (TabPost h a c w):=by
 have HB0:=Lib.hid (two_below w (.cells #[.slice a h.length c] 24) (.cells #[.slice none 0 0,.map none] 179))
 have BX0:Hid (Blk ((w.alloc (.cells #[.slice a h.length c] 24)).alloc (.cells #[.slice none 0 0,.map none] 179)) w.heap.size #[.slice a h.length c] 24):=(blk_new w #[.slice a h.length c] 24).below (one_below ..)
 have RS0:Hid (Blk ((w.alloc (.cells #[.slice a h.length c] 24)).alloc (.cells #[.slice none 0 0,.map none] 179)) (w.heap.size + 1) #[.slice none 0 0,.map none] 179):=blk_new2 ..
 have HZ:Hid (((w.alloc (.cells #[.slice a h.length c] 24)).alloc (.cells #[.slice none 0 0,.map none] 179)).heap.size=w.heap.size + 2):=by show _=_;simp
 have HC:=Lib.hid hc
 have HR:=Tryz.results98
 clear hc
 go_enter Tryz.func98,Tryz.ntmps98
 go_upto_region 1 with (fail)
 generalize (w.alloc _).alloc _=W at *
 go_cut [3] (fun v wx=>∃ b gm,v = .pointer (some ⟨b,0,none⟩)∧Hid (TO h a c w wx b gm 0))
 case first =>
  have k0:∀ o:WB W,o.u.cell? ⟨w.heap.size,0,none⟩=some (.slice a h.length c):=fun o=>(BX0.out.below o.h).cell 0 (by simp)
  have hne:Nonempty (WB W):=⟨⟨W,Below.refl _ _⟩⟩
  have hcur:Below W.heap.size W W.drew:=(Below.refl _ _).drew
  have mk:=makeHint h.length
  refine wp_region_Y (fun w'=>∃ o:WB W,w' = o.u) (by kernel_rfl) ?_
  change wpAnyY _ _ _ _ _ _ _ _ W.drew
  refine wpAnyY_take 0 rfl (by kernel_rfl) (fun _ _ _ _ h=>h) ⟨⟨_,hcur⟩,rfl⟩ (fun K hK=>?_);go_simp;refine hK _ ?_;clear hK K
  refine wpAnyY_take 1 rfl (by kernel_rfl) (fun _ _ _ _ h=>h) ⟨⟨_,hcur⟩,rfl⟩ (fun K hK=>?_);go_simp;refine hK _ ?_;clear hK K
  refine wpAnyY_take 2 rfl (by kernel_rfl) (fun _ _ _ _ h=>h) ⟨⟨_,hcur⟩,rfl⟩ (fun K hK=>?_);go_simp;refine hK _ ?_;clear hK K
  refine wpAnyY_take 3 rfl (by kernel_rfl) (fun _ _ _ _ h=>h) ⟨⟨_,hcur⟩,rfl⟩ (fun K hK=>?_);go_simp;refine hK _ ?_;clear hK K
  refine wpAnyY_take 4 rfl (by kernel_rfl) (fun _ _ _ _ h=>h) ⟨⟨_,hcur⟩,rfl⟩ (fun K hK=>?_);go_simp;refine hK _ ?_;clear hK K
  refine wpAnyY_two 5 7 rfl rfl (by kernel_rfl) ?_ ?_
  ·go_wp2
   have hA:Below W.heap.size W (W.alloc (.map #[] 0)).drew:=((Below.refl _ _).alloc (Nat.le_refl _) _).drew
   refine ⟨⟨⟨_,hA⟩,rfl⟩,?_⟩
   refine wpAnyY_take 6 rfl (by kernel_rfl) (fun _ _ _ _ h=>h) ⟨⟨_,hA⟩,rfl⟩ (fun K hK=>?_);go_simp;refine hK _ ?_;clear hK K
   have hX:Below W.heap.size W ((W.alloc (.map #[] 0)).alloc (.cells #[.slice none 0 0,.map none] 179)).drew:=(((Below.refl _ _).alloc (Nat.le_refl _) _).alloc (by simp) _).drew
   have BB:Hid (Blk ((W.alloc (.map #[] 0)).alloc (.cells #[.slice none 0 0,.map none] 179)).drew (W.heap.size + 1) #[.slice none 0 0,.map none] 179):=blk_new2 W _ _ (.map #[] 0)
   have MM:Hid (MapF ((W.alloc (.map #[] 0)).alloc (.cells #[.slice none 0 0,.map none] 179)).drew W.heap.size Value.string (fun _=>none) 0):=(MapF.new W Value.string).below (((one_below _ _)).drew)
   refine wpAnyY_one 7 rfl (by kernel_rfl) ?_
   go_wp2
   refine ⟨⟨⟨_,hX⟩,rfl⟩,?_⟩
   refine wpAnyY_one 8 rfl (by kernel_rfl) ?_
   go_wp2_with (refine storeTab rfl _ _ rfl (W.heap.size + 1) _ _ _ _ rfl rfl _ BB.out rfl ?_)
   have hz:=HZ.out
   have hY:=below_setRow hX (Nat.le_add_right W.heap.size 1) #[.slice a h.length c,.map (some W.heap.size)]
   refine ⟨⟨⟨_,hY⟩,rfl⟩,?_⟩
   refine wpAnyY_done (by kernel_rfl) ?_ _
   go_wp2
   go_meet
   refine ⟨W.heap.size + 1,W.heap.size,rfl,HB0.out.trans (hY.mono (by omega)),BX0.out.below hY,RS0.out.below hY,BB.out.setRow _,?_,by omega,by omega⟩
   rw [List.take_zero,← tabF_nil]
   exact MM.out.grown (grown_row _ _ _) (by simp)
  ·go_wp2
   have hA:Below W.heap.size W (W.alloc (.cells #[.slice none 0 0,.map none] 179)).drew:=((Below.refl _ _).alloc (Nat.le_refl _) _).drew
   refine ⟨⟨⟨_,hA⟩,rfl⟩,?_⟩
   have hX:Below W.heap.size W ((W.alloc (.cells #[.slice none 0 0,.map none] 179)).alloc (.map #[] 0)).drew:=(((Below.refl _ _).alloc (Nat.le_refl _) _).alloc (by simp) _).drew
   have BB:Hid (Blk ((W.alloc (.cells #[.slice none 0 0,.map none] 179)).alloc (.map #[] 0)).drew W.heap.size #[.slice none 0 0,.map none] 179):=(blk_new W _ _).below ((one_below _ _).drew)
   have MM:Hid (MapF ((W.alloc (.cells #[.slice none 0 0,.map none] 179)).alloc (.map #[] 0)).drew (W.heap.size + 1) Value.string (fun _=>none) 0):=by
    have:=MapF.new (W.alloc (.cells #[.slice none 0 0,.map none] 179)) Value.string
    have e:(W.alloc (.cells #[.slice none 0 0,.map none] 179)).heap.size=W.heap.size + 1:=by simp
    rw [e] at this
    exact this.at rfl
   refine wpAnyY_one 5 rfl (by kernel_rfl) ?_
   go_wp2
   refine ⟨⟨⟨_,hX⟩,rfl⟩,?_⟩
   refine wpAnyY_take 6 rfl (by kernel_rfl) (fun _ _ _ _ h=>h) ⟨⟨_,hX⟩,rfl⟩ (fun K hK=>?_);go_simp;refine hK _ ?_;clear hK K
   refine wpAnyY_one 8 rfl (by kernel_rfl) ?_
   go_wp2_with (refine storeTab rfl _ _ rfl W.heap.size _ _ _ _ rfl rfl _ BB.out rfl ?_)
   have hz:=HZ.out
   have hY:=below_setRow hX (Nat.le_refl _) #[.slice a h.length c,.map (some (W.heap.size + 1))]
   refine ⟨⟨⟨_,hY⟩,rfl⟩,?_⟩
   refine wpAnyY_done (by kernel_rfl) ?_ _
   go_wp2
   go_meet
   refine ⟨W.heap.size,W.heap.size + 1,rfl,HB0.out.trans (hY.mono (by omega)),BX0.out.below hY,RS0.out.below hY,BB.out.setRow _,?_,by omega,by omega⟩
   rw [List.take_zero,← tabF_nil]
   exact MM.out.grown (grown_row _ _ _) (by simp)
 case rest =>
  obtain ⟨b,gm,rfl,S⟩:=hcut
  clear BX0 RS0 HB0 HZ
  have z0:=S.out.bx.cell 0 (by simp)
  go_wp2
  go_loopw [18] (fun i wr=>∃ k:Nat,k≤h.length∧i = .int .i64 k∧Hid (TO h a c w wr b gm k)) (fun i _=>h.length - (intOf i).toNat)
  case atStart=>exact ⟨0,Nat.zero_le _,rfl,S.out⟩
  case round =>
   clear S z0
   obtain ⟨k,hk,rfl,S⟩:=hrel
   by_cases hlt:k < h.length
   case pos =>
    obtain ⟨bb,off,fa,fc,ma,mc,he,m0,m1,m2,m3,_,_⟩:=HC.out.below S.out.hb k hlt
    subst he
    have HT:Hid (h.take (k + 1)=h.take k ++ [h[k]]):=by show _=_;rw [List.take_add_one,List.getElem?_eq_getElem hlt];rfl
    have HLn:Hid ((h.take k).length=k):=by show _=_;rw [List.length_take];omega
    generalize h[k]=x at *
    have BZ:Hid (Blk (wr.alloc (.cells #[.string ⟨#[]⟩,.string ⟨#[]⟩,.slice none 0 0,.slice none 0 0] 85)) wr.heap.size _ 85):=blk_new ..
    have hsz:wr.heap.size≤wr.heap.size:=Nat.le_refl _
    go_upto_region 5 with (refine store111 rfl _ _ rfl wr.heap.size _ _ _ _ _ _ _ _ rfl rfl _ BZ.out rfl ?_)
    have HB2:=Lib.hid (below_row (one_below wr (.cells #[.string ⟨#[]⟩,.string ⟨#[]⟩,.slice none 0 0,.slice none 0 0] 85)) hsz #[.string x.name,.string x.super,.slice fa x.fields.length fc,.slice ma x.methods.length mc])
    have B2:=Lib.hid (BZ.out.setRow #[.string x.name,.string x.super,.slice fa x.fields.length fc,.slice ma x.methods.length mc])
    have S2:=Lib.hid (S.out.below HB2.out)
    clear S BZ HB2 m0 m1 m2 m3 hsz
    generalize (wr.alloc _).setRow wr.heap.size _=W2 at *
    generalize wr.heap.size=n2 at *
    have y0:=B2.out.cell 0 (by simp)
    simp only [List.getElem_toArray,List.getElem_cons_zero] at y0
    have t1:=S2.out.tb.cell 1 (by simp)
    simp only [List.getElem_toArray,List.getElem_cons_zero,List.getElem_cons_succ] at t1
    by_cases hq:0≤findI (h.take k) x.name
    case pos =>
     have HF:Hid (tabF (h.take k) x.name=some (.int .i64 (findI (h.take k) x.name))):=by show _=_;unfold tabF;rw [if_pos hq]
     have HO:=Lib.hid (tabF_old hq)
     generalize findI (h.take k) x.name=r at *
     go_wp2_with (at_lookup;refine wpList_lookF rfl _ _ _ _ rfl keyStr undMSI _ (zeroInt _) gm rfl S2.out.mp x.name rfl ?_;rw [HF.out])
     exact ⟨⟨k + 1,by omega,by go_num,S2.out.hb,S2.out.bx,S2.out.rs,S2.out.tb,by rw [HT.out,HO.out];exact more S2.out.mp (Nat.le_succ _),S2.out.gb,S2.out.gg⟩,by simp [intOf];omega⟩
    case neg =>
     have HF:Hid (tabF (h.take k) x.name=none):=by show _=_;unfold tabF;rw [if_neg hq]
     have HO:=Lib.hid (tabF_new hq)
     rw [HLn.out] at HO
     go_wp2_with (first | (at_lookup;refine wpList_lookF rfl _ _ _ _ rfl keyStr undMSI _ (zeroInt _) gm rfl S2.out.mp x.name rfl ?_;rw [HF.out]) | (at_mapUpdate;refine wpList_mapF rfl _ _ _ _ rfl keyStr undMSI gm rfl S2.out.mp x.name rfl _ rfl ?_;intro w3 hm3 hg3 hs3))
     have hb3:Below w.heap.size w w3:=S2.out.hb.grown hg3 S2.out.hb.size (fun q hq=>by cases hq;have:=S2.out.gg;omega)
     exact ⟨⟨k + 1,by omega,by go_num,hb3,S2.out.bx.grown hg3 (blk_mapF S2.out.bx S2.out.mp),S2.out.rs.grown hg3 (blk_mapF S2.out.rs S2.out.mp),S2.out.tb.grown hg3 (blk_mapF S2.out.tb S2.out.mp),by rw [HT.out,← HO.out];exact hm3,S2.out.gb,S2.out.gg⟩,by simp [intOf];omega⟩
   case neg =>
    obtain rfl:k=h.length:=by omega
    have t0:=S.out.tb.cell 0 (by simp)
    have t1:=S.out.tb.cell 1 (by simp)
    simp only [List.getElem_toArray,List.getElem_cons_zero,List.getElem_cons_succ] at t0 t1
    go_wp2_with (refine storeTab rfl _ _ rfl (w.heap.size + 1) _ _ _ _ rfl rfl _ S.out.rs rfl ?_)
    have hR:Blk (wr.setRow (w.heap.size + 1) #[.slice a h.length c,.map (some gm)]) (w.heap.size + 1) #[.slice a h.length c,.map (some gm)] 179:=S.out.rs.setRow _
    have hgg:=S.out.gg
    refine bodyPost_ret (v:=.agg #[.slice a h.length c,.map (some gm)]) (results_c HR _ _ (w.heap.size + 1) _ _ rfl hR Tryz.underlying179 rfl (by kernel_rfl)) rfl ?_
    refine ⟨below_setRow S.out.hb (Nat.le_succ _) _,gm,rfl,?_,by omega⟩
    have:=S.out.mp
    rw [List.take_length] at this
    exact this.grown (grown_row _ _ _) (by simp;omega)
end Go.Proofs.YtffcklfigpmlgaaGreatDoor
