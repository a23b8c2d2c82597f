/-
  The program's hierarchies: Supers.
-/
import Derived.Test.YtffcklfigpmlgaaGreatDoorTC
namespace Go.Proofs.YtffcklfigpmlgaaGreatDoor
open Go.RowKit Go.Unit0 Go.AM

theorem owns_apart {w:World} {b1 b2 e1 e2 s1 s2 n1 n2:Nat} {v1 v2:Value} {xs1 xs2:List Value} (h1:w.ownsRow b1 e1 s1 v1 n1 xs1) (h2:w.ownsRow b2 e2 s2 v2 n2 xs2) (hne:e1 ≠ e2) (q:Nat) (k1:v1.ownBlock=some q) (k2:v2.ownBlock=some q):False:=by
 rcases h1.2 with ⟨rfl,_⟩ | ⟨g1,_,_,rfl,_,hh1,_⟩
 ·simp [Value.ownBlock] at k1
 ·rcases h2.2 with ⟨rfl,_⟩ | ⟨g2,_,_,rfl,_,hh2,_⟩
  ·simp [Value.ownBlock] at k2
  ·simp only [Value.ownBlock,Option.some.injEq] at k1 k2
   rw [k1] at hh1
   rw [k2,hh1] at hh2
   simp only [Option.some.injEq,Obj.cells.injEq] at hh2
   exact hne hh2.2.1
theorem owns_kept2 {w w':World} {b1 b2 e1 e2 s1 s2 n1 n2:Nat} {v1 v2:Value} {xs1 xs2:List Value} (h1:w.ownsRow b1 e1 s1 v1 n1 xs1) (h2:w.ownsRow b2 e2 s2 v2 n2 xs2) (hne:e1 ≠ e2) (hg:w.grownBy w' v2.ownBlock):w'.ownsRow b1 e1 s1 v1 n1 xs1 :=
 h1.kept hg (by
  cases hv:v1.ownBlock with
  | none=>exact .inl rfl
  | some q=>exact .inr (fun e=>owns_apart h1 h2 hne q hv e.symm))
structure NT (h:List Cls) (a:Option Addr) (c g tb:Nat) (r:List Int) (ia:Option Addr) (ic:Nat) (out:List Str) (oa:Option Addr) (oc:Nat) (w wr:World):Prop where
 hb:Below w.heap.size w wr
 bt:Blk wr tb #[.slice a h.length c,.map (some g)] 179
 hc:ClssAt wr a h
 tg:TabAt wr g h
 io:wr.ownsRow w.heap.size 3 1 (.slice ia r.length ic) r.length (r.map intV)
 ow:wr.ownsRow w.heap.size 9 1 (.slice oa out.length oc) out.length (out.map Value.string)
section
variable {h:List Cls} {a:Option Addr} {c g tb:Nat} {r:List Int} {ia:Option Addr} {ic:Nat} {out:List Str} {oa:Option Addr} {oc:Nat} {w wr w':World}
theorem NT.below (k:NT h a c g tb r ia ic out oa oc w wr) (hb:Below wr.heap.size wr w'):NT h a c g tb r ia ic out oa oc w w' :=
 ⟨k.hb.trans (hb.mono k.hb.size),k.bt.below hb,k.hc.below hb,k.tg.below hb,owns_below k.io hb,owns_below k.ow hb⟩
theorem NT.grow {out':List Str} {oa':Option Addr} {oc':Nat} (hc:ClssAt w a h) (k:NT h a c g tb r ia ic out oa oc w wr) (own:w'.ownsRow w.heap.size 9 1 (.slice oa' out'.length oc') out'.length (out'.map Value.string)) (hg:wr.grownBy w' (Value.slice oa out.length oc).ownBlock):NT h a c g tb r ia ic out' oa' oc' w w' :=
 have hb:=grow_below k.hb k.ow hg
 ⟨hb,k.bt.grown hg (owns_ne k.ow k.bt (by decide)),hc.below hb,k.tg.grown hg (owns_mapF k.ow k.tg),owns_kept2 k.io k.ow (by decide) hg,own⟩
theorem NT.at (k:NT h a c g tb r ia ic out oa oc w wr):IntsAt wr ia r:=by
 obtain ⟨-,_,_,he,-,hat⟩:=owns_ints k.io
 cases he
 exact hat
end
set_option maxHeartbeats 4000000 in
theorem supersP (h:List Cls) (s:Str) (a:Option Addr) (c:Nat) (w:World) (hc:ClssAt w a h) (hl:h.length≤100000) :
 Calls Tryz.prog 103 #[.agg #[.slice a h.length c],.string s] w (StrsPost (supP h s) w):=by
 have HB:=Lib.hid (one_below w (.cells #[.slice a h.length c] 24))
 have HX:Hid (Blk (w.alloc (.cells #[.slice a h.length c] 24)) w.heap.size #[.slice a h.length c] 24):=blk_new ..
 have HC0:=Lib.hid hc
 have HT:Hid (∀ w1,ClssAt w1 a h→Calls Tryz.prog 98 #[.agg #[.slice a h.length c]] w1 (TabPost h a c w1)):=fun w1 h1=>tableOf h a c w1 h1 hl
 clear hc
 go_enter Tryz.func103,Tryz.ntmps103
 go_upto_region 1 with (fail)
 generalize w.alloc (.cells #[.slice a h.length c] 24)=W at *
 have x0:=HX.out.cell 0 (by simp)
 go_wp2_with (go_at_call 98;refine (HT.out _ (HC0.out.below HB.out)).mono ?_;rintro e w1 ⟨hb1,g,rfl,tg,hgg⟩)
 have hws:=HB.out.size
 have hb1':Below w.heap.size w w1:=HB.out.trans (hb1.mono hws)
 have HB2:=Lib.hid (hb1'.trans ((one_below w1 (.cells #[.slice a h.length c,.map (some g)] 179)).mono hb1'.size))
 have HX2:Hid (Blk (w1.alloc (.cells #[.slice a h.length c,.map (some g)] 179)) w1.heap.size #[.slice a h.length c,.map (some g)] 179):=blk_new ..
 have HG2:=Lib.hid (tg.below (one_below w1 (.cells #[.slice a h.length c,.map (some g)] 179)))
 clear hb1 tg HX x0
 refine (tnamed h s a c g _ (HC0.out.below HB2.out) hl HG2.out).mono ?_
 rintro e w3 ⟨hb3,ia,ic,rfl,own⟩
 have hlen:=chI_len (findI_in h s)
 have S0:Hid (NT h a c g w1.heap.size (chI h (findI h s)).1 ia ic [] none 0 w w3):=⟨HB2.out.trans (hb3.mono HB2.out.size),HX2.out.below hb3,HC0.out.below (HB2.out.trans (hb3.mono HB2.out.size)),HG2.out.below hb3,owns_mono own HB2.out.size,World.ownsRow_nil _ _ _ _⟩
 have HIN:=Lib.hid (chI_in (findI_in h s)).2
 have HP:Hid (supP h s=(chI h (findI h s)).1.map (nameAt h)):=rfl
 clear own hb3 HB2 HX2 HG2 HT
 generalize supP h s=p at *
 generalize (chI h (findI h s)).1=r at *
 generalize w1.heap.size=tb at *
 go_wp2
 go_loopw [6,15] (fun v i wr=>∃ (q:Nat) (out:List Str) (oa:Option Addr) (oc:Nat),q≤r.length∧out.length≤q∧i = .int .i64 q∧v = .slice oa out.length oc∧Hid (out=(r.take q).map (nameAt h))∧Hid (NT h a c g tb r ia ic out oa oc w wr)) (fun _ i _=>r.length - (intOf i).toNat)
 case atStart=>exact ⟨0,[],none,0,Nat.zero_le _,Nat.zero_le _,rfl,rfl,(by show _=_;simp),S0.out⟩
 case round =>
  clear S0
  obtain ⟨q,out,oa,oc,hq,hol,rfl,rfl,HI,S⟩:=hrel
  by_cases hlt:q < r.length
  case neg =>
   have HE:Hid (out=p):=by show _=_;rw [HP.out,HI.out,List.take_of_length_le (by omega)]
   go_wp2
   go_ret
   exact ⟨S.out.hb,oa,oc,by rw [HE.out] <;> rfl,by rw [← HE.out];exact S.out.ow⟩
  case pos =>
   obtain ⟨b1,o1,he,p1⟩:=S.out.at q hlt
   subst he
   obtain ⟨k,hk,ek⟩:=HIN.out _ (List.getElem_mem hlt)
   have HJN:Hid (out ++ [h[k].name]=(r.take (q + 1)).map (nameAt h)):=by
    show _=_
    rw [HI.out,List.take_succ_eq_append_getElem hlt,ek,List.map_append]
    simp [nameAt,hk]
   rw [ek] at p1
   obtain ⟨b,off,fa,fc,ma,mc,he,m0,m1,m2,m3,_,hms⟩:=S.out.hc k hk
   subst he
   have t0:=S.out.bt.cell 0 (by simp)
   simp only [List.getElem_toArray,List.getElem_cons_zero] at t0
   clear m1 m2 m3 hms ek HI
   generalize h[k].name=nm at *
   have S1:=Lib.hid (S.out.below (one_below wr (.cells #[.string nm] 9)))
   have B1:Hid (Blk (wr.alloc (.cells #[.string nm] 9)) wr.heap.size #[.string nm] 9):=blk_new ..
   have hbs:=S.out.hb.size
   have hoc:out.length≤1000000:=by omega
   go_wp2_with (at_builtin;refine app_str rfl _ _ rfl w.heap.size _ out rfl S1.out.ow wr.heap.size nm rfl B1.out hoc (by simp;omega) ?_;intro v' w3 own3 grown3)
   obtain ⟨-,oa3,oc3,rfl,-,-⟩:=owns_strs own3
   have S3:=Lib.hid (NT.grow HC0.out S1.out own3 grown3)
   clear S1 B1 own3 grown3 S t0 p1 m0
   have hlen2:(out ++ [nm]).length=out.length + 1:=by simp
   go_wp2
   go_roundw
   case rel=>exact ⟨q + 1,out ++ [nm],oa3,oc3,by omega,by omega,by go_num,(by first | rfl | simp),HJN.out,S3.out⟩
   case measure=>simp [intOf];omega
end Go.Proofs.YtffcklfigpmlgaaGreatDoor
