/-
  The program's Cells of a path. (Printed by pre.py.)
-/
import Derived.Test.YtffcklfigpmlgaaGreatDoorA8
import Derived.Test.YtffcklfigpmlgaaGreatDoorQP
import Derived.Test.YtffcklfigpmlgaaGreatDoorXE
namespace Go.Proofs.YtffcklfigpmlgaaGreatDoor
open Go.RowKit Go.Unit0 Go.AM

def rootS (u:Unt) (r:Rsl) (f:Int) (p:Pth):List Int:=knoL (sitL u).length (if p.root=3 then ofP u r f p.n else [p.n])
def pthC (u:Unt) (r:Rsl) (f:Int) (p:Pth):List Cel :=
 if chkE p ≠ 0 then [] else if p.root ≠ 3∧p.root ≠ 4 then [] else
  if p.star=true then (rnds u r (setB (fldNames u.h)) ((sitL u).length + 1) ((walkF u r (rootS u r f p) p.fs).2,(walkF u r (rootS u r f p) p.fs).1)).2 else (walkF u r (rootS u r f p) p.fs).1
theorem rootS_in {u:Unt} {r:Rsl} {f:Int} {p:Pth}:∀ x ∈ rootS u r f p,inN (sitL u).length x=true:=fun _ hx=>(knoL_mem.1 hx).2
theorem rootS_asc (u:Unt) (r:Rsl) (f:Int) (p:Pth):(rootS u r f p).Pairwise (· < ·):=knoL_asc _ _
theorem walk_all (u:Unt) (r:Rsl) (f:Int) (p:Pth):(walkF u r (rootS u r f p) p.fs).2.Pairwise (· < ·)∧(∀ x ∈ (walkF u r (rootS u r f p) p.fs).2,inN (sitL u).length x=true)∧CelAsc (walkF u r (rootS u r f p) p.fs).1:=by
 have:=walkF_ok (r:=r) (rootS_asc u r f p) (rootS_in) (fs:=p.fs) p.fs.length (Nat.le_refl _)
 rw [List.take_length] at this
 exact this
def CelsIn (L:List Cel) (w:World) (e:Ending) (w':World):Prop:=Below w.heap.size w w'∧∃ a c,e = .returned (.slice a L.length c)∧CelsAt w' a L
theorem CelsIn.nil {w w':World} (hb:Below w.heap.size w w') {L:List Cel} (h:L = []):CelsIn L w (.returned (.slice none 0 0)) w':=by
 subst h
 exact ⟨hb,none,0,rfl,fun k hk=>by simp at hk⟩
theorem store_hp {ops:Array Oper} {rest:List Oper} {o:Oper} {a:Act} {w:World} {Q:Exit→Act→World→Prop} (hgd:o.guard=none) (x y:Operand) (ho:o.op = .store 65 x y)
 (g:Nat) (u:Unt) (ha:Option Addr) (hc:Nat) (fa:Option Addr) (fc:Nat) (r:Rsl) (p:RP) (sa:Option Addr) (sc n:Nat) (hx:a.eval x = .pointer (some ⟨g,0,none⟩)) (hy:a.eval y = .agg (hpA u ha hc fa fc r p sa sc n))
 (old:Array Value) (hg:Blk w g old 65) (hold:old.size=8)
 (h:wpList Tryz.prog ops Q rest (a.put o.dst undef) (w.setRow g (hpA u ha hc fa fc r p sa sc n))):wpList Tryz.prog ops Q (o :: rest) a w :=
 wpList_store_row hgd 65 x y ho g _ hx hy 65 old hg (by kernel_rfl) hold (by simp [Value.oneCell']) h
structure CB9 (u:Unt) (ha:Option Addr) (hc:Nat) (fa:Option Addr) (fc:Nat) (r:Rsl) (p:RP) (pt:Pth) (pa:Option Addr) (pc:Nat) (w wr:World):Prop where
 ub:URB u ha hc fa fc r p w wr
 bp:Blk wr (w.heap.size + 2) #[.int .i64 pt.root,.int .i64 pt.n,.slice pa pt.fs.length pc,.bool pt.star] 37
 sp:StrsAt wr pa pt.fs
section
variable {u:Unt} {ha:Option Addr} {hc:Nat} {fa:Option Addr} {fc:Nat} {r:Rsl} {p:RP} {pt:Pth} {pa:Option Addr} {pc:Nat} {w wr w':World}
theorem CB9.below (k:CB9 u ha hc fa fc r p pt pa pc w wr) (hb:Below wr.heap.size wr w'):CB9 u ha hc fa fc r p pt pa pc w w':=⟨k.ub.below hb,k.bp.below hb,k.sp.below hb⟩
theorem CB9.start (h:ClssAt w ha u.h) (f:FncsAt w fa u.fs) (hr:RslAt w p r) (hs:StrsAt w pa pt.fs):CB9 u ha hc fa fc r p pt pa pc w (((w.alloc (unC u ha hc fa fc)).alloc (rsC r p)).alloc (.cells #[.int .i64 pt.root,.int .i64 pt.n,.slice pa pt.fs.length pc,.bool pt.star] 37)):=by
 refine ⟨(URB.start (hc:=hc) (fc:=fc) h f hr).below (one_below ..),?_,hs.below (three_below ..)⟩
 have:=blk_new ((w.alloc (unC u ha hc fa fc)).alloc (rsC r p)) #[.int .i64 pt.root,.int .i64 pt.n,.slice pa pt.fs.length pc,.bool pt.star] 37
 simpa using this
theorem CB9.pth (k:CB9 u ha hc fa fc r p pt pa pc w wr) {o:World} (hb:Below wr.heap.size wr o):o.cell? ⟨w.heap.size + 2,0,none⟩=some (.int .i64 pt.root)∧o.cell? ⟨w.heap.size + 2,1,none⟩=some (.int .i64 pt.n)∧o.cell? ⟨w.heap.size + 2,2,none⟩=some (.slice pa pt.fs.length pc)∧o.cell? ⟨w.heap.size + 2,3,none⟩=some (.bool pt.star):=(k.below hb).bp.four
end
structure FP9 (g:Nat) (A:Array Value) (X:List Cel) (xa:Option Addr) (xc:Nat) (S:List Int) (ka:Option Addr) (W wr:World):Prop where
 hb:Below W.heap.size W wr
 b1:Blk wr g A 65
 ox:wr.ownsRow W.heap.size 61 2 (.slice xa X.length xc) X.length (flatCe X)
 it:IntsAt wr ka S
theorem FP9.below {g:Nat} {A:Array Value} {X:List Cel} {xa:Option Addr} {xc:Nat} {S:List Int} {ka:Option Addr} {W wr w':World} (k:FP9 g A X xa xc S ka W wr) (hb:Below wr.heap.size wr w'):FP9 g A X xa xc S ka W w':=⟨k.hb.trans (hb.mono k.hb.size),k.b1.below hb,owns_below k.ox hb,k.it.below hb⟩
abbrev zHpC:Obj:=.cells #[.slice none 0 0,.slice none 0 0,.int .i64 0,.slice none 0 0,.slice none 0 0,.slice none 0 0,.slice none 0 0,.slice none 0 0] 65
set_option maxRecDepth 100000 in
set_option maxHeartbeats 32000000 in
theorem cells41 (u:Unt) (ha:Option Addr) (hc:Nat) (fa:Option Addr) (fc:Nat) (r:Rsl) (p:RP) (f:Int) (pt:Pth) (pa:Option Addr) (pc:Nat) (w:World) (hkw:KW w) (h:ClssAt w ha u.h) (hf:FncsAt w fa u.fs) (hr:RslAt w p r) (hs:StrsAt w pa pt.fs) (hk:UOk u fc r) :
 Calls Tryz.prog 9 #[unV u ha hc fa fc,rsV r p,.int .i64 f,pV pt pa pc] w (CelsIn (pthC u r f pt) w):=by
 have S0:Hid (CB9 u ha hc fa fc r p pt pa pc w _):=CB9.start (hc:=hc) (fc:=fc) (pc:=pc) h hf hr hs
 have HCK:Hid (∀ w1,KW w1→StrsAt w1 pa pt.fs→Calls Tryz.prog 17 #[pV pt pa pc] w1 (Ret w1 (.int .i64 (chkE pt)))):=fun w1 h1 h2=>check41p pt pa pc w1 h1 h2
 have HKW:=Lib.hid hkw
 have HSI:Hid (∀ w1,ClssAt w1 ha u.h→FncsAt w1 fa u.fs→Calls Tryz.prog 20 #[unV u ha hc fa fc] w1 (SitsPost (sitL u) w1)):=fun w1 h1 h2=>sitesP u ha hc fa fc w1 h1 h2 hk.fit
 have HOF:Hid (∀ w1,ClssAt w1 ha u.h→FncsAt w1 fa u.fs→RslAt w1 p r→Calls Tryz.prog 22 #[unV u ha hc fa fc,rsV r p,.int .i64 f,.int .i64 pt.n] w1 (NumsPost (ofP u r f pt.n) w1)):=fun w1 h1 h2 h3=>ofP25 u ha hc fa fc r p f pt.n w1 h1 h2 h3 hk.hl hk.cap hk.hv hk.few
 have HKN:Hid (∀ (sa:Option Addr) (sc:Nat) (L:List Int) (a:Option Addr) (c:Nat) w1,IntsAt w1 a L→L.length≤1000000→Calls Tryz.prog 21 #[hpV u ha hc fa fc r p sa sc (sitL u).length,.slice a L.length c] w1 (IntsPost (knoL (sitL u).length L) w1)):=fun sa sc L a c w1 h1 h2=>known41 u ha hc fa fc r p sa sc (sitL u).length L a c w1 h1 h2
 have HFO:Hid (∀ (sa:Option Addr) (sc:Nat) (S:List Int) (a:Option Addr) (c:Nat) (fld:Str) w1,ClssAt w1 ha u.h→FncsAt w1 fa u.fs→RslAt w1 p r→SitsAt w1 sa (sitL u)→IntsAt w1 a S→S.length≤150→(∀ x ∈ S,inN (sitL u).length x=true)→Calls Tryz.prog 23 #[hpV u ha hc fa fc r p sa sc (sitL u).length,.slice a S.length c,.string fld] w1 (FolPost (cfL u fld S) (conL u r (cfL u fld S)) w1)):=fun sa sc S a c fld w1 h1 h2 h3 h4 h5 h6 h7=>follow41 u ha hc fa fc r p sa sc S a c fld w1 h1 h2 h3 h4 h5 h6 h7 hk
 have HAL:Hid (∀ (sa:Option Addr) (sc:Nat) (S:List Int) (a:Option Addr) (c:Nat) w1,ClssAt w1 ha u.h→FncsAt w1 fa u.fs→RslAt w1 p r→SitsAt w1 sa (sitL u)→IntsAt w1 a S→S.length≤150→(∀ x ∈ S,inN (sitL u).length x=true)→Calls Tryz.prog 24 #[hpV u ha hc fa fc r p sa sc (sitL u).length,.slice a S.length c] w1 (AllPost u r S w1)):=fun sa sc S a c w1 h1 h2 h3 h4 h5 h6 h7=>all41 u ha hc fa fc r p sa sc S a c w1 h1 h2 h3 h4 h5 h6 h7 hk
 have HSO:Hid (∀ (L:List Cel) (a:Option Addr) (c base:Nat) (w1:World),w1.ownsRow base 61 2 (.slice a L.length c) L.length (flatCe L)→L.length≤1000000→Calls Tryz.prog 25 #[.slice a L.length c,.func (.func 26) #[] #[]] w1 (fun e w'=>e = .returned (.tuple #[])∧w1.grownBy w' (Value.slice a L.length c).ownBlock∧w'.ownsRow base 61 2 (.slice a L.length c) L.length (flatCe (celSort L)))):=fun L a c base w1 h1 h2=>sortCe_own L a c base w1 h1 h2
 have HCO:Hid (∀ (L:List Cel) (a:Option Addr) (c base:Nat) (w1:World),w1.ownsRow base 61 2 (.slice a L.length c) L.length (flatCe (celSort L))→L.length≤1000000→Calls Tryz.prog 30 #[.slice a L.length c] w1 (fun e w'=>e = .returned (.slice a (celSet L).length c)∧w1.grownBy w' (Value.slice a L.length c).ownBlock∧w'.ownsRow base 61 2 (.slice a (celSet L).length c) (celSet L).length (flatCe (celSet L)))):=fun L a c base w1 h1 h2=>by
  have e:=celSort_len L
  rw [← e] at h1 ⊢
  exact compCe_own (celSort L) a c base w1 h1 (by omega)
 have hofl:=hk.ofl f pt.n
 have hsl:=hk.sl
 have HFL2:Hid (chkE pt=0→pt.fs.length≤2):=fun e=>(chkE_ok.1 e).2.2.2.1
 have HR1:Hid (chkE pt ≠ 0→pthC u r f pt = []):=fun e=>if_pos e
 have HR2:Hid (chkE pt=0→pt.root ≠ 3→pt.root ≠ 4→pthC u r f pt = []):=fun e e1 e2=>by unfold pthC;rw [if_neg (by simpa using e),if_pos ⟨e1,e2⟩]
 have HR3:Hid (chkE pt=0→(pt.root=3 ∨ pt.root=4)→pt.star=false→celSet (walkF u r (rootS u r f pt) pt.fs).1=pthC u r f pt):=fun e e1 e2=>by unfold pthC;rw [if_neg (by simpa using e),if_neg (by omega),if_neg (by simp [e2])];exact celSet_same (walk_all u r f pt).2.2
 have HR4:Hid (chkE pt=0→(pt.root=3 ∨ pt.root=4)→pt.star=true→∀ A:List Cel,(∀ c,c ∈ A ↔ (RchS u r (walkF u r (rootS u r f pt) pt.fs).2 c.s∧fldB u.h (sitL u) c.f c.s=true))→celSet ((walkF u r (rootS u r f pt) pt.fs).1 ++ A)=pthC u r f pt):=fun e e1 e2 A hA=>by
  unfold pthC
  rw [if_neg (by simpa using e),if_neg (by omega),if_pos e2]
  exact search_same ⟨(walk_all u r f pt).1,(walk_all u r f pt).2.1,(walk_all u r f pt).2.2⟩ hA
 have HS3:Hid (pt.root=3→rootS u r f pt=knoL (sitL u).length (ofP u r f pt.n)):=fun e=>by unfold rootS;rw [if_pos e]
 have HS4:Hid (pt.root=4→rootS u r f pt=knoL (sitL u).length [pt.n]):=fun e=>by unfold rootS;rw [if_neg (by omega)]
 have HSK:Hid (∀ k,k≤pt.fs.length→(walkF u r (rootS u r f pt) (pt.fs.take k)).2.length≤150∧(∀ x ∈ (walkF u r (rootS u r f pt) (pt.fs.take k)).2,inN (sitL u).length x=true)):=fun k hk'=>by
  obtain ⟨h1,h2,-⟩:=walkF_ok (r:=r) (rootS_asc u r f pt) (rootS_in) (fs:=pt.fs) k hk'
  exact ⟨by have:=asc_len h1 h2;omega,h2⟩
 have HXK:Hid (∀ k,k≤pt.fs.length→(walkF u r (rootS u r f pt) (pt.fs.take k)).1.length≤150):=fun k hk'=>by
  cases k with
  | zero=>rw [List.take_zero,walkF_nil];simp
  | succ k =>
    rw [walkF_take (by omega)]
    have h1:=celL_len u.h (sitL u) pt.fs[k] (walkF u r (rootS u r f pt) (pt.fs.take k)).2
    have h2:=(HSK.out k (by omega)).1
    show (cfL u _ _).length≤150
    exact Nat.le_trans h1 h2
 have HW0:Hid (walkF u r (rootS u r f pt) (pt.fs.take 0)=([],rootS u r f pt)):=rfl
 have HWS:Hid (∀ k (hk:k < pt.fs.length),walkF u r (rootS u r f pt) (pt.fs.take (k + 1))=(cfL u pt.fs[k] (walkF u r (rootS u r f pt) (pt.fs.take k)).2,conL u r (cfL u pt.fs[k] (walkF u r (rootS u r f pt) (pt.fs.take k)).2))):=fun k hk'=>walkF_take hk'
 have HWE:Hid (walkF u r (rootS u r f pt) (pt.fs.take pt.fs.length)=walkF u r (rootS u r f pt) pt.fs):=by show _=_;rw [List.take_length]
 clear hkw h hf hr hs hk
 generalize pthC u r f pt=R at *
 generalize rootS u r f pt=RS at *
 generalize hof:ofP u r f pt.n=OF at *
 generalize chkE pt=ck at *
 clear hof
 obtain ⟨X,hX⟩:∃ X:Nat→List Cel × List Int,X=fun k=>walkF u r RS (pt.fs.take k):=⟨_,rfl⟩
 have HX:Hid (∀ k,walkF u r RS (pt.fs.take k)=X k):=fun k=>by rw [hX]
 clear hX
 rw [← HWE.out] at HR3 HR4
 simp only [HX.out] at HSK HXK HW0 HWS HR3 HR4
 clear HX HWE
 obtain ⟨n,hn⟩:∃ n,n=(sitL u).length:=⟨_,rfl⟩
 have HNL:=Lib.hid hn
 rw [← hn] at HKN HFO HAL HS3 HS4 HSK hsl
 clear hn
 unfold unV rsV pV hpV hpA at *
 go_enter Tryz.func9,Tryz.ntmps9
 go_upto_region 1 with (fail)
 generalize ((w.alloc _).alloc _).alloc _=W at *
 obtain ⟨y0,y1,y2,y3⟩:=S0.out.pth (Below.refl _ _)
 by_cases hck:ck=0
 case neg =>
  have HL:=Lib.hid (HR1.out hck)
  have t1:(ck == 0)=false:=beq_eq_false_iff_ne.2 hck
  have HC1:=Lib.hid (HCK.out W (HKW.out.below S0.out.ub.ub.hb) S0.out.sp)
  clear hck HKN HFO HAL HSO HCO HOF HSI HWS HSK HXK
  go_wp2_with (go_at_call 17;refine HC1.out.mono ?_;rintro e w1 ⟨rfl,hb1⟩)
  go_ret
  exact CelsIn.nil (S0.out.ub.ub.hb.trans (hb1.mono S0.out.ub.ub.hb.size)) HL.out
 subst hck
 have hfl2:=HFL2.out rfl
 have HC1:=Lib.hid (HCK.out W (HKW.out.below S0.out.ub.ub.hb) S0.out.sp)
 replace HR2:=Lib.hid (HR2.out rfl)
 replace HR3:=Lib.hid (HR3.out rfl)
 replace HR4:=Lib.hid (HR4.out rfl)
 clear HR1 HCK
 go_upto_region 3 with (go_at_call 17;refine HC1.out.mono ?_;rintro e w1 ⟨rfl,hb1⟩)
 have S1:=Lib.hid (S0.out.below hb1)
 clear S0 HC1 hb1 y0 y1 y2 y3
 generalize hw1:w1=W1 at *
 clear hw1
 go_cut [9] (fun v wc=>∃ (g:Nat) (sa:Option Addr) (sc:Nat),v = .pointer (some ⟨g,0,none⟩)∧Hid (CB9 u ha hc fa fc r p pt pa pc w wc)∧Hid (Blk wc g (hpA u ha hc fa fc r p sa sc n) 65)∧Hid (SitsAt wc sa (sitL u)))
 case first =>
  clear HKN HFO HAL HSO HCO HOF HWS HSK HXK HR2 HR3 HR4 HS3 HS4 HW0
  have k1:∀ o:WB W1,o.u.cell? ⟨w.heap.size,0,none⟩=some (.slice ha u.h.length hc):=fun o=>(S1.out.ub.now o.h).1.1
  have k2:∀ o:WB W1,o.u.cell? ⟨w.heap.size,1,none⟩=some (.slice fa u.fs.length fc):=fun o=>(S1.out.ub.now o.h).1.2.1
  have k3:∀ o:WB W1,o.u.cell? ⟨w.heap.size,2,none⟩=some (.int .i64 u.main):=fun o=>(S1.out.ub.now o.h).1.2.2
  have k4:∀ o:WB W1,o.u.cell? ⟨w.heap.size + 1,0,none⟩=some (.slice p.ra r.reached p.rc):=fun o=>(S1.out.ub.now o.h).2.1
  have k5:∀ o:WB W1,o.u.cell? ⟨w.heap.size + 1,1,none⟩=some (.slice p.ca r.calls.length p.cc):=fun o=>(S1.out.ub.now o.h).2.2.1
  have k6:∀ o:WB W1,o.u.cell? ⟨w.heap.size + 1,2,none⟩=some (.slice p.va r.vars.length p.vc):=fun o=>(S1.out.ub.now o.h).2.2.2.1
  have k7:∀ o:WB W1,o.u.cell? ⟨w.heap.size + 1,3,none⟩=some (.slice p.xa r.cells.length p.xc):=fun o=>(S1.out.ub.now o.h).2.2.2.2
  have hne:Nonempty (WB W1):=⟨⟨W1,Below.refl _ _⟩⟩
  have h0:Below W1.heap.size W1 W1.drew:=(Below.refl _ _).drew
  refine wp_region_Y (fun w'=>∃ o:WB W1,w' = o.u) (by kernel_rfl) ?_
  change wpAnyY _ _ _ _ _ _ _ _ W1.drew
  generalize W1.drew=V0 at *
  refine wpAnyY_take 0 rfl (by kernel_rfl) (fun _ _ _ _ h=>h) ⟨⟨_,h0⟩,rfl⟩ (fun K hK=>?_);go_simp;refine hK _ ?_;clear hK K
  refine wpAnyY_take 1 rfl (by kernel_rfl) (fun _ _ _ _ h=>h) ⟨⟨_,h0⟩,rfl⟩ (fun K hK=>?_);go_simp;refine hK _ ?_;clear hK K
  refine wpAnyY_take 2 rfl (by kernel_rfl) (fun _ _ _ _ h=>h) ⟨⟨_,h0⟩,rfl⟩ (fun K hK=>?_);go_simp;refine hK _ ?_;clear hK K
  refine wpAnyY_two 3 5 rfl rfl (by kernel_rfl) ?_ ?_
  ·go_wp2_with fail
   refine (HSI.out _ (S1.out.below h0).ub.ub.h (S1.out.below h0).ub.ub.f).mono ?_
   rintro e w3 ⟨hb3,sa,sc,rfl,own3⟩
   have h3:Below W1.heap.size W1 w3:=h0.trans (hb3.mono h0.size)
   have SA3:=Lib.hid own3
   clear hb3 own3
   rw [← HNL.out]
   go_wp2
   refine ⟨⟨⟨_,h3⟩,rfl⟩,?_⟩
   refine wpAnyY_take 4 rfl (by kernel_rfl) (fun _ _ _ _ h=>h) ⟨⟨_,h3⟩,rfl⟩ (fun K hK=>?_);go_simp;refine hK _ ?_;clear hK K
   refine wpAnyY_one 5 rfl (by kernel_rfl) ?_
   have hob:=one_below w3 zHpC
   have h4:Below W1.heap.size W1 (w3.alloc zHpC):=h3.trans (hob.mono h3.size)
   have BZ:Hid (Blk (w3.alloc zHpC) w3.heap.size _ 65):=blk_new ..
   have hg3:=h3.size
   have SA4:=Lib.hid (owns_below SA3.out hob)
   clear hob
   go_wp2
   refine ⟨⟨⟨_,h4⟩,rfl⟩,?_⟩
   generalize w3.alloc _=w4 at *
   generalize w3.heap.size=g at *
   refine wpAnyY_one 6 rfl (by kernel_rfl) ?_
   go_wp2_with (refine store_hp rfl _ _ rfl g u ha hc fa fc r p sa sc n rfl rfl _ BZ.out rfl ?_)
   have h5:=below_setRow h4 hg3 (hpA u ha hc fa fc r p sa sc n)
   have B5:=Lib.hid (BZ.out.setRow (hpA u ha hc fa fc r p sa sc n))
   have SA5:=Lib.hid (ownsS' (SA4.out.kept (grown_row w4 g (hpA u ha hc fa fc r p sa sc n)) (.inr (Ne.symm (owns_ne SA4.out BZ.out (by decide)))))).2
   refine ⟨⟨⟨_,h5⟩,rfl⟩,?_⟩
   refine wpAnyY_done (by kernel_rfl) ?_ _
   go_wp2
   go_meet
   exact ⟨g,sa,sc,rfl,S1.out.below h5,B5.out,SA5.out⟩
  ·have hob:=one_below V0 zHpC
   have h1:Below W1.heap.size W1 (V0.alloc zHpC):=h0.trans (hob.mono h0.size)
   have BZ:Hid (Blk (V0.alloc zHpC) V0.heap.size _ 65):=blk_new ..
   have hg3:=h0.size
   clear hob
   go_wp2
   refine ⟨⟨⟨_,h1⟩,rfl⟩,?_⟩
   generalize V0.alloc _=w2 at *
   generalize V0.heap.size=g at *
   refine wpAnyY_one 3 rfl (by kernel_rfl) ?_
   go_wp2_with fail
   refine (HSI.out _ (S1.out.below h1).ub.ub.h (S1.out.below h1).ub.ub.f).mono ?_
   rintro e w3 ⟨hb3,sa,sc,rfl,own3⟩
   have h3:Below W1.heap.size W1 w3:=h1.trans (hb3.mono h1.size)
   have SA3:=Lib.hid own3
   have BZ3:=Lib.hid (BZ.out.below hb3)
   clear hb3 own3 BZ
   rw [← HNL.out]
   go_wp2
   refine ⟨⟨⟨_,h3⟩,rfl⟩,?_⟩
   refine wpAnyY_take 4 rfl (by kernel_rfl) (fun _ _ _ _ h=>h) ⟨⟨_,h3⟩,rfl⟩ (fun K hK=>?_);go_simp;refine hK _ ?_;clear hK K
   refine wpAnyY_one 6 rfl (by kernel_rfl) ?_
   go_wp2_with (refine store_hp rfl _ _ rfl g u ha hc fa fc r p sa sc n rfl rfl _ BZ3.out rfl ?_)
   have h5:=below_setRow h3 hg3 (hpA u ha hc fa fc r p sa sc n)
   have B5:=Lib.hid (BZ3.out.setRow (hpA u ha hc fa fc r p sa sc n))
   have SA5:=Lib.hid (ownsS' (SA3.out.kept (grown_row w3 g (hpA u ha hc fa fc r p sa sc n)) (.inr (Ne.symm (owns_ne SA3.out BZ3.out (by decide)))))).2
   refine ⟨⟨⟨_,h5⟩,rfl⟩,?_⟩
   refine wpAnyY_done (by kernel_rfl) ?_ _
   go_wp2
   go_meet
   exact ⟨g,sa,sc,rfl,S1.out.below h5,B5.out,SA5.out⟩
 case rest =>
 obtain ⟨g,sa,sc,rfl,S2,B2,SA⟩:=hcut
 clear S1 HSI
 generalize wc=W2 at *
 clear W1
 obtain ⟨y0,y1,y2,y3⟩:=S2.out.pth (Below.refl _ _)
 by_cases hroot:pt.root=3 ∨ pt.root=4
 case neg =>
  have t3:(pt.root == 3)=false:=beq_eq_false_iff_ne.2 (by omega)
  have t4:(pt.root == 4)=false:=beq_eq_false_iff_ne.2 (by omega)
  have HL:=Lib.hid (HR2.out (by omega) (by omega))
  clear hroot HKN HFO HAL HSO HCO HOF HWS HSK HXK HR2 HR3 HR4 HS3 HS4 HW0
  go_wp2
  go_ret
  exact CelsIn.nil S2.out.ub.ub.hb HL.out
 replace HR3:=Lib.hid (HR3.out hroot)
 replace HR4:=Lib.hid (HR4.out hroot)
 clear HR2
 replace HKN:=Lib.hid (HKN.out sa sc)
 replace HFO:=Lib.hid (HFO.out sa sc)
 replace HAL:=Lib.hid (HAL.out sa sc)
 go_upto_block 0 with (fail)
 go_cut [10] (fun v wc=>∃ (ka:Option Addr) (kc:Nat),v = .slice ka RS.length kc∧Hid (Below W2.heap.size W2 wc)∧Hid (IntsAt wc ka RS))
 case first =>
  clear HFO HAL HSO HCO HWS HSK HXK HR3 HR4 HW0
  obtain ⟨⟨z0,z1,z2⟩,⟨z3,z4,z5,z6⟩,z7⟩:=hp_cells B2.out (Below.refl _ _)
  rcases hroot with hroot | hroot
  ·have t3:(pt.root == 3)=true:=by rw [hroot];rfl
   have HE:=Lib.hid (HS3.out hroot)
   clear hroot HS3 HS4
   go_upto_region 8 with (fail)
   have k1:∀ o:WB W2,o.u.cell? ⟨w.heap.size,0,none⟩=some (.slice ha u.h.length hc):=fun o=>(S2.out.ub.now o.h).1.1
   have k2:∀ o:WB W2,o.u.cell? ⟨w.heap.size,1,none⟩=some (.slice fa u.fs.length fc):=fun o=>(S2.out.ub.now o.h).1.2.1
   have k3:∀ o:WB W2,o.u.cell? ⟨w.heap.size,2,none⟩=some (.int .i64 u.main):=fun o=>(S2.out.ub.now o.h).1.2.2
   have k4:∀ o:WB W2,o.u.cell? ⟨w.heap.size + 1,0,none⟩=some (.slice p.ra r.reached p.rc):=fun o=>(S2.out.ub.now o.h).2.1
   have k5:∀ o:WB W2,o.u.cell? ⟨w.heap.size + 1,1,none⟩=some (.slice p.ca r.calls.length p.cc):=fun o=>(S2.out.ub.now o.h).2.2.1
   have k6:∀ o:WB W2,o.u.cell? ⟨w.heap.size + 1,2,none⟩=some (.slice p.va r.vars.length p.vc):=fun o=>(S2.out.ub.now o.h).2.2.2.1
   have k7:∀ o:WB W2,o.u.cell? ⟨w.heap.size + 1,3,none⟩=some (.slice p.xa r.cells.length p.xc):=fun o=>(S2.out.ub.now o.h).2.2.2.2
   have j0:∀ o:WB W2,o.u.cell? ⟨g,0,none⟩=some (.slice ha u.h.length hc):=fun o=>cell_below o.h z0
   have j1:∀ o:WB W2,o.u.cell? ⟨g,1,none⟩=some (.slice fa u.fs.length fc):=fun o=>cell_below o.h z1
   have j2:∀ o:WB W2,o.u.cell? ⟨g,2,none⟩=some (.int .i64 u.main):=fun o=>cell_below o.h z2
   have j3:∀ o:WB W2,o.u.cell? ⟨g,3,none⟩=some (.slice p.ra r.reached p.rc):=fun o=>cell_below o.h z3
   have j4:∀ o:WB W2,o.u.cell? ⟨g,4,none⟩=some (.slice p.ca r.calls.length p.cc):=fun o=>cell_below o.h z4
   have j5:∀ o:WB W2,o.u.cell? ⟨g,5,none⟩=some (.slice p.va r.vars.length p.vc):=fun o=>cell_below o.h z5
   have j6:∀ o:WB W2,o.u.cell? ⟨g,6,none⟩=some (.slice p.xa r.cells.length p.xc):=fun o=>cell_below o.h z6
   have j7:∀ o:WB W2,o.u.cell? ⟨g,7,none⟩=some (.slice sa n sc):=fun o=>cell_below o.h z7
   have k8:∀ o:WB W2,o.u.cell? ⟨w.heap.size + 2,1,none⟩=some (.int .i64 pt.n):=fun o=>(S2.out.pth o.h).2.1
   have hne:Nonempty (WB W2):=⟨⟨W2,Below.refl _ _⟩⟩
   have h0:Below W2.heap.size W2 W2.drew:=(Below.refl _ _).drew
   clear z0 z1 z2 z3 z4 z5 z6 z7 y0 y1 y2 y3
   refine wp_region_Y (fun w'=>∃ o:WB W2,w' = o.u) (by kernel_rfl) ?_
   change wpAnyY _ _ _ _ _ _ _ _ W2.drew
   generalize W2.drew=V0 at *
   refine wpAnyY_take 0 rfl (by kernel_rfl) (fun _ _ _ _ h=>h) ⟨⟨_,h0⟩,rfl⟩ (fun K hK=>?_);go_simp;refine hK _ ?_;clear hK K
   refine wpAnyY_take 1 rfl (by kernel_rfl) (fun _ _ _ _ h=>h) ⟨⟨_,h0⟩,rfl⟩ (fun K hK=>?_);go_simp;refine hK _ ?_;clear hK K
   refine wpAnyY_take 2 rfl (by kernel_rfl) (fun _ _ _ _ h=>h) ⟨⟨_,h0⟩,rfl⟩ (fun K hK=>?_);go_simp;refine hK _ ?_;clear hK K
   refine wpAnyY_take 3 rfl (by kernel_rfl) (fun _ _ _ _ h=>h) ⟨⟨_,h0⟩,rfl⟩ (fun K hK=>?_);go_simp;refine hK _ ?_;clear hK K
   refine wpAnyY_take 4 rfl (by kernel_rfl) (fun _ _ _ _ h=>h) ⟨⟨_,h0⟩,rfl⟩ (fun K hK=>?_);go_simp;refine hK _ ?_;clear hK K
   refine wpAnyY_take 5 rfl (by kernel_rfl) (fun _ _ _ _ h=>h) ⟨⟨_,h0⟩,rfl⟩ (fun K hK=>?_);go_simp;refine hK _ ?_;clear hK K
   refine wpAnyY_one 6 rfl (by kernel_rfl) ?_
   go_wp2_with fail
   refine (HOF.out _ (S2.out.below h0).ub.ub.h (S2.out.below h0).ub.ub.f (S2.out.below h0).ub.rb.m).mono ?_
   rintro e w3 ⟨hb3,la,lc,rfl,hat⟩
   have h3:Below W2.heap.size W2 w3:=h0.trans (hb3.mono h0.size)
   have A3:=Lib.hid hat
   clear hb3 hat
   go_wp2
   refine ⟨⟨⟨_,h3⟩,rfl⟩,?_⟩
   refine wpAnyY_one 7 rfl (by kernel_rfl) ?_
   go_wp2_with fail
   refine (HKN.out OF la lc _ A3.out (by omega)).mono ?_
   rintro e w4 ⟨hb4,ka,kc,rfl,own4⟩
   have h4:Below W2.heap.size W2 w4:=h3.trans (hb4.mono h3.size)
   have A4:=Lib.hid (owns_ints' own4).2
   clear hb4 own4
   go_wp2
   refine ⟨⟨⟨_,h4⟩,rfl⟩,?_⟩
   refine wpAnyY_one 8 rfl (by kernel_rfl) ?_
   go_wp2
   refine ⟨⟨⟨_,h4⟩,rfl⟩,?_⟩
   refine wpAnyY_done (by kernel_rfl) ?_ _
   go_wp2
   go_meet
   exact ⟨ka,kc,by rw [HE.out],h4,by rw [HE.out];exact A4.out⟩
  ·have t3:(pt.root == 3)=false:=by rw [hroot];rfl
   have t4:(pt.root == 4)=true:=by rw [hroot];rfl
   have HE:=Lib.hid (HS4.out hroot)
   have hb4:=one_below W2 (.cells #[.int .i64 pt.n] 3)
   have HK1:=Lib.hid (HKN.out [pt.n] (some ⟨W2.heap.size,0,none⟩) 1 _ (ints_new W2 pt.n) (by simp))
   clear hroot HS3 HS4 HKN
   go_wp2_with (go_at_call 21;refine HK1.out.mono ?_;rintro e w4 ⟨hb5,ka,kc,rfl,own4⟩)
   go_meet
   exact ⟨ka,kc,by rw [HE.out],hb4.trans (hb5.mono hb4.size),by rw [HE.out];exact (owns_ints' own4).2⟩
 case rest =>
 obtain ⟨ka,kc,rfl,HB3,HI3⟩:=hcut
 have S3:=Lib.hid (S2.out.below HB3.out)
 have B3:=Lib.hid (B2.out.below HB3.out)
 have SA3:=Lib.hid (SA.out.below HB3.out)
 clear S2 B2 SA HB3 HOF HS3 HS4 HKN y0 y1 y2 y3
 generalize wc=W3 at *
 clear W2
 have P0:Hid (FP9 g (hpA u ha hc fa fc r p sa sc n) [] none 0 RS ka W3 W3):=⟨Below.refl _ _,B3.out,World.ownsRow_nil _ _ _ _,HI3.out⟩
 clear B3 HI3
 obtain ⟨y0,y1,y2,y3⟩:=S3.out.pth (Below.refl _ _)
 go_wp2
 clear y0 y1 y2 y3
 go_loopw [10,11,44] (fun v10 v11 i wr=>∃ (k:Nat) (ka:Option Addr) (kc:Nat) (xa:Option Addr) (xc:Nat),k≤pt.fs.length∧v10 = .slice ka (X k).2.length kc∧v11 = .slice xa (X k).1.length xc∧i = .int .i64 k∧Hid (FP9 g (hpA u ha hc fa fc r p sa sc n) (X k).1 xa xc (X k).2 ka W3 wr)) (fun _ _ i _=>pt.fs.length - (intOf i).toNat)
 case atStart=>exact ⟨0,ka,kc,none,0,Nat.zero_le _,by rw [HW0.out],by rw [HW0.out];rfl,rfl,by rw [HW0.out];exact P0.out⟩
 case round =>
  clear P0 HW0
  obtain ⟨k,ka,kc,xa,xc,hk,rfl,rfl,rfl,F⟩:=hrel
  obtain ⟨hs1,hs2⟩:=HSK.out k hk
  have HS2:=Lib.hid hs2
  clear hs2
  have hx1:=HXK.out k hk
  by_cases hlt:k < pt.fs.length
  case pos =>
   obtain ⟨b,off,he,c0⟩:=(S3.out.sp.below F.out.hb) k hlt
   obtain ⟨⟨z0,z1,z2⟩,⟨z3,z4,z5,z6⟩,z7⟩:=hp_cells F.out.b1 (Below.refl _ _)
   have HF1:=Lib.hid (HFO.out (X k).2 ka kc pt.fs[k] _ (S3.out.ub.ub.h.below F.out.hb) (S3.out.ub.ub.f.below F.out.hb) (S3.out.ub.rb.m.below F.out.hb) (SA3.out.below F.out.hb) F.out.it hs1 HS2.out)
   have HWk:=Lib.hid (HWS.out k hlt)
   generalize pt.fs[k]=fl at *
   subst he
   have HN1:Hid (cfL u fl (X k).2=(X (k + 1)).1):=by show _=_;rw [HWk.out]
   have HN2:Hid (conL u r (X (k + 1)).1=(X (k + 1)).2):=by show _=_;rw [← HN1.out,HWk.out]
   rw [HN1.out,HN2.out] at HF1
   clear HWk HN1 HN2 HWS HSK HXK HR3 HR4 HAL HSO HCO
   go_wp2_with (go_at_call 23;refine HF1.out.mono ?_;rintro e w5 ⟨hb5,ya,yc,za,zc,rfl,ownY,ownZ⟩)
   have F5:Hid (FP9 g (hpA u ha hc fa fc r p sa sc n) (X (k + 1)).1 ya yc (X (k + 1)).2 za W3 w5):=⟨(F.out.below hb5).hb,(F.out.below hb5).b1,owns_mono ownY F.out.hb.size,(owns_ints' ownZ).2⟩
   clear F HF1 hb5 ownY ownZ z0 z1 z2 z3 z4 z5 z6 z7 c0
   go_roundw
   case rel=>exact ⟨k + 1,za,zc,ya,yc,by omega,rfl,rfl,by go_num,F5.out⟩
   case measure=>simp [intOf];omega
  case neg =>
   obtain rfl:k=pt.fs.length:=by omega
   have S4:=Lib.hid (S3.out.below F.out.hb)
   have SA4:=Lib.hid (SA3.out.below F.out.hb)
   have HW3:=Lib.hid S3.out.ub.ub.hb
   have hw3:=HW3.out.size
   clear S3 SA3 HFO HWS HSK HXK
   generalize (X pt.fs.length).1=XC at *
   generalize (X pt.fs.length).2=XS at *
   obtain ⟨y0,y1,y2,y3⟩:=S4.out.pth (Below.refl _ _)
   have HTL:Hid (∀ (Y:List Cel) (m:Nat) (xa:Option Addr) (xc:Nat) (wx:World),m=Y.length→celSet Y=R→Y.length≤1000000→Below W3.heap.size W3 wx→wx.ownsRow W3.heap.size 61 2 (.slice xa Y.length xc) Y.length (flatCe Y) →
    Calls Tryz.prog 25 #[.slice xa m xc,.func (.func 26) #[] #[]] wx (fun e w5=>e = .returned (.tuple #[])∧Calls Tryz.prog 30 #[.slice xa m xc] w5 (fun e w6=>e = .returned (.slice xa R.length xc)∧Below W3.heap.size W3 w6∧CelsAt w6 xa R))):=fun Y m xa xc wx e0 e1 e2 e3 e4=>by
    subst e0
    refine (HSO.out Y xa xc W3.heap.size wx e4 e2).mono ?_
    rintro e w5 ⟨rfl,hg5,own5⟩
    have H5:=grow_below e3 e4 hg5
    refine ⟨rfl,(HCO.out Y xa xc W3.heap.size w5 own5 e2).mono ?_⟩
    rintro e w6 ⟨rfl,hg6,own6⟩
    rw [e1] at own6 ⊢
    exact ⟨rfl,H5.grown hg6 H5.size (fun q hq=>(own5.lt q hq).1),(ownsCe' own6).2⟩
   cases hst:pt.star
   case false =>
    have HE:=Lib.hid (HR3.out hst)
    rw [hst] at y3
    have HS5:=Lib.hid (HTL.out XC XC.length xa xc wr rfl HE.out (by omega) F.out.hb F.out.ox)
    clear HR3 HR4 HAL HSO HTL HCO y0 y1 y2
    go_upto_region 20 with (go_at_call 25;refine HS5.out.mono ?_;rintro e w5 ⟨rfl,hc5⟩)
    have HC5:=Lib.hid hc5
    clear HS5 hc5 F y3
    go_wp2_with (go_at_call 30;refine HC5.out.mono ?_;rintro e w6 ⟨rfl,hb6,hat6⟩)
    have H6:=Lib.hid hb6
    have A6:=Lib.hid hat6
    clear HC5 hb6 hat6
    go_ret
    exact ⟨HW3.out.trans (H6.out.mono hw3),xa,xc,rfl,A6.out⟩
   case true =>
    have HE:=Lib.hid (HR4.out hst)
    rw [hst] at y3
    obtain ⟨⟨z0,z1,z2⟩,⟨z3,z4,z5,z6⟩,z7⟩:=hp_cells F.out.b1 (Below.refl _ _)
    have HA5:=Lib.hid (HAL.out XS ka kc wr S4.out.ub.ub.h S4.out.ub.ub.f S4.out.ub.rb.m SA4.out F.out.it hs1 HS2.out)
    clear HR3 HR4 HAL HSO HCO y0 y1 y2
    go_upto_region 18 with (fail)
    have hxl:XC.length≤1000000:=by omega
    go_upto_region 19 with (first | (go_at_call 24;refine HA5.out.mono ?_;rintro e w5 ⟨hb5,Y,ya,yc,rfl,hyl,hym,hat5⟩;have F5:=Lib.hid (F.out.below hb5);have AY:=Lib.hid hat5;have HYM:=Lib.hid hym;have hbs5:=F5.out.hb.size;clear hb5 hat5 hym) | (at_builtin;refine appCes rfl _ _ rfl W3.heap.size _ XC rfl F5.out.ox ya yc Y rfl AY.out hxl (by omega) hbs5 ?_;intro v7 W7 own7 hg7;obtain ⟨-,xa7,xc7,rfl,-,-⟩:=ownsCe own7))
    have H7:=grow_below F5.out.hb F5.out.ox hg7
    have HS5:=Lib.hid (HTL.out (XC ++ Y) (XC.length + Y.length) xa7 xc7 W7 (by simp) (HE.out Y HYM.out) (by rw [List.length_append];omega) H7 own7)
    clear H7 own7 hg7 F5 AY HYM HE HTL HA5 F z0 z1 z2 z3 z4 z5 z6 z7 y3
    go_upto_region 20 with (go_at_call 25;refine HS5.out.mono ?_;rintro e w5 ⟨rfl,hc5⟩)
    have HC5:=Lib.hid hc5
    clear HS5 hc5
    go_wp2_with (go_at_call 30;refine HC5.out.mono ?_;rintro e w6 ⟨rfl,hb6,hat6⟩)
    have H6:=Lib.hid hb6
    have A6:=Lib.hid hat6
    clear HC5 hb6 hat6
    go_ret
    exact ⟨HW3.out.trans (H6.out.mono hw3),xa7,xc7,rfl,A6.out⟩
end Go.Proofs.YtffcklfigpmlgaaGreatDoor
