/-
  A region that draws its order, walked in one order of one's own choice: operations that only read (in every world of a class C they yield one value and leave the world) may be taken at any time; the others come up alone, one after the other, and each leaves a world of C.
  A region that draws its order, walked in one order of one's own choice: operations that only read, and calls that return one value and leave the world (in every world of a class C), may be taken at any time; the others come up alone, one after the other, and each leaves a world of C.
  A region that keeps its order, cut: what is known between its parts.
  A list of known length, spelled out: 'refine elim_vals n hl ?_; intro s0 .. '.
  Drawn regions: three operations come up.
-/
import Derived.Orders
import Derived.Deep.Quiet
import Derived.Tactics
import Derived.ProofKit
import Derived.OpenShut
import Derived.WalkKit
import Derived.Lib.SmallJoins
import Derived.Deep.Slices
import Derived.Deep.Fields
import Derived.ChangeSame
import Derived.SliceStrings
import Derived.Deep.DeepHandedRow
import Derived.Lib.LaidTab
namespace Go
section
variable {P:Program} {ops:Array Oper} {md:Region.Mode} {C:World→Prop} {Q:Exit→Act→World→Prop}

def StillIn (P:Program) (ops:Array Oper) (C:World→Prop) (o:Oper) (v:Value) (a:Act):Prop :=
 (Region.wanted o (yielded ops a.tmps)=true∧∀ w,C w→(execOp a.eval o).run P w = .ok (.value v) w) ∨
 (Region.wanted o (yielded ops a.tmps)=false∧v=undef)
theorem StillIn.of_same {o:Oper} {v:Value} {a a':Act} (hy:StillIn P ops C o v a) (he:execOp a'.eval o=execOp a.eval o)
 (hw:Region.wanted o (yielded ops a'.tmps)=Region.wanted o (yielded ops a.tmps)):StillIn P ops C o v a':=by
 unfold StillIn at *
 rw [he,hw]
 exact hy
theorem StillIn.wpOp {i:Nat} {o:Oper} {v:Value} {a:Act} (hi:ops[i]? = some o) (hy:StillIn P ops C o v a)
 {K:Act→World→Prop} {w:World} (hc:C w) (h:K (a.put o.dst v) w):wpOp P ops Q i K a w:=by
 unfold Go.wpOp
 simp only [hi]
 rcases hy with ⟨hw,hv⟩ | ⟨hw,rfl⟩
 ·simp only [hw,if_true,Oper.wp,hv w hc,Oper.upon];exact .inl h
 ·simp only [hw,Bool.false_eq_true,if_false];exact h
def Oper.stillUponC (w:World) (v:Value):Result Next→Prop
 | .ok (.value u) w'=>w' = w∧u=v
 | _=>False
def Oper.stillAtC (P:Program) (o:Oper) (a:Act) (w:World) (v:Value):Prop:=Oper.stillUponC w v ((execOp a.eval o).run P w)
def Oper.stillC (P:Program) (o:Oper) (a:Act) (C:World→Prop) (next:Act→Prop):Prop:=∃ v,(∀ w,C w→o.stillAtC P a w v)∧next (a.put o.dst v)
attribute [go_sem] Oper.stillC Oper.stillAtC Oper.stillUponC
theorem Oper.stillAtC_run {o:Oper} {a:Act} {w:World} {v:Value} (h:o.stillAtC P a w v):(execOp a.eval o).run P w = .ok (.value v) w:=by
 unfold Oper.stillAtC at h
 cases hr:(execOp a.eval o).run P w with
 | ok n w' =>
   rw [hr] at h
   cases n with
   | value u=>simp only [Oper.stillUponC] at h;rw [h.1,h.2]
   | _=>simp only [Oper.stillUponC] at h
 | halt x w'=>rw [hr] at h;simp only [Oper.stillUponC] at h

end
end Go
namespace Go
section
variable {P:Program} {ops:Array Oper} {md:Region.Mode} {C:World→Prop} {Q:Exit→Act→World→Prop}

def wpAnyY (P:Program) (md:Region.Mode) (ops:Array Oper) (C:World→Prop) (Q:Exit→Act→World→Prop):Nat→Array Bool→Act→World→Prop
 | 0,listed,a,w=>Region.ready md ops listed = []∧Q .normal a w
 | fuel + 1,listed,a,w =>
   (Region.ready md ops listed = []→Q .normal a w) ∧
   ∀ i ∈ Region.ready md ops listed,wpOp P ops Q i (fun a' w'=>C w'∧wpAnyY P md ops C Q fuel (listed.setIfInBounds i true) a' w') a w
theorem wpAny_of_Y:∀ (fuel:Nat) (listed:Array Bool) (a:Act) (w:World),wpAnyY P md ops C Q fuel listed a w→wpAny P md ops Q fuel listed a w
 | 0,_,_,_,h=>h
 | fuel + 1,_,_,_,h=>⟨h.1,fun i hi=>wpOp_mono (fun a' w' hh=>wpAny_of_Y fuel _ a' w' hh.2) (h.2 i hi)⟩

def StillY (P:Program) (ops:Array Oper) (C:World→Prop) (o:Oper) (v:Value) (a:Act):Prop :=
 (Region.wanted o (yielded ops a.tmps)=true∧∀ w,C w→((execOp a.eval o).run P w = .ok (.value v) w ∨ ∃ f args,(execOp a.eval o).run P w = .ok (.enter f args) w∧Calls P f args w (fun e w'=>e = .returned v∧w=w'))) ∨
 (Region.wanted o (yielded ops a.tmps)=false∧v=undef)
theorem StillY.of_same {o:Oper} {v:Value} {a a':Act} (hy:StillY P ops C o v a) (he:execOp a'.eval o=execOp a.eval o)
 (hw:Region.wanted o (yielded ops a'.tmps)=Region.wanted o (yielded ops a.tmps)):StillY P ops C o v a':=by
 unfold StillY at *
 rw [he,hw]
 exact hy
theorem StillY.wpOp {i:Nat} {o:Oper} {v:Value} {a:Act} (hi:ops[i]? = some o) (hy:StillY P ops C o v a)
 {K:Act→World→Prop} {w:World} (hc:C w) (h:K (a.put o.dst v) w):wpOp P ops Q i K a w:=by
 unfold Go.wpOp
 simp only [hi]
 rcases hy with ⟨hw,hv⟩ | ⟨hw,rfl⟩
 ·rcases hv w hc with hr | ⟨f,args,hr,hcall⟩
  ·simp only [hw,if_true,Oper.wp,hr,Oper.upon];exact .inl h
  ·simp only [hw,if_true,Oper.wp,hr,Oper.upon]
   refine .inl (hcall.mono ?_)
   rintro e w' ⟨rfl,rfl⟩
   exact h
 ·simp only [hw,Bool.false_eq_true,if_false];exact h
theorem wpOp_putY {j:Nat} {oi oj:Oper} {v:Value} (hj:ops[j]? = some oj) (hap:oi.apart ops oj=true)
 (hsi:∀ cs b,oi.op ≠ .select cs b) (hsj:∀ cs b,oj.op ≠ .select cs b)
 (hQ:∀ c a w,Q (.panic c) (a.put oi.dst v) w→Q (.panic c) a w) {K:Act→World→Prop} {a:Act} {w:World}
 (hy:StillY P ops C oi v a) (h:wpOp P ops Q j K (a.put oi.dst v) w) :
 wpOp P ops Q j (fun a' w'=>StillY P ops C oi v a'∧K (a'.put oi.dst v) w') a w:=by
 obtain ⟨h1,h2,h3⟩:=Oper.apart_spec hap
 have keep:∀ (a:Act),StillY P ops C oi v a→∀ u,StillY P ops C oi v (a.put oj.dst u):=fun a hy u =>
  hy.of_same (execOp_put oi hsi a oj.dst u h3) (wanted_put oi a oj.dst u h3)
 have keepD:∀ d,StillY P ops C oi v { a with defers:=d :: a.defers }:=fun d=>hy.of_same rfl rfl
 unfold wpOp at *
 simp only [hj] at *
 rw [wanted_put oj a oi.dst v h1] at h
 split
 ·rename_i hw
  simp only [hw,if_true] at h
  rcases h with h | ⟨hasks,hlets⟩
  case inr=>exact .inr ⟨by unfold Oper.asks at *;rw [execOp_put oj hsj a oi.dst v h1] at hasks;exact hasks,hlets⟩
  refine .inl ?_
  unfold Oper.wp at *
  rw [execOp_put oj hsj a oi.dst v h1] at h
  generalize (execOp a.eval oj).run P w=r at *
  cases r with
  | ok n w' =>
    cases n <;> simp only [Oper.upon] at h ⊢
    case value u=>exact ⟨keep a hy u,by rw [← Act.put_comm a v u h2];exact h⟩
    case skip=>exact ⟨keep a hy _,by rw [← Act.put_comm a v undef h2];exact h⟩
    case defer d =>
     refine ⟨keep _ (keepD d) _,?_⟩
     rw [← Act.put_comm _ v undef h2,← Act.put_defers]
     exact h
    case enter f args =>
     refine Calls.mono h fun e w'' he=>?_
     cases e with
     | returned u=>exact ⟨keep a hy u,by rw [← Act.put_comm a v u h2];exact he⟩
     | panicked c=>exact hQ _ _ _ he
     | outgrown=>exact he
    case row row args=>exact Rows.mono h fun u w'' he=>⟨keep a hy u,by rw [← Act.put_comm a v u h2];exact he⟩
  | halt x w' =>
    cases x <;> simp only [Oper.upon] at h ⊢
    case panic u=>exact hQ _ _ _ h
 ·rename_i hw
  simp only [hw] at h
  exact ⟨keep a hy _,by rw [← Act.put_comm a v undef h2];exact h⟩
theorem wpAnyY_first {i:Nat} {oi:Oper} {v:Value} (hi:ops[i]? = some oi) (hsel:∀ (j:Nat) (o:Oper) cs b,ops[j]? = some o→o.op ≠ .select cs b)
 (hQ:∀ c a w,Q (.panic c) (a.put oi.dst v) w→Q (.panic c) a w) :
 ∀ (fuel:Nat) (listed:Array Bool) (a:Act) (w:World),C w →
   (∀ j oj,ops[j]? = some oj→j ≠ i→listed.getD j true=false→(∀ e ∈ oj.after,Region.binds md e=true→e.on ≠ i)→oi.apart ops oj=true) →
   i ∈ Region.ready md ops listed→StillY P ops C oi v a →
   wpAnyY P md ops C Q fuel (listed.setIfInBounds i true) (a.put oi.dst v) w→wpAnyY P md ops C Q (fuel + 1) listed a w:=by
 intro fuel
 induction fuel with
 | zero =>
   intro listed a w hc _ hr hy H
   refine ⟨fun h=>(by rw [h] at hr;cases hr),fun j hj=>?_⟩
   by_cases hji:j=i
   ·subst hji;exact hy.wpOp hi hc ⟨hc,H⟩
   ·have:=ready_mono hj hji
    rw [H.1] at this
    cases this
 | succ fuel ih =>
   intro listed a w hc hfree hr hy H
   refine ⟨fun h=>(by rw [h] at hr;cases hr),fun j hj=>?_⟩
   by_cases hji:j=i
   ·subst hji;exact hy.wpOp hi hc ⟨hc,H⟩
   ·have h1:=H.2 j (ready_mono hj hji)
    obtain ⟨hjun,oj,hoj,hall⟩:=mem_ready.1 hj
    have hnot:∀ e ∈ oj.after,Region.binds md e=true→e.on ≠ i:=fun e he hb heq=>by
     have h1:=hall e he hb
     have h0:=(mem_ready.1 hr).1
     rw [heq] at h1
     rcases Nat.lt_or_ge i listed.size with h' | h'
     ·simp [h'] at h0 h1;rw [h0] at h1;cases h1
     ·simp [Array.getElem?_eq_none h'] at h1
    have h2:=wpOp_putY hoj (hfree j oj hoj hji hjun hnot) (fun cs b=>hsel i oi cs b hi) (fun cs b=>hsel j oj cs b hoj) hQ hy h1
    have hfree':∀ k ok,ops[k]? = some ok→k ≠ i→(listed.setIfInBounds j true).getD k true=false →
     (∀ e ∈ ok.after,Region.binds md e=true→e.on ≠ i)→oi.apart ops ok=true:=fun k ok hk hki hun hno=>by
     refine hfree k ok hk hki ?_ hno
     by_cases hjk:j=k
     ·subst hjk;exact hjun
     ·rw [getD_set_ne true hjk] at hun;exact hun
    refine wpOp_mono (fun a' w' h3=>⟨h3.2.1,ih (listed.setIfInBounds j true) a' w' h3.2.1 hfree' (ready_mono hr (Ne.symm hji)) h3.1 ?_⟩) h2
    rw [Array.setIfInBounds_comm _ _ hji]
    exact h3.2.2

theorem wpAnyY_take (i:Nat) {o:Oper} {fuel:Nat} {listed:Array Bool} {a:Act} {w:World} (ho:ops[i]? = some o)
 (hB:(Region.noSelect ops && (Region.ready md ops listed).contains i && Region.free md ops listed i)=true)
 (hQ:∀ v c a w,Q (.panic c) (a.put o.dst v) w→Q (.panic c) a w) (hc:C w)
 (h:∀ K:Act→Prop,(∀ a',wpAnyY P md ops C Q fuel (listed.setIfInBounds i true) a' w→K a')→if Region.wanted o (yielded ops a.tmps) then o.stillC P a C K else K (a.put o.dst undef)) :
 wpAnyY P md ops C Q (fuel + 1) listed a w:=by
 simp only [Bool.and_eq_true] at hB
 obtain ⟨⟨hs,hr⟩,hf⟩:=hB
 have h':=h (fun a'=>wpAnyY P md ops C Q fuel (listed.setIfInBounds i true) a' w) (fun _ x=>x)
 by_cases hw:Region.wanted o (yielded ops a.tmps)=true
 ·rw [if_pos hw] at h'
  obtain ⟨v,hv,hK⟩:=h'
  exact wpAnyY_first ho (Region.noSelect_spec hs) (hQ v) fuel listed a w hc (Region.free_spec ho hf) (by simpa using hr) (.inl ⟨hw,fun w' hw'=>.inl (Oper.stillAtC_run (hv w' hw'))⟩) hK
 ·rw [if_neg hw] at h'
  exact wpAnyY_first ho (Region.noSelect_spec hs) (hQ undef) fuel listed a w hc (Region.free_spec ho hf) (by simpa using hr) (.inr ⟨by simpa using hw,rfl⟩) h'
def Oper.callUponY (w:World) (R:FuncId→Array Value→Prop):Result Next→Prop
 | .ok (.enter f args) w'=>w' = w∧R f args
 | _=>False
attribute [go_sem] Oper.callUponY
theorem wpAnyY_one (k:Nat) {o:Oper} {fuel:Nat} {listed:Array Bool} {a:Act} {w:World} (ho:ops[k]? = some o) (hr:(Region.ready md ops listed == [k])=true)
 (h:wpList P ops (Exit.then (fun a' w'=>C w'∧wpAnyY P md ops C Q fuel (listed.setIfInBounds k true) a' w') Q) [o] a w):wpAnyY P md ops C Q (fuel + 1) listed a w:=by
 have hr':Region.ready md ops listed = [k]:=by simpa using hr
 refine ⟨fun h0=>(by rw [hr'] at h0;cases h0),fun i hi=>?_⟩
 rw [hr'] at hi
 obtain rfl:i=k:=by simpa using hi
 unfold wpOp
 simp only [ho]
 simp only [wpList] at h
 split
 ·rename_i hw
  simp only [hw,if_true] at h
  rcases h with h | ⟨hasks,hlets⟩
  ·refine .inl ?_
   unfold Oper.wp at *
   generalize (execOp a.eval o).run P w=r at *
   cases r with
   | ok n w' =>
     cases n <;> simp only [Oper.upon] at h ⊢
     case enter f args=>exact Calls.mono h (fun e w'' he=>by cases e <;> exact he)
     all_goals exact h
   | halt x w'=>cases x <;> simp only [Oper.upon] at h ⊢ <;> exact h
  ·exact .inr ⟨hasks,hlets⟩
 ·rename_i hw
  simp only [hw] at h
  exact h
theorem wpOpY_of_list {k:Nat} {o:Oper} {K:Act→World→Prop} {a:Act} {w:World} (ho:ops[k]? = some o) (h:wpList P ops (Exit.then K Q) [o] a w):wpOp P ops Q k K a w:=by
 unfold wpOp
 simp only [ho]
 simp only [wpList] at h
 split
 ·rename_i hw
  simp only [hw,if_true] at h
  rcases h with h | ⟨hasks,hlets⟩
  ·refine .inl ?_
   unfold Oper.wp at *
   generalize (execOp a.eval o).run P w=r at *
   cases r with
   | ok n w' =>
     cases n <;> simp only [Oper.upon] at h ⊢
     case enter f args=>exact Calls.mono h (fun e w'' he=>by cases e <;> exact he)
     all_goals exact h
   | halt x w'=>cases x <;> simp only [Oper.upon] at h ⊢ <;> exact h
  ·exact .inr ⟨hasks,hlets⟩
 ·rename_i hw
  simp only [hw] at h
  exact h
theorem wpAnyY_two (k l:Nat) {o o':Oper} {fuel:Nat} {listed:Array Bool} {a:Act} {w:World} (ho:ops[k]? = some o) (ho':ops[l]? = some o') (hr:(Region.ready md ops listed == [k,l])=true)
 (h:wpList P ops (Exit.then (fun a' w'=>C w'∧wpAnyY P md ops C Q fuel (listed.setIfInBounds k true) a' w') Q) [o] a w)
 (h':wpList P ops (Exit.then (fun a' w'=>C w'∧wpAnyY P md ops C Q fuel (listed.setIfInBounds l true) a' w') Q) [o'] a w):wpAnyY P md ops C Q (fuel + 1) listed a w:=by
 have hr':Region.ready md ops listed = [k,l]:=by simpa using hr
 refine ⟨fun h0=>(by rw [hr'] at h0;cases h0),fun i hi=>?_⟩
 rw [hr'] at hi
 have hi:i=k ∨ i=l:=by simpa using hi
 rcases hi with rfl | rfl
 ·exact wpOpY_of_list ho h
 ·exact wpOpY_of_list ho' h'
theorem wpAnyY_done {listed:Array Bool} {a:Act} {w:World} (hr:(Region.ready md ops listed).isEmpty=true) (h:Q .normal a w) (fuel:Nat):wpAnyY P md ops C Q fuel listed a w:=by
 have hr':Region.ready md ops listed = []:=by simpa using hr
 cases fuel with
 | zero=>exact ⟨hr',h⟩
 | succ n=>exact ⟨fun _=>h,by rw [hr'];simp⟩
theorem wp_region_Y {id:Nat} {a:Act} {w:World} {l:List Oper} (C:World→Prop) (hm:P.follows .mixedOrders=true)
 (h:wpAnyY P .any l.toArray C Q l.length (Array.replicate l.length false) a { w with drawn:=w.drawn + 1 }):(Code.region id l.toArray true).wp P Q a w :=
 wp_region_any hm (by simpa using wpAny_of_Y _ _ _ _ h)
end
end Go
namespace Go
theorem Oper.wp_then {P:Program} {Q:Exit→Act→World→Prop} {R K:Act→World→Prop} {o:Oper} {a:Act} {w:World} (h:o.wp P a w K (Exit.then R Q)):o.wp P a w K Q:=by
 unfold Oper.wp at *
 generalize (execOp a.eval o).run P w=r at *
 cases r with
 | ok n w'=>cases n <;> exact h
 | halt x w'=>cases x <;> exact h
theorem wpList_cut {P:Program} {ops:Array Oper} {Q:Exit→Act→World→Prop} (R:Act→World→Prop) {l2:List Oper} (h2:∀ a w,R a w→wpList P ops Q l2 a w):∀ {l1:List Oper} {a:Act} {w:World},
 wpList P ops (Exit.then R Q) l1 a w→wpList P ops Q (l1 ++ l2) a w
 | [],a,w,h=>h2 a w h
 | o :: l1,a,w,h=>by
   simp only [wpList,List.cons_append] at h ⊢
   split at h
   ·rename_i hw
    rw [if_pos hw]
    rcases h with h | ⟨h1,h3⟩
    ·exact .inl (Oper.wp_mono (fun a w h=>wpList_cut R h2 h) (Oper.wp_then h))
    ·exact .inr ⟨h1,h3⟩
   ·rename_i hw
    rw [if_neg hw]
    exact wpList_cut R h2 h
theorem wp_region_cutAt {P:Program} {Q:Exit→Act→World→Prop} {id:Nat} {l:List Oper} {a:Act} {w:World} (n:Nat) (R:Act→World→Prop) (h1:wpList P l.toArray (Exit.then R Q) (l.take n) a w)
 (h2:∀ a w,R a w→wpList P l.toArray Q (l.drop n) a w):(Code.region id l.toArray false).wp P Q a w:=by
 refine wp_region_lit ?_
 have:=wpList_cut R h2 h1
 rwa [List.take_append_drop] at this
theorem wpList_cutAt {P:Program} {ops:Array Oper} {Q:Exit→Act→World→Prop} {l:List Oper} {a:Act} {w:World} (n:Nat) (R:Act→World→Prop) (h1:wpList P ops (Exit.then R Q) (l.take n) a w)
 (h2:∀ a w,R a w→wpList P ops Q (l.drop n) a w):wpList P ops Q l a w:=by
 have:=wpList_cut R h2 h1
 rwa [List.take_append_drop] at this
theorem wp_region_part {P:Program} {Q:Exit→Act→World→Prop} {id:Nat} {l:List Oper} {a:Act} {w:World} (n:Nat) (R:Act→World→Prop) (h1:∀ Q':Exit→Act→World→Prop,(∀ a w,R a w→Q' .normal a w)→wpList P l.toArray Q' (l.take n) a w)
 (h2:∀ a w,R a w→wpList P l.toArray Q (l.drop n) a w):(Code.region id l.toArray false).wp P Q a w :=
 wp_region_cutAt n R (h1 _ fun _ _ h=>h) h2
theorem wpList_part {P:Program} {ops:Array Oper} {Q:Exit→Act→World→Prop} {l:List Oper} {a:Act} {w:World} (n:Nat) (R:Act→World→Prop) (h1:∀ Q':Exit→Act→World→Prop,(∀ a w,R a w→Q' .normal a w)→wpList P ops Q' (l.take n) a w)
 (h2:∀ a w,R a w→wpList P ops Q (l.drop n) a w):wpList P ops Q l a w :=
 wpList_cutAt n R (h1 _ fun _ _ h=>h) h2
end Go
namespace Go
def ElimN {α:Type}:Nat→(List α→Prop)→Prop
 | 0,p=>p []
 | n + 1,p=>∀ x,ElimN n (fun l=>p (x :: l))
theorem elim_vals {α:Type}:∀ (n:Nat) {p:List α→Prop} {l:List α},l.length=n→ElimN n p→p l
 | 0,p,l,h,hp=>by
   obtain rfl:=List.eq_nil_of_length_eq_zero h
   exact hp
 | n + 1,p,l,h,hp=>by
   cases l with
   | nil=>simp at h
   | cons x m=>exact elim_vals n (p:=fun l=>p (x :: l)) (by simpa using h) (hp x)
end Go
namespace Go
section
variable {P:Program} {ops:Array Oper} {md:Region.Mode} {C:World→Prop} {Q:Exit→Act→World→Prop}
end
end Go
namespace Go.LawLift
open Go.Joins Go.ChangeShapes Go.WideShapes Go.ChangeAt Go.RowKit Go.Deep

section
variable {H:Type} {enc:TypeId × Value→H} {P:Program}
theorem trodAll_stays (hl:laidOutB P=true) {W W':World} (hb:Below W.heap.size W W') :
 ∀ {ts:List TypeId} {vs:List Value} {ds:List (DataW H)} {ps:List MemPlace},(∀ t ∈ ts,P.readableRec t=true∧t < P.types.size)→DataW.TrodAll enc P W 0 (fun _=>true) true ts vs ds ps →
 DataW.TrodAll enc P W' 0 (fun b=>decide (b < W.heap.size)) true ts vs ds ps
 | [],[],[],_,_,h=>h
 | t :: ts,v :: vs,d :: ds,ps,ht,h=>by
   obtain ⟨p,q,h1,h2,rfl⟩:=h
   have hlt:∀ x ∈ p ++ q,x.block < W.heap.size:=DataW.TrodAll.lt (ts:=t :: ts) (vs:=v :: vs) (ds:=d :: ds) ⟨p,q,h1,h2,rfl⟩
   exact ⟨p,q,Below.trod hl (ht t (by simp)).1 (ht t (by simp)).2 h1 hb (fun x hx=>hlt x (by simp [hx])),trodAll_stays hl hb (fun t' ht'=>ht t' (by simp [ht'])) h2,rfl⟩
 | [],[],_ :: _,_,_,h=>h.elim
 | [],_ :: _,_,_,_,h=>h.elim
 | _ :: _,[],_,_,_,h=>h.elim
 | _ :: _,_ :: _,[],_,_,h=>h.elim

theorem law_post (hl:laidOutB P=true) {f:Func} {s:ChangeSpec} {W W':World} {args:Array Value} {ds gs:List (DataW H)} {before:List MemPlace} {tb:TypeId}
 (hts:∀ t ∈ f.params.toList,P.readableRec t=true∧t < P.types.size) (hrt:f.resultTypes = #[tb]) (htb:P.underlying tb=some .bool) (hsv:s.vars = [])
 (hs:s.fn H ds = { results:=[.lit (.bool true)],args:=ds }) (hW:DataW.Whole enc P f.params.toList s.vars false W args.toList ds gs before) (hb:Below W.heap.size W W') :
 s.post enc P f false true false false W args (.bool true) W':=by
 have hW':=hW
 obtain ⟨p,q,hA,hV,rfl,_,_⟩:=hW
 rw [hsv] at hV
 obtain ⟨rfl,rfl⟩:=trodVars_none hV
 refine ⟨ds,[],p ++ [],[],p,[],hW',?_,?_,?_,hb.frame _,fun h=>by cases h⟩
 ·rw [hrt]
  simp only [List.append_nil,hs]
  exact trodAll_mk1 (shut_bool htb true)
 ·simp only [List.append_nil,hs]
  exact trodAll_stays hl hb hts hA
 ·simp only [List.append_nil,hs,hsv]
  exact rfl
end

theorem list_of {α:Type} {Q:Nat→α→Prop}:∀ (n:Nat),(∀ i,i < n→∃ m,Q i m)→∃ l:List α,l.length=n∧∀ i (h:i < l.length),Q i l[i]
 | 0,_=>⟨[],rfl,fun i h=>absurd h (by simp)⟩
 | n + 1,h=>by
   obtain ⟨l,hl,hq⟩:=list_of n (fun i hi=>h i (by omega))
   obtain ⟨m,hm⟩:=h n (by omega)
   refine ⟨l ++ [m],by simp [hl],fun i hi=>?_⟩
   by_cases e:i < l.length
   ·rw [List.getElem_append_left e];exact hq i e
   ·have:i=n:=by simp at hi;omega
    subst this
    rw [List.getElem_append_right (by omega)]
    simpa [hl] using hm
theorem spot_none {w:World} {a:Addr} {v:Value} (h:w.cell? a=some v):a.spot=none:=by
 unfold World.cell? at h
 split at h
 ·cases hs:a.spot with
  | none=>rfl
  | some x=>simp [hs] at h
 ·cases h
theorem add_out {w:World} {a:Addr} {v:Value} (h:w.cell? a=some v) (k:Nat):a=⟨a.block,a.off,none⟩∧a.add k=⟨a.block,a.off + k,none⟩:=by
 have hs:=spot_none h
 obtain ⟨b,off,sp⟩:=a
 subst hs
 refine ⟨rfl,?_⟩
 unfold Addr.add
 split
 ·rename_i e;subst e;rfl
 ·rfl
section
variable {H:Type} {enc:TypeId × Value→H} {P:Program} {w:World} {base:Nat} {spare:Nat→Bool} {held:Bool}
theorem open_rows {t e:TypeId} {fs:Array Field} {fuel:Nat} {cs:List Value} {x:DataW H × List MemPlace} (ht:P.underlying t=some (.slice e)) (he:P.underlying e=some (.struct fs))
 (hone:oneCellFields P fs=true) (hC:P.cellsOf e=fs.size) (h:DataW.trod enc P w base spare held fuel t cs=some x) :
 (cs = [.slice none 0 0]) ∨
 ∃ (a:Addr) (len cap:Nat),cs = [.slice (some a) len cap]∧len≤cap∧cap≤maxLen ∧
   ∀ i,i < len→∃ n,∀ (j:Nat) (f:Field),fs[j]? = some f→∃ (v:Value) (y:DataW H × List MemPlace),w.cell? (a.add (i * fs.size + j))=some v∧DataW.trod enc P w base spare held n f.type [v]=some y:=by
 rcases open_slice ht h with ⟨h0,_⟩ | ⟨a,len,cap,m,n,D,Pl,hcs,hb,hl,hm,hmm,hx,hi⟩
 ·exact .inl h0
 ·refine .inr ⟨a,len,cap,hcs,hl,hm,fun i him=>?_⟩
  obtain ⟨cs',hc,ht'⟩:=hi i (by rw [hmm];split <;> omega)
  rw [hC] at hc
  obtain ⟨ys,n',hn',hy,hlen,hyl,hf⟩:=DataW.trod_struct he ht'
  obtain ⟨_,hcl,hat⟩:=World.cells?_some hc
  refine ⟨n',fun j f hj=>?_⟩
  obtain ⟨ho,hk⟩:=hone_of hone j f hj
  have hjl:j < fs.size:=(Array.getElem?_eq_some_iff.1 hj).1
  have hcell:=hat j hjl
  have hv:cs'[j]? = some (cs'[j]'(by omega)):=List.getElem?_eq_getElem (by omega)
  have h1:=hf j f hj
  rw [ho,hk] at h1
  have hone':(cs'.drop j).take 1 = [cs'[j]'(by omega)]:=by
   rw [List.drop_eq_getElem_cons (by omega)]
   rfl
  rw [hone'] at h1
  have hys:ys[j]? = some (ys[j]'(by omega)):=List.getElem?_eq_getElem (by omega)
  refine ⟨_,_,?_,h1.trans hys⟩
  rw [← Go.Deep.add_add,hcell,hv]
theorem cells_of_strs {fuel:Nat} {t e:TypeId} {n:Nat} {cs:List Value} {ss:List ByteArray} {p:List MemPlace}
 (ht:P.underlying t=some (.array n e)) (he:P.underlying e=some .string) (hce:P.cellsOf e=1) (hct:P.cellsOf t=n)
 (h:DataW.trod enc P w base spare held fuel t cs=some (.agg (ss.map fun s=>.lit (.string s.data.toList)),p)):cs=ss.map Value.string:=by
 cases fuel with
 | zero=>simp [DataW.trod] at h
 | succ fuel =>
   simp only [DataW.trod,ht,hce,hct,Nat.mul_one] at h
   split at h
   ·rename_i hl
    obtain ⟨xs,hm,hx⟩:=Option.map_eq_some_iff.1 h
    have hxs:xs.map (·.1)=ss.map fun s=>(DataW.lit (.string s.data.toList):DataW H):=by
     have:=congrArg Prod.fst hx
     simpa using this
    have hxl:xs.length=n:=by simpa using Lib.mapM_length hm
    have hzl:ss.length=n:=by
     have:=congrArg List.length hxs
     simp at this
     omega
    apply List.ext_getElem?
    intro i
    by_cases hi:i < n
    ·obtain ⟨b,hb,hf⟩:=Lib.mapM_at hm i i (by simp [hi])
     obtain ⟨z,hc,rfl,_⟩:=DataW.trod_string he hf
     have h1:cs[i]? = some (.string z):=by
      have:=congrArg (·[0]?) hc
      simpa [List.getElem?_take,List.getElem?_drop] using this
     have h2:(xs.map (·.1))[i]? = some (DataW.lit (.string z.data.toList):DataW H):=by simp [hb]
     rw [hxs] at h2
     simp only [List.getElem?_map,Option.map_eq_some_iff,DataW.lit.injEq,Lit.string.injEq] at h2
     obtain ⟨z',hz',hzz⟩:=h2
     rw [h1,List.getElem?_map,hz',Option.map_some,bytes_inj hzz]
    ·rw [List.getElem?_eq_none (by omega),List.getElem?_eq_none (by simp;omega)]
   ·cases h
end
end Go.LawLift
