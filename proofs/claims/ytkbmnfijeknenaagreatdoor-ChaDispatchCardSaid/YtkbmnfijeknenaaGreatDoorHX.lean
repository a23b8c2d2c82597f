/-
  The program's functions of a set, ascending.
  Plain: the targets of a call.
-/
import Derived.Test.YtkbmnfijeknenaaGreatDoorH0
import Derived.Sort.OwnSortedInts
import Derived.Test.YtkbmnfijeknenaaGreatDoorHA
import Derived.Test.YtkbmnfijeknenaaGreatDoorUA
namespace Go.Proofs.YtkbmnfijeknenaaGreatDoor
open Go.RowKit Go.Unit0 Go.AM Go.Sort

def sortI (l:List Int):List Int:=l.mergeSort fun x y=>decide (x≤y)
theorem sortI_perm (l:List Int):(sortI l).Perm l:=List.mergeSort_perm _ _
theorem sortI_len (l:List Int):(sortI l).length=l.length:=(sortI_perm l).length_eq
theorem sortI_le (l:List Int):(sortI l).Pairwise (·≤·):=by
 have h:=List.pairwise_mergeSort (le:=fun (x y:Int)=>decide (x≤y)) (fun a b c h1 h2=>by simp at *;omega) (fun a b=>by simp;omega) l
 exact h.imp fun h=>by simpa using h
theorem sortI_lt {l:List Int} (hn:l.Nodup):(sortI l).Pairwise (· < ·):=by
 have hn2:(sortI l).Nodup:=(sortI_perm l).nodup_iff.2 hn
 have:=List.pairwise_and_iff.2 ⟨sortI_le l,hn2⟩
 exact this.imp (fun h=>by have:=h.1;have:=h.2;omega)
def posL (l:List Int):List Int:=l.filter (fun x=>decide (0≤x))
theorem posL_t {l:List Int} {x:Int} (h:0≤x):posL (l ++ [x])=posL l ++ [x]:=by simp [posL,h]
theorem posL_f {l:List Int} {x:Int} (h:¬ 0≤x):posL (l ++ [x])=posL l:=by simp [posL,h]
theorem posL_len (l:List Int):(posL l).length≤l.length:=List.length_filter_le _ _
set_option maxHeartbeats 1000000 in
theorem sort_ownI (l:List Int) (a:Option Addr) (c base:Nat) (w:World) (own:w.ownsRow base 3 1 (.slice a l.length c) l.length (l.map intV)) (hl:l.length≤1000000) :
 Calls Tryz.prog 100 #[.slice a l.length c] w (fun e w'=>e = .returned (.tuple #[])∧w.grownBy w' (Value.slice a l.length c).ownBlock∧w'.ownsRow base 3 1 (.slice a l.length c) l.length ((sortI l).map intV)):=by
 have own0:=own
 obtain ⟨_,hown⟩:=own
 rcases hown with ⟨e,h0⟩ | ⟨g,cap,cur,e,hbase,hh,hn,hcap,hsz,ht⟩
 ·have hl0:l = []:=List.eq_nil_of_length_eq_zero h0
  subst hl0
  cases e
  have e0:sortI [] = []:=by simp [sortI]
  rw [e0]
  refine (Tryz.slices_Sort_int_none none 0 w).mono ?_
  rintro e w' ⟨rfl,rfl⟩
  exact ⟨rfl,World.grownBy.refl _ _,own0⟩
 ·cases e
  have hH:=holds_of_blockI (ss:=l) hh (by rw [Nat.mul_one] at ht;exact ht)
  have h:=Tryz.slices_Sort_int g 0 c l w hH (Array.getElem?_eq_some_iff.1 hh).1 (by omega)
  refine h.mono ?_
  rintro e w' ⟨rfl,n,os,rfl⟩
  have ow:=ownsRow_sortedI (n:=n) (os:=os) (ts:=sortI l) (sortI_len l) hbase hh (by omega) hcap hsz
  exact ⟨rfl,grownBy_sortedI _,ow⟩
structure FP (w wr:World) (g ri m:Nat) (F:Int→Option Value) (left:List (Int × Value)) (l:List Int) (oa:Option Addr) (oc:Nat):Prop where
 hb:Go.RowKit.Below w.heap.size w wr
 it:IterF wr ri g (Value.int .i64) F m left
 ow:wr.ownsRow w.heap.size 3 1 (.slice oa l.length oc) l.length (l.map intV)
 gi:w.heap.size≤ri
theorem FP.below {w wr w':World} {g ri m:Nat} {F:Int→Option Value} {left:List (Int × Value)} {l:List Int} {oa:Option Addr} {oc:Nat} (k:FP w wr g ri m F left l oa oc) (hb:Go.RowKit.Below wr.heap.size wr w'):FP w w' g ri m F left l oa oc :=
 ⟨k.hb.trans (hb.mono k.hb.size),k.it.below hb,owns_below k.ow hb,k.gi⟩
def SetPost (S:Int→Prop) (w:World) (e:Ending) (w':World):Prop :=
 Go.RowKit.Below w.heap.size w w'∧∃ (L:List Int) (a:Option Addr) (c:Nat),e = .returned (.slice a L.length c)∧L.Pairwise (· < ·)∧(∀ x,x ∈ L ↔ S x)∧w'.ownsRow w.heap.size 3 1 (.slice a L.length c) L.length (L.map intV)
set_option maxRecDepth 100000 in
set_option maxHeartbeats 4000000 in
theorem functionsP (F:Int→Option Value) (g m:Nat) (w:World) (hm:MapF w g (Value.int .i64) F m) (hml:m≤1000000) :
 Calls Tryz.prog 51 #[.map (some g)] w (SetPost (fun x=>0≤x∧(F x).isSome=true) w):=by
 have HM:=Lib.hid hm
 clear hm
 go_enter Tryz.func51,Tryz.ntmps51
 go_wp2_with (at_range;refine wpList_rangeF rfl _ _ rfl undMIB g rfl HM.out ?_;intro w1 left0 hit hall hln hb1 hs1)
 have R0:Hid (FP w w1 g w.heap.size m F left0 [] none 0):=⟨hb1,hit,World.ownsRow_nil _ _ _ _,Nat.le_refl _⟩
 have HALL:Hid ((∀ x,x ∈ left0.map (·.1) ↔ (F x).isSome=true)∧(left0.map (·.1)).Nodup):=by
  refine ⟨fun e=>?_,hit.holds.2⟩
  constructor
  ·intro he
   obtain ⟨p,hp,rfl⟩:=List.mem_map.1 he
   rw [hit.holds.1 p hp];rfl
  ·intro he
   obtain ⟨v,hv⟩:=Option.isSome_iff_exists.1 he
   exact List.mem_map.2 ⟨(e,v),hall e v hv,rfl⟩
 have HLN:left0.length≤1000000:=by omega
 clear hit hall hln hb1 hs1 HM
 generalize hri:w.heap.size=ri at R0 ⊢
 have hri':w.heap.size≤ri:=Nat.le_of_eq hri
 clear hri
 go_frame
 go_loopw [3] (fun v wr=>∃ left,∃ (done:List Int) (oa:Option Addr) (oc:Nat),v = .slice oa (posL done).length oc∧Hid (FP w wr g ri m F left (posL done) oa oc)∧Hid ((done ++ left.map (·.1)).Perm (left0.map (·.1)))) (fun _ wr=>leftN wr ri)
 case atStart=>exact ⟨left0,[],none,0,rfl,R0.out,List.Perm.refl _⟩
 case round =>
  clear R0
  obtain ⟨left,done,oa,oc,rfl,R,PM⟩:=hrel
  have hdl:=perm_len PM.out
  have hpl:=posL_len done
  go_wp2_with (at_next;refine wpList_nextF rfl _ rfl ri g left rfl R.out.it ?_ ?_)
  ·intro h0
   subst h0
   have PD:Hid (done.Perm (left0.map (·.1))):=by
    have h:=PM.out
    rw [List.map_nil,List.append_nil] at h
    exact h
   clear PM
   go_wp2_with fail
   refine (sort_ownI (posL done) oa oc w.heap.size wr R.out.ow (by omega)).mono ?_
   rintro e w5 ⟨rfl,hg5,own5⟩
   have HB5:=Lib.hid (R.out.hb.grown hg5 R.out.hb.size (fun q hq=>(R.out.ow.lt q hq).1))
   have O5:=Lib.hid own5
   clear R hg5 own5
   go_wp2
   go_ret
   have hlen:=sortI_len (posL done)
   have O6:=O5.out
   rw [← hlen] at O6 ⊢
   refine ⟨HB5.out,sortI (posL done),oa,oc,rfl,sortI_lt ((PD.out.nodup_iff.2 HALL.out.2).filter _),fun x=>?_,O6⟩
   rw [(sortI_perm _).mem_iff,posL,List.mem_filter,PD.out.mem_iff,HALL.out.1 x]
   simp [and_comm]
  ·intro x pv j w4 hp hF hit4 hg4 hs4 hen
   have PM2:=Lib.hid (perm_next PM.out hp)
   have hel:=(perm_erase hp).length_eq
   have hm4:=R.out.it.leftN
   have R4:Hid (FP w w4 g ri m F (left.eraseIdx j) (posL done) oa oc) :=
    ⟨R.out.hb.grown hg4 R.out.hb.size (fun q hq=>by cases hq;exact R.out.gi),hit4,R.out.ow.kept hg4 (.inr (fun e=>owns_iter R.out.ow R.out.it e.symm)),R.out.gi⟩
   clear R PM hF hit4 hg4 hs4 hp
   by_cases hx:0≤x
   case neg =>
    have HP:Hid (posL (done ++ [x])=posL done):=posL_f hx
    have t1:=decide_eq_false hx
    clear hx
    go_wp2
    have hm8:=R4.out.it.leftN
    go_roundw
    case rel=>exact ⟨left.eraseIdx j,done ++ [x],oa,oc,by rw [HP.out],by rw [HP.out];exact R4.out,PM2.out⟩
    case measure =>
     rw [hm8,hm4]
     simp at hel
     omega
   case pos =>
    have HP:Hid (posL (done ++ [x])=posL done ++ [x]):=posL_t hx
    have t1:=decide_eq_true hx
    clear hx
    have R6:=Lib.hid (R4.out.below (one_below w4 (.cells #[.int .i64 x] 3)))
    have hbs:=R6.out.hb.size
    go_wp2_with (at_builtin;refine app_ints rfl _ _ rfl w.heap.size _ (posL done) rfl R6.out.ow _ 1 [x] rfl (ints_new _ _) (by omega) (by simp) hbs ?_;intro v7 W7 own7 hg7;obtain ⟨-,oa7,oc7,rfl,-,-⟩:=owns_ints own7)
    have R8:Hid (FP w W7 g ri m F (left.eraseIdx j) (posL done ++ [x]) oa7 oc7) :=
     ⟨R6.out.hb.grown hg7 hbs (fun q hq=>(R6.out.ow.lt q hq).1),R6.out.it.grown hg7 (owns_mapF R6.out.ow R6.out.it.map) (owns_iter R6.out.ow R6.out.it),own7,R6.out.gi⟩
    have hm8:=R8.out.it.leftN
    go_roundw
    case rel=>exact ⟨left.eraseIdx j,done ++ [x],oa7,oc7,by rw [HP.out,List.length_append] <;> rfl,by rw [HP.out];exact R8.out,PM2.out⟩
    case measure =>
     rw [hm8,hm4]
     simp at hel
     omega
end Go.Proofs.YtkbmnfijeknenaaGreatDoor
namespace Go.Proofs.YtkbmnfijeknenaaGreatDoor
open Go.RowKit Go.Unit0 Go.AM

def callS (h:List Cls) (fs:List Fnc) (c:Ins) (g:Int):Prop:=(c.op=10∧g=fnI fs c.cls c.name) ∨ (c.op=9∧∃ x,tgtNS h c.cls c.name x∧g=fnI fs x c.name)
def trgS (u:Unt) (f i x:Int):Prop:=0≤x∧∃ (j k:Nat) (hj:j < u.fs.length) (hk:k < u.fs[j].code.length),f=(j:Int)∧i=(k:Int)∧callS u.h u.fs u.fs[j].code[k] x
theorem fnFrom_lt (s t:Str):∀ (l:List Fnc) (k:Nat),-1≤fnFrom s t l k∧fnFrom s t l k < (k + l.length:Nat)
 | [],k=>by
   show -1≤(-1:Int)∧(-1:Int) < _
   omega
 | x :: l,k=>by
   have ih:=fnFrom_lt s t l (k + 1)
   show -1≤(if isFn s t x=true then (k:Int) else fnFrom s t l (k + 1))∧(if isFn s t x=true then (k:Int) else fnFrom s t l (k + 1)) < _
   rw [List.length_cons]
   by_cases e:isFn s t x=true
   ·rw [if_pos e];omega
   ·rw [if_neg e];omega
theorem fnI_lt (l:List Fnc) (s t:Str) : -1≤fnI l s t∧fnI l s t < l.length:=by
 have:=fnFrom_lt s t l 0
 simpa [fnI] using this
theorem callS_lt {h:List Cls} {fs:List Fnc} {c:Ins} {g:Int} (k:callS h fs c g):g < fs.length:=by
 rcases k with ⟨_,rfl⟩ | ⟨_,x,_,rfl⟩ <;> exact (fnI_lt ..).2
theorem trgS_lt {u:Unt} {f i x:Int} (k:trgS u f i x):0≤x∧x < u.fs.length:=by
 obtain ⟨h0,j,m,hj,hm,_,_,hc⟩:=k
 exact ⟨h0,callS_lt hc⟩
theorem trgS_at {u:Unt} {j k:Nat} (hj:j < u.fs.length) (hk:k < u.fs[j].code.length) (x:Int):trgS u j k x ↔ 0≤x∧callS u.h u.fs u.fs[j].code[k] x:=by
 constructor
 ·rintro ⟨h0,j',k',hj',hk',e1,e2,hc⟩
  obtain rfl:j=j':=by omega
  obtain rfl:k=k':=by omega
  exact ⟨h0,hc⟩
 ·rintro ⟨h0,hc⟩
  exact ⟨h0,j,k,hj,hk,rfl,rfl,hc⟩
theorem trgS_out {u:Unt} {f i:Int} (h:∀ (j k:Nat) (hj:j < u.fs.length),k < u.fs[j].code.length→¬ (f=(j:Int)∧i=(k:Int))) (x:Int):¬ trgS u f i x:=by
 rintro ⟨_,j,k,hj,hk,e1,e2,_⟩
 exact h j k hj hk ⟨e1,e2⟩
theorem set_unique {S:Int→Prop} {L M:List Int} (h1:L.Pairwise (· < ·)) (h2:∀ x,x ∈ L ↔ S x) (k1:M.Pairwise (· < ·)) (k2:∀ x,x ∈ M ↔ S x):L=M :=
 ord_unique (fun a=>Int.lt_irrefl a) (fun _ _ _=>Int.lt_trans) L M h1 k1 fun x=>(h2 x).trans (k2 x).symm
theorem asc_len {n:Nat} {L:List Int} (h:L.Pairwise (· < ·)) (k:∀ x ∈ L,0≤x∧x < n):L.length≤n :=
 nodup_len n L (h.imp fun h=>Int.ne_of_lt h) (fun x hx=>⟨x.toNat,by have:=k x hx;omega,by have:=k x hx;omega⟩)
open Classical in
noncomputable def trgL (u:Unt) (f i:Int):List Int:=((List.range u.fs.length).filter (fun g:Nat=>decide (trgS u f i (g:Int)))).map (fun g:Nat=>(g:Int))
open Classical in
theorem trgL_spec (u:Unt) (f i:Int):(trgL u f i).Pairwise (· < ·)∧∀ x,x ∈ trgL u f i ↔ trgS u f i x:=by
 refine ⟨?_,fun x=>?_⟩
 ·unfold trgL
  rw [List.pairwise_map]
  exact (List.pairwise_lt_range.filter _).imp (fun h=>Int.ofNat_lt.2 h)
 ·unfold trgL
  simp only [List.mem_map,List.mem_filter,List.mem_range,decide_eq_true_eq]
  constructor
  ·rintro ⟨g,⟨_,hs⟩,rfl⟩;exact hs
  ·intro hs
   have:=trgS_lt hs
   refine ⟨x.toNat,⟨by omega,?_⟩,by omega⟩
   rw [Int.toNat_of_nonneg this.1];exact hs
theorem trgL_unique {u:Unt} {f i:Int} {L:List Int} (h1:L.Pairwise (· < ·)) (h2:∀ x,x ∈ L ↔ trgS u f i x):L=trgL u f i :=
 set_unique h1 h2 (trgL_spec u f i).1 (trgL_spec u f i).2
theorem trgL_len (u:Unt) (f i:Int):(trgL u f i).length≤u.fs.length:=asc_len (trgL_spec u f i).1 (fun x hx=>trgS_lt (((trgL_spec u f i).2 x).1 hx))
theorem callS_same {h:List Cls} {fs:List Fnc} {c d:Ins} (h1:c.op=d.op) (h2:c.cls=d.cls) (h3:c.name=d.name) (g:Int):callS h fs c g ↔ callS h fs d g:=by
 unfold callS;rw [h1,h2,h3]
theorem trgL_same {u:Unt} {f i f' i':Nat} (hf:f < u.fs.length) (hi:i < u.fs[f].code.length) (hf':f' < u.fs.length) (hi':i' < u.fs[f'].code.length) (h1:u.fs[f].code[i].op=u.fs[f'].code[i'].op) (h2:u.fs[f].code[i].cls=u.fs[f'].code[i'].cls) (h3:u.fs[f].code[i].name=u.fs[f'].code[i'].name):trgL u f i=trgL u f' i' :=
 trgL_unique (trgL_spec u f i).1 fun x=>by rw [(trgL_spec u f i).2 x,trgS_at hf hi,trgS_at hf' hi',callS_same h1 h2 h3]
noncomputable def edgI (u:Unt) (f i:Nat):List Cal:=(trgL u f i).map (fun g=>⟨(f:Int),(i:Int),g⟩)
noncomputable def edgF (u:Unt) (f n:Nat):List Cal:=(List.range n).flatMap (fun i=>edgI u f i)
noncomputable def edgU (u:Unt) (m:Nat):List Cal:=(List.range m).flatMap (fun f=>edgF u f (u.fs[f]?.elim 0 (fun x=>x.code.length)))
theorem edgF_succ (u:Unt) (f n:Nat):edgF u f (n + 1)=edgF u f n ++ edgI u f n:=by
 unfold edgF;rw [List.range_succ,List.flatMap_append];simp
theorem edgU_succ {u:Unt} {m:Nat} (hm:m < u.fs.length):edgU u (m + 1)=edgU u m ++ edgF u m u.fs[m].code.length:=by
 unfold edgU;rw [List.range_succ,List.flatMap_append];simp [hm]
theorem edgI_len (u:Unt) (f i:Nat):(edgI u f i).length≤u.fs.length:=by unfold edgI;rw [List.length_map];exact trgL_len ..
theorem edgF_len (u:Unt) (f n:Nat):(edgF u f n).length≤n * u.fs.length:=by
 induction n with
 | zero=>simp [edgF]
 | succ n ih =>
   rw [edgF_succ,List.length_append,Nat.add_mul]
   have:=edgI_len u f n
   omega
theorem edgU_len {u:Unt} {m:Nat} (hm:m≤u.fs.length):(edgU u m).length≤sumC (u.fs.take m) * u.fs.length:=by
 induction m with
 | zero=>simp [edgU]
 | succ m ih =>
   have h1:=ih (by omega)
   have h2:=edgF_len u m u.fs[m].code.length
   rw [edgU_succ (by omega),List.length_append,sumC_snoc (by omega),Nat.add_mul]
   omega
end Go.Proofs.YtkbmnfijeknenaaGreatDoor
