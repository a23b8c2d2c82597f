/-
  Plain: rapid type analysis.
  Plain: the program's rapid type analysis in progress.
  Plain: the reference's rapid type analysis.
  The program's rapid type analysis in memory.
-/
import Derived.Test.YtkbmnfijeknenaaGreatDoorHX
import Derived.Test.YtkbmnfijeknenaaGreatDoorGB
import Derived.Test.YtkbmnfijeknenaaGreatDoorH0
import Derived.Test.YtkbmnfijeknenaaGreatDoorKA
namespace Go.Proofs.YtkbmnfijeknenaaGreatDoor
open Go.RowKit Go.Unit0 Go.AM

def dspG (h:List Cls) (fs:List Fnc) (c m:Str):Int:=match lookP h c m with
 | some (x,_)=>fnI fs x m
 | none=>-1
theorem dspG_lt (h:List Cls) (fs:List Fnc) (c m:Str) : -1≤dspG h fs c m∧dspG h fs c m < fs.length:=by
 unfold dspG
 split
 ·exact fnI_lt ..
 ·omega
def VirS (h:List Cls) (fs:List Fnc) (c k m:Str) (g:Int):Prop:=subP h c k=true∧dspG h fs c m=g∧0≤g
def InsAt (fs:List Fnc) (f i:Int) (x:Ins):Prop:=∃ (j k:Nat) (hj:j < fs.length) (hk:k < fs[j].code.length),f=(j:Int)∧i=(k:Int)∧fs[j].code[k]=x
theorem InsAt.same {fs:List Fnc} {f i:Int} {x y:Ins} (h:InsAt fs f i x) (k:InsAt fs f i y):x=y:=by
 obtain ⟨j,q,hj,hq,rfl,rfl,rfl⟩:=h
 obtain ⟨j',q',hj',hq',e1,e2,rfl⟩:=k
 obtain rfl:j=j':=by omega
 obtain rfl:q=q':=by omega
 rfl
theorem InsAt.pos {fs:List Fnc} {f i:Int} {x:Ins} (h:InsAt fs f i x):0≤f∧f < fs.length∧0≤i:=by
 obtain ⟨j,q,hj,hq,rfl,rfl,rfl⟩:=h
 omega
theorem InsAt.lt {fs:List Fnc} {j:Nat} {i:Int} {x:Ins} (hj:j < fs.length) (h:InsAt fs (j:Int) i x):i < (fs[j].code.length:Nat):=by
 obtain ⟨j',q,hj',hq,e1,rfl,rfl⟩:=h
 obtain rfl:j=j':=by omega
 omega
def CrtS (fs:List Fnc) (P:Int→Prop) (c:Str):Prop:=∃ f i y,P f∧InsAt fs f i y∧y.op=6∧y.cls=c
def EdgS (u:Unt) (P:Int→Prop) (e:Cal):Prop:=P e.f∧∃ x,InsAt u.fs e.f e.i x∧((x.op=10∧fnI u.fs x.cls x.name=e.c∧0≤e.c) ∨ (x.op=9∧∃ c,CrtS u.fs P c∧VirS u.h u.fs c x.cls x.name e.c))
theorem CrtS.mono {fs:List Fnc} {P Q:Int→Prop} (h:∀ x,P x→Q x) {c:Str} (k:CrtS fs P c):CrtS fs Q c:=by
 obtain ⟨f,i,y,h1,h2⟩:=k
 exact ⟨f,i,y,h _ h1,h2⟩
theorem EdgS.mono {u:Unt} {P Q:Int→Prop} (h:∀ x,P x→Q x) {e:Cal} (k:EdgS u P e):EdgS u Q e:=by
 obtain ⟨h1,x,h2,h3⟩:=k
 refine ⟨h _ h1,x,h2,?_⟩
 rcases h3 with h3 | ⟨h4,c,h5,h6⟩
 ·exact .inl h3
 ·exact .inr ⟨h4,c,h5.mono h,h6⟩
theorem EdgS.congr {u:Unt} {P Q:Int→Prop} (h:∀ x,P x ↔ Q x) (e:Cal):EdgS u P e ↔ EdgS u Q e:=⟨fun k=>k.mono (fun x=>(h x).1),fun k=>k.mono (fun x=>(h x).2)⟩
theorem EdgS.lt {u:Unt} {P:Int→Prop} {e:Cal} (k:EdgS u P e):0≤e.c∧e.c < u.fs.length:=by
 obtain ⟨h1,x,h2,h3⟩:=k
 rcases h3 with ⟨_,h4,h5⟩ | ⟨_,c,_,_,h4,h5⟩
 ·exact ⟨h5,by rw [← h4];exact (fnI_lt ..).2⟩
 ·exact ⟨h5,by rw [← h4];exact (dspG_lt ..).2⟩
inductive Rap (u:Unt):Int→Prop
 | main:0≤u.main→u.main < u.fs.length→Rap u u.main
 | stat {f i:Int} {x:Ins} {g:Int}:Rap u f→InsAt u.fs f i x→x.op=10→fnI u.fs x.cls x.name=g→0≤g→Rap u g
 | virt {f i:Int} {x:Ins} {f' i':Int} {y:Ins} {g:Int}:Rap u f→InsAt u.fs f i x→x.op=9→Rap u f'→InsAt u.fs f' i' y→y.op=6→VirS u.h u.fs y.cls x.cls x.name g→Rap u g
theorem Rap.edge {u:Unt} {e:Cal} (k:EdgS u (Rap u) e):Rap u e.c:=by
 obtain ⟨h1,x,h2,h3⟩:=k
 rcases h3 with ⟨h4,h5,h6⟩ | ⟨h4,c,⟨f',i',y,h5,h6,h7,rfl⟩,h8⟩
 ·exact .stat h1 h2 h4 h5 h6
 ·exact .virt h1 h2 h4 h5 h6 h7 h8
theorem Rap.least {u:Unt} {P:Int→Prop} (h0:0≤u.main→u.main < u.fs.length→P u.main) (h:∀ e,EdgS u P e→P e.c) {x:Int} (k:Rap u x):P x:=by
 induction k with
 | main k1 k2=>exact h0 k1 k2
 | stat _ h2 h3 h4 h5 ih=>exact h ⟨_,_,_⟩ ⟨ih,_,h2,.inl ⟨h3,h4,h5⟩⟩
 | virt _ h2 h3 _ h5 h6 h7 ih ih2=>exact h ⟨_,_,_⟩ ⟨ih,_,h2,.inr ⟨h3,_,⟨_,_,_,ih2,h5,h6,rfl⟩,h7⟩⟩
theorem Rap.lt {u:Unt} {x:Int} (k:Rap u x):0≤x∧x < u.fs.length :=
 Rap.least (P:=fun x=>0≤x∧x < u.fs.length) (fun h1 h2=>⟨h1,h2⟩) (fun _ h=>h.lt) k
def ltC (a b:Cal):Prop:=a.f < b.f ∨ (a.f=b.f∧(a.i < b.i ∨ (a.i=b.i∧a.c < b.c)))
theorem ltC_irrefl (a:Cal):¬ ltC a a:=by unfold ltC;omega
theorem ltC_trans (a b c:Cal) (h1:ltC a b) (h2:ltC b c):ltC a c:=by unfold ltC at *;omega
theorem cal_ext {a b:Cal} (h1:a.f=b.f) (h2:a.i=b.i) (h3:a.c=b.c):a=b:=by
 cases a;cases b;simp only at h1 h2 h3;subst h1 h2 h3;rfl
theorem ltC_total {a b:Cal} (h1:¬ ltC a b) (h2:a ≠ b):ltC b a:=by
 unfold ltC at *
 have:¬ (a.f=b.f∧a.i=b.i∧a.c=b.c):=fun h=>h2 (cal_ext h.1 h.2.1 h.2.2)
 omega
def RapF (u:Unt) (L:List Int):Prop:=L.Pairwise (· < ·)∧∀ x,x ∈ L ↔ Rap u x
def RapE (u:Unt) (L:List Cal):Prop:=L.Pairwise ltC∧∀ e,e ∈ L ↔ EdgS u (Rap u) e
theorem rapF_unique {u:Unt} {L M:List Int} (h:RapF u L) (k:RapF u M):L=M:=set_unique h.1 h.2 k.1 k.2
theorem rapE_unique {u:Unt} {L M:List Cal} (h:RapE u L) (k:RapE u M):L=M :=
 ord_unique ltC_irrefl ltC_trans L M h.1 k.1 fun x=>(h.2 x).trans (k.2 x).symm
theorem rapF_len {u:Unt} {L:List Int} (h:RapF u L):L.length≤u.fs.length:=asc_len h.1 (fun x hx=>((h.2 x).1 hx).lt)
-- the subclasses of a class have names
theorem sub_has {h:List Cls} {s c:Str} (k:subP h s c=true):subNS h c s:=by
 rw [subP_eq] at k
 by_cases hs:0≤findI h s
 ·rcases find_spec h s with ⟨_,f2⟩ | ⟨j,hj,_,_,f3⟩
  ·omega
  ·exact ⟨h[j],List.getElem_mem hj,f3,k⟩
 ·have e:supers h s = []:=by
   rw [← supP_eq];unfold supP chI
   rw [chIF_neg _ hs];rfl
  unfold isSub at k
  rw [e] at k
  cases k
theorem vir_call {h:List Cls} {fs:List Fnc} {c:Str} {x:Ins} {g:Int} (h9:x.op=9) (k:VirS h fs c x.cls x.name g):callS h fs x g:=by
 obtain ⟨h1,h2,h3⟩:=k
 refine .inr ⟨h9,?_⟩
 unfold dspG at h2
 cases e:lookP h c x.name with
 | none=>rw [e] at h2;simp only at h2;omega
 | some p =>
   obtain ⟨y,s⟩:=p
   rw [e] at h2
   exact ⟨y,⟨c,sub_has h1,s,e⟩,h2.symm⟩
theorem EdgS.trg {u:Unt} {P:Int→Prop} {e:Cal} (k:EdgS u P e):trgS u e.f e.i e.c:=by
 obtain ⟨h1,x,⟨j,q,hj,hq,e1,e2,rfl⟩,h3⟩:=k
 rw [e1,e2,trgS_at hj hq]
 rcases h3 with ⟨h4,h5,h6⟩ | ⟨h4,c,_,h5⟩
 ·exact ⟨h6,.inl ⟨h4,h5.symm⟩⟩
 ·exact ⟨h5.2.2,vir_call h4 h5⟩
end Go.Proofs.YtkbmnfijeknenaaGreatDoor
namespace Go.Proofs.YtkbmnfijeknenaaGreatDoor
open Go.RowKit Go.Unit0 Go.AM

structure RpS where
 S:List Int
 T:List Int
 C:List Str
 tg:Str × Str→Option (List Int)
 vt:Int × Int→Option (Str × Str)
 ed:Cal→Prop
def RpS.push (n:Nat) (st:RpS) (g:Int):RpS:=if 0≤g∧g < n∧g ∉ st.S then { st with S:=st.S ++ [g],T:=st.T ++ [g] } else st
def RpS.add (st:RpS) (m:Str × Str) (L:List Int):RpS:={ st with tg:=fun k=>if k=m then some L else st.tg k }
def RpS.disp (u:Unt) (st:RpS) (m:Str × Str) (L:List Int) (c:Str):RpS :=
 if subP u.h c m.1=true∧0≤dspG u.h u.fs c m.2 then (st.add m (L ++ [dspG u.h u.fs c m.2])).push u.fs.length (dspG u.h u.fs c m.2) else st
structure Bal (a b:RpS):Prop where
 le:a.S.length≤b.S.length
 eq:b.T.length + a.S.length=a.T.length + b.S.length
theorem Bal.refl (a:RpS):Bal a a:=⟨Nat.le_refl _,rfl⟩
theorem Bal.trans {a b c:RpS} (h:Bal a b) (k:Bal b c):Bal a c:=⟨Nat.le_trans h.le k.le,by have:=h.eq;have:=k.eq;omega⟩
theorem push_no {n:Nat} {st:RpS} {g:Int} (h:¬ (0≤g∧g < n∧g ∉ st.S)):st.push n g=st:=if_neg h
theorem push_yes {n:Nat} {st:RpS} {g:Int} (h:0≤g∧g < n∧g ∉ st.S):st.push n g = { st with S:=st.S ++ [g],T:=st.T ++ [g] }:=if_pos h
theorem push_bal (n:Nat) (st:RpS) (g:Int):Bal st (st.push n g):=by
 by_cases h:0≤g∧g < n∧g ∉ st.S
 ·rw [push_yes h]
  exact ⟨by simp,by simp;omega⟩
 ·rw [push_no h];exact Bal.refl _
theorem push_rest (n:Nat) (st:RpS) (g:Int):(st.push n g).C=st.C∧(st.push n g).tg=st.tg∧(st.push n g).vt=st.vt∧(st.push n g).ed=st.ed:=by
 by_cases h:0≤g∧g < n∧g ∉ st.S
 ·rw [push_yes h];exact ⟨rfl,rfl,rfl,rfl⟩
 ·rw [push_no h];exact ⟨rfl,rfl,rfl,rfl⟩
theorem push_sub {n:Nat} {st:RpS} {g x:Int} (h:x ∈ st.S):x ∈ (st.push n g).S:=by
 by_cases k:0≤g∧g < n∧g ∉ st.S
 ·rw [push_yes k];exact List.mem_append_left _ h
 ·rw [push_no k];exact h
theorem push_has {n:Nat} {st:RpS} {g:Int} (h0:0≤g) (h1:g < n):g ∈ (st.push n g).S:=by
 by_cases k:0≤g∧g < n∧g ∉ st.S
 ·rw [push_yes k];simp
 ·rw [push_no k];exact Decidable.byContradiction fun hn=>k ⟨h0,h1,hn⟩
theorem disp_bal (u:Unt) (st:RpS) (m:Str × Str) (L:List Int) (c:Str):Bal st (st.disp u m L c):=by
 unfold RpS.disp
 split
 ·have h:=push_bal u.fs.length (st.add m (L ++ [dspG u.h u.fs c m.2])) (dspG u.h u.fs c m.2)
  exact ⟨h.le,h.eq⟩
 ·exact Bal.refl _
theorem disp_rest (u:Unt) (st:RpS) (m:Str × Str) (L:List Int) (c:Str):(st.disp u m L c).C=st.C∧(st.disp u m L c).vt=st.vt∧(st.disp u m L c).ed=st.ed:=by
 unfold RpS.disp
 split
 ·have h:=push_rest u.fs.length (st.add m (L ++ [dspG u.h u.fs c m.2])) (dspG u.h u.fs c m.2)
  exact ⟨h.1,h.2.2.1,h.2.2.2⟩
 ·exact ⟨rfl,rfl,rfl⟩
theorem disp_tg {u:Unt} {st:RpS} {m:Str × Str} {L:List Int} {c:Str} (h:st.tg m=some L):∃ L',(st.disp u m L c).tg=fun k=>if k=m then some L' else st.tg k:=by
 unfold RpS.disp
 split
 ·exact ⟨_,(push_rest _ _ _).2.1⟩
 ·refine ⟨L,?_⟩
  funext k
  by_cases e:k=m
  ·rw [if_pos e,e,h]
  ·rw [if_neg e]
theorem disp_dom {u:Unt} {st:RpS} {m:Str × Str} {L:List Int} {c:Str} (h:st.tg m=some L) (k:Str × Str):((st.disp u m L c).tg k).isSome=(st.tg k).isSome:=by
 obtain ⟨L',e⟩:=disp_tg (u:=u) (c:=c) h
 rw [e]
 by_cases e:k=m
 ·simp [e,h]
 ·simp [e]
structure DoneI (u:Unt) (st:RpS) (f i:Int) (x:Ins):Prop where
 nw:x.op=6→x.cls ∈ st.C
 sc:x.op=10→0≤fnI u.fs x.cls x.name→st.ed ⟨f,i,fnI u.fs x.cls x.name⟩∧fnI u.fs x.cls x.name ∈ st.S
 vc:x.op=9→st.vt (f,i)=some (x.cls,x.name)
structure RInv (u:Unt) (cur q:Int) (X:Str × Str→Str→Prop) (st:RpS):Prop where
 nd:st.S.Nodup
 td:st.T.Nodup
 ts:∀ x ∈ st.T,x ∈ st.S
 cu:cur ∉ st.T∧(cur ∈ st.S ∨ cur < 0)
 rs:∀ x ∈ st.S,Rap u x
 mn:0≤u.main→u.main < u.fs.length→u.main ∈ st.S
 rc:∀ c ∈ st.C,CrtS u.fs (Rap u) c
 rt:∀ m L,st.tg m=some L→(∃ f i x,Rap u f∧InsAt u.fs f i x∧x.op=9∧x.cls=m.1∧x.name=m.2)∧∀ g ∈ L,∃ c ∈ st.C,VirS u.h u.fs c m.1 m.2 g
 rv:∀ p m,st.vt p=some m→(Rap u p.1∧∃ x,InsAt u.fs p.1 p.2 x∧x.op=9∧x.cls=m.1∧x.name=m.2)∧(st.tg m).isSome=true
 re:∀ e,st.ed e→EdgS u (Rap u) e
 ct:∀ m L,st.tg m=some L→∀ c ∈ st.C,X m c→∀ g,VirS u.h u.fs c m.1 m.2 g→g ∈ L∧g ∈ st.S
 dn:∀ f ∈ st.S,f ∉ st.T→∀ i x,InsAt u.fs f i x→(f=cur→i < q)→DoneI u st f i x
section
variable {u:Unt} {cur q:Int} {X:Str × Str→Str→Prop} {st:RpS}
theorem RInv.push (k:RInv u cur q X st) {g:Int} (hg:Rap u g):RInv u cur q X (st.push u.fs.length g):=by
 by_cases h:0≤g∧g < u.fs.length∧g ∉ st.S
 ·rw [push_yes h]
  have hT:g ∉ st.T:=fun e=>h.2.2 (k.ts _ e)
  have sub:∀ x,x ∈ st.S→x ∈ st.S ++ [g]:=fun x hx=>List.mem_append_left _ hx
  refine ⟨?_,?_,?_,⟨?_,?_⟩,?_,fun h1 h2=>sub _ (k.mn h1 h2),k.rc,k.rt,k.rv,k.re,?_,?_⟩
  ·rw [List.nodup_append]
   exact ⟨k.nd,by simp,fun a ha b hb e=>h.2.2 (by rw [List.mem_singleton.1 hb] at e;exact e ▸ ha)⟩
  ·rw [List.nodup_append]
   exact ⟨k.td,by simp,fun a ha b hb e=>hT (by rw [List.mem_singleton.1 hb] at e;exact e ▸ ha)⟩
  ·intro x hx
   rcases List.mem_append.1 hx with hx | hx
   ·exact sub _ (k.ts _ hx)
   ·exact List.mem_append_right _ hx
  ·intro e
   rcases List.mem_append.1 e with e | e
   ·exact k.cu.1 e
   ·have e:=List.mem_singleton.1 e
    rcases k.cu.2 with h1 | h1
    ·exact h.2.2 (e ▸ h1)
    ·have:=h.1;omega
  ·rcases k.cu.2 with h1 | h1
   ·exact .inl (sub _ h1)
   ·exact .inr h1
  ·intro x hx
   rcases List.mem_append.1 hx with hx | hx
   ·exact k.rs _ hx
   ·rw [List.mem_singleton.1 hx];exact hg
  ·intro m L hm c hc hx g' hv
   have:=k.ct m L hm c hc hx g' hv
   exact ⟨this.1,sub _ this.2⟩
  ·intro f hf hnt i x hi hq
   have hft:f ∉ st.T:=fun e=>hnt (List.mem_append_left _ e)
   have hfs:f ∈ st.S:=by
    rcases List.mem_append.1 hf with hf | hf
    ·exact hf
    ·exact absurd (List.mem_append_right _ hf) hnt
   have d:=k.dn f hfs hft i x hi hq
   exact ⟨d.nw,fun e1 e2=>⟨(d.sc e1 e2).1,sub _ (d.sc e1 e2).2⟩,d.vc⟩
 ·rw [push_no h];exact k
theorem RInv.weak (k:RInv u cur q X st) {Y:Str × Str→Str→Prop} (h:∀ m L,st.tg m=some L→∀ c ∈ st.C,Y m c→X m c):RInv u cur q Y st :=
 ⟨k.nd,k.td,k.ts,k.cu,k.rs,k.mn,k.rc,k.rt,k.rv,k.re,fun m L hm c hc hy=>k.ct m L hm c hc (h m L hm c hc hy),k.dn⟩
theorem RInv.virt (k:RInv u cur q X st) {m:Str × Str} {L:List Int} (hm:st.tg m=some L) {c:Str} (hc:c ∈ st.C) {g:Int} (hv:VirS u.h u.fs c m.1 m.2 g):Rap u g:=by
 obtain ⟨⟨f,i,x,h1,h2,h3,h4,h5⟩,_⟩:=k.rt m L hm
 obtain ⟨f',i',y,h6,h7,h8,rfl⟩:=k.rc c hc
 exact .virt h1 h2 h3 h6 h7 h8 (by rw [h4,h5];exact hv)
theorem RInv.disp (k:RInv u cur q X st) {m:Str × Str} {L:List Int} (hm:st.tg m=some L) {c:Str} (hc:c ∈ st.C):RInv u cur q (fun m' c'=>X m' c' ∨ (m' = m∧c' = c)) (st.disp u m L c):=by
 unfold RpS.disp
 split
 ·rename_i hd
  generalize hg:dspG u.h u.fs c m.2=g at *
  have hv:VirS u.h u.fs c m.1 m.2 g:=⟨hd.1,hg,hd.2⟩
  have hr:=k.virt hm hc hv
  have hlt:=hr.lt
  have k1:RInv u cur q (fun m' c'=>X m' c') (st.push u.fs.length g):=k.push hr
  obtain ⟨e1,e2,e3,e4⟩:=push_rest u.fs.length (st.add m (L ++ [g])) g
  obtain ⟨d1,d2,d3,d4⟩:=push_rest u.fs.length st g
  have eS:((st.add m (L ++ [g])).push u.fs.length g).S=(st.push u.fs.length g).S:=by
   unfold RpS.push RpS.add;split <;> rfl
  have eT:((st.add m (L ++ [g])).push u.fs.length g).T=(st.push u.fs.length g).T:=by
   unfold RpS.push RpS.add;split <;> rfl
  have etg:∀ m' L',((st.add m (L ++ [g])).push u.fs.length g).tg m' = some L'→(m' = m∧L' = L ++ [g]) ∨ (m' ≠ m∧st.tg m' = some L'):=fun m' L' h=>by
   rw [e2] at h
   unfold RpS.add at h
   simp only at h
   by_cases e:m' = m
   ·rw [if_pos e] at h;cases h;exact .inl ⟨e,rfl⟩
   ·rw [if_neg e] at h;exact .inr ⟨e,h⟩
  have hgS:g ∈ (st.push u.fs.length g).S:=push_has hlt.1 hlt.2
  refine ⟨by rw [eS];exact k1.nd,by rw [eT];exact k1.td,by rw [eS,eT];exact k1.ts,by rw [eS,eT];exact k1.cu,by rw [eS];exact k1.rs,by rw [eS];exact k1.mn,by rw [e1];exact k.rc,?_,?_,by rw [e4];exact k.re,?_,?_⟩
  ·intro m' L' h
   rw [e1]
   rcases etg m' L' h with ⟨rfl,rfl⟩ | ⟨_,h2⟩
   ·refine ⟨(k.rt m' L hm).1,fun x hx=>?_⟩
    rcases List.mem_append.1 hx with hx | hx
    ·exact (k.rt m' L hm).2 x hx
    ·rw [List.mem_singleton.1 hx];exact ⟨c,hc,hv⟩
   ·exact k.rt m' L' h2
  ·intro p m' h
   rw [e3] at h
   refine ⟨(k.rv p m' h).1,?_⟩
   rw [e2]
   unfold RpS.add
   simp only
   by_cases e:m' = m
   ·rw [if_pos e];rfl
   ·rw [if_neg e];exact (k.rv p m' h).2
  ·intro m' L' h c' hc' hx g' hv'
   rw [e1] at hc'
   rw [eS]
   rcases etg m' L' h with ⟨rfl,rfl⟩ | ⟨hne,h2⟩
   ·rcases hx with hx | ⟨_,rfl⟩
    ·have:=k.ct m' L hm c' hc' hx g' hv'
     exact ⟨List.mem_append_left _ this.1,push_sub this.2⟩
    ·have:g' = g:=by rw [← hv'.2.1,hg]
     subst this
     exact ⟨by simp,hgS⟩
   ·rcases hx with hx | ⟨e,_⟩
    ·have:=k.ct m' L' h2 c' hc' hx g' hv'
     exact ⟨this.1,push_sub this.2⟩
    ·exact absurd e hne
  ·intro f hf hnt i x hi hq
   rw [eS] at hf
   rw [eT] at hnt
   have d:=k1.dn f hf hnt i x hi hq
   exact ⟨by rw [e1];have:=d.nw;rw [d1] at this;exact this,by rw [e4,eS];have:=d.sc;rw [d4] at this;exact this,by rw [e3];have:=d.vc;rw [d3] at this;exact this⟩
 ·rename_i hd
  refine ⟨k.nd,k.td,k.ts,k.cu,k.rs,k.mn,k.rc,k.rt,k.rv,k.re,fun m' L' h c' hc' hx g' hv'=>?_,k.dn⟩
  rcases hx with hx | ⟨rfl,rfl⟩
  ·exact k.ct m' L' h c' hc' hx g' hv'
  ·exact absurd ⟨hv'.1,by rw [hv'.2.1];exact hv'.2.2⟩ hd
theorem RInv.step (k:RInv u cur q X st) (hx:∀ m L,st.tg m=some L→∀ c ∈ st.C,X m c) (hd:∀ x,InsAt u.fs cur q x→DoneI u st cur q x):RInv u cur (q + 1) (fun _ _=>True) st :=
 ⟨k.nd,k.td,k.ts,k.cu,k.rs,k.mn,k.rc,k.rt,k.rv,k.re,fun m L hm c hc _=>k.ct m L hm c hc (hx m L hm c hc),fun f hf hnt i x hi hq=>by
   by_cases e:f=cur∧¬ i < q
   ·obtain ⟨rfl,e2⟩:=e
    have:=hq rfl
    obtain rfl:i=q:=by omega
    exact hd x hi
   ·exact k.dn f hf hnt i x hi (fun e1=>Decidable.byContradiction fun e2=>e ⟨e1,e2⟩)⟩
theorem RInv.made (k:RInv u cur q (fun _ _=>True) st) {x:Ins} (hi:InsAt u.fs cur q x) (h6:x.op=6):RInv u cur q (fun _ c=>c ≠ x.cls) { st with C:=st.C ++ [x.cls] }:=by
 have hcur:Rap u cur:=by
  rcases k.cu.2 with h | h
  ·exact k.rs _ h
  ·have:=hi.pos;omega
 refine ⟨k.nd,k.td,k.ts,k.cu,k.rs,k.mn,fun c hc=>?_,fun m L hm=>⟨(k.rt m L hm).1,fun g hg=>?_⟩,k.rv,k.re,fun m L hm c hc hx=>?_,fun f hf hnt i y hi' hq=>?_⟩
 ·rcases List.mem_append.1 hc with hc | hc
  ·exact k.rc c hc
  ·rw [List.mem_singleton.1 hc];exact ⟨cur,q,x,hcur,hi,h6,rfl⟩
 ·obtain ⟨c,hc,hv⟩:=(k.rt m L hm).2 g hg
  exact ⟨c,List.mem_append_left _ hc,hv⟩
 ·rcases List.mem_append.1 hc with hc | hc
  ·exact k.ct m L hm c hc trivial
  ·exact absurd (List.mem_singleton.1 hc) hx
 ·have d:=k.dn f hf hnt i y hi' hq
  exact ⟨fun e=>List.mem_append_left _ (d.nw e),d.sc,d.vc⟩
theorem RInv.stat (k:RInv u cur q (fun _ _=>True) st) {x:Ins} (hi:InsAt u.fs cur q x) (h10:x.op=10) (hg:0≤fnI u.fs x.cls x.name) :
 RInv u cur (q + 1) (fun _ _=>True) (({ st with ed:=fun e=>e=⟨cur,q,fnI u.fs x.cls x.name⟩ ∨ st.ed e }:RpS).push u.fs.length (fnI u.fs x.cls x.name)):=by
 have hcur:Rap u cur:=by
  rcases k.cu.2 with h | h
  ·exact k.rs _ h
  ·have:=hi.pos;omega
 have he:EdgS u (Rap u) ⟨cur,q,fnI u.fs x.cls x.name⟩:=⟨hcur,x,hi,.inl ⟨h10,rfl,hg⟩⟩
 have hr:Rap u (fnI u.fs x.cls x.name):=he |> Rap.edge
 have k1:RInv u cur q (fun _ _=>True) { st with ed:=fun e=>e=⟨cur,q,fnI u.fs x.cls x.name⟩ ∨ st.ed e } :=
  ⟨k.nd,k.td,k.ts,k.cu,k.rs,k.mn,k.rc,k.rt,k.rv,fun e h=>by
    rcases h with rfl | h
    ·exact he
    ·exact k.re e h,k.ct,fun f hf hnt i y hi' hq=>by
    have d:=k.dn f hf hnt i y hi' hq
    exact ⟨d.nw,fun e1 e2=>⟨.inr (d.sc e1 e2).1,(d.sc e1 e2).2⟩,d.vc⟩⟩
 refine (k1.push hr).step (fun _ _ _ _ _=>trivial) (fun y hy=>?_)
 obtain rfl:=hi.same hy
 refine ⟨fun e=>by omega,fun _ _=>⟨?_,push_has hr.lt.1 hr.lt.2⟩,fun e=>by omega⟩
 rw [(push_rest _ _ _).2.2.2]
 exact .inl rfl
theorem RInv.stat0 (k:RInv u cur q (fun _ _=>True) st) {x:Ins} (hi:InsAt u.fs cur q x) (h10:x.op=10) (hg:¬ 0≤fnI u.fs x.cls x.name):RInv u cur (q + 1) (fun _ _=>True) st :=
 k.step (fun _ _ _ _ _=>trivial) (fun y hy=>by
  obtain rfl:=hi.same hy
  exact ⟨fun e=>by omega,fun _ e=>absurd e hg,fun e=>by omega⟩)
theorem RInv.other (k:RInv u cur q (fun _ _=>True) st) {x:Ins} (hi:InsAt u.fs cur q x) (h6:x.op ≠ 6) (h9:x.op ≠ 9) (h10:x.op ≠ 10):RInv u cur (q + 1) (fun _ _=>True) st :=
 k.step (fun _ _ _ _ _=>trivial) (fun y hy=>by
  obtain rfl:=hi.same hy
  exact ⟨fun e=>absurd e h6,fun e=>absurd e h10,fun e=>absurd e h9⟩)
theorem RInv.made0 (k:RInv u cur q (fun _ _=>True) st) {x:Ins} (hi:InsAt u.fs cur q x) (h6:x.op=6) (hc:x.cls ∈ st.C):RInv u cur (q + 1) (fun _ _=>True) st :=
 k.step (fun _ _ _ _ _=>trivial) (fun y hy=>by
  obtain rfl:=hi.same hy
  exact ⟨fun _=>hc,fun e=>by omega,fun e=>by omega⟩)
theorem RInv.made1 (k:RInv u cur q X st) {x:Ins} (hi:InsAt u.fs cur q x) (h6:x.op=6) (hc:x.cls ∈ st.C) (hx:∀ m L,st.tg m=some L→∀ c ∈ st.C,X m c):RInv u cur (q + 1) (fun _ _=>True) st :=
 k.step hx (fun y hy=>by
  obtain rfl:=hi.same hy
  exact ⟨fun _=>hc,fun e=>by omega,fun e=>by omega⟩)
def RpS.note (st:RpS) (p:Int × Int) (m:Str × Str):RpS:={ st with vt:=fun k=>if k=p then some m else st.vt k }
theorem note_same (k:RInv u cur q X st) {x:Ins} (hi:InsAt u.fs cur q x) {p:Int × Int} {m:Str × Str} (h:st.vt p=some m):(st.note (cur,q) (x.cls,x.name)).vt p=some m:=by
 unfold RpS.note
 simp only
 by_cases e:p=(cur,q)
 ·rw [if_pos e]
  subst e
  obtain ⟨⟨_,y,hy,_,h2,h3⟩,_⟩:=k.rv _ m h
  obtain rfl:=hi.same hy
  rw [h2,h3]
 ·rw [if_neg e];exact h
theorem RInv.call0 (k:RInv u cur q (fun _ _=>True) st) {x:Ins} (hi:InsAt u.fs cur q x) (h9:x.op=9) {L:List Int} (hm:st.tg (x.cls,x.name)=some L):RInv u cur (q + 1) (fun _ _=>True) (st.note (cur,q) (x.cls,x.name)):=by
 have hcur:Rap u cur:=by
  rcases k.cu.2 with h | h
  ·exact k.rs _ h
  ·have:=hi.pos;omega
 have k1:RInv u cur q (fun _ _=>True) (st.note (cur,q) (x.cls,x.name)):=by
  refine ⟨k.nd,k.td,k.ts,k.cu,k.rs,k.mn,k.rc,k.rt,fun p m h=>?_,k.re,k.ct,fun f hf hnt i y hi' hq=>?_⟩
  ·unfold RpS.note at h
   simp only at h
   by_cases e:p=(cur,q)
   ·rw [if_pos e] at h
    cases h
    subst e
    exact ⟨⟨hcur,x,hi,h9,rfl,rfl⟩,by show (st.tg _).isSome=true;rw [hm];rfl⟩
   ·rw [if_neg e] at h;exact k.rv p m h
  ·have d:=k.dn f hf hnt i y hi' hq
   exact ⟨d.nw,d.sc,fun e=>note_same k hi (d.vc e)⟩
 refine k1.step (fun _ _ _ _ _=>trivial) (fun y hy=>?_)
 obtain rfl:=hi.same hy
 exact ⟨fun e=>by omega,fun e=>by omega,fun _=>by unfold RpS.note;simp⟩
theorem RInv.call1 (k:RInv u cur q (fun _ _=>True) st) {x:Ins} (hi:InsAt u.fs cur q x) (h9:x.op=9) (_hm:st.tg (x.cls,x.name)=none):RInv u cur q (fun m _=>m ≠ (x.cls,x.name)) ((st.note (cur,q) (x.cls,x.name)).add (x.cls,x.name) []):=by
 have hcur:Rap u cur:=by
  rcases k.cu.2 with h | h
  ·exact k.rs _ h
  ·have:=hi.pos;omega
 have etg:∀ m' L',((st.note (cur,q) (x.cls,x.name)).add (x.cls,x.name) []).tg m' = some L'→(m' = (x.cls,x.name)∧L' = []) ∨ (m' ≠ (x.cls,x.name)∧st.tg m' = some L'):=fun m' L' h=>by
  unfold RpS.add at h
  simp only at h
  by_cases e:m' = (x.cls,x.name)
  ·rw [if_pos e] at h;cases h;exact .inl ⟨e,rfl⟩
  ·rw [if_neg e] at h;exact .inr ⟨e,h⟩
 refine ⟨k.nd,k.td,k.ts,k.cu,k.rs,k.mn,k.rc,fun m L h=>?_,fun p m h=>?_,k.re,fun m L h c hc hx=>?_,fun f hf hnt i y hi' hq=>?_⟩
 ·rcases etg m L h with ⟨rfl,rfl⟩ | ⟨_,h2⟩
  ·exact ⟨⟨cur,q,x,hcur,hi,h9,rfl,rfl⟩,fun g hg=>(by cases hg)⟩
  ·exact k.rt m L h2
 ·have hd:∀ m,(st.tg m).isSome=true→(((st.note (cur,q) (x.cls,x.name)).add (x.cls,x.name) []).tg m).isSome=true:=fun m hm=>by
   unfold RpS.add
   simp only
   by_cases e:m=(x.cls,x.name)
   ·rw [if_pos e];rfl
   ·rw [if_neg e];exact hm
  have h:(st.note (cur,q) (x.cls,x.name)).vt p=some m:=h
  unfold RpS.note at h
  simp only at h
  by_cases e:p=(cur,q)
  ·rw [if_pos e] at h
   cases h
   subst e
   exact ⟨⟨hcur,x,hi,h9,rfl,rfl⟩,by unfold RpS.add;simp⟩
  ·rw [if_neg e] at h;exact ⟨(k.rv p m h).1,hd _ (k.rv p m h).2⟩
 ·rcases etg m L h with ⟨rfl,rfl⟩ | ⟨_,h2⟩
  ·exact absurd rfl hx
  ·exact k.ct m L h2 c hc trivial
 ·have d:=k.dn f hf hnt i y hi' hq
  exact ⟨d.nw,d.sc,fun e=>note_same k hi (d.vc e)⟩
theorem RInv.call2 (k:RInv u cur q X st) {x:Ins} (hi:InsAt u.fs cur q x) (h9:x.op=9) (hv:st.vt (cur,q)=some (x.cls,x.name)) (hx:∀ m L,st.tg m=some L→∀ c ∈ st.C,X m c):RInv u cur (q + 1) (fun _ _=>True) st :=
 k.step hx (fun y hy=>by
  obtain rfl:=hi.same hy
  exact ⟨fun e=>by omega,fun e=>by omega,fun _=>hv⟩)
theorem RInv.pop {t:List Int} {x:Int} (k:RInv u cur q (fun _ _=>True) st) (hc:cur < 0) (hT:st.T=t ++ [x]):RInv u x 0 (fun _ _=>True) { st with T:=t }:=by
 have hn:=k.td
 rw [hT,List.nodup_append] at hn
 have hx:x ∈ st.T:=by rw [hT];simp
 have hxs:=k.ts x hx
 refine ⟨k.nd,hn.1,fun y hy=>k.ts y (by rw [hT];exact List.mem_append_left _ hy),⟨fun e=>hn.2.2 x e x (by simp) rfl,.inl hxs⟩,k.rs,k.mn,k.rc,k.rt,k.rv,k.re,k.ct,fun f hf hnt i y hi hq=>?_⟩
 by_cases e:f=x
 ·have h1:=hq e
  have h2:=hi.pos
  omega
 ·have d:=k.dn f hf (fun hm=>by
   rw [hT] at hm
   rcases List.mem_append.1 hm with hm | hm
   ·exact hnt hm
   ·exact e (List.mem_singleton.1 hm)) i y hi (fun e1=>by have:=hi.pos;omega)
  exact ⟨d.nw,d.sc,d.vc⟩
theorem RInv.over {j:Nat} (k:RInv u (j:Int) q (fun _ _=>True) st) (hj:j < u.fs.length) (hq:(u.fs[j].code.length:Int)≤q):RInv u (-1) 0 (fun _ _=>True) st :=
 ⟨k.nd,k.td,k.ts,⟨fun e=>by have:=(k.rs _ (k.ts _ e)).lt;omega,.inr (by omega)⟩,k.rs,k.mn,k.rc,k.rt,k.rv,k.re,k.ct,fun f hf hnt i x hi _=>k.dn f hf hnt i x hi (fun e=>by
   subst e
   have:=hi.lt hj
   omega)⟩
def RpS.none:RpS:=⟨[],[],[],fun _=>Option.none,fun _=>Option.none,fun _=>False⟩
theorem RInv.start (u:Unt):RInv u (-1) 0 (fun _ _=>True) (RpS.none.push u.fs.length u.main):=by
 by_cases h:0≤u.main∧u.main < u.fs.length
 ·rw [push_yes (st:=RpS.none) ⟨h.1,h.2,fun e=>(by cases e)⟩]
  refine ⟨by simp [RpS.none],by simp [RpS.none],fun x hx=>hx,⟨fun e=>?_,.inr (by omega)⟩,fun x hx=>?_,fun _ _=>by simp [RpS.none],fun c hc=>(by cases hc),fun m L e=>(by cases e),fun p m e=>(by cases e),fun e h=>h.elim,fun m L e=>(by cases e),fun f hf hnt=>absurd hf hnt⟩
  ·have:=List.mem_singleton.1 e;omega
  ·rw [List.mem_singleton.1 hx];exact .main h.1 h.2
 ·rw [push_no (st:=RpS.none) (fun e=>h ⟨e.1,e.2.1⟩)]
  refine ⟨List.nodup_nil,List.nodup_nil,fun x hx=>hx,⟨fun e=>(by cases e),.inr (by omega)⟩,fun x hx=>(by cases hx),fun h1 h2=>absurd ⟨h1,h2⟩ h,fun c hc=>(by cases hc),fun m L e=>(by cases e),fun p m e=>(by cases e),fun e h=>h.elim,fun m L e=>(by cases e),fun f hf=>(by cases hf)⟩
theorem RInv.all (k:RInv u (-1) 0 (fun _ _=>True) st) (hT:st.T = []) (x:Int):x ∈ st.S ↔ Rap u x:=by
 refine ⟨k.rs x,fun h=>Rap.least (P:=fun x=>x ∈ st.S) k.mn (fun e he=>?_) h⟩
 obtain ⟨h1,x,h2,h3⟩:=he
 have hp:=h2.pos
 have d:=k.dn e.f h1 (by rw [hT];simp) e.i x h2 (fun e1=>by omega)
 rcases h3 with ⟨h4,h5,h6⟩ | ⟨h4,c,⟨f',i',y,h5,h6,h7,rfl⟩,h8⟩
 ·rw [← h5];exact (d.sc h4 (by rw [h5];exact h6)).2
 ·have hp':=h6.pos
  have d':=k.dn f' h5 (by rw [hT];simp) i' y h6 (fun e1=>by omega)
  have hv:=d.vc h4
  obtain ⟨L,hL⟩:=Option.isSome_iff_exists.1 (k.rv _ _ hv).2
  exact (k.ct _ L hL _ (d'.nw h7) trivial _ h8).2
theorem RInv.edges (k:RInv u (-1) 0 (fun _ _=>True) st) (hT:st.T = []) (e:Cal):(st.ed e ∨ ∃ m L,st.vt (e.f,e.i)=some m∧st.tg m=some L∧e.c ∈ L) ↔ EdgS u (Rap u) e:=by
 constructor
 ·rintro (h | ⟨m,L,h1,h2,h3⟩)
  ·exact k.re e h
  ·obtain ⟨⟨h4,x,h5,h6,h7,h8⟩,_⟩:=k.rv _ m h1
   obtain ⟨c,hc,hv⟩:=(k.rt m L h2).2 _ h3
   exact ⟨h4,x,h5,.inr ⟨h6,c,k.rc c hc,by rw [h7,h8];exact hv⟩⟩
 ·rintro ⟨h1,x,h2,h3⟩
  have hp:=h2.pos
  have d:=k.dn e.f ((k.all hT _).2 h1) (by rw [hT];simp) e.i x h2 (fun e1=>by omega)
  rcases h3 with ⟨h4,h5,h6⟩ | ⟨h4,c,⟨f',i',y,h5,h6,h7,rfl⟩,h8⟩
  ·left
   have:=(d.sc h4 (by rw [h5];exact h6)).1
   rw [h5] at this
   exact this
  ·right
   have hp':=h6.pos
   have d':=k.dn f' ((k.all hT _).2 h5) (by rw [hT];simp) i' y h6 (fun e1=>by omega)
   have hv:=d.vc h4
   obtain ⟨L,hL⟩:=Option.isSome_iff_exists.1 (k.rv _ _ hv).2
   exact ⟨_,L,hv,hL,(k.ct _ L hL _ (d'.nw h7) trivial _ h8).1⟩
end
end Go.Proofs.YtkbmnfijeknenaaGreatDoor
namespace Go.Proofs.YtkbmnfijeknenaaGreatDoor
open Go.RowKit Go.Unit0 Go.AM

def crtI (c:Ins):List Str:=if c.op=6 then [c.cls] else []
def crtF (code:List Ins) (n:Nat):List Str:=(List.range n).flatMap (fun i=>code[i]?.elim [] crtI)
def crtU (fs:List Fnc) (bs:List Bool) (m:Nat):List Str:=(List.range m).flatMap (fun f=>if bs[f]? = some true then fs[f]?.elim [] (fun x=>crtF x.code x.code.length) else [])
theorem crtF_succ {code:List Ins} {n:Nat} (hn:n < code.length):crtF code (n + 1)=crtF code n ++ crtI code[n]:=by
 unfold crtF;rw [List.range_succ,List.flatMap_append];simp [hn]
theorem crtU_t {fs:List Fnc} {bs:List Bool} {m:Nat} (hm:m < fs.length) (hb:bs[m]? = some true):crtU fs bs (m + 1)=crtU fs bs m ++ crtF fs[m].code fs[m].code.length:=by
 unfold crtU;rw [List.range_succ,List.flatMap_append];simp [hm,hb]
theorem crtU_f {fs:List Fnc} {bs:List Bool} {m:Nat} (hb:bs[m]? = some false):crtU fs bs (m + 1)=crtU fs bs m:=by
 unfold crtU;rw [List.range_succ,List.flatMap_append];simp [hb]
theorem crtF_len {code:List Ins}:∀ {n:Nat},n≤code.length→(crtF code n).length≤n
 | 0,_=>by simp [crtF]
 | n + 1,hn=>by
   rw [crtF_succ (by omega),List.length_append]
   have:=crtF_len (code:=code) (n:=n) (by omega)
   have:(crtI code[n]).length≤1:=by unfold crtI;split <;> simp
   omega
theorem crtF_mem {code:List Ins} {n:Nat} {c:Str}:c ∈ crtF code n ↔ ∃ (i:Nat) (hi:i < code.length),i < n∧code[i].op=6∧code[i].cls=c:=by
 unfold crtF
 simp only [List.mem_flatMap,List.mem_range]
 constructor
 ·rintro ⟨i,hi,h⟩
  by_cases hl:i < code.length
  ·rw [List.getElem?_eq_getElem hl] at h
   simp only [Option.elim] at h
   unfold crtI at h
   split at h
   ·rename_i e;exact ⟨i,hl,hi,e,(List.mem_singleton.1 h).symm⟩
   ·cases h
  ·rw [List.getElem?_eq_none (by omega)] at h
   cases h
 ·rintro ⟨i,hl,hi,e,rfl⟩
  refine ⟨i,hi,?_⟩
  rw [List.getElem?_eq_getElem hl]
  simp only [Option.elim]
  unfold crtI
  rw [if_pos e]
  exact List.mem_singleton.2 rfl
theorem crtU_mem {fs:List Fnc} {bs:List Bool} (_hl:bs.length=fs.length) (c:Str):c ∈ crtU fs bs fs.length ↔ CrtS fs (At bs) c:=by
 unfold crtU CrtS
 simp only [List.mem_flatMap,List.mem_range]
 constructor
 ·rintro ⟨f,hf,h⟩
  split at h
  ·rename_i hb
   rw [List.getElem?_eq_getElem hf] at h
   obtain ⟨i,hi,_,h6,e⟩:=crtF_mem.1 h
   exact ⟨f,i,_,⟨by omega,by rw [Int.toNat_natCast];exact hb⟩,⟨f,i,hf,hi,rfl,rfl,rfl⟩,h6,e⟩
  ·cases h
 ·rintro ⟨f,i,y,ha,⟨j,q,hj,hq,rfl,rfl,rfl⟩,h6,e⟩
  refine ⟨j,hj,?_⟩
  have:=ha.2
  rw [Int.toNat_natCast] at this
  rw [if_pos this,List.getElem?_eq_getElem hj]
  exact crtF_mem.2 ⟨q,hq,hq,h6,e⟩
def okG (u:Unt) (made:List Str) (x:Ins) (g:Int):Bool:=(x.op == 10) || made.any (fun c=>subP u.h c x.cls && (dspG u.h u.fs c x.name == g))
noncomputable def rapI (u:Unt) (made:List Str) (f i:Nat):List Cal:=u.fs[f]?.elim [] (fun F=>F.code[i]?.elim [] (fun x=>((trgL u f i).filter (okG u made x)).map (fun g=>⟨(f:Int),(i:Int),g⟩)))
noncomputable def rapN (u:Unt) (made:List Str) (f n:Nat):List Cal:=(List.range n).flatMap (fun i=>rapI u made f i)
noncomputable def rapU (u:Unt) (made:List Str) (bs:List Bool) (m:Nat):List Cal:=(List.range m).flatMap (fun f=>if bs[f]? = some true then rapN u made f (u.fs[f]?.elim 0 (fun x=>x.code.length)) else [])
theorem rapI_at {u:Unt} {made:List Str} {f i:Nat} (hf:f < u.fs.length) (hi:i < u.fs[f].code.length):rapI u made f i=((trgL u f i).filter (okG u made u.fs[f].code[i])).map (fun g=>⟨(f:Int),(i:Int),g⟩):=by
 unfold rapI
 rw [List.getElem?_eq_getElem hf]
 simp only [Option.elim]
 rw [List.getElem?_eq_getElem hi]
theorem rapN_succ (u:Unt) (made:List Str) (f n:Nat):rapN u made f (n + 1)=rapN u made f n ++ rapI u made f n:=by
 unfold rapN;rw [List.range_succ,List.flatMap_append];simp
theorem rapU_t {u:Unt} {made:List Str} {bs:List Bool} {m:Nat} (hm:m < u.fs.length) (hb:bs[m]? = some true):rapU u made bs (m + 1)=rapU u made bs m ++ rapN u made m u.fs[m].code.length:=by
 unfold rapU;rw [List.range_succ,List.flatMap_append];simp [hm,hb]
theorem rapU_f {u:Unt} {made:List Str} {bs:List Bool} {m:Nat} (hb:bs[m]? = some false):rapU u made bs (m + 1)=rapU u made bs m:=by
 unfold rapU;rw [List.range_succ,List.flatMap_append];simp [hb]
theorem rapI_mem {u:Unt} {made:List Str} {f i:Nat} {e:Cal}:e ∈ rapI u made f i ↔ e.f=(f:Int)∧e.i=(i:Int)∧∃ x,InsAt u.fs f i x∧trgS u f i e.c∧okG u made x e.c=true:=by
 by_cases hf:f < u.fs.length
 ·by_cases hi:i < u.fs[f].code.length
  ·rw [rapI_at hf hi]
   simp only [List.mem_map,List.mem_filter]
   constructor
   ·rintro ⟨g,⟨h1,h2⟩,rfl⟩
    exact ⟨rfl,rfl,_,⟨f,i,hf,hi,rfl,rfl,rfl⟩,((trgL_spec u f i).2 g).1 h1,h2⟩
   ·rintro ⟨h1,h2,x,⟨j,q,hj,hq,e1,e2,rfl⟩,h3,h4⟩
    obtain rfl:f=j:=by omega
    obtain rfl:i=q:=by omega
    exact ⟨e.c,⟨((trgL_spec u f i).2 _).2 h3,h4⟩,cal_ext h1.symm h2.symm rfl⟩
  ·unfold rapI
   rw [List.getElem?_eq_getElem hf]
   simp only [Option.elim]
   rw [List.getElem?_eq_none (by omega)]
   refine ⟨fun h=>(by cases h),?_⟩
   rintro ⟨_,_,x,⟨j,q,hj,hq,e1,e2,_⟩,_⟩
   obtain rfl:f=j:=by omega
   omega
 ·unfold rapI
  rw [List.getElem?_eq_none (by omega)]
  refine ⟨fun h=>(by cases h),?_⟩
  rintro ⟨_,_,x,⟨j,q,hj,hq,e1,e2,_⟩,_⟩
  omega
theorem rapN_mem {u:Unt} {made:List Str} {f n:Nat} {e:Cal}:e ∈ rapN u made f n ↔ ∃ i,i < n∧e ∈ rapI u made f i:=by
 unfold rapN
 simp only [List.mem_flatMap,List.mem_range]
theorem rapN_lt (u:Unt) (made:List Str) (f:Nat):∀ n,(rapN u made f n).Pairwise ltC
 | 0=>by simp [rapN]
 | n + 1=>by
   rw [rapN_succ,List.pairwise_append]
   refine ⟨rapN_lt u made f n,?_,fun a ha b hb=>?_⟩
   ·unfold rapI
    cases u.fs[f]? with
    | none=>exact .nil
    | some F =>
      simp only [Option.elim]
      cases F.code[n]? with
      | none=>exact .nil
      | some x =>
        simp only
        rw [List.pairwise_map]
        exact ((trgL_spec u f n).1.filter _).imp (fun h=>.inr ⟨rfl,.inr ⟨rfl,h⟩⟩)
   ·obtain ⟨i,hi,ha⟩:=rapN_mem.1 ha
    have h1:=rapI_mem.1 ha
    have h2:=rapI_mem.1 hb
    exact .inr ⟨by rw [h1.1,h2.1],.inl (by rw [h1.2.1,h2.2.1];omega)⟩
theorem rapU_mem0 {u:Unt} {made:List Str} {bs:List Bool} {m:Nat} {e:Cal}:e ∈ rapU u made bs m ↔ ∃ f,f < m∧bs[f]? = some true∧e ∈ rapN u made f (u.fs[f]?.elim 0 (fun x=>x.code.length)):=by
 unfold rapU
 simp only [List.mem_flatMap,List.mem_range]
 constructor
 ·rintro ⟨f,hf,h⟩
  split at h
  ·rename_i hb;exact ⟨f,hf,hb,h⟩
  ·cases h
 ·rintro ⟨f,hf,hb,h⟩
  exact ⟨f,hf,by rw [if_pos hb];exact h⟩
theorem rapU_lt (u:Unt) (made:List Str) (bs:List Bool):∀ m,(rapU u made bs m).Pairwise ltC
 | 0=>by simp [rapU]
 | m + 1=>by
   have ih:=rapU_lt u made bs m
   unfold rapU at *
   rw [List.range_succ,List.flatMap_append,List.pairwise_append]
   refine ⟨ih,?_,fun a ha b hb=>?_⟩
   ·rw [List.flatMap_singleton]
    split
    ·exact rapN_lt ..
    ·exact .nil
   ·obtain ⟨f,hf,_,ha⟩:=rapU_mem0.1 ha
    obtain ⟨i,_,ha⟩:=rapN_mem.1 ha
    have h1:=rapI_mem.1 ha
    rw [List.flatMap_singleton] at hb
    split at hb
    ·obtain ⟨i',_,hb⟩:=rapN_mem.1 hb
     have h2:=rapI_mem.1 hb
     exact .inl (by rw [h1.1,h2.1];omega)
    ·cases hb
theorem okG_iff {u:Unt} {made:List Str} {P:Int→Prop} (hm:∀ c,c ∈ made ↔ CrtS u.fs P c) {x:Ins} {g:Int} (h0:0≤g) (hc:callS u.h u.fs x g):okG u made x g=true ↔ ((x.op=10∧fnI u.fs x.cls x.name=g∧0≤g) ∨ (x.op=9∧∃ c,CrtS u.fs P c∧VirS u.h u.fs c x.cls x.name g)):=by
 unfold okG
 simp only [Bool.or_eq_true,List.any_eq_true,Bool.and_eq_true,beq_iff_eq]
 constructor
 ·rintro (h | ⟨c,h1,h2,h3⟩)
  ·rcases hc with ⟨_,e⟩ | ⟨h9,_⟩
   ·exact .inl ⟨h,e.symm,h0⟩
   ·omega
  ·rcases hc with ⟨h10,e⟩ | ⟨h9,_⟩
   ·exact .inl ⟨h10,e.symm,h0⟩
   ·exact .inr ⟨h9,c,(hm c).1 h1,h2,h3,h0⟩
 ·rintro (⟨h,_⟩ | ⟨_,c,h1,h2,h3,_⟩)
  ·exact .inl h
  ·exact .inr ⟨c,(hm c).2 h1,h2,h3⟩
theorem rapU_mem {u:Unt} {made:List Str} {bs:List Bool} (_hl:bs.length=u.fs.length) (hm:∀ c,c ∈ made ↔ CrtS u.fs (At bs) c) (e:Cal):e ∈ rapU u made bs u.fs.length ↔ EdgS u (At bs) e:=by
 rw [rapU_mem0]
 constructor
 ·rintro ⟨f,hf,hb,h⟩
  obtain ⟨i,hi,h⟩:=rapN_mem.1 h
  obtain ⟨e1,e2,x,hx,ht,ho⟩:=rapI_mem.1 h
  obtain ⟨j,q,hj,hq,e3,e4,rfl⟩:=hx
  obtain rfl:f=j:=by omega
  obtain rfl:i=q:=by omega
  have h2:=(trgS_at hj hq _).1 ht
  refine ⟨by rw [e1];exact ⟨by omega,by rw [Int.toNat_natCast];exact hb⟩,_,by rw [e1,e2];exact ⟨f,i,hj,hq,rfl,rfl,rfl⟩,(okG_iff hm h2.1 h2.2).1 ho⟩
 ·intro k
  have ht:=k.trg
  obtain ⟨h1,x,⟨j,q,hj,hq,e1,e2,rfl⟩,h3⟩:=k
  rw [e1,e2] at ht
  rw [e1] at h1
  have h2:=(trgS_at hj hq _).1 ht
  have hb:=h1.2
  rw [Int.toNat_natCast] at hb
  refine ⟨j,hj,hb,rapN_mem.2 ⟨q,by rw [List.getElem?_eq_getElem hj];exact hq,rapI_mem.2 ⟨e1,e2,_,⟨j,q,hj,hq,rfl,rfl,rfl⟩,ht,(okG_iff hm h2.1 h2.2).2 h3⟩⟩⟩
theorem rapI_len (u:Unt) (made:List Str) (f i:Nat):(rapI u made f i).length≤u.fs.length:=by
 unfold rapI
 cases u.fs[f]? with
 | none=>simp
 | some F =>
   simp only [Option.elim]
   cases F.code[i]? with
   | none=>simp
   | some x =>
     simp only [List.length_map]
     exact Nat.le_trans (List.length_filter_le _ _) (trgL_len u f i)
theorem rapN_len (u:Unt) (made:List Str) (f n:Nat):(rapN u made f n).length≤n * u.fs.length:=by
 induction n with
 | zero=>simp [rapN]
 | succ n ih =>
   rw [rapN_succ,List.length_append,Nat.add_mul]
   have:=rapI_len u made f n
   omega
structure RapB (u:Unt) (bs:List Bool):Prop where
 ln:bs.length=u.fs.length
 rs:∀ x,At bs x→Rap u x
 mn:0≤u.main→u.main < u.fs.length→At bs u.main
theorem RapB.next {u:Unt} {bs bs':List Bool} {l:List Cal} (k:RapB u bs) (hl:∀ e,e ∈ l ↔ EdgS u (At bs) e) (h:CI u.fs.length l bs bs'):RapB u bs' :=
 ⟨by rw [h.len];exact k.ln,fun x hx=>by
   have:=h.min x hx
   clear hx
   induction this with
   | base h0=>exact k.rs _ h0
   | step hc _ _ _=>exact Rap.edge (((hl _).1 hc).mono k.rs),fun h1 h2=>h.mono _ (k.mn h1 h2)⟩
theorem asc_same {L M:List Int} (h1:L.Pairwise (· < ·)) (h2:M.Pairwise (· < ·)) (hs:∀ x ∈ L,x ∈ M) (hl:L.length=M.length):L=M:=by
 refine set_unique (S:=fun x=>x ∈ M) h1 (fun x=>⟨hs x,fun hx=>?_⟩) h2 (fun _=>Iff.rfl)
 refine Decidable.byContradiction fun hn=>?_
 have hnd:(L ++ [x]).Nodup:=by
  rw [List.nodup_append]
  exact ⟨h1.imp (fun h=>Int.ne_of_lt h),by simp,fun a ha b hb e=>hn (by rw [List.mem_singleton.1 hb] at e;exact e ▸ ha)⟩
 have:=nodup_sub_len hnd (fun y hy=>by
  rcases List.mem_append.1 hy with hy | hy
  ·exact hs y hy
  ·rw [List.mem_singleton.1 hy];exact hx)
 rw [List.length_append,hl] at this
 simp at this
 omega
theorem RapB.done {u:Unt} {bs bs':List Bool} {l:List Cal} (k:RapB u bs) (hs:l.Pairwise ltC) (hl:∀ e,e ∈ l ↔ EdgS u (At bs) e) (h:CI u.fs.length l bs bs') (hc:ClosedB u.fs.length l bs') (hm:(marked bs').length=(marked bs).length):RapF u (marked bs')∧RapE u l:=by
 have e:=asc_same (marked_lt bs) (marked_lt bs') (fun x hx=>mem_marked.2 (h.mono x (mem_marked.1 hx))) hm.symm
 have hat:∀ x,At bs x ↔ At bs' x:=fun x=>by rw [← mem_marked,← mem_marked,e]
 have hr:∀ x,At bs x ↔ Rap u x:=fun x=>⟨k.rs x,fun hx=>Rap.least (P:=At bs) k.mn (fun e he=>by
  have h1:=at_lt he.1
  have h2:=he.lt
  rw [k.ln] at h1
  exact (hat _).2 (hc e ((hl e).2 he) (rightC_iff.2 ⟨h1.1,h1.2,h2.1,h2.2⟩) ((hat _).1 he.1))) hx⟩
 refine ⟨⟨marked_lt _,fun x=>?_⟩,hs,fun e=>?_⟩
 ·rw [← e,mem_marked,hr]
 ·rw [hl e];exact EdgS.congr hr e
theorem RapB.start {u:Unt} {bs:List Bool} (hl:bs.length=u.fs.length) (h:∀ x,At bs x ↔ x=u.main∧0≤u.main∧u.main < u.fs.length):RapB u bs :=
 ⟨hl,fun x hx=>by
   obtain ⟨rfl,h1,h2⟩:=(h x).1 hx
   exact .main h1 h2,fun h1 h2=>(h _).2 ⟨rfl,h1,h2⟩⟩
theorem cnt_marked (bs:List Bool):cntF bs + (marked bs).length=bs.length:=by
 have h:∀ k,k≤bs.length→(bs.take k).count false + (markT bs k).length=k:=by
  intro k
  induction k with
  | zero=>intro _;simp [markT]
  | succ k ih =>
    intro hk
    have:=ih (by omega)
    rw [List.take_succ_eq_append_getElem (by omega),List.count_append]
    cases hv:bs[k]
    ·rw [markT_f (by rw [List.getElem?_eq_getElem (by omega),hv])]
     simp
     omega
    ·rw [markT_t (by rw [List.getElem?_eq_getElem (by omega),hv])]
     simp
     omega
 have:=h bs.length (Nat.le_refl _)
 rw [List.take_length] at this
 exact this
end Go.Proofs.YtkbmnfijeknenaaGreatDoor
namespace Go.Proofs.YtkbmnfijeknenaaGreatDoor
open Go.RowKit Go.Unit0 Go.AM

theorem undMMM:Tryz.prog.underlying 115=some (.map 102 95):=by kernel_rfl
theorem undMPM:Tryz.prog.underlying 116=some (.map 123 102):=by kernel_rfl
theorem undMCB:Tryz.prog.underlying 117=some (.map 51 4):=by kernel_rfl
theorem zeroMIB (w:World):(zeroValue 95).run Tryz.prog w = .ok (.map none) w:=by kernel_rfl
abbrev Cky:=Int × Int × Int
def encP (e:Int × Int):Value:=.agg #[.int .i64 e.1,.int .i64 e.2]
def encK (e:Cky):Value:=.agg #[.int .i64 e.1,.int .i64 e.2.1,.int .i64 e.2.2]
theorem keyP:MKey Tryz.prog 123 encP:=mkey_row (ks:=[.i,.i]) (by kernel_rfl) (fun e=>[KC.i .i64 e.1,KC.i .i64 e.2]) [some (some .i64),some (some .i64)] (fun _=>rfl) (fun a b h=>by
 simp only [List.cons.injEq,KC.i.injEq,and_true,true_and] at h
 exact Prod.ext h.1 h.2) (fun _=>rfl) (fun _=>rfl)
theorem keyC:MKey Tryz.prog 51 encK:=mkey_row (ks:=[.i,.i,.i]) (by kernel_rfl) (fun e=>[KC.i .i64 e.1,KC.i .i64 e.2.1,KC.i .i64 e.2.2]) [some (some .i64),some (some .i64),some (some .i64)] (fun _=>rfl) (fun a b h=>by
 simp only [List.cons.injEq,KC.i.injEq,and_true,true_and] at h
 exact Prod.ext h.1 (Prod.ext h.2.1 h.2.2)) (fun _=>rfl) (fun _=>rfl)
def setT (l:List Str) (k:Str):Option Value:=if inL l k=true then some (.bool true) else none
theorem setT_t {l:List Str} {k:Str} (h:k ∈ l):setT l k=some (.bool true):=if_pos (inL_iff.2 h)
theorem setT_f {l:List Str} {k:Str} (h:k ∉ l):setT l k=none:=if_neg (fun e=>h (inL_iff.1 e))
theorem setT_mem {l:List Str} {k:Str} {v:Value} (h:setT l k=some v):k ∈ l:=by
 unfold setT at h
 split at h
 ·rename_i e;exact inL_iff.1 e
 ·cases h
theorem setT_snoc (l:List Str) (i:Str):(fun k'=>if k' = i then some (.bool true) else setT l k')=setT (l ++ [i]):=by
 funext k
 by_cases e:k=i
 ·rw [if_pos e,setT_t (by simp [e])]
 ·rw [if_neg e]
  by_cases h:k ∈ l
  ·rw [setT_t h,setT_t (List.mem_append_left _ h)]
  ·rw [setT_f h,setT_f (fun hm=>by
    rcases List.mem_append.1 hm with hm | hm
    ·exact h hm
    ·exact e (List.mem_singleton.1 hm))]
theorem setT_nil:(fun _:Str=>(none:Option Value))=setT []:=by funext k;rfl
def MapE {κ:Type} [DecidableEq κ] (w:World) (g:Nat) (enc:κ→Value) (F:κ→Option Value):Prop:=∃ n,MapF w g enc F n
theorem MapE.at {κ:Type} [DecidableEq κ] {w w':World} {g:Nat} {enc:κ→Value} {F:κ→Option Value} (h:MapE w g enc F) (e:w'.heap[g]? = w.heap[g]?):MapE w' g enc F:=by
 obtain ⟨n,h⟩:=h;exact ⟨n,h.at e⟩
theorem MapE.lt {κ:Type} [DecidableEq κ] {w:World} {g:Nat} {enc:κ→Value} {F:κ→Option Value} (h:MapE w g enc F):g < w.heap.size:=by
 obtain ⟨n,h⟩:=h;exact h.lt
theorem MapE.below {κ:Type} [DecidableEq κ] {w w':World} {g:Nat} {enc:κ→Value} {F:κ→Option Value} (h:MapE w g enc F) (hb:Below w.heap.size w w'):MapE w' g enc F:=h.at (hb.block g h.lt)
theorem MapE.grown {κ:Type} [DecidableEq κ] {w w':World} {g:Nat} {enc:κ→Value} {F:κ→Option Value} (h:MapE w g enc F) {row:Option Nat} (hg:w.grownBy w' row) (hne:some g ≠ row):MapE w' g enc F:=h.at (hg.block g h.lt hne)
structure RB where
 R:Nat
 gr:Nat
 gc:Nat
 gt:Nat
 gv:Nat
 ge:Nat
abbrev RB.row (b:RB) (u:Unt) (ha:Option Addr) (hc:Nat) (fa:Option Addr) (fc:Nat) (oa:Option Addr) (on oc:Nat):Array Value :=
 #[.slice ha u.h.length hc,.slice fa u.fs.length fc,.int .i64 u.main,.map (some b.gr),.slice oa on oc,.map (some b.gc),.map (some b.gt),.map (some b.gv),.map (some b.ge)]
structure RM (u:Unt) (ha:Option Addr) (hc:Nat) (fa:Option Addr) (fc:Nat) (b:RB) (ig:Str × Str→Nat) (st:RpS) (oa:Option Addr) (oc:Nat) (w wr:World):Prop where
 hb:Below w.heap.size w wr
 rb:Blk wr b.R (b.row u ha hc fa fc oa st.T.length oc) 119
 mr:MapF wr b.gr (Value.int .i64) (setF st.S) st.S.length
 mc:MapE wr b.gc Value.string (setT st.C)
 mt:MapE wr b.gt encM (fun m=>(st.tg m).map (fun _=>Value.map (some (ig m))))
 mv:MapE wr b.gv encP (fun p=>(st.vt p).map encM)
 me:∃ F:Cky→Option Value,MapE wr b.ge encK F∧∀ e,(F e).isSome=true ↔ st.ed ⟨e.1,e.2.1,e.2.2⟩
 mi:∀ m L,st.tg m=some L→MapE wr (ig m) (Value.int .i64) (setF L)
 ow:wr.ownsRow w.heap.size 3 1 (.slice oa st.T.length oc) st.T.length (st.T.map intV)
 od:w.heap.size≤b.gr∧b.gr < b.gc∧b.gc < b.gt∧b.gt < b.gv∧b.gv < b.ge∧b.ge < b.R
 ih:∀ m,(st.tg m).isSome=true→b.R < ig m
 ij:∀ m m',(st.tg m).isSome=true→(st.tg m').isSome=true→ig m=ig m'→m=m'
section
variable {u:Unt} {ha:Option Addr} {hc:Nat} {fa:Option Addr} {fc:Nat} {b:RB} {ig:Str × Str→Nat} {st:RpS} {oa:Option Addr} {oc:Nat} {w wr w':World}
theorem RM.cells (k:RM u ha hc fa fc b ig st oa oc w wr):wr.cell? ⟨b.R,0,none⟩=some (.slice ha u.h.length hc)∧wr.cell? ⟨b.R,1,none⟩=some (.slice fa u.fs.length fc)∧wr.cell? ⟨b.R,2,none⟩=some (.int .i64 u.main)∧wr.cell? ⟨b.R,3,none⟩=some (.map (some b.gr))∧wr.cell? ⟨b.R,4,none⟩=some (.slice oa st.T.length oc)∧wr.cell? ⟨b.R,5,none⟩=some (.map (some b.gc))∧wr.cell? ⟨b.R,6,none⟩=some (.map (some b.gt))∧wr.cell? ⟨b.R,7,none⟩=some (.map (some b.gv))∧wr.cell? ⟨b.R,8,none⟩=some (.map (some b.ge)) :=
 ⟨k.rb.cell 0 (by simp),k.rb.cell 1 (by simp),k.rb.cell 2 (by simp),k.rb.cell 3 (by simp),k.rb.cell 4 (by simp),k.rb.cell 5 (by simp),k.rb.cell 6 (by simp),k.rb.cell 7 (by simp),k.rb.cell 8 (by simp)⟩
theorem RM.below (k:RM u ha hc fa fc b ig st oa oc w wr) (hb:Below wr.heap.size wr w'):RM u ha hc fa fc b ig st oa oc w w':=by
 obtain ⟨F,h1,h2⟩:=k.me
 exact ⟨k.hb.trans (hb.mono k.hb.size),k.rb.below hb,k.mr.below hb,k.mc.below hb,k.mt.below hb,k.mv.below hb,⟨F,h1.below hb,h2⟩,fun m L e=>(k.mi m L e).below hb,owns_below k.ow hb,k.od,k.ih,k.ij⟩
theorem RM.keep (k:RM u ha hc fa fc b ig st oa oc w wr) {g:Nat} (hg:wr.grownBy w' (some g)) (hlo:w.heap.size≤g) {κ:Type} [DecidableEq κ] {enc:κ→Value} {F:κ→Option Value} {n:Nat} (hm:MapF wr g enc F n) :
 Below w.heap.size w w'∧Blk w' b.R (b.row u ha hc fa fc oa st.T.length oc) 119∧w'.ownsRow w.heap.size 3 1 (.slice oa st.T.length oc) st.T.length (st.T.map intV) :=
 ⟨k.hb.grown hg k.hb.size (fun q hq=>by cases hq;exact hlo),k.rb.grown hg (blk_mapF k.rb hm),owns_put k.ow hm hg⟩
theorem RM.putR (k:RM u ha hc fa fc b ig st oa oc w wr) {f:Int} (hm:MapF w' b.gr (Value.int .i64) (setF (st.S ++ [f])) (st.S.length + 1)) (hg:wr.grownBy w' (some b.gr)):RM u ha hc fa fc b ig { st with S:=st.S ++ [f] } oa oc w w':=by
 obtain ⟨h1,h2,h3⟩:=k.keep hg k.od.1 k.mr
 have od:=k.od
 obtain ⟨F,e1,e2⟩:=k.me
 exact ⟨h1,h2,by simpa using hm,k.mc.grown hg (by simp;omega),k.mt.grown hg (by simp;omega),k.mv.grown hg (by simp;omega),⟨F,e1.grown hg (by simp;omega),e2⟩,fun m L e=>(k.mi m L e).grown hg (by have:=k.ih m (Option.isSome_iff_exists.2 ⟨_,e⟩);simp;omega),h3,od,k.ih,k.ij⟩
theorem RM.putC (k:RM u ha hc fa fc b ig st oa oc w wr) {c:Str} {n:Nat} (hm:MapF w' b.gc Value.string (setT (st.C ++ [c])) n) (hg:wr.grownBy w' (some b.gc)):RM u ha hc fa fc b ig { st with C:=st.C ++ [c] } oa oc w w':=by
 have od:=k.od
 obtain ⟨n0,m0⟩:=k.mc
 obtain ⟨h1,h2,h3⟩:=k.keep hg (by omega) m0
 obtain ⟨F,e1,e2⟩:=k.me
 exact ⟨h1,h2,k.mr.grown hg (by simp;omega),⟨_,hm⟩,k.mt.grown hg (by simp;omega),k.mv.grown hg (by simp;omega),⟨F,e1.grown hg (by simp;omega),e2⟩,fun m L e=>(k.mi m L e).grown hg (by have:=k.ih m (Option.isSome_iff_exists.2 ⟨_,e⟩);simp;omega),h3,od,k.ih,k.ij⟩
theorem RM.putE (k:RM u ha hc fa fc b ig st oa oc w wr) {e:Cky} {F:Cky→Option Value} {v:Value} (hF:∀ e,(F e).isSome=true ↔ st.ed ⟨e.1,e.2.1,e.2.2⟩) {n n':Nat} (h0:MapF wr b.ge encK F n') (hm:MapF w' b.ge encK (fun k'=>if k' = e then some v else F k') n) (hg:wr.grownBy w' (some b.ge)) :
 RM u ha hc fa fc b ig { st with ed:=fun x=>x=⟨e.1,e.2.1,e.2.2⟩ ∨ st.ed x } oa oc w w':=by
 have od:=k.od
 obtain ⟨h1,h2,h3⟩:=k.keep hg (by omega) h0
 refine ⟨h1,h2,k.mr.grown hg (by simp;omega),k.mc.grown hg (by simp;omega),k.mt.grown hg (by simp;omega),k.mv.grown hg (by simp;omega),⟨_,⟨_,hm⟩,fun x=>?_⟩,fun m L e=>(k.mi m L e).grown hg (by have:=k.ih m (Option.isSome_iff_exists.2 ⟨_,e⟩);simp;omega),h3,od,k.ih,k.ij⟩
 by_cases hx:x=e
 ·rw [if_pos hx,hx]
  exact ⟨fun _=>.inl rfl,fun _=>rfl⟩
 ·rw [if_neg hx,hF x]
  refine ⟨.inr,fun h=>?_⟩
  rcases h with h | h
  ·refine absurd ?_ hx
   simp only [Cal.mk.injEq] at h
   exact Prod.ext h.1 (Prod.ext h.2.1 h.2.2)
  ·exact h
theorem RM.putV (k:RM u ha hc fa fc b ig st oa oc w wr) {p:Int × Int} {m:Str × Str} {n:Nat} (hm:MapF w' b.gv encP (fun k'=>if k' = p then some (encM m) else (st.vt k').map encM) n) (hg:wr.grownBy w' (some b.gv)):RM u ha hc fa fc b ig (st.note p m) oa oc w w':=by
 have od:=k.od
 obtain ⟨n0,m0⟩:=k.mv
 obtain ⟨h1,h2,h3⟩:=k.keep hg (by omega) m0
 obtain ⟨F,e1,e2⟩:=k.me
 refine ⟨h1,h2,k.mr.grown hg (by simp;omega),k.mc.grown hg (by simp;omega),k.mt.grown hg (by simp;omega),⟨n,?_⟩,⟨F,e1.grown hg (by simp;omega),e2⟩,fun m L e=>(k.mi m L e).grown hg (by have:=k.ih m (Option.isSome_iff_exists.2 ⟨_,e⟩);simp;omega),h3,od,k.ih,k.ij⟩
 have e:(fun k'=>if k' = p then some (encM m) else (st.vt k').map encM)=fun k'=>((st.note p m).vt k').map encM:=by
  funext k'
  unfold RpS.note
  simp only
  by_cases h:k' = p
  ·rw [if_pos h,if_pos h];rfl
  ·rw [if_neg h,if_neg h]
 rw [← e]
 exact hm
theorem RM.putI (k:RM u ha hc fa fc b ig st oa oc w wr) {m:Str × Str} {L:List Int} (hL:st.tg m=some L) {g:Int} {n:Nat} (hm:MapF w' (ig m) (Value.int .i64) (setF (L ++ [g])) n) (hg:wr.grownBy w' (some (ig m))):RM u ha hc fa fc b ig (st.add m (L ++ [g])) oa oc w w':=by
 have od:=k.od
 have hi:=k.ih m (by rw [hL];rfl)
 obtain ⟨n0,m0⟩:=k.mi m L hL
 obtain ⟨h1,h2,h3⟩:=k.keep hg (by omega) m0
 obtain ⟨F,e1,e2⟩:=k.me
 have hd:∀ m',((st.add m (L ++ [g])).tg m').isSome=(st.tg m').isSome:=fun m'=>by
  unfold RpS.add
  simp only
  by_cases e:m' = m
  ·rw [if_pos e,e,hL];rfl
  ·rw [if_neg e]
 have et:(fun m'=>((st.add m (L ++ [g])).tg m').map (fun _=>Value.map (some (ig m'))))=fun m'=>(st.tg m').map (fun _=>Value.map (some (ig m'))):=by
  funext m'
  have:=hd m'
  cases h1:(st.add m (L ++ [g])).tg m' <;> cases h2:st.tg m' <;> rw [h1,h2] at this <;> first | rfl | cases this
 refine ⟨h1,h2,k.mr.grown hg (by simp;omega),k.mc.grown hg (by simp;omega),?_,k.mv.grown hg (by simp;omega),⟨F,e1.grown hg (by simp;omega),e2⟩,fun m' L' e=>?_,h3,od,fun m' e=>k.ih m' (by rw [← hd];exact e),fun m1 m2 e1 e2=>k.ij m1 m2 (by rw [← hd];exact e1) (by rw [← hd];exact e2)⟩
 ·rw [et]
  exact k.mt.grown hg (by simp;omega)
 ·unfold RpS.add at e
  simp only at e
  by_cases e3:m' = m
  ·rw [if_pos e3] at e
   cases e
   rw [e3]
   exact ⟨_,hm⟩
  ·rw [if_neg e3] at e
   exact (k.mi m' L' e).grown hg (fun e4=>e3 (k.ij m' m (Option.isSome_iff_exists.2 ⟨_,e⟩) (by rw [hL];rfl) (by simpa using e4)))
theorem RM.putT (k:RM u ha hc fa fc b ig st oa oc w wr) {m:Str × Str} (_hL:st.tg m=none) {gn:Nat} (hgn:b.R < gn) (hfr:∀ m',(st.tg m').isSome=true→ig m' ≠ gn) {n:Nat} (hm:MapF w' b.gt encM (fun k'=>if k' = m then some (.map (some gn)) else (st.tg k').map (fun _=>Value.map (some (ig k')))) n)
 (hn:MapE w' gn (Value.int .i64) (setF [])) (hg:wr.grownBy w' (some b.gt)):RM u ha hc fa fc b (fun k'=>if k' = m then gn else ig k') (st.add m []) oa oc w w':=by
 have od:=k.od
 obtain ⟨n0,m0⟩:=k.mt
 obtain ⟨h1,h2,h3⟩:=k.keep hg (by omega) m0
 obtain ⟨F,e1,e2⟩:=k.me
 have hd:∀ m',((st.add m []).tg m').isSome=true→(m' = m∧True) ∨ (m' ≠ m∧(st.tg m').isSome=true):=fun m' h=>by
  unfold RpS.add at h
  simp only at h
  by_cases e:m' = m
  ·exact .inl ⟨e,trivial⟩
  ·rw [if_neg e] at h;exact .inr ⟨e,h⟩
 have et:(fun m'=>((st.add m []).tg m').map (fun _=>Value.map (some (if m' = m then gn else ig m'))))=fun k'=>if k' = m then some (.map (some gn)) else (st.tg k').map (fun _=>Value.map (some (ig k'))):=by
  funext m'
  unfold RpS.add
  simp only
  by_cases e:m' = m
  ·rw [if_pos e,if_pos e,if_pos e];rfl
  ·rw [if_neg e,if_neg e,if_neg e]
 refine ⟨h1,h2,k.mr.grown hg (by simp;omega),k.mc.grown hg (by simp;omega),⟨n,?_⟩,k.mv.grown hg (by simp;omega),⟨F,e1.grown hg (by simp;omega),e2⟩,fun m' L' e=>?_,h3,od,fun m' e=>?_,fun m1 m2 e1 e2=>?_⟩
 ·rw [et];exact hm
 ·unfold RpS.add at e
  simp only at e
  by_cases e3:m' = m
  ·rw [if_pos e3] at e
   cases e
   show MapE w' (if m' = m then gn else ig m') _ _
   rw [if_pos e3]
   exact hn
  ·rw [if_neg e3] at e
   show MapE w' (if m' = m then gn else ig m') _ _
   rw [if_neg e3]
   have:=k.ih m' (Option.isSome_iff_exists.2 ⟨_,e⟩)
   exact (k.mi m' L' e).grown hg (by simp;omega)
 ·show b.R < if m' = m then gn else ig m'
  rcases hd m' e with ⟨e3,_⟩ | ⟨e3,e4⟩
  ·rw [if_pos e3];exact hgn
  ·rw [if_neg e3];exact k.ih m' e4
 ·show (if m1=m then gn else ig m1)=(if m2=m then gn else ig m2)→m1=m2
  rcases hd m1 e1 with ⟨e3,_⟩ | ⟨e3,e4⟩ <;> rcases hd m2 e2 with ⟨e5,_⟩ | ⟨e5,e6⟩
  ·exact fun _=>e3.trans e5.symm
  ·rw [if_pos e3,if_neg e5];exact fun h=>absurd h.symm (hfr m2 e6)
  ·rw [if_neg e3,if_pos e5];exact fun h=>absurd h (hfr m1 e4)
  ·rw [if_neg e3,if_neg e5];exact k.ij m1 m2 e4 e6
theorem RM.slot {w1:World} (k:RM u ha hc fa fc b ig st oa oc w wr) {T':List Int} {oa':Option Addr} {oc':Nat} (own:w1.ownsRow w.heap.size 3 1 (.slice oa' T'.length oc') T'.length (T'.map intV)) (hg:wr.grownBy w1 (Value.slice oa st.T.length oc).ownBlock) :
 RM u ha hc fa fc b ig { st with T:=T' } oa' oc' w (w1.setCell ⟨b.R,4,none⟩ (.slice oa' T'.length oc')):=by
 have od:=k.od
 have hb1:=k.hb.grown hg k.hb.size (fun q hq=>(k.ow.lt q hq).1)
 have rb1:=k.rb.grown hg (owns_ne k.ow k.rb (by decide))
 have hs:=grown_set w1 b.R 4 (.slice oa' T'.length oc')
 have hs2:w.heap.size≤b.R:=by omega
 obtain ⟨F,e1,e2⟩:=k.me
 have keep:∀ {κ:Type} [DecidableEq κ] {g:Nat} {enc:κ→Value} {F:κ→Option Value} {n:Nat},MapF wr g enc F n→MapF (w1.setCell ⟨b.R,4,none⟩ (.slice oa' T'.length oc')) g enc F n:=fun h =>
  (h.grown hg (owns_mapF k.ow h)).grown hs (fun e=>blk_mapF rb1 (h.grown hg (owns_mapF k.ow h)) e.symm)
 have keepE:∀ {κ:Type} [DecidableEq κ] {g:Nat} {enc:κ→Value} {F:κ→Option Value},MapE wr g enc F→MapE (w1.setCell ⟨b.R,4,none⟩ (.slice oa' T'.length oc')) g enc F:=fun ⟨n,h⟩=>⟨n,keep h⟩
 exact ⟨hb1.grown hs hb1.size (fun q hq=>by cases hq;exact hs2),by simpa using rb1.set 4 (.slice oa' T'.length oc'),keep k.mr,keepE k.mc,keepE k.mt,keepE k.mv,⟨F,keepE e1,e2⟩,fun m L e=>keepE (k.mi m L e),own.kept hs (.inr (fun e=>owns_ne own rb1 (by decide) e.symm)),od,k.ih,k.ij⟩
end
structure Chg (P:Nat→Prop) (w w':World):Prop where
 sz:w.heap.size≤w'.heap.size
 eq:∀ k,k < w.heap.size→¬ P k→w'.heap[k]? = w.heap[k]?
theorem Chg.refl (P:Nat→Prop) (w:World):Chg P w w:=⟨Nat.le_refl _,fun _ _ _=>rfl⟩
theorem Chg.of_below {P:Nat→Prop} {w w':World} (h:Below w.heap.size w w'):Chg P w w':=⟨h.size,fun k hk _=>h.block k hk⟩
theorem Chg.of_grown {P:Nat→Prop} {w w':World} {row:Option Nat} (h:w.grownBy w' row) (hr:∀ q,row=some q→q < w.heap.size→P q):Chg P w w':=⟨h.size,fun k hk hp=>h.block k hk (fun e=>hp (hr k e.symm hk))⟩
theorem Chg.trans {P Q:Nat→Prop} {w w1 w2:World} (h:Chg P w w1) (k:Chg Q w1 w2) (hq:∀ x,x < w.heap.size→Q x→P x):Chg P w w2 :=
 ⟨Nat.le_trans h.sz k.sz,fun x hx hp=>(k.eq x (Nat.lt_of_lt_of_le hx h.sz) (fun e=>hp (hq x hx e))).trans (h.eq x hx hp)⟩
def Newer (w:World) (v v':Value):Prop:=v'.ownBlock=v.ownBlock ∨ ∀ q,v'.ownBlock=some q→w.heap.size≤q
theorem Newer.refl (w:World) (v:Value):Newer w v v:=.inl rfl
theorem Newer.trans {w w1:World} {a b c:Value} (h:Newer w a b) (k:Newer w1 b c) (hs:w.heap.size≤w1.heap.size):Newer w a c:=by
 rcases k with k | k
 ·rcases h with h | h
  ·exact .inl (k.trans h)
  ·exact .inr (fun q hq=>h q (by rw [← k];exact hq))
 ·exact .inr (fun q hq=>Nat.le_trans hs (k q hq))
def chR (b:RB) (v:Value) (k:Nat):Prop:=k=b.R ∨ k=b.gr ∨ v.ownBlock=some k
def chD (b:RB) (g:Nat) (v:Value) (k:Nat):Prop:=k=g ∨ chR b v k
end Go.Proofs.YtkbmnfijeknenaaGreatDoor
