/-
  The program's hierarchies: Supers.
-/
import Derived.Test.YthbialnddkboiaaGreatDoorTC
namespace Go.Proofs.YthbialnddkboiaaGreatDoor
open Go.RowKit Go.Unit0 Go.AM

theorem owns_apart {w:World} {b1 b2 e1 e2 s1 s2 n1 n2:Nat} {v1 v2:Value} {xs1 xs2:List Value} (h1:w.ownsRow b1 e1 s1 v1 n1 xs1) (h2:w.ownsRow b2 e2 s2 v2 n2 xs2) (hne:e1 ≠ e2) (q:Nat) (k1:v1.ownBlock=some q) (k2:v2.ownBlock=some q):False:=by
 rcases h1.2 with ⟨rfl,_⟩ | ⟨g1,_,_,rfl,_,hh1,_⟩
 ·simp [Value.ownBlock] at k1
 ·rcases h2.2 with ⟨rfl,_⟩ | ⟨g2,_,_,rfl,_,hh2,_⟩
  ·simp [Value.ownBlock] at k2
  ·simp only [Value.ownBlock,Option.some.injEq] at k1 k2
   rw [k1] at hh1
   rw [k2,hh1] at hh2
   simp only [Option.some.injEq,Obj.cells.injEq] at hh2
   exact hne hh2.2.1
theorem owns_kept2 {w w':World} {b1 b2 e1 e2 s1 s2 n1 n2:Nat} {v1 v2:Value} {xs1 xs2:List Value} (h1:w.ownsRow b1 e1 s1 v1 n1 xs1) (h2:w.ownsRow b2 e2 s2 v2 n2 xs2) (hne:e1 ≠ e2) (hg:w.grownBy w' v2.ownBlock):w'.ownsRow b1 e1 s1 v1 n1 xs1 :=
 h1.kept hg (by
  cases hv:v1.ownBlock with
  | none=>exact .inl rfl
  | some q=>exact .inr (fun e=>owns_apart h1 h2 hne q hv e.symm))
structure NT (h:List Cls) (a:Option Addr) (c g tb:Nat) (r:List Int) (ia:Option Addr) (ic:Nat) (out:List Str) (oa:Option Addr) (oc:Nat) (w wr:World):Prop where
 hb:Below w.heap.size w wr
 bt:Blk wr tb #[.slice a h.length c,.map (some g)] 231
 hc:ClssAt wr a h
 tg:TabAt wr g h
 io:wr.ownsRow w.heap.size 3 1 (.slice ia r.length ic) r.length (r.map intV)
 ow:wr.ownsRow w.heap.size 9 1 (.slice oa out.length oc) out.length (out.map Value.string)
section
variable {h:List Cls} {a:Option Addr} {c g tb:Nat} {r:List Int} {ia:Option Addr} {ic:Nat} {out:List Str} {oa:Option Addr} {oc:Nat} {w wr w':World}
theorem NT.below (k:NT h a c g tb r ia ic out oa oc w wr) (hb:Below wr.heap.size wr w'):NT h a c g tb r ia ic out oa oc w w' :=
 ⟨k.hb.trans (hb.mono k.hb.size),k.bt.below hb,k.hc.below hb,k.tg.below hb,owns_below k.io hb,owns_below k.ow hb⟩
theorem NT.grow {out':List Str} {oa':Option Addr} {oc':Nat} (hc:ClssAt w a h) (k:NT h a c g tb r ia ic out oa oc w wr) (own:w'.ownsRow w.heap.size 9 1 (.slice oa' out'.length oc') out'.length (out'.map Value.string)) (hg:wr.grownBy w' (Value.slice oa out.length oc).ownBlock):NT h a c g tb r ia ic out' oa' oc' w w' :=
 have hb:=grow_below k.hb k.ow hg
 ⟨hb,k.bt.grown hg (owns_ne k.ow k.bt (by decide)),hc.below hb,k.tg.grown hg (owns_mapF k.ow k.tg),owns_kept2 k.io k.ow (by decide) hg,own⟩
theorem NT.at (k:NT h a c g tb r ia ic out oa oc w wr):IntsAt wr ia r:=by
 obtain ⟨-,_,_,he,-,hat⟩:=owns_ints k.io
 cases he
 exact hat
end
end Go.Proofs.YthbialnddkboiaaGreatDoor
