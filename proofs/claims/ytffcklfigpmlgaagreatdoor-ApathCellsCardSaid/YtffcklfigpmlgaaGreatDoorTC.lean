/-
  The program's hierarchies: table.lookup.
  The program's hierarchies: table.lookup.
  slices.Contains of strings.
  The program's hierarchies: Supers and IsSub, plain part.
-/
import Derived.Test.YtffcklfigpmlgaaGreatDoorTB
import Derived.Test.YtffcklfigpmlgaaGreatDoorVA
namespace Go.Proofs.YtffcklfigpmlgaaGreatDoor
open Go.RowKit Go.Unit0 Go.AM

theorem chIF_in {h:List Cls}:∀ (n:Nat) (i:Int) (l:List Int),(i = -1 ∨ ∃ j:Nat,j < h.length∧i=j)→l.Nodup→(∀ x ∈ l,∃ j:Nat,j < h.length∧x=j)→(chIF h n i l).1.Nodup∧∀ x ∈ (chIF h n i l).1,∃ j:Nat,j < h.length∧x=j
 | 0,i,l,_,h2,h3=>⟨h2,h3⟩
 | n + 1,i,l,h1,h2,h3=>by
   by_cases hq:0≤i∧i ∉ l
   ·rw [chIF_go hq.1 hq.2]
    refine chIF_in n _ _ (supAt_in i) ?_ ?_
    ·rw [List.nodup_append]
     exact ⟨h2,by simp,fun x hx y hy e=>by rw [List.mem_singleton.1 hy] at e;exact hq.2 (e ▸ hx)⟩
    ·intro x hx
     rcases List.mem_append.1 hx with hx | hx
     ·exact h3 x hx
     ·rw [List.mem_singleton.1 hx]
      rcases h1 with rfl | h1
      ·have:=hq.1;omega
      ·exact h1
   ·rw [chIF_stop hq];exact ⟨h2,h3⟩
theorem chI_in {h:List Cls} {i:Int} (hi:i = -1 ∨ ∃ j:Nat,j < h.length∧i=j):(chI h i).1.Nodup∧∀ x ∈ (chI h i).1,∃ j:Nat,j < h.length∧x=j :=
 chIF_in _ _ _ hi List.nodup_nil (by simp)
theorem chI_len {h:List Cls} {i:Int} (hi:i = -1 ∨ ∃ j:Nat,j < h.length∧i=j):(chI h i).1.length≤h.length:=nodup_len _ _ (chI_in hi).1 (chI_in hi).2
end Go.Proofs.YtffcklfigpmlgaaGreatDoor
namespace Go.Proofs.YtffcklfigpmlgaaGreatDoor
open Go.RowKit Go.Unit0 Go.AM

end Go.Proofs.YtffcklfigpmlgaaGreatDoor
namespace Go.Proofs.YtffcklfigpmlgaaGreatDoor
open Go.RowKit Go.Unit0

end Go.Proofs.YtffcklfigpmlgaaGreatDoor
namespace Go.Proofs.YtffcklfigpmlgaaGreatDoor
open Go.RowKit Go.Unit0 Go.AM

def nameAt (h:List Cls) (i:Int):Str:=match h[i.toNat]? with
 | some x=>x.name
 | none=>⟨#[]⟩
def supP (h:List Cls) (s:Str):List Str:=(chI h (findI h s)).1.map (nameAt h)
theorem supP_len (h:List Cls) (s:Str):(supP h s).length≤h.length:=by
 unfold supP
 rw [List.length_map]
 exact chI_len (findI_in h s)
end Go.Proofs.YtffcklfigpmlgaaGreatDoor
