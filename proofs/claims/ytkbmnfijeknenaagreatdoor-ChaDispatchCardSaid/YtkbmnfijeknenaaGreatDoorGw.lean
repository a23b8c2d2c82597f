/-
  Worlds in which nothing but one block has changed.
-/
import Derived.Test.YtkbmnfijeknenaaGreatDoorH0
namespace Go.Proofs.YtkbmnfijeknenaaGreatDoor
open Go.RowKit Go.Unit0 Go.AM

theorem made_one (z:Value) (n:Nat):(madeCells #[z] n).toList=List.replicate n z:=by
 apply List.ext_getElem (by simp [madeCells])
 intro i h1 h2
 simp [madeCells,Nat.mod_one]
theorem grown_below {a b c:World} {row:Option Nat} (hg:a.grownBy b row) (hb:Below b.heap.size b c):a.grownBy c row :=
 ⟨hb.os.trans hg.os,hb.tape.trans hg.tape,hb.output.trans hg.output,Nat.le_trans hg.size hb.size,fun k hk hne=>(hb.block k (Nat.lt_of_lt_of_le hk hg.size)).trans (hg.block k hk hne)⟩
theorem grown_grown {a b c:World} {row row2:Option Nat} (hg:a.grownBy b row) (hh:b.grownBy c row2) (hr:∀ q,row2=some q→a.heap.size≤q ∨ row=some q):a.grownBy c row :=
 ⟨hh.os.trans hg.os,hh.tape.trans hg.tape,hh.output.trans hg.output,Nat.le_trans hg.size hh.size,fun k hk hne=>(hh.block k (Nat.lt_of_lt_of_le hk hg.size) (fun e=>by
   rcases hr k e.symm with h | h
   ·omega
   ·exact hne h.symm)).trans (hg.block k hk hne)⟩
theorem below_grown0 {a b:World} (hb:Below a.heap.size a b) (row:Option Nat):a.grownBy b row:=⟨hb.os,hb.tape,hb.output,hb.size,fun k hk _=>hb.block k hk⟩
structure GW (W:World) (row:Option Nat) where
 u:World
 h:W.grownBy u row
theorem setF_some (S:List Int) (k:Int):(setF S k).isSome=true ↔ k ∈ S:=by
 unfold setF
 split <;> simp_all
end Go.Proofs.YtkbmnfijeknenaaGreatDoor
