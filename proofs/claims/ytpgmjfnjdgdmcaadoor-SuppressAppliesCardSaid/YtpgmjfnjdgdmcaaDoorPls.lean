import Derived.Test.YtpgmjfnjdgdmcaaDoorP6
namespace Go.Proofs.YtpgmjfnjdgdmcaaDoor
open Go.RowKit

/-- places at an address -/
def PlsAt (w : World) (a : Option Addr) (l : List Pl) : Prop :=
  ∀ k (h : k < l.length), ∃ b off, a = some ⟨b, off, none⟩ ∧ w.cell? ⟨b, off + k * 3, none⟩ = some (.string l[k].cls) ∧ w.cell? ⟨b, off + k * 3 + 1, none⟩ = some (.string l[k].meth) ∧ w.cell? ⟨b, off + k * 3 + 2, none⟩ = some (.int .i64 l[k].instr)
theorem PlsAt.below {w w' : World} {a : Option Addr} {l : List Pl} (h : PlsAt w a l) (hb : Below w.heap.size w w') : PlsAt w' a l := by
  intro k hk
  obtain ⟨b, off, ha, h0, h1, h2⟩ := h k hk
  exact ⟨b, off, ha, cell_below hb h0, cell_below hb h1, cell_below hb h2⟩
theorem pls_nil (w : World) (a : Option Addr) : PlsAt w a [] := fun k h => absurd h (by simp)
end Go.Proofs.YtpgmjfnjdgdmcaaDoor
