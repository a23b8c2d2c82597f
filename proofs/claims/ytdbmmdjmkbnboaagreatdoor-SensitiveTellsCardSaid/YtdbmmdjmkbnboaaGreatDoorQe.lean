/-
  Rows of slices of numbers, of one's own.
-/
import Derived.Test.YtdbmmdjmkbnboaaGreatDoorQn
namespace Go.Unit0
/-- a slice with the numbers that it holds -/
structure Sli where
  a : Option Addr
  c : Nat
  l : List Int
instance : Inhabited Sli := ⟨⟨none, 0, []⟩⟩
end Go.Unit0
namespace Go.Proofs.YtdbmmdjmkbnboaaGreatDoor
open Go.RowKit Go.Unit0

def encS (x : Sli) : Value := .slice x.a x.l.length x.c
/-- its numbers lie there, and not in the block g -/
def SlOk (w : World) (g : Option Nat) (x : Sli) : Prop := IntsAt w x.a x.l ∧ ∀ b off, x.a = some ⟨b, off, none⟩ → x.l ≠ [] → some b ≠ g
theorem ints_lt {w : World} {b off : Nat} {l : List Int} (h : IntsAt w (some ⟨b, off, none⟩) l) (hl : l ≠ []) : b < w.heap.size := by
  obtain ⟨b', off', he, hc⟩ := h 0 (by cases l with | nil => exact absurd rfl hl | cons x l => simp)
  cases he
  unfold World.cell? at hc
  by_cases hb : b < w.heap.size
  · exact hb
  · have hnone : w.heap[b]? = none := Array.getElem?_eq_none (by omega)
    simp [hnone] at hc
theorem ints_grown {w w' : World} {g : Option Nat} {a : Option Addr} {l : List Int} (h : IntsAt w a l) (hn : ∀ b off, a = some ⟨b, off, none⟩ → l ≠ [] → some b ≠ g) (hg : w.grownBy w' g) : IntsAt w' a l := by
  intro k hk
  obtain ⟨b, off, he, hc⟩ := h k hk
  exact ⟨b, off, he, hg.cell hc (fun e => hn b off he (by intro e2; rw [e2] at hk; simp at hk) e)⟩
theorem SlOk.grown {w w' : World} {g : Option Nat} {x : Sli} (h : SlOk w g x) (hg : w.grownBy w' g) : SlOk w' g x := ⟨ints_grown h.1 h.2 hg, h.2⟩
theorem SlOk.below {w w' : World} {g : Option Nat} {x : Sli} (h : SlOk w g x) (hb : Below w.heap.size w w') : SlOk w' g x := ⟨h.1.below hb, h.2⟩
/-- a row of slices of one's own -/
structure OwnS (base : Nat) (w : World) (v : Value) (D : List Sli) : Prop where
  ow : w.ownsRow base 38 1 v D.length (D.map encS)
  ok : ∀ x ∈ D, SlOk w v.ownBlock x
theorem OwnS.below {base : Nat} {w w' : World} {v : Value} {D : List Sli} (k : OwnS base w v D) (hb : Below w.heap.size w w') : OwnS base w' v D := ⟨owns_below k.ow hb, fun x hx => (k.ok x hx).below hb⟩
theorem OwnS.nil (base : Nat) (w : World) : OwnS base w (.slice none 0 0) [] := ⟨World.ownsRow_nil _ _ _ _, fun x hx => by cases hx⟩
theorem infoSl : (Tryz.prog.info? 38).map (fun i => (i.zero, i.size, i.bytes)) = some (some (.slice none 0 0), 1, 24) := by kernel_rfl
/-- append of one slice, which lies in a block of its own, to a row of one's own -/
theorem app_sli {ops : Array Oper} {rest : List Oper} {o : Oper} {a : Act} {Q : Exit → Act → World → Prop} {w : World} (hgd : o.guard = none) (s x : Operand)
    (ho : o.op = .call { callee := .builtin .append, args := #[s, x], argTypes := #[35, 35] })
    (base : Nat) (v : Value) (D : List Sli) (hs : a.eval s = v) (hown : OwnS base w v D)
    (g : Nat) (y : Sli) (hx : a.eval x = .slice (some ⟨g, 0, none⟩) 1 1) (hg : Blk w g #[encS y] 38) (hy : SlOk w v.ownBlock y)
    (hn : D.length ≤ 1000000) (hbase : base ≤ w.heap.size)
    (h : ∀ v' w', OwnS base w' v' (D ++ [y]) → w.grownBy w' v.ownBlock → wpList Tryz.prog ops Q rest (a.put o.dst v') w') : wpList Tryz.prog ops Q (o :: rest) a w := by
  obtain ⟨i0, hi, hz0, hz1, hz2⟩ := info_parts infoSl
  refine wpList_plain hgd fun K hK => ?_
  have hnews : ∀ j u, [encS y][j]? = some u → w.cell? ((⟨g, 0, none⟩ : Addr).add j) = some u := by
    intro j u hu
    rw [addr_add, Nat.zero_add, cell_of_row _ _ _ _ _ _ hg]
    simpa using hu
  have h1 : ∀ u ∈ [encS y], u.oneCell' = true := by intro u hu; rw [List.mem_singleton.1 hu]; rfl
  obtain ⟨v', w', hr, h2, h3, _⟩ := run_append_own (P := Tryz.prog) w base 35 o.type 38 i0 (.slice none 0 0) 1 24 Tryz.underlying35 hi hz0 hz1 hz2 rfl (by decide) v D.length (D.map encS) hown.ow ⟨g, 0, none⟩ 1 1 [encS y] rfl hnews h1 (by unfold maxLen; omega) (by omega) hbase
  have h4 := append_fresh w base 35 o.type 38 i0 (.slice none 0 0) 1 24 Tryz.underlying35 hi hz0 hz1 hz2 v D.length (D.map encS) hown.ow ⟨g, 0, none⟩ 1 1 (by omega) [encS y] rfl hnews h1 (by unfold maxLen; omega) (by omega) hr
  unfold Oper.wp execOp
  simp only [ho, resolve, invoke, builtin, Sem.run_bind, Sem.run_pure, Result.andThen_ok, List.map_toArray, List.map_cons, List.map_nil, hs, hx, hr]
  refine hK _ _ (h v' w' ⟨?_, fun z hz => ?_⟩ h3)
  · rw [List.map_append, List.length_append]
    exact h2
  · have hz0 : SlOk w v.ownBlock z := by
      rcases List.mem_append.1 hz with e | e
      · exact hown.ok z e
      · rw [List.mem_singleton.1 e]; exact hy
    have hz1 := hz0.grown h3
    refine ⟨hz1.1, fun b off hb hl => ?_⟩
    rcases h4 with e | e
    · rw [e]; exact hz1.2 b off hb hl
    · rw [e]
      have h5 := hz0.1
      rw [hb] at h5
      have := ints_lt h5 hl
      intro e2
      have := Option.some.inj e2
      omega
end Go.Proofs.YtdbmmdjmkbnboaaGreatDoor
