/-
  A row of slices of numbers, sorted by the library.
-/
import Derived.Test.YtdbmmdjmkbnboaaGreatDoorQa
import Derived.Test.YtdbmmdjmkbnboaaGreatDoorQe
import Derived.Shelf.SlSortCmp.NoneTotal
import Derived.Sort.OwnSorted
namespace Go.Proofs.YtdbmmdjmkbnboaaGreatDoor
open Go.RowKit Go.Unit0 Go.Sort Go.Shelf

section
variable {α : Type} [Inhabited α] {enc : α → Value}
theorem heap_sortedG {w : World} {g n : Nat} {os : Array Obj} {cur : Array Value} {e : TypeId} {fr : Nat × Nat} (d : Array α) (hb : w.heap[g]? = some (.cells cur e fr)) :
    (grow (putRow enc (Sort.ahead w n) g 0 d) os).heap[g]? = some (.cells (putCells enc 0 d cur) e fr) := by
  have hg : g < w.heap.size := (Array.getElem?_eq_some_iff.1 hb).1
  rw [heap_grow_old _ _ (by simpa using hg)]
  simp [putRow, mapBlock, Sort.ahead, Array.getElem?_modify, hb, onCells]
theorem grownBy_sortedG {w : World} {g n : Nat} {os : Array Obj} (d : Array α) : w.grownBy (grow (putRow enc (Sort.ahead w n) g 0 d) os) (some g) := by
  refine ⟨rfl, rfl, rfl, by simp, fun k hk hne => ?_⟩
  rw [heap_grow_old _ _ (by simpa using hk)]
  have : g ≠ k := fun e => hne (by rw [e])
  simp [putRow, mapBlock, Sort.ahead, Array.getElem?_modify, this]
theorem take_putCellsG (cur : Array Value) (ts : List α) (h : ts.length ≤ cur.size) : (putCells enc 0 ts.toArray cur).toList.take ts.length = ts.map enc := by
  apply List.ext_getElem?
  intro j
  by_cases hj : j < ts.length
  · rw [List.getElem?_take_of_lt hj, Array.getElem?_toList]
    simp [putCells, hj, show j < cur.size by omega]
  · rw [List.getElem?_take_eq_none (by omega), List.getElem?_eq_none (by simp; omega)]
theorem holds_of_blockG {w : World} {g : Nat} {cur : Array Value} {e : TypeId} {ss : List α} (hb : w.heap[g]? = some (.cells cur e (0, 0))) (ht : cur.toList.take ss.length = ss.map enc) : Holds enc w g 0 ss.toArray := by
  intro j hj
  have hj' : j < ss.length := by simpa using hj
  refine ⟨?_, by simp [World.frozen?, hb]⟩
  have h1 : (cur.toList.take ss.length)[j]? = (ss.map enc)[j]? := by rw [ht]
  rw [List.getElem?_take_of_lt hj'] at h1
  simp only [World.cell?, hb, Nat.zero_add]
  simp only [Option.isSome_none, Bool.false_eq_true, if_false]
  rw [← Array.getElem?_toList, h1]
  simp [hj']
end
/-- slices whose numbers lie in a world, outside of a block -/
abbrev SlA (w : World) (g : Nat) : Type := {x : Sli // SlOk w (some g) x ∧ x.l.length ≤ 1000000}
instance (w : World) (g : Nat) : Inhabited (SlA w g) := ⟨⟨⟨none, 0, []⟩, ⟨fun k hk => absurd hk (by simp), fun b off h => by cases h⟩, by simp⟩⟩
def encA {w : World} {g : Nat} (x : SlA w g) : Value := encS x.1
def cfA {w : World} {g : Nat} (x y : SlA w g) : Int := cmpL x.1.l y.1.l
theorem cfA_lt {w : World} {g : Nat} (x y : SlA w g) : ltOf cfA x y = true ↔ ltL x.1.l y.1.l := by
  unfold ltOf cfA ltL
  simp
theorem cfA_nlt {w : World} {g : Nat} (x y : SlA w g) : ltOf cfA x y = false ↔ ¬ ltL x.1.l y.1.l := by
  rw [← cfA_lt]
  simp
theorem swoA (w : World) (g : Nat) : SWO (ltOf (cfA (w := w) (g := g))) where
  irrefl x := (cfA_nlt _ _).2 (ordL.irrefl _)
  trans x y z h1 h2 := (cfA_lt _ _).2 (ordL.trans _ _ _ ((cfA_lt _ _).1 h1) ((cfA_lt _ _).1 h2))
  ntrans x y z h1 h2 := by
    rw [cfA_nlt] at *
    intro h
    by_cases h3 : ltL y.1.l x.1.l
    · exact h2 (ordL.trans _ _ _ h3 h)
    · rw [ordL.total _ _ h1 h3] at h; exact h2 h
theorem sortSl {ρ : Ren} (L : SlLaysF.n6 Tryz.prog ρ) (g : Nat) (eg : ∀ args w, (callFunc g args).run Tryz.prog w = .ok (.enter g args) w)
    (hcmp : ∀ (w : World) (a b : List Int) (pa : Option Addr) (ca : Nat) (pb : Option Addr) (cb : Nat), IntsAt w pa a → IntsAt w pb b → a.length ≤ 1000000 → b.length ≤ 1000000 → Calls Tryz.prog g #[.slice pa a.length ca, .slice pb b.length cb] w (Same w (.int .i64 (cmpL a b))))
    (D : List Sli) (a : Option Addr) (c base : Nat) (w : World) (own : OwnS base w (.slice a D.length c) D) (hl : D.length ≤ 1000000) (hx : ∀ x ∈ D, x.l.length ≤ 1000000) (hD : 0 < D.length) :
    Calls Tryz.prog (ρ.f 6) #[.slice a D.length c, .func (.func g) #[] #[]] w (fun e w' => e = .returned (.tuple #[]) ∧ w.grownBy w' (Value.slice a D.length c).ownBlock ∧ ∃ D' : List Sli, D'.Perm D ∧ (D'.map (·.l)).Pairwise (fun a b => ¬ ltL b a) ∧ OwnS base w' (.slice a D.length c) D') := by
  obtain ⟨⟨_, hown⟩, hok⟩ := own
  rcases hown with ⟨e, h0⟩ | ⟨blk, cap, cur, e, hbase, hh, hn, hcap, hsz, ht⟩
  · omega
  · cases e
    have hg : blk < w.heap.size := (Array.getElem?_eq_some_iff.1 hh).1
    have hok' : ∀ x ∈ D, SlOk w (some blk) x := fun x h => hok x h
    obtain ⟨ds, hds⟩ : ∃ ds : List (SlA w blk), ds.map (·.1) = D := ⟨D.attach.map (fun x => ⟨x.1, hok' x.1 x.2, hx x.1 x.2⟩), by simp⟩
    have hln : ds.length = D.length := by rw [← hds]; simp
    have henc : D.map encS = ds.map encA := by rw [← hds, List.map_map]; rfl
    have hH : Holds encA w blk 0 ds.toArray := holds_of_blockG hh (by rw [hln, ← henc, ← ht, Nat.mul_one])
    have hc1 : CmpLays1 Tryz.prog g #[] (encA (w := w) (g := blk)) cfA blk 0 ds.toArray.size w := fun m os dk _ x y => by
      have hg2 : w.grownBy (sortWorld encA w blk 0 m dk os) (some blk) := grownBy_sortedG dk
      refine (hcmp _ x.1.l y.1.l x.1.a x.1.c y.1.a y.1.c (ints_grown x.2.1.1 x.2.1.2 hg2) (ints_grown y.2.1.1 y.2.1.2 hg2) x.2.2 y.2.2).mono ?_
      rintro e w' ⟨rfl, rfl⟩
      exact ⟨rfl, 0, #[], by rw [grow_empty]; rfl⟩
    have h := Any.slices_SortFunc L encA (fun _ => rfl) cfA (swoA w blk) g #[] blk 0 c ds.toArray w eg hc1 hH hg (by simp; omega)
    have e1 : ds.toArray.size = D.length := by simp [hln]
    rw [e1] at h
    refine h.mono ?_
    rintro e w' ⟨rfl, d', n, os, hp, hs, rfl⟩
    obtain ⟨hp1, -, hp2⟩ := hp
    have hsz' : d'.size = D.length := by rw [hp1]; exact e1
    have hpm : d'.toList.Perm ds := by simpa [Array.extract_eq_self_of_le, hsz', e1] using hp2
    refine ⟨rfl, grownBy_sortedG d', d'.toList.map (·.1), ?_, ?_, ?_⟩
    · rw [← hds]; exact hpm.map _
    · rw [List.map_map, List.pairwise_map, List.pairwise_iff_getElem]
      intro i j hi hj hij
      have h3 := hs i j (Nat.zero_le _) hij (by simpa [hsz'] using hj)
      rw [cfA_nlt, getElem!_pos d' i (by simpa using hi), getElem!_pos d' j (by simpa using hj)] at h3
      simpa using h3
    · have hl3 : (d'.toList.map (·.1)).length = D.length := by simp [hsz']
      refine ⟨?_, fun x hx' => ?_⟩
      · rw [hl3]
        refine ⟨by simp [hsz'], .inr ⟨blk, c, _, rfl, hbase, heap_sortedG d' hh, hn, hcap, by simp [putCells, hsz], ?_⟩⟩
        have h4 := take_putCellsG (enc := encA) cur d'.toList (by simp [hsz']; omega)
        have h5 : (d'.toList.map (·.1)).map encS = d'.toList.map encA := by rw [List.map_map]; rfl
        have h6 : d'.toList.length = D.length := by simp [hsz']
        rw [h5, Nat.mul_one]
        rw [h6] at h4
        simpa using h4
      · obtain ⟨y, _, rfl⟩ := List.mem_map.1 hx'
        exact y.2.1.grown (grownBy_sortedG d')
end Go.Proofs.YtdbmmdjmkbnboaaGreatDoor
