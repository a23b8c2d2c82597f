/-
  What the claims of this seat share: the listed variables, how a path is opened, a world for the witness.
-/
import Derived.Test.YthlnhinjcffllaaGreatDoorCards
import Derived.Test.YthlnhinjcffllaaGreatDoorTie
import Derived.Test.YthlnhinjcffllaaGreatDoorQ29
import Derived.Test.YthlnhinjcffllaaGreatDoorLift
import Derived.Stop.LaidErr
namespace Go.Proofs.YthlnhinjcffllaaGreatDoor
open Go.ChangeShapes Go.WideShapes Go.ChangeAt Go.RowKit Go.LawLift Go.Deep
set_option maxRecDepth 100000

theorem own : ownKnob Tryz.prog.godebug = none := by kernel_rfl
theorem laidOut : laidOutB Tryz.prog = true := by kernel_rfl
theorem cells3 : Tryz.prog.cellsOf 3 = 1 := by kernel_rfl
theorem cells4 : Tryz.prog.cellsOf 4 = 1 := by kernel_rfl
theorem cells9 : Tryz.prog.cellsOf 9 = 1 := by kernel_rfl
theorem cells22 : Tryz.prog.cellsOf 22 = 1 := by kernel_rfl
theorem cells24 : Tryz.prog.cellsOf 24 = 4 := by kernel_rfl
theorem laid_tail {P : Program} {n : String} {d : DataW Unit} {r : List (String × DataW Unit)} {W : World} (h : laidMet P ((n, d) :: r) W) : laidMet P r W := by
  obtain ⟨ps, ⟨g, t, cs, fuel, p, q, _, _, _, _, hr, rfl⟩, hnd, hrows⟩ := h
  exact ⟨q, hr, (List.nodup_append.1 hnd).2.1, fun b off hm => hrows b off (by simp [hm])⟩
/-- an array of strings that is laid -/
theorem held_of {W : World} {n : String} {d : DataW Unit} {rest : List (String × DataW Unit)} {g t k : Nat} {l : List ByteArray} (h : laidMet Tryz.prog ((n, d) :: rest) W) (hg : Tryz.prog.globalNamed n = some g) (ht : (Tryz.prog.globals[g]?).map (·.type) = some t)
    (hu : Tryz.prog.underlying t = some (.array k 9)) (hc : Tryz.prog.cellsOf t = k) (hd : d = .agg (l.map fun s => .lit (.string s.data.toList))) : ∃ t fr, W.heap[g]? = some (.cells (l.map Value.string).toArray t fr) := by
  obtain ⟨ps, ⟨g', t', cs, fuel, p, q, hg', ht', hvar, hdd, _, _⟩, _⟩ := h
  obtain rfl := Option.some.inj (hg.symm.trans hg')
  obtain rfl := Option.some.inj (ht.symm.trans ht')
  rw [hd] at hdd
  have hcs := cells_of_strs hu Tryz.underlying9 cells9 hc hdd
  simp only [World.var?, hg, Option.bind_some] at hvar
  split at hvar
  · rename_i c t fr hh
    refine ⟨t, fr, ?_⟩
    rw [hh]
    have : c = (l.map Value.string).toArray := by
      have e : c = cs := by simpa using hvar
      subst e
      rw [← hcs]
    rw [this]
  · cases hvar
theorem aw_of {W : World} {n1 n2 n4 n5 n6 : String} {d1 d2 d4 d5 d6 : DataW Unit} {rest : List (String × DataW Unit)}
    (h : laidMet Tryz.prog ((n1, d1) :: (n2, d2) :: ("internal/strconv.uint64pow10", Rows.laid_internal_strconv_uint64pow10) :: (n4, d4) :: (n5, d5) :: (n6, d6) :: ("dataflow/lex.keywords", Rows.laid_dataflow_lex_keywords) :: ("dataflow/lex.marks", Rows.laid_dataflow_lex_marks) :: ("dataflow/ir.forms", Rows.laid_dataflow_ir_forms) :: rest) W) (hs : W.ShapedOpen Tryz.prog) : AW W := by
  have h3 := laid_tail (laid_tail h)
  have h7 := laid_tail (laid_tail (laid_tail (laid_tail h3)))
  have h8 := laid_tail h7
  have h9 := laid_tail h8
  refine ⟨?_, ?_, ?_, ?_, ?_, ?_⟩
  · exact held_of (l := kws) h7 (by kernel_rfl) (by kernel_rfl) Tryz.underlying142 (by kernel_rfl) (by kernel_rfl)
  · exact held_of (l := mks) h8 (by kernel_rfl) (by kernel_rfl) Tryz.underlying393 (by kernel_rfl) (by kernel_rfl)
  · exact held_of (l := fms) h9 (by kernel_rfl) (by kernel_rfl) Tryz.underlying142 (by kernel_rfl) (by kernel_rfl)
  · obtain ⟨cs, hh, _, _⟩ := hs.1 10 #[.nilIface] 390 (of_decide_eq_true (by kernel_rfl)) (by kernel_rfl)
    have := (Array.getElem?_eq_some_iff.1 hh).1
    show 11 ≤ _
    omega
  · exact Lib.tabIs_of_head (g := 2) (t := 329) (by kernel_rfl) (by kernel_rfl) Tryz.underlying329 Tryz.underlying230 (by kernel_rfl) (by kernel_rfl) h3
  · exact Go.Proofs.cell_of_shapedOpen_int (zero := #[.int .i64 0]) (t := 3) hs (of_decide_eq_true (by kernel_rfl)) (by kernel_rfl) rfl (by kernel_rfl) (by kernel_rfl) Tryz.underlying3

/-- a slice of strings, opened -/
theorem open_strs {H : Type} {enc : TypeId × Value → H} {w : World} {fuel : Nat} {v : Value} {x : DataW H × List MemPlace} (h : DataW.trod enc Tryz.prog w 0 (fun _ => true) true fuel 22 [v] = some x) :
    ∃ a cap l, v = .slice a (List.length l) cap ∧ StrsAt w a l ∧ l.length ≤ cap := by
  rcases open_slice Tryz.underlying22 h with ⟨hcs, _⟩ | ⟨a, len, cap, m, n, D, Pl', hcs, hb, hle, hmx, hmm, rfl, hi⟩
  · exact ⟨none, 0, [], by simpa using hcs, strs_nil _ _, Nat.le_refl _⟩
  · have each : ∀ i, i < len → ∃ s : ByteArray, w.cell? (a.add i) = some (.string s) := by
      intro i hil
      obtain ⟨cs', hc, ht⟩ := hi i (by rw [hmm]; split <;> omega)
      rw [cells9] at hc
      obtain ⟨_, hcl, hat⟩ := World.cells?_some hc
      match cs', hcl with
      | [c0], _ =>
        obtain ⟨s, e, _⟩ := DataW.trod_string Tryz.underlying9 ht
        simp only [List.cons.injEq, and_true] at e
        subst e
        have h1 := hat 0 (by omega)
        rw [Go.Deep.add_add] at h1
        exact ⟨s, by simpa using h1⟩
    obtain ⟨l, hll, hq⟩ := list_of len each
    refine ⟨some a, cap, l, by rw [hll]; simpa using hcs, fun k hk => ?_, by omega⟩
    have h0 := hq 0 (by omega)
    have ea : a.add 0 = a := by unfold Addr.add; simp
    rw [ea] at h0
    refine ⟨a.block, a.off, by rw [← (add_out h0 0).1], ?_⟩
    rw [← hq k hk, (add_out h0 k).2]
/-- a path, opened -/
theorem open_pth {H : Type} {enc : TypeId × Value → H} {w : World} {b0 : Nat} {v : Value} {d : DataW H} {ps : List MemPlace} (hv : Value.okWide Tryz.prog w .any b0 24 v) (h : DataW.Trod enc Tryz.prog w 0 (fun _ => true) true 24 v d ps) :
    ∃ p a k, v = pV p a k ∧ StrsAt w a p.fs ∧ p.fs.length ≤ k := by
  obtain ⟨cs, rfl, hsz⟩ := okWide_struct Tryz.underlying24 hv
  obtain ⟨l⟩ := cs
  match l, hsz.trans cells24 with
  | [c0, c1, c2, c3], _ =>
    obtain ⟨fuel, hf⟩ := h
    obtain ⟨xs, n, _, hx, _, hlen, hg⟩ := DataW.trod_struct Tryz.underlying24 hf
    match xs, hlen with
    | [y0, y1, y2, y3], _ =>
      have g0 : DataW.trod enc Tryz.prog w 0 (fun _ => true) true n 3 [c0] = some y0 := by have := hg 0 _ rfl; simpa [cells3, Value.cells] using this
      have g1 : DataW.trod enc Tryz.prog w 0 (fun _ => true) true n 3 [c1] = some y1 := by have := hg 1 _ rfl; simpa [cells3, Value.cells] using this
      have g2 : DataW.trod enc Tryz.prog w 0 (fun _ => true) true n 22 [c2] = some y2 := by have := hg 2 _ rfl; simpa [cells22, Value.cells] using this
      have g3 : DataW.trod enc Tryz.prog w 0 (fun _ => true) true n 4 [c3] = some y3 := by have := hg 3 _ rfl; simpa [cells4, Value.cells] using this
      obtain ⟨x0, e0, _⟩ := DataW.trod_int Tryz.underlying3 g0
      obtain ⟨x1, e1, _⟩ := DataW.trod_int Tryz.underlying3 g1
      obtain ⟨a, cap, l, e2, hs, hl⟩ := open_strs g2
      obtain ⟨x3, e3, _⟩ := DataW.trod_bool Tryz.underlying4 g3
      simp only [List.cons.injEq, and_true] at e0 e1 e3
      subst e0 e1 e2 e3
      exact ⟨⟨x0, x1, l, x3⟩, a, cap, rfl, hs, hl⟩
theorem texts5s (p : Pth) (s : ByteArray) (a : Option Addr) (k : Nat) (w : World) (hw : AW w) (ha : StrsAt w a p.fs) (hpk : p.fs.length ≤ k) : Calls Tryz.prog 5 #[pV p a k, .string s] w (Ret w (.bool true)) := by
  have := texts5 p s.data.toList a k w hw ha hpk
  rwa [mkB_self] at this
theorem back6s (p : Pth) (s : ByteArray) (a : Option Addr) (k : Nat) (w : World) (hw : AW w) (ha : StrsAt w a p.fs) (hpk : p.fs.length ≤ k) : Calls Tryz.prog 6 #[pV p a k, .string s] w (Ret w (.bool true)) := by
  have := back6 p s.data.toList a k w hw ha hpk
  rwa [mkB_self] at this

def intsA (k : IntKind) (l : List Int) : Array Value := (l.map (Value.int k)).toArray
def firstArr : Array Value := (Go.Pinned.utf8FirstZ.map fun (n : Nat) => Value.int .u8 (n : Int)).toArray
def accArr : Array Value := intsA .u8 [128, 191, 160, 191, 128, 159, 144, 191, 128, 143, 0, 0, 0, 0, 0, 0, 0, 0, 0, 0, 0, 0, 0, 0, 0, 0, 0, 0, 0, 0, 0, 0]
def powArr : Array Value := intsA .u64 [1, 10, 100, 1000, 10000, 100000, 1000000, 10000000, 100000000, 1000000000, 10000000000, 100000000000, 1000000000000, 10000000000000, 100000000000000, 1000000000000000, 10000000000000000, 100000000000000000, 1000000000000000000, 10000000000000000000]
def d32Arr : Array Value := intsA .u8 [0, 1, 28, 2, 29, 14, 24, 3, 30, 22, 20, 15, 25, 17, 4, 8, 31, 27, 13, 23, 21, 19, 16, 7, 26, 12, 18, 6, 11, 5, 10, 9]
def d64Arr : Array Value := intsA .u8 [0, 1, 56, 2, 57, 49, 28, 3, 61, 58, 42, 50, 38, 29, 17, 4, 62, 47, 59, 36, 45, 43, 51, 22, 53, 39, 33, 30, 24, 18, 12, 5, 63, 55, 48, 27, 60, 41, 37, 16, 46, 35, 44, 21, 52, 32, 23, 11, 54, 26, 40, 15, 34, 20, 31, 10, 25, 14, 19, 9, 13, 8, 7, 6]
def relay (cs : Array Value) : Obj → Obj
  | .cells _ t frozen => .cells cs t frozen
  | o => o
def rangeS : ByteArray := ⟨#[118, 97, 108, 117, 101, 32, 111, 117, 116, 32, 111, 102, 32, 114, 97, 110, 103, 101]⟩
def syntaxS : ByteArray := ⟨#[105, 110, 118, 97, 108, 105, 100, 32, 115, 121, 110, 116, 97, 120]⟩
noncomputable def low : Nat := (World.holding Tryz.prog default ⟨#[], #[], []⟩).heap.size
/-- A world for the witness: the listed variables as their initialisers lay them. -/
noncomputable def laidWorld (os : Os) : World :=
  { World.holding Tryz.prog os ⟨#[.cells #[.string rangeS] 458, .cells #[.string syntaxS] 458], #[], []⟩ with heap := ((((((((((World.holding Tryz.prog os ⟨#[.cells #[.string rangeS] 458, .cells #[.string syntaxS] 458], #[], []⟩).heap.modify 0 (relay kwArr)).modify 2 (relay powArr)).modify 3 (relay firstArr)).modify 4 (relay accArr)).modify 5 (relay (mks.map Value.string).toArray)).modify 6 (relay (fms.map Value.string).toArray)).modify 7 (relay d32Arr)).modify 8 (relay d64Arr)).modify 9 (relay #[.iface 456 (.pointer (some ⟨low + 1, 0, none⟩))])).modify 10 (relay #[.iface 456 (.pointer (some ⟨low, 0, none⟩))]) }
end Go.Proofs.YthlnhinjcffllaaGreatDoor
