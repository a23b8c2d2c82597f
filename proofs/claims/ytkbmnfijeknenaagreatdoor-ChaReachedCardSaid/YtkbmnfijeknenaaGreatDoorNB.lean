/-
  Strings of one's own, sorted and compacted by the library.
-/
import Derived.Test.YtkbmnfijeknenaaGreatDoorWA
import Derived.Test.YtkbmnfijeknenaaGreatDoorShelf
import Derived.Sort.OwnSorted
namespace Go.Proofs.YtkbmnfijeknenaaGreatDoor
open Go.RowKit Go.Unit0 Go.Sort

def bl (b : ByteArray) : List UInt8 := b.data.toList
def mkB (l : List UInt8) : ByteArray := ⟨l.toArray⟩
theorem mkB_bl (b : ByteArray) : mkB (bl b) = b := by cases b; rfl
theorem bl_mkB (l : List UInt8) : bl (mkB l) = l := rfl
theorem enc_mkB (l : List UInt8) : encStr l = .string (mkB l) := rfl
theorem strs_enc (l : List ByteArray) : l.map Value.string = (l.map bl).map encStr := by
  rw [List.map_map]
  refine List.map_congr_left fun b _ => ?_
  show Value.string b = encStr (bl b)
  rw [enc_mkB, mkB_bl]
theorem enc_strs (l : List (List UInt8)) : l.map encStr = (l.map mkB).map Value.string := by
  rw [List.map_map]; rfl
def sortB (l : List ByteArray) : List ByteArray := ((l.map bl).mergeSort fun x y => decide (x ≤ y)).map mkB
def compB (l : List ByteArray) : List ByteArray := (Lib.compact (l.map bl)).map mkB
theorem sortB_len (l : List ByteArray) : (sortB l).length = l.length := by simp [sortB]
theorem compB_len (l : List ByteArray) : (compB l).length ≤ l.length := by
  have := Lib.compact_length_le (l.map bl)
  simpa [compB] using this
/-- behind a call that works on a row of one's own -/
structure RowOut (w0 w : World) (l : List ByteArray) (a : Option Addr) (c : Nat) (w' : World) : Prop where
  hb : Below w0.heap.size w0 w'
  ow : w'.ownsRow w0.heap.size 9 1 (.slice a l.length c) l.length (l.map Value.string)
  fr : ∀ g cs t, Blk w g cs t → t ≠ 9 → Blk w' g cs t
theorem sort_own (l : List ByteArray) (a : Option Addr) (c : Nat) (w0 w : World) (hb : Below w0.heap.size w0 w) (own : w.ownsRow w0.heap.size 9 1 (.slice a l.length c) l.length (l.map Value.string)) (hl : l.length ≤ 1000000) :
    Calls Tryz.prog 68 #[.slice a l.length c] w (fun e w' => e = .returned (.tuple #[]) ∧ RowOut w0 w (sortB l) a c w') := by
  have own0 := own
  obtain ⟨_, hown⟩ := own
  rcases hown with ⟨e, h0⟩ | ⟨g, cap, cur, e, hbase, hh, hn, hcap, hsz, ht⟩
  · have hl0 : l = [] := List.eq_nil_of_length_eq_zero h0
    subst hl0
    cases e
    have e0 : sortB [] = [] := by simp [sortB]
    rw [e0]
    refine (Tryz.slices_Sort_string_none none 0 w).mono ?_
    rintro e w' ⟨rfl, rfl⟩
    exact ⟨rfl, hb, own0, fun _ _ _ h _ => h⟩
  · cases e
    rw [strs_enc] at ht
    have hlen : (l.map bl).length = l.length := List.length_map _
    have hH := holds_of_block (ss := l.map bl) hh (by rw [hlen, ← ht, Nat.mul_one])
    have h := Tryz.slices_Sort_string g 0 c (l.map bl) w hH (Array.getElem?_eq_some_iff.1 hh).1 (by omega)
    rw [hlen] at h
    refine h.mono ?_
    rintro e w' ⟨rfl, n, os, rfl⟩
    have hs : ((l.map bl).mergeSort fun x y => decide (x ≤ y)).length = (l.map bl).length := by simp
    have ow := ownsRow_sorted (n := n) (os := os) (ts := (l.map bl).mergeSort fun x y => decide (x ≤ y)) hs hbase hh (by omega) hcap hsz
    have hg := grownBy_sorted (w := w) (g := g) (n := n) (os := os) ((l.map bl).mergeSort fun x y => decide (x ≤ y)).toArray
    rw [enc_strs, hlen] at ow
    refine ⟨rfl, grow_below hb own0 hg, ?_, fun g' cs t hB hne => hB.grown hg (owns_ne own0 hB hne)⟩
    rw [sortB_len]
    exact ow
theorem owns_take {w : World} {base e n m c : Nat} {a : Option Addr} {xs : List Value} (h : w.ownsRow base e 1 (.slice a n c) n xs) (hm : m ≤ n) (ha : a ≠ none) : w.ownsRow base e 1 (.slice a m c) m (xs.take m) := by
  obtain ⟨h1, h2⟩ := h
  refine ⟨by rw [List.length_take]; omega, ?_⟩
  rcases h2 with ⟨e1, h0⟩ | ⟨g, cap, cur, e1, hbase, hh, hn, hcap, hsz, ht⟩
  · cases e1; exact absurd rfl ha
  · cases e1
    refine .inr ⟨g, c, cur, rfl, hbase, hh, by omega, hcap, hsz, ?_⟩
    rw [← ht, List.take_take]
    congr 1
    omega
theorem compact_own (l : List ByteArray) (a : Option Addr) (c : Nat) (w0 w : World) (hb : Below w0.heap.size w0 w) (own : w.ownsRow w0.heap.size 9 1 (.slice a l.length c) l.length (l.map Value.string)) (hl : l.length ≤ 1000000) :
    Calls Tryz.prog 70 #[.slice a l.length c] w (fun e w' => e = .returned (.slice a (compB l).length c) ∧ RowOut w0 w (compB l) a c w') := by
  have own0 := own
  obtain ⟨_, hown⟩ := own
  rcases hown with ⟨e, h0⟩ | ⟨g, cap, cur, e, hbase, hh, hn, hcap, hsz, ht⟩
  · have hl0 : l = [] := List.eq_nil_of_length_eq_zero h0
    subst hl0
    cases e
    have e0 : compB [] = [] := by simp [compB, Lib.compact, Lib.compactUpTo]
    rw [e0]
    refine (Tryz.slices_Compact_string_empty none 0 w).mono ?_
    rintro e w' ⟨rfl, rfl⟩
    exact ⟨rfl, hb, own0, fun _ _ _ h _ => h⟩
  · cases e
    rw [strs_enc] at ht
    have hlen : (l.map bl).length = l.length := List.length_map _
    have hH := holds_of_block (ss := l.map bl) hh (by rw [hlen, ← ht, Nat.mul_one])
    have h := Tryz.slices_Compact_string g 0 c (l.map bl) w hH (by omega) (by omega)
    rw [hlen] at h
    refine h.mono ?_
    rintro e w' ⟨rfl, n, rfl⟩
    have hcl : (Lib.compact (l.map bl)).length ≤ l.length := by rw [← hlen]; exact Lib.compact_length_le _
    generalize hts : Lib.compact (l.map bl) ++ List.replicate (l.length - (Lib.compact (l.map bl)).length) [] = ts
    have hs : ts.length = (l.map bl).length := by rw [← hts, hlen]; simp; omega
    have ow := ownsRow_sorted (n := n) (os := #[]) (ts := ts) hs hbase hh (by omega) hcap hsz
    have hg := grownBy_sorted (w := w) (g := g) (n := n) (os := #[]) ts.toArray
    rw [grow_empty] at ow hg
    rw [hlen] at ow
    have ht2 : ts.take (Lib.compact (l.map bl)).length = Lib.compact (l.map bl) := by rw [← hts]; simp
    have ow2 := owns_take ow hcl (by simp)
    rw [← List.map_take, ht2, enc_strs] at ow2
    refine ⟨by simp [compB], grow_below hb own0 hg, ?_, fun g' cs t hB hne => hB.grown hg (owns_ne own0 hB hne)⟩
    have : (compB l).length = (Lib.compact (l.map bl)).length := by simp [compB]
    rw [this]
    exact ow2
end Go.Proofs.YtkbmnfijeknenaaGreatDoor
