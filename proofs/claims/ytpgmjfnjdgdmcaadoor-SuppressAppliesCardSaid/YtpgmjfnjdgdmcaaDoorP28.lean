/-
  First, IndexFunc with the closure of Apply, Clone at places, size; lists of findings in memory.
-/
import Derived.Test.YtpgmjfnjdgdmcaaDoorP27
import Derived.Maps.AppendAt
namespace Go.Proofs.YtpgmjfnjdgdmcaaDoor
open Go.RowKit Go.Sort

/-- the first suppression from k on that applies -/
def fstFrom (l : List Nt) (f : Fd) : Nat → Int
  | k => if h : k < l.length then (if matchB l[k] f = true then (k : Int) else fstFrom l f (k + 1)) else -1
termination_by k => l.length - k
def fstN (l : List Nt) (f : Fd) : Int := fstFrom l f 0
theorem fstFrom_range (l : List Nt) (f : Fd) : ∀ (n k : Nat), l.length - k = n → fstFrom l f k = -1 ∨ (0 ≤ fstFrom l f k ∧ fstFrom l f k < l.length)
  | 0, k, h => by rw [fstFrom, dif_neg (by omega)]; exact .inl rfl
  | n + 1, k, h => by
    rw [fstFrom]
    split
    · split
      · right; omega
      · exact fstFrom_range l f n (k + 1) (by omega)
    · exact .inl rfl
theorem fstN_range (l : List Nt) (f : Fd) : fstN l f = -1 ∨ (0 ≤ fstN l f ∧ fstN l f < l.length) := fstFrom_range l f _ 0 rfl

structure FRel (w : World) (l : List Nt) (f : Fd) (k : Nat) (wr : World) : Prop where
  hk : k ≤ l.length
  hc : fstN l f = fstFrom l f k
  hb : Below w.heap.size w wr
set_option maxRecDepth 100000 in
set_option maxHeartbeats 2000000 in
theorem first22 (l : List Nt) (f : Fd) (b : Option Addr) (d : Nat) (a : Option Addr) (c : Nat) (w : World) (hl : NtsAt w b l) (hll : l.length ≤ 1000000) :
    Calls Tryd.prog 22 #[.slice b l.length d, FdV f a c] w (Ret w (.int .i64 (fstN l f))) := by
  have HL := Lib.hid hl; clear hl
  unfold FdV
  have R0 : Hid (FRel w l f 0 (w.alloc (.cells (fdA f a c) 28))) := ⟨Nat.zero_le _, rfl, (Below.refl _ _).alloc (Nat.le_refl _) _⟩
  have B0 : Hid (Blk (w.alloc (.cells (fdA f a c) 28)) w.heap.size (fdA f a c) 28) := blk_new _ _ _
  go_enter Tryd.func22, Tryd.ntmps22
  go_wp2
  go_loopw [5] (fun i wr => ∃ k : Nat, i = .int .i64 k ∧ FRel w l f k wr ∧ Blk wr w.heap.size (fdA f a c) 28) (fun i _ => l.length - (intOf i).toNat)
  case atStart => exact ⟨0, rfl, R0.out, B0.out⟩
  case round =>
    clear R0 B0
    obtain ⟨k, rfl, hrel, hblk⟩ := hrel
    have hk := hrel.hk
    have HREL := Lib.hid hrel; clear hrel
    have HBLK := Lib.hid hblk
    have c0 : wr.cell? ⟨w.heap.size, 0, none⟩ = some (.int .i64 f.kind) := hblk.cell 0 (by simp [fdA])
    have c1 : wr.cell? ⟨w.heap.size, 1, none⟩ = some (.string f.pl.cls) := hblk.cell 1 (by simp [fdA])
    have c2 : wr.cell? ⟨w.heap.size, 2, none⟩ = some (.string f.pl.meth) := hblk.cell 2 (by simp [fdA])
    have c3 : wr.cell? ⟨w.heap.size, 3, none⟩ = some (.int .i64 f.pl.instr) := hblk.cell 3 (by simp [fdA])
    have c4 : wr.cell? ⟨w.heap.size, 4, none⟩ = some (.string f.what) := hblk.cell 4 (by simp [fdA])
    have c5 : wr.cell? ⟨w.heap.size, 5, none⟩ = some (.slice a f.path.length c) := hblk.cell 5 (by simp [fdA])
    clear hblk
    by_cases hlt : k < l.length
    · obtain ⟨g1, o1, rfl, m0, m1, m2, m3, m4⟩ := HL.out.below HREL.out.hb k hlt
      have HC : Hid (fstN l f = if matchB l[k] f = true then (k : Int) else fstFrom l f (k + 1)) := by
        show _ = _
        rw [HREL.out.hc, fstFrom, dif_pos hlt]
      generalize l[k] = x at *
      go_wp2
      go_still_tail 5, (by kernel_rfl)
      have HBD := Lib.hid HREL.out.hb.drew
      have BD : Hid (Blk wr.drew w.heap.size (fdA f a c) 28) := HBLK.out
      change wpList _ _ _ _ _ wr.drew
      clear m0 m1 m2 m3 m4 c0 c1 c2 c3 c4 c5 HREL HBLK
      generalize wr.drew = w2 at *
      go_wp2_with fail
      refine (match11 x f a c _).mono ?_
      rintro e w3 ⟨rfl, hb3⟩
      have HB3 := Lib.hid (HBD.out.trans (hb3.mono HBD.out.size))
      have BE := Lib.hid (BD.out.below hb3)
      clear hb3 HBD BD
      cases hm : matchB x f
      · rw [hm, if_neg (by simp)] at HC
        go_wp2
        go_roundw
        case rel => exact ⟨k + 1, by go_num, ⟨by omega, HC.out, HB3.out⟩, BE.out⟩
        case measure => simp [intOf]; omega
      · rw [hm, if_pos rfl] at HC
        go_wp2
        go_ret
        exact ⟨ret_int HC.out.symm, HB3.out⟩
    · have HC : Hid (fstN l f = -1) := by
        show _ = _
        rw [HREL.out.hc, fstFrom, dif_neg hlt]
      go_wp2
      go_ret
      exact ⟨ret_int HC.out.symm, HREL.out.hb⟩

set_option maxRecDepth 100000 in
set_option maxHeartbeats 1000000 in
theorem closure43 (n : Nt) (f : Fd) (a : Option Addr) (c g : Nat) (w : World) (hB : Blk w g (fdA f a c) 28) :
    Calls Tryd.prog 43 #[NtV n, .pointer (some ⟨g, 0, none⟩)] w (Ret w (.bool (matchB n f))) := by
  unfold NtV
  have hb0 : Below w.heap.size w (w.alloc (.cells #[.int .i64 n.kind, .string n.cls, .string n.meth, .string n.what, .string n.reason] 23)) := (Below.refl _ _).alloc (Nat.le_refl _) _
  have HB0 := Lib.hid hb0
  have c0 : World.cell? _ ⟨g, 0, none⟩ = some (.int .i64 f.kind) := (hB.below hb0).cell 0 (by simp [fdA])
  have c1 : World.cell? _ ⟨g, 1, none⟩ = some (.string f.pl.cls) := (hB.below hb0).cell 1 (by simp [fdA])
  have c2 : World.cell? _ ⟨g, 2, none⟩ = some (.string f.pl.meth) := (hB.below hb0).cell 2 (by simp [fdA])
  have c3 : World.cell? _ ⟨g, 3, none⟩ = some (.int .i64 f.pl.instr) := (hB.below hb0).cell 3 (by simp [fdA])
  have c4 : World.cell? _ ⟨g, 4, none⟩ = some (.string f.what) := (hB.below hb0).cell 4 (by simp [fdA])
  have c5 : World.cell? _ ⟨g, 5, none⟩ = some (.slice a f.path.length c) := (hB.below hb0).cell 5 (by simp [fdA])
  clear hb0 hB
  go_enter Tryd.func43, Tryd.ntmps43
  go_wp2_with fail
  refine (match10 n f a c _).mono ?_
  rintro e w3 ⟨rfl, hb3⟩
  have HB3 := Lib.hid (HB0.out.trans (hb3.mono HB0.out.size))
  clear hb3
  go_wp2
  go_ret
  exact ⟨rfl, HB3.out⟩

set_option maxRecDepth 100000 in
set_option maxHeartbeats 2000000 in
theorem indexFunc42 (l : List Nt) (f : Fd) (b : Option Addr) (d : Nat) (a : Option Addr) (c g : Nat) (w : World) (hl : NtsAt w b l) (hll : l.length ≤ 1000000) (hB : Blk w g (fdA f a c) 28) :
    Calls Tryd.prog 42 #[.slice b l.length d, .func (.func 43) #[] #[.pointer (some ⟨g, 0, none⟩)]] w (Ret w (.int .i64 (fstN l f))) := by
  have HL := Lib.hid hl; clear hl
  have HB := Lib.hid hB; clear hB
  have R0 : Hid (FRel w l f 0 w) := ⟨Nat.zero_le _, rfl, Below.refl _ _⟩
  go_enter Tryd.func42, Tryd.ntmps42
  go_wp2
  go_loopw [8] (fun i wr => ∃ k : Nat, i = .int .i64 k ∧ FRel w l f k wr) (fun i _ => l.length - (intOf i).toNat)
  case atStart => exact ⟨0, rfl, R0.out⟩
  case round =>
    clear R0
    obtain ⟨k, rfl, hrel⟩ := hrel
    have hk := hrel.hk
    have HREL := Lib.hid hrel; clear hrel
    by_cases hlt : k < l.length
    · obtain ⟨g1, o1, rfl, m0, m1, m2, m3, m4⟩ := HL.out.below HREL.out.hb k hlt
      have HC : Hid (fstN l f = if matchB l[k] f = true then (k : Int) else fstFrom l f (k + 1)) := by
        show _ = _
        rw [HREL.out.hc, fstFrom, dif_pos hlt]
      generalize l[k] = x at *
      go_wp2_with fail
      refine (closure43 x f a c g _ (HB.out.below HREL.out.hb)).mono ?_
      rintro e w3 ⟨rfl, hb3⟩
      have HB3 := Lib.hid (HREL.out.hb.trans (hb3.mono HREL.out.hb.size))
      clear hb3 m0 m1 m2 m3 m4
      cases hm : matchB x f
      · rw [hm, if_neg (by simp)] at HC
        go_wp2
        go_roundw
        case rel => exact ⟨k + 1, by go_num, by omega, HC.out, HB3.out⟩
        case measure => simp [intOf]; omega
      · rw [hm, if_pos rfl] at HC
        go_wp2
        go_ret
        exact ⟨ret_int HC.out.symm, HB3.out⟩
    · have HC : Hid (fstN l f = -1) := by
        show _ = _
        rw [HREL.out.hc, fstFrom, dif_neg hlt]
      go_wp2
      go_ret
      exact ⟨ret_int HC.out.symm, HREL.out.hb⟩

def plC (p : Pl) : List Value := [.string p.cls, .string p.meth, .int .i64 p.instr]
def plCells (l : List Pl) : List Value := (l.map plC).flatten
theorem plCells_len (l : List Pl) : (plCells l).length = l.length * 3 := by
  induction l with
  | nil => rfl
  | cons m l ih => simp only [plCells, List.map_cons, List.flatten_cons, List.length_append, List.length_cons] at ih ⊢; rw [ih]; simp [plC]; omega
theorem plCells_get : ∀ (l : List Pl) (k : Nat) (h : k < l.length) (i : Nat), i < 3 → (plCells l)[k * 3 + i]? = (plC l[k])[i]?
  | m :: l, 0, _, i, hi => by
    simp only [plCells, List.map_cons, List.flatten_cons, Nat.zero_mul, Nat.zero_add, List.getElem_cons_zero]
    rw [List.getElem?_append_left (by simp [plC]; omega)]
  | m :: l, k + 1, h, i, hi => by
    have ih := plCells_get l k (by simpa using h) i hi
    simp only [plCells, List.map_cons, List.flatten_cons, List.getElem_cons_succ] at ih ⊢
    rw [List.getElem?_append_right (by simp [plC]; omega), ← ih]
    congr 1
    simp [plC]; omega
theorem plCells_one (l : List Pl) : ∀ u ∈ plCells l, u.oneCell' = true := by
  intro u hu
  obtain ⟨x, hx, hu⟩ := List.mem_flatten.1 hu
  obtain ⟨p, _, rfl⟩ := List.mem_map.1 hx
  simp only [plC, List.mem_cons, List.not_mem_nil, or_false] at hu
  rcases hu with rfl | rfl | rfl <;> rfl
theorem pls_cells {w : World} {ad : Addr} {l : List Pl} (h : PlsAt w (some ad) l) : ∀ j u, (plCells l)[j]? = some u → w.cell? (ad.add j) = some u := by
  intro j u hu
  have hj : j < l.length * 3 := by rw [← plCells_len]; exact (List.getElem?_eq_some_iff.1 hu).1
  obtain ⟨k, i, hk, hi, rfl⟩ : ∃ k i, k < l.length ∧ i < 3 ∧ j = k * 3 + i := ⟨j / 3, j % 3, by omega, Nat.mod_lt _ (by omega), by omega⟩
  rw [plCells_get l k hk i hi] at hu
  obtain ⟨b, off, ha, h0, h1, h2⟩ := h k hk
  obtain rfl := Option.some.inj ha
  rw [addr_add]
  match i, hi with
  | 0, _ => simp [plC] at hu; rw [← hu]; exact h0
  | 1, _ => simp [plC] at hu; rw [← hu, ← Nat.add_assoc]; exact h1
  | 2, _ => simp [plC] at hu; rw [← hu, ← Nat.add_assoc]; exact h2
/-- places, in a block of their own kind -/
def PlsT (w : World) (a : Option Addr) (l : List Pl) : Prop := PlsAt w a l ∧ (l ≠ [] → ∃ g cs fr, a = some ⟨g, 0, none⟩ ∧ w.heap[g]? = some (.cells cs 25 fr))
theorem owns_pls {w : World} {base : Nat} {v : Value} {l : List Pl} {n : Nat} (h : w.ownsRow base 25 3 v n (plCells l)) : n = l.length ∧ ∃ a cap, v = .slice a n cap ∧ PlsT w a l := by
  have hl : n = l.length := by have := h.1; rw [plCells_len] at this; omega
  refine ⟨hl, ?_⟩
  rcases h.2 with ⟨rfl, h0⟩ | ⟨g, cap, cur, rfl, hb, hh, hn, _, hsz, ht⟩
  · have : l = [] := List.eq_nil_of_length_eq_zero (by omega)
    exact ⟨none, 0, by rw [h0], fun k hk => by omega, fun hne => absurd this hne⟩
  · refine ⟨_, _, rfl, fun k hk => ⟨g, 0, rfl, ?_⟩, fun _ => ⟨g, cur, (0, 0), rfl, hh⟩⟩
    have c := fun i hi u hu => h.cells (g := g) rfl (k * 3 + i) u (by rw [plCells_get l k hk i hi]; exact hu)
    have c0 := c 0 (by omega) (.string l[k].cls) rfl
    have c1 := c 1 (by omega) (.string l[k].meth) rfl
    have c2 := c 2 (by omega) (.int .i64 l[k].instr) rfl
    rw [addr_add] at c0 c1 c2
    exact ⟨by simpa using c0, by simpa [Nat.add_assoc] using c1, by simpa [Nat.add_assoc] using c2⟩
def ClonePost (l : List Pl) (w : World) (e : Ending) (w' : World) : Prop := Below w.heap.size w w' ∧ ∃ a' c', e = .returned (.slice a' l.length c') ∧ PlsT w' a' l
theorem info25 : (Tryd.prog.info? 25).map (fun i => (i.zero, i.size, i.bytes)) = some (some (.agg #[.string ⟨#[]⟩, .string ⟨#[]⟩, .int .i64 0]), 3, 40) := by kernel_rfl

set_option maxRecDepth 100000 in
set_option maxHeartbeats 1000000 in
theorem clone44 (l : List Pl) (a : Option Addr) (c : Nat) (w : World) (hl : PlsAt w a l) (hll : l.length ≤ 1000000) (ha : a = none → l = []) :
    Calls Tryd.prog 44 #[.slice a l.length c] w (ClonePost l w) := by
  have HL := Lib.hid hl; clear hl
  cases a with
  | none =>
    obtain rfl := ha rfl
    have he : ∀ w : World, (binOp .eql 26 (.slice none 0 c) (.slice none 0 0)).run Tryd.prog w = .ok (.bool true) w := fun _ => by kernel_rfl
    go_enter Tryd.func44, Tryd.ntmps44
    go_wp2
    go_ret
    exact ⟨Below.refl _ _, none, 0, rfl, pls_nil _ _, fun h => absurd rfl h⟩
  | some ad =>
    obtain ⟨i0, hi, hz0, hz1, hz2⟩ := info_parts info25
    have HI := Lib.hid hi
    have HZ0 := Lib.hid hz0
    have HZ1 := Lib.hid hz1
    have HZ2 := Lib.hid hz2
    clear hi hz0 hz1 hz2 ha
    have HC := Lib.hid (pls_cells HL.out)
    have OWN0 : Hid ((w.alloc (.cells #[] 25)).ownsRow w.heap.size 25 3 (.slice (some ⟨w.heap.size, 0, none⟩) 0 0) 0 []) :=
      ⟨rfl, .inr ⟨w.heap.size, 0, #[], rfl, Nat.le_refl _, heap_alloc_new w _, Nat.le_refl _, Nat.zero_le _, rfl, rfl⟩⟩
    have HB0 : Hid (Below w.heap.size w (w.alloc (.cells #[] 25))) := (Below.refl _ _).alloc (Nat.le_refl _) _
    have HC0 : Hid (∀ j u, (plCells l)[j]? = some u → (w.alloc (.cells #[] 25)).cell? (ad.add j) = some u) := fun j u hu => cell_below HB0.out (HC.out j u hu)
    have he : ∀ (w : World) (n : Nat), (binOp .eql 26 (.slice (some ad) n c) (.slice none 0 0)).run Tryd.prog w = .ok (.bool false) w := fun _ _ => by kernel_rfl
    go_enter Tryd.func44, Tryd.ntmps44
    go_wp2_with (at_builtin; refine wpList_append_own _ rfl _ _ 26 rfl w.heap.size 25 i0 (.agg #[.string ⟨#[]⟩, .string ⟨#[]⟩, .int .i64 0]) 3 40 Tryd.underlying26 HI.out HZ0.out HZ1.out HZ2.out rfl (by decide) _ 0 [] rfl OWN0.out ad l.length c (plCells l) rfl (plCells_len l) HC0.out (plCells_one l) (by unfold maxLen; omega) (by omega) HB0.out.size ?_)
    intro v' w' h1 h2 _
    have HB1 := Lib.hid (HB0.out.grown h2 HB0.out.size (fun k hk => by simp [Value.ownBlock] at hk; omega))
    obtain ⟨_, a', c', hv, hp⟩ := owns_pls h1
    have HP := Lib.hid hp; clear hp h1 h2
    rw [hv]
    clear hv
    go_wp2
    go_ret
    exact ⟨HB1.out, a', c', rfl, HP.out⟩

/-- findings at an address -/
def FdsAt (w : World) (a : Option Addr) (l : List Fd) : Prop :=
  ∀ k (h : k < l.length), ∃ b off pa pc, a = some ⟨b, off, none⟩ ∧ w.cell? ⟨b, off + k * 6, none⟩ = some (.int .i64 l[k].kind) ∧ w.cell? ⟨b, off + k * 6 + 1, none⟩ = some (.string l[k].pl.cls) ∧ w.cell? ⟨b, off + k * 6 + 2, none⟩ = some (.string l[k].pl.meth) ∧ w.cell? ⟨b, off + k * 6 + 3, none⟩ = some (.int .i64 l[k].pl.instr) ∧ w.cell? ⟨b, off + k * 6 + 4, none⟩ = some (.string l[k].what) ∧ w.cell? ⟨b, off + k * 6 + 5, none⟩ = some (.slice pa l[k].path.length pc) ∧ PlsAt w pa l[k].path ∧ (pa = none → l[k].path = [])
theorem FdsAt.below {w w' : World} {a : Option Addr} {l : List Fd} (h : FdsAt w a l) (hb : Below w.heap.size w w') : FdsAt w' a l := by
  intro k hk
  obtain ⟨b, off, pa, pc, ha, h0, h1, h2, h3, h4, h5, h6, h7⟩ := h k hk
  exact ⟨b, off, pa, pc, ha, cell_below hb h0, cell_below hb h1, cell_below hb h2, cell_below hb h3, cell_below hb h4, cell_below hb h5, h6.below hb, h7⟩
theorem fds_nil (w : World) (a : Option Addr) : FdsAt w a [] := fun k h => absurd h (by simp)
/-- how many findings and places there are -/
def sizeTo (l : List Fd) (k : Nat) : Nat := l.length + ((l.take k).map (·.path.length)).sum
theorem sizeTo_succ {l : List Fd} {k : Nat} (h : k < l.length) : sizeTo l (k + 1) = sizeTo l k + l[k].path.length := by
  unfold sizeTo
  rw [List.take_succ_eq_append_getElem h, List.map_append, List.sum_append]
  simp only [List.map_cons, List.map_nil, List.sum_cons, List.sum_nil]
  omega
theorem sizeTo_mono {l : List Fd} {k : Nat} : sizeTo l k ≤ sizeTo l l.length := by
  unfold sizeTo
  rw [List.take_length]
  have e : (l.map (·.path.length)).sum = ((l.take k).map (·.path.length)).sum + ((l.drop k).map (·.path.length)).sum := by
    rw [← List.sum_append, ← List.map_append, List.take_append_drop]
  omega
theorem le_sum : ∀ {l : List Nat} {n : Nat}, n ∈ l → n ≤ l.sum
  | m :: l, n, h => by
    rw [List.sum_cons]
    rcases List.mem_cons.1 h with rfl | h
    · omega
    · have := le_sum h; omega
theorem path_le {l : List Fd} {f : Fd} (h : f ∈ l) : f.path.length ≤ sizeTo l l.length := by
  unfold sizeTo
  rw [List.take_length]
  have : f.path.length ≤ (l.map (·.path.length)).sum := le_sum (List.mem_map.2 ⟨f, h, rfl⟩)
  omega
def smallB (l : List Fd) (n : Nat) : Bool := decide (sizeTo l l.length ≤ 3000) && decide (n ≤ 250)

set_option maxRecDepth 100000 in
set_option maxHeartbeats 1000000 in
theorem size18 (l : List Fd) (a : Option Addr) (c : Nat) (b : Option Addr) (m d : Nat) (w : World) (hl : FdsAt w a l) (hll : l.length ≤ 1000000000000000) (hp : ∀ f ∈ l, f.path.length ≤ 1000000000000000) :
    Calls Tryd.prog 18 #[.slice a l.length c, .slice b m d] w (Same w (.bool (smallB l m))) := by
  have HL := Lib.hid hl; clear hl
  have HP := Lib.hid hp; clear hp
  go_enter Tryd.func18, Tryd.ntmps18
  go_wp2
  go_loop [5, 6] (fun n i => ∃ k s : Nat, k ≤ l.length ∧ i = .int .i64 k ∧ n = .int .i64 (s : Nat) ∧ s ≤ 2000000000000000 ∧ Hid (s = sizeTo l k)) (fun _ i => l.length - (intOf i).toNat)
  case atStart => exact ⟨0, l.length, Nat.zero_le _, rfl, rfl, by omega, by show _ = _; simp [sizeTo]⟩
  case round =>
    obtain ⟨k, s, hk, rfl, rfl, hs, HS⟩ := hrel
    by_cases hboth : k < l.length ∧ s ≤ 3000
    · obtain ⟨hlt, h3⟩ := hboth
      obtain ⟨g1, o1, pa, pc, rfl, m0, m1, m2, m3, m4, m5, _, _⟩ := HL.out k hlt
      have hpl := HP.out _ (List.getElem_mem hlt)
      have HN : Hid (s + l[k].path.length = sizeTo l (k + 1)) := by show _ = _; rw [sizeTo_succ hlt, HS.out]
      have hwr : IntKind.i64.wrap ((s : Int) + (l[k].path.length : Int)) = ((s + l[k].path.length : Nat) : Int) := by rw [IntWalk.i64_in _ (by omega)]; omega
      generalize l[k].path.length = q at *
      go_wp2
      go_round
      case rel => exact ⟨k + 1, s + q, by omega, by go_num, by go_num, by omega, HN.out⟩
      case measure => simp [intOf]; omega
    · have HF : Hid (smallB l m = (decide (s ≤ 3000) && decide (m ≤ 250))) := by
        show _ = _
        unfold smallB
        congr 1
        have h1 := HS.out
        have h2 := sizeTo_mono (l := l) (k := k)
        by_cases hlt : k < l.length
        · have : ¬ s ≤ 3000 := fun h => hboth ⟨hlt, h⟩
          rw [decide_eq_false this, decide_eq_false (by omega)]
        · obtain rfl : k = l.length := by omega
          rw [h1]
      by_cases h1 : k < l.length
      · have h3 : ¬ s ≤ 3000 := fun h => hboth ⟨h1, h⟩
        have t3 : decide (s ≤ 3000) = false := decide_eq_false h3
        rw [t3] at HF
        clear hboth
        go_wp2
        go_ret
        exact ⟨ret_bool HF.out.symm, rfl⟩
      · clear hboth
        by_cases h3 : s ≤ 3000
        · have t3 : decide (s ≤ 3000) = true := decide_eq_true h3
          rw [t3] at HF
          by_cases h4 : m ≤ 250
          · have t4 : decide (m ≤ 250) = true := decide_eq_true h4
            have t5 : decide ((m : Int) ≤ 250) = true := decide_eq_true (by omega)
            rw [t4] at HF
            go_wp2
            go_ret
            exact ⟨ret_bool HF.out.symm, rfl⟩
          · have t4 : decide (m ≤ 250) = false := decide_eq_false h4
            have t5 : decide ((m : Int) ≤ 250) = false := decide_eq_false (by omega)
            rw [t4] at HF
            go_wp2
            go_ret
            exact ⟨ret_bool HF.out.symm, rfl⟩
        · have t3 : decide (s ≤ 3000) = false := decide_eq_false h3
          rw [t3] at HF
          go_wp2
          go_ret
          exact ⟨ret_bool HF.out.symm, rfl⟩
end Go.Proofs.YtpgmjfnjdgdmcaaDoor
