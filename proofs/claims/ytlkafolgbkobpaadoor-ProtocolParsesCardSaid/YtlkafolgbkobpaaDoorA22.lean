import Derived.Test.YtlkafolgbkobpaaDoorBlk
import Derived.Test.YtlkafolgbkobpaaDoorRegz
import Derived.Laws.AppendOwnNone
namespace Go.Proofs.YtlkafolgbkobpaaDoor
open Go.RowKit Go.Sort

def mvC (m : Mv) : List Value := [.int .i64 m.frm, .string m.meth, .int .i64 m.to]
def mvCells (l : List Mv) : List Value := (l.map mvC).flatten
theorem mvCells_len (l : List Mv) : (mvCells l).length = l.length * 3 := by
  induction l with
  | nil => rfl
  | cons m l ih => simp only [mvCells, List.map_cons, List.flatten_cons, List.length_append, List.length_cons] at ih ⊢; rw [ih]; simp [mvC]; omega
theorem mvCells_get : ∀ (l : List Mv) (k : Nat) (h : k < l.length) (i : Nat), i < 3 → (mvCells l)[k * 3 + i]? = (mvC l[k])[i]?
  | m :: l, 0, _, i, hi => by
    simp only [mvCells, List.map_cons, List.flatten_cons, Nat.zero_mul, Nat.zero_add, List.getElem_cons_zero]
    rw [List.getElem?_append_left (by simp [mvC]; omega)]
  | m :: l, k + 1, h, i, hi => by
    have ih := mvCells_get l k (by simpa using h) i hi
    simp only [mvCells, List.map_cons, List.flatten_cons, List.getElem_cons_succ] at ih ⊢
    rw [List.getElem?_append_right (by simp [mvC]; omega), ← ih]
    congr 1
    simp [mvC]; omega
theorem mvCells_append (l r : List Mv) : mvCells (l ++ r) = mvCells l ++ mvCells r := by simp [mvCells]
theorem addr_add (b off k : Nat) : (⟨b, off, none⟩ : Addr).add k = ⟨b, off + k, none⟩ := by unfold Addr.add; split <;> simp_all
theorem MvsAt.cells {w : World} {b off : Nat} {l : List Mv} (h : MvsAt w (some ⟨b, off, none⟩) l) (j : Nat) (u : Value) (hu : (mvCells l)[j]? = some u) : w.cell? ((⟨b, off, none⟩ : Addr).add j) = some u := by
  have hj : j < l.length * 3 := by
    rw [← mvCells_len]
    exact (List.getElem?_eq_some_iff.1 hu).1
  have hk : j / 3 < l.length := by omega
  obtain ⟨b', off', ha, h1, h2, h3⟩ := h (j / 3) hk
  simp only [Option.some.injEq, Addr.mk.injEq] at ha
  obtain ⟨rfl, rfl, _⟩ := ha
  rw [addr_add]
  have hj2 : j = j / 3 * 3 + j % 3 := by omega
  rw [hj2, mvCells_get l (j / 3) hk (j % 3) (by omega)] at hu
  have h3' : j % 3 = 0 ∨ j % 3 = 1 ∨ j % 3 = 2 := by omega
  rcases h3' with e | e | e
  · rw [e] at hu hj2
    rw [hj2, Nat.add_zero, h1]; simpa [mvC] using hu
  · rw [e] at hu hj2
    rw [hj2, ← Nat.add_assoc, h2]; simpa [mvC] using hu
  · rw [e] at hu hj2
    rw [hj2, ← Nat.add_assoc, h3]; simpa [mvC] using hu
theorem owns_mvs {w : World} {base : Nat} {e : TypeId} {v : Value} {l : List Mv} {n : Nat} (h : w.ownsRow base e 3 v n (mvCells l)) : n = l.length ∧ ∃ a cap, v = .slice a n cap ∧ MvsAt w a l := by
  have hl : n = l.length := by have := h.1; rw [mvCells_len] at this; omega
  refine ⟨hl, ?_⟩
  rcases h.2 with ⟨rfl, h0⟩ | ⟨g, cap, cur, rfl, hb, hh, hn, _, hsz, ht⟩
  · exact ⟨none, 0, by rw [h0], fun k hk => by omega⟩
  · refine ⟨_, _, rfl, fun k hk => ⟨g, 0, rfl, ?_⟩⟩
    have c := fun i hi u hu => h.cells (g := g) rfl (k * 3 + i) u (by rw [mvCells_get l k hk i hi]; exact hu)
    have c0 := c 0 (by omega) (.int .i64 l[k].frm) rfl
    have c1 := c 1 (by omega) (.string l[k].meth) rfl
    have c2 := c 2 (by omega) (.int .i64 l[k].to) rfl
    rw [addr_add] at c0 c1 c2
    exact ⟨by simpa using c0, by simpa [Nat.add_assoc] using c1, by simpa [Nat.add_assoc] using c2⟩
theorem mvC_one (l : List Mv) : ∀ u ∈ mvCells l, u.oneCell' = true := by
  intro u hu
  simp only [mvCells, List.mem_flatten, List.mem_map] at hu
  obtain ⟨x, ⟨m, _, rfl⟩, hu⟩ := hu
  simp only [mvC, List.mem_cons, List.not_mem_nil, or_false] at hu
  rcases hu with rfl | rfl | rfl <;> rfl
theorem Tryd_info46 : (Tryd.prog.info? 46).map (fun i => (i.zero, i.size, i.bytes)) = some (some (.agg #[.int .i64 0, .string ⟨#[]⟩, .int .i64 0]), 3, 32) := by kernel_rfl
/-- append of moves to a row of one's own -/
theorem app_mvs {ops : Array Oper} {rest : List Oper} {o : Oper} {a : Act} {Q : Exit → Act → World → Prop} {w : World} (hgd : o.guard = none) (s x : Operand)
    (ho : o.op = .call { callee := .builtin .append, args := #[s, x], argTypes := #[23, 23] })
    (base : Nat) (v : Value) (n : Nat) (xs : List Value) (hs : a.eval s = v) (hown : w.ownsRow base 46 3 v n xs)
    (a2 : Option Addr) (k c : Nat) (ms : List Mv) (hk : ms.length = k) (hx : a.eval x = .slice a2 k c) (hm : MvsAt w a2 ms) (hcn : a2 = none → c = 0)
    (hn : n ≤ 1000000) (hk1 : k ≤ 1000000) (hbase : base ≤ w.heap.size)
    (h : ∀ v' w', w'.ownsRow base 46 3 v' (n + k) (xs ++ mvCells ms) → w.grownBy w' v.ownBlock → wpList Tryd.prog ops Q rest (a.put o.dst v') w') : wpList Tryd.prog ops Q (o :: rest) a w := by
  obtain ⟨i0, hi, hz0, hz1, hz2⟩ := info_parts Tryd_info46
  subst hk
  cases a2 with
  | none =>
    have : ms = [] := by
      cases ms with
      | nil => rfl
      | cons m r => obtain ⟨b, off, ha, _⟩ := hm 0 (by simp); cases ha
    subst this
    obtain rfl := hcn rfl
    refine wpList_append_own_none hgd s x 23 ho base 46 i0 3 Tryd.underlying23 hi v n xs hs hown hx (h v w ?_ ⟨rfl, rfl, rfl, Nat.le_refl _, fun _ _ _ => rfl⟩)
    simpa [mvCells] using hown
  | some ad =>
    by_cases hms : ms = []
    · subst hms
      refine wpList_append_own w hgd s x 23 ho base 46 i0 (.agg #[.int .i64 0, .string ⟨#[]⟩, .int .i64 0]) 3 32 Tryd.underlying23 hi hz0 hz1 hz2 rfl (by decide) v n xs hs hown ad 0 c [] hx rfl (by simp) (by simp) (by unfold maxLen; omega) (by omega) hbase ?_
      intro v' w' h1 h2 _
      exact h v' w' h1 h2
    · obtain ⟨b, off, ha, _⟩ := hm 0 (List.length_pos_iff.2 hms)
      simp only [Option.some.injEq] at ha
      subst ha
      refine wpList_append_own w hgd s x 23 ho base 46 i0 (.agg #[.int .i64 0, .string ⟨#[]⟩, .int .i64 0]) 3 32 Tryd.underlying23 hi hz0 hz1 hz2 rfl (by decide) v n xs hs hown _ ms.length c (mvCells ms) hx (mvCells_len ms) hm.cells (mvC_one ms) (by unfold maxLen; omega) (by omega) hbase ?_
      intro v' w' h1 h2 _
      exact h v' w' h1 h2

def nm4 : ByteArray := ⟨#[109, 111, 118, 101]⟩
theorem nm4_l : nm4.toList = [109, 111, 118, 101] := by rw [ByteArray.toList_eq]; rfl
/-- a line of a move -/
def moveE (p : Pr) (ws : List ByteArray) : Int × Pr :=
  if formB ws nm4 4 = true then (if idx p.sts (wd ws 1) < 0 ∨ idx p.sts (wd ws 3) < 0 then (6, p) else (0, { p with mvs := p.mvs ++ [⟨idx p.sts (wd ws 1), wd ws 2, idx p.sts (wd ws 3)⟩] })) else (2, p)
def MovePost (w : World) (p : Pr) (ws : List ByteArray) (a1 : Option Addr) (c1 : Nat) (e : Ending) (w' : World) : Prop :=
  Below w.heap.size w w' ∧ ∃ (p' : Pr) (a2' : Option Addr) (c2' : Nat), e = .returned (.tuple #[PrV p' a1 c1 a2' c2', .int .i64 (moveE p ws).1]) ∧ ((moveE p ws).1 = 0 → p' = (moveE p ws).2 ∧ MvsAt w' a2' p'.mvs ∧ (a2' = none → c2' = 0) ∧ ∀ b off, a2' = some ⟨b, off, none⟩ → w.heap.size ≤ b)
theorem form4_len {ws : List ByteArray} (h : formB ws nm4 4 = true) : ws.length = 4 := by
  have := ((form_iff (n := 4)).1 h).2.1
  simpa using this
theorem wpList_hide {P : Program} {ops : Array Oper} {F : Act → World → Prop} {Q : Exit → Act → World → Prop} {l : List Oper} {a : Act} {w : World} (h : ∀ K : Act → World → Prop, (∀ a w, F a w → K a w) → wpList P ops (Exit.then K Q) l a w) : wpList P ops (Exit.then F Q) l a w := h F (fun _ _ x => x)
theorem MvsAt.setCell {w : World} {a : Option Addr} {l : List Mv} (h : MvsAt w a l) {g i n : Nat} {v : Value} (hne : ∀ b off, a = some ⟨b, off, none⟩ → g + n < b) : MvsAt (w.setCell ⟨g, i, none⟩ v) a l := by
  intro k hk
  obtain ⟨b, off, rfl, h1, h2, h3⟩ := h k hk
  have hb := hne b off rfl
  have e : ∀ o, (w.setCell ⟨g, i, none⟩ v).cell? ⟨b, o, none⟩ = w.cell? ⟨b, o, none⟩ := fun o => World.cell?_setCell_other w _ _ v (fun e => by injection e with e1; omega)
  exact ⟨b, off, rfl, by rw [e]; exact h1, by rw [e]; exact h2, by rw [e]; exact h3⟩
theorem owns_empty (w : World) (base : Nat) (h : base ≤ w.heap.size) : (w.alloc (.cells #[] 46)).ownsRow base 46 3 (.slice (some ⟨w.heap.size, 0, none⟩) 0 0) 0 [] :=
  ⟨rfl, .inr ⟨w.heap.size, 0, #[], rfl, h, heap_alloc_new w _, Nat.le_refl _, by simp [maxLen], rfl, rfl⟩⟩
theorem mv_new (w : World) (m : Mv) : MvsAt (w.alloc (.cells #[.int .i64 m.frm, .string m.meth, .int .i64 m.to] 46)) (some ⟨w.heap.size, 0, none⟩) [m] := by
  intro k hk
  obtain rfl : k = 0 := by simp at hk; omega
  have := box_cells w m 46
  exact ⟨w.heap.size, 0, rfl, this.1, this.2.1, this.2.2⟩
theorem owns_none {w : World} {base : Nat} {e : TypeId} {size n n' : Nat} {a : Option Addr} {c : Nat} {xs : List Value} (h : w.ownsRow base e size (.slice a n' c) n xs) : a = none → c = 0 := by
  rintro rfl
  rcases h.2 with ⟨h1, _⟩ | ⟨g, cap, cur, h1, _⟩
  · injection h1
  · injection h1 with h1; cases h1
theorem MvsAt.grownBy {w w' : World} {b : Nat} {off : Nat} {l : List Mv} {row : Option Nat} (h : MvsAt w (some ⟨b, off, none⟩) l) (hg : w.grownBy w' row) (hne : some b ≠ row) : MvsAt w' (some ⟨b, off, none⟩) l := by
  intro k hk
  obtain ⟨b', off', ha, h1, h2, h3⟩ := h k hk
  simp only [Option.some.injEq, Addr.mk.injEq] at ha
  obtain ⟨rfl, rfl, _⟩ := ha
  exact ⟨b, off, rfl, hg.cell h1 hne, hg.cell h2 hne, hg.cell h3 hne⟩
set_option maxRecDepth 100000 in
set_option maxHeartbeats 4000000 in
theorem move39 (p : Pr) (a1 : Option Addr) (c1 : Nat) (a2 : Option Addr) (c2 : Nat) (a : Option Addr) (cap : Nat) (ws : List ByteArray) (w : World) (h0 : 0 < ws.length) (hl : ws.length ≤ 100000) (hs : StrsAt w a1 p.sts) (hpl : p.sts.length ≤ 100000) (hm : MvsAt w a2 p.mvs) (hml : p.mvs.length ≤ 100000) (hmn : a2 = none → c2 = 0) (hw : StrsAt w a ws) :
    Calls Tryd.prog 39 #[PrV p a1 c1 a2 c2, .slice a ws.length cap] w (MovePost w p ws a1 c1) := by
  unfold PrV
  have HS := Lib.hid hs; clear hs
  have HW := Lib.hid hw; clear hw
  have HM := Lib.hid hm; clear hm
  have HMN := Lib.hid hmn; clear hmn
  go_enter Tryd.func39, Tryd.ntmps39
  go_wp2_with fail
  refine (form38 a cap ws _ 4 _ (by omega) h0 hl (HW.out.below (two_below ..))).mono ?_
  rintro e w' ⟨rfl, rfl⟩
  rw [show (ByteArray.mk #[109, 111, 118, 101]) = nm4 from rfl]
  cases hf : formB ws nm4 4
  · have HE : Hid (moveE p ws = (2, p)) := by show _ = _; unfold moveE; rw [if_neg (by simp [hf])]
    go_wp2
    refine bodyPost_ret (v := .tuple #[PrV p a1 c1 a2 c2, .int .i64 2]) (by simp [results, Tryd.results39, go_sem, PrV]) rfl ?_
    exact ⟨two_below .., p, a2, c2, by rw [HE.out], fun h => by rw [HE.out] at h; simp at h⟩
  · have hlen := form4_len hf
    have HE : Hid (moveE p ws = if idx p.sts (wd ws 1) < 0 ∨ idx p.sts (wd ws 3) < 0 then (6, p) else (0, { p with mvs := p.mvs ++ [⟨idx p.sts (wd ws 1), wd ws 2, idx p.sts (wd ws 3)⟩] })) := by show _ = _; unfold moveE; rw [if_pos hf]
    obtain ⟨b, off, rfl, m1⟩ := wd_cell HW.out 1 (by omega)
    obtain ⟨b', off', hbo, m2⟩ := wd_cell HW.out 2 (by omega)
    obtain ⟨rfl, rfl⟩ : b = b' ∧ off = off' := by simpa using hbo
    clear hbo
    obtain ⟨b', off', hbo, m3⟩ := wd_cell HW.out 3 (by omega)
    obtain ⟨rfl, rfl⟩ : b = b' ∧ off = off' := by simpa using hbo
    clear hbo
    have hbl : b < w.heap.size := World.block_lt_of_cell? w _ m1
    have hbl1 : b < w.heap.size + 1 := by omega
    go_wp2
    obtain ⟨W, hW⟩ : ∃ W, W = (w.alloc (.cells #[.string p.cls, .slice a1 p.sts.length c1, .int .i64 p.start, .int .i64 p.err, .slice a2 p.mvs.length c2] 25)).alloc (.cells #[.string ⟨#[]⟩, .slice none 0 0, .int .i64 0, .int .i64 0, .slice none 0 0] 25) := ⟨_, rfl⟩
    have hbW : Below w.heap.size w W := by rw [hW]; exact two_below ..
    have q1 : W.cell? ⟨w.heap.size, 1, none⟩ = some (.slice a1 p.sts.length c1) := by rw [hW]; simp [go_sem]
    rw [← hW]
    have HWW := Lib.hid hW; clear hW
    have z0 := cell_regrown q1
    have z1 := cell_regrown (cell_below hbW m1)
    have z2 := cell_regrown (cell_below hbW m2)
    have z3 := cell_regrown (cell_below hbW m3)
    have HSW := Lib.hid (HS.out.below (hbW.trans (Below.refl _ _).drew))
    refine wp_region_Z (fun w' => ∃ p : Regrown, w' = grow (redrawn W p.d) p.os) 17 (by kernel_rfl) ?_
    refine wpAnyZ_take 0 rfl (by kernel_rfl) (by kernel_rfl) (fun _ _ _ _ h => h) (reg_start W) (fun K hK => ?_)
    go_simp
    refine hK _ ?_
    clear hK K
    refine wpAnyZ_take 1 rfl (by kernel_rfl) (by kernel_rfl) (fun _ _ _ _ h => h) (reg_start W) (fun K hK => ?_)
    go_simp
    refine hK _ ?_
    clear hK K
    refine wpAnyZ_take 2 rfl (by kernel_rfl) (by kernel_rfl) (fun _ _ _ _ h => h) (reg_start W) (fun K hK => ?_)
    go_simp
    refine hK _ ?_
    clear hK K
    refine wpAnyZ_take 3 rfl (by kernel_rfl) (by kernel_rfl) (fun _ _ _ _ h => h) (reg_start W) (fun K hK => ?_)
    go_simp
    refine hK _ ?_
    clear hK K
    refine wpAnyZ_take 4 rfl (by kernel_rfl) (by kernel_rfl) (fun _ _ _ _ h => h) (reg_start W) (fun K hK => ?_)
    go_simp
    refine hK _ ?_
    clear hK K
    refine wpAnyZ_take 6 rfl (by kernel_rfl) (by kernel_rfl) (fun _ _ _ _ h => h) (reg_start W) (fun K hK => ?_)
    go_simp
    refine hK _ ?_
    clear hK K
    refine wpAnyZ_take 7 rfl (by kernel_rfl) (by kernel_rfl) (fun _ _ _ _ h => h) (reg_start W) (fun K hK => ?_)
    go_simp
    refine hK _ ?_
    clear hK K
    refine wpAnyZ_take 8 rfl (by kernel_rfl) (by kernel_rfl) (fun _ _ _ _ h => h) (reg_start W) (fun K hK => ?_)
    go_simp
    refine hK _ ?_
    clear hK K
    refine wpAnyZ_take 9 rfl (by kernel_rfl) (by kernel_rfl) (fun _ _ _ _ h => h) (reg_start W) (fun K hK => ?_)
    go_simp
    refine hK _ ?_
    clear hK K
    refine wpAnyZ_take 10 rfl (by kernel_rfl) (by kernel_rfl) (fun _ _ _ _ h => h) (reg_start W) (fun K hK => ?_)
    go_simp
    refine hK _ ?_
    clear hK K
    refine wpAnyZ_take 11 rfl (by kernel_rfl) (by kernel_rfl) (fun _ _ _ _ h => h) (reg_start W) (fun K hK => ?_)
    go_simp
    refine hK _ ?_
    clear hK K
    refine wpAnyZ_take 12 rfl (by kernel_rfl) (by kernel_rfl) (fun _ _ _ _ h => h) (reg_start W) (fun K hK => ?_)
    go_simp
    refine hK _ ?_
    clear hK K
    refine wpAnyZ_take 13 rfl (by kernel_rfl) (by kernel_rfl) (fun _ _ _ _ h => h) (reg_start W) (fun K hK => ?_)
    go_simp
    refine hK _ ?_
    clear hK K
    refine (fun (key : Hid ?G) => ?main) ?k
    case main =>
      refine wpAnyZ_two 5 16 rfl rfl (by kernel_rfl) ?_ ?_
      case refine_1 =>
        go_wp2_with fail
        refine (at29n _ _ _ p.sts _ _ rfl (by omega) HSW.out).mono ?_
        rintro e w' ⟨rfl, rfl⟩
        go_wp2
        refine ⟨reg_start W, ?_⟩
        refine wpAnyZ_two 14 16 rfl rfl (by kernel_rfl) ?_ ?_
        case refine_1 =>
          go_wp2_with fail
          refine (at29n _ _ _ p.sts _ _ rfl (by omega) HSW.out).mono ?_
          rintro e w' ⟨rfl, rfl⟩
          go_wp2
          refine ⟨reg_start W, ?_⟩
          refine wpAnyZ_take 15 rfl (by kernel_rfl) (by kernel_rfl) (fun _ _ _ _ h => h) (reg_start W) (fun K hK => ?_)
          go_simp
          refine hK _ ?_
          clear hK K
          refine wpAnyZ_one 16 rfl (by kernel_rfl) ?_
          go_wp2
          refine ⟨regrown_of_below (((Below.refl _ _).drew).alloc (by simp) _), ?_⟩
          refine wpAnyZ_last rfl (by kernel_rfl) ?_
          go_wp2
          refine wpAnyZ_done (by kernel_rfl) ?_ _
          exact key.out
        case refine_2 =>
          go_wp2
          refine ⟨regrown_of_below (((Below.refl _ _).drew).alloc (by simp) _), ?_⟩
          refine wpAnyZ_one 14 rfl (by kernel_rfl) ?_
          go_wp2_with fail
          refine (at29n _ _ _ p.sts _ _ rfl (by omega) (HSW.out.below ((Below.refl _ _).alloc (Nat.le_refl _) _))).mono ?_
          rintro e w' ⟨rfl, rfl⟩
          go_wp2
          refine ⟨regrown_of_below (((Below.refl _ _).drew).alloc (by simp) _), ?_⟩
          refine wpAnyZ_take 15 rfl (by kernel_rfl) (by kernel_rfl) (fun _ _ _ _ h => h) (regrown_of_below (((Below.refl _ _).drew).alloc (by simp) _)) (fun K hK => ?_)
          go_simp
          refine hK _ ?_
          clear hK K
          refine wpAnyZ_last rfl (by kernel_rfl) ?_
          go_wp2
          refine wpAnyZ_done (by kernel_rfl) ?_ _
          exact key.out
      case refine_2 =>
        go_wp2
        refine ⟨regrown_of_below (((Below.refl _ _).drew).alloc (by simp) _), ?_⟩
        refine wpAnyZ_one 5 rfl (by kernel_rfl) ?_
        go_wp2_with fail
        refine (at29n _ _ _ p.sts _ _ rfl (by omega) (HSW.out.below ((Below.refl _ _).alloc (Nat.le_refl _) _))).mono ?_
        rintro e w' ⟨rfl, rfl⟩
        go_wp2
        refine ⟨regrown_of_below (((Below.refl _ _).drew).alloc (by simp) _), ?_⟩
        refine wpAnyZ_one 14 rfl (by kernel_rfl) ?_
        go_wp2_with fail
        refine (at29n _ _ _ p.sts _ _ rfl (by omega) (HSW.out.below ((Below.refl _ _).alloc (Nat.le_refl _) _))).mono ?_
        rintro e w' ⟨rfl, rfl⟩
        go_wp2
        refine ⟨regrown_of_below (((Below.refl _ _).drew).alloc (by simp) _), ?_⟩
        refine wpAnyZ_take 15 rfl (by kernel_rfl) (by kernel_rfl) (fun _ _ _ _ h => h) (regrown_of_below (((Below.refl _ _).drew).alloc (by simp) _)) (fun K hK => ?_)
        go_simp
        refine hK _ ?_
        clear hK K
        refine wpAnyZ_last rfl (by kernel_rfl) ?_
        go_wp2
        refine wpAnyZ_done (by kernel_rfl) ?_ _
        exact key.out
    case k =>
      refine Lib.hid ?_
      clear z0 z1 z2 z3 q1 hbW HSW
      have hW := HWW.out
      have hsz : W.heap.size = w.heap.size + 1 + 1 := by rw [hW]; simp
      rw [hsz]
      clear hsz
      subst hW
      clear HWW
      simp only [alloc_drew]
      have HM2 := Lib.hid (HM.out.below ((Below.refl w.heap.size w).drew))
      have HB2 := Lib.hid ((Below.refl w.heap.size w).drew)
      have HZ : Hid (w.drew.heap.size = w.heap.size) := rfl
      clear m1 m2 m3 hbl hbl1
      rw [← HZ.out]
      generalize w.drew = w2 at *
      obtain ⟨x, hx⟩ : ∃ x, x = idx p.sts (wd ws 1) := ⟨_, rfl⟩
      obtain ⟨y, hy⟩ : ∃ y, y = idx p.sts (wd ws 3) := ⟨_, rfl⟩
      obtain ⟨z, hz⟩ : ∃ z, z = wd ws 2 := ⟨_, rfl⟩
      rw [← hx, ← hy, ← hz] at HE
      rw [← hx, ← hy, ← hz]
      clear hx hy hz
      by_cases hx : x < 0
      · rw [if_pos (.inl hx)] at HE
        have dx : decide (x < 0) = true := by simp [hx]
        go_wp2
        refine bodyPost_ret (v := .tuple #[PrV p a1 c1 a2 c2, .int .i64 6]) (by simp [results, Tryd.results39, go_sem, PrV]) rfl ?_
        exact ⟨HB2.out.trans (by rw [← HZ.out]; exact head_below ..), p, a2, c2, by rw [HE.out], fun h => by rw [HE.out] at h; simp at h⟩
      by_cases hy : y < 0
      · rw [if_pos (.inr hy)] at HE
        have dx : decide (x < 0) = false := by simp; omega
        have dy : decide (y < 0) = true := by simp [hy]
        go_wp2
        refine bodyPost_ret (v := .tuple #[PrV p a1 c1 a2 c2, .int .i64 6]) (by simp [results, Tryd.results39, go_sem, PrV]) rfl ?_
        exact ⟨HB2.out.trans (by rw [← HZ.out]; exact head_below ..), p, a2, c2, by rw [HE.out], fun h => by rw [HE.out] at h; simp at h⟩
      rw [if_neg (by omega)] at HE
      have dx : decide (x < 0) = false := by simp; omega
      have dy : decide (y < 0) = false := by simp; omega
      go_wp2
      obtain ⟨W3, hW3⟩ : ∃ W3, W3 = ((w2.alloc (.cells #[.string p.cls, .slice a1 p.sts.length c1, .int .i64 p.start, .int .i64 p.err, .slice a2 p.mvs.length c2] 25)).alloc (.cells #[.string ⟨#[]⟩, .slice none 0 0, .int .i64 0, .int .i64 0, .slice none 0 0] 25)).alloc (.cells #[.int .i64 x, .string z, .int .i64 y] 46) := ⟨_, rfl⟩
      have hb3 : Below w2.heap.size w2 W3 := by rw [hW3]; exact head_below ..
      have BK1 : Blk W3 w2.heap.size #[.string p.cls, .slice a1 p.sts.length c1, .int .i64 p.start, .int .i64 p.err, .slice a2 p.mvs.length c2] 25 := by rw [hW3]; exact blk_1 ..
      have BK2 : Blk W3 (w2.heap.size + 1) #[.string ⟨#[]⟩, .slice none 0 0, .int .i64 0, .int .i64 0, .slice none 0 0] 25 := by rw [hW3]; exact blk_2 ..
      have BK3 : Blk W3 (w2.heap.size + 1 + 1) #[.int .i64 x, .string z, .int .i64 y] 46 := by rw [hW3]; exact blk_3 ..
      rw [← hW3]
      clear hW3
      have z4 := cell_regrown (BK1.cell 4 (by simp))
      have z5 := cell_regrown (BK3.cell 0 (by simp))
      have z6 := cell_regrown (BK3.cell 1 (by simp))
      have z7 := cell_regrown (BK3.cell 2 (by simp))
      have HM3 := Lib.hid (HM2.out.below hb3)
      refine wp_region_Z (fun w' => ∃ p : Regrown, w' = grow (redrawn W3 p.d) p.os) 8 (by kernel_rfl) ?_
      refine wpAnyZ_take 1 rfl (by kernel_rfl) (by kernel_rfl) (fun _ _ _ _ h => h) (reg_start W3) (fun K hK => ?_)
      go_simp
      refine hK _ ?_
      clear hK K
      refine wpAnyZ_take 2 rfl (by kernel_rfl) (by kernel_rfl) (fun _ _ _ _ h => h) (reg_start W3) (fun K hK => ?_)
      go_simp
      refine hK _ ?_
      clear hK K
      refine wpAnyZ_take 4 rfl (by kernel_rfl) (by kernel_rfl) (fun _ _ _ _ h => h) (reg_start W3) (fun K hK => ?_)
      go_simp
      refine hK _ ?_
      clear hK K
      refine wpAnyZ_two 0 5 rfl rfl (by kernel_rfl) ?_ ?_
      case' refine_1 =>
        go_wp2
        obtain ⟨U1, hU1⟩ : ∃ U : World, U = (W3.alloc (.cells #[] 46)).drew := ⟨_, rfl⟩
        have hb_U1 : Below W3.heap.size W3 U1 := by rw [hU1]; exact ((Below.refl _ _).alloc (Nat.le_refl _) _).drew
        have OWN0 : Hid (U1.ownsRow W3.heap.size 46 3 (.slice (some ⟨W3.heap.size, 0, none⟩) 0 0) 0 []) := by rw [hU1]; exact (owns_empty W3 W3.heap.size (Nat.le_refl _))
        have hlt_U1 : W3.heap.size < U1.heap.size := by rw [hU1]; simp
        rw [← hU1]
        clear hU1
        refine ⟨regrown_of_below hb_U1, ?_⟩
        refine wpAnyZ_two 3 5 rfl rfl (by kernel_rfl) ?_ ?_
        case' refine_1 =>
          simp only [List.getElem_toArray, List.getElem_cons_succ, List.getElem_cons_zero]
          refine app_mvs rfl _ _ rfl W3.heap.size _ 0 [] rfl OWN0.out a2 p.mvs.length c2 p.mvs rfl rfl (HM3.out.below hb_U1) HMN.out (by omega) (by omega) hb_U1.size ?_
          intro v1 U2 hown hgrow
          have hb_U2 : Below W3.heap.size W3 U2 := hb_U1.grown hgrow hb_U1.size (fun k hk => (OWN0.out.lt k hk).1)
          have OWN1 : Hid (U2.ownsRow W3.heap.size 46 3 v1 p.mvs.length (mvCells p.mvs)) := by
            have := hown
            rw [Nat.zero_add, List.nil_append] at this
            exact this
          clear hown hgrow OWN0
          refine wpList_hide (fun K hK => ?_)
          go_simp
          refine hK _ _ ?_
          clear hK K
          refine ⟨regrown_of_below hb_U2, ?_⟩
          refine wpAnyZ_one 5 rfl (by kernel_rfl) ?_
          go_wp2
          obtain ⟨U3, hU3⟩ : ∃ U : World, U = (U2.alloc (.cells #[.int .i64 x, .string z, .int .i64 y] 46)) := ⟨_, rfl⟩
          have hb_U3 : Below W3.heap.size W3 U3 := by rw [hU3]; exact hb_U2.alloc hb_U2.size _
          have HX : Hid (MvsAt U3 (some ⟨U2.heap.size, 0, none⟩) [⟨x, z, y⟩]) := by rw [hU3]; exact mv_new U2 ⟨x, z, y⟩
          have OWN1 := Lib.hid (owns_below OWN1.out (w' := U3) (by rw [hU3]; exact (Below.refl _ _).alloc (Nat.le_refl _) _))
          rw [← hU3]
          clear hU3
          refine ⟨regrown_of_below hb_U3, ?_⟩
          refine wpAnyZ_one 6 rfl (by kernel_rfl) ?_
          simp only [List.getElem_toArray, List.getElem_cons_succ, List.getElem_cons_zero]
          refine app_mvs rfl _ _ rfl W3.heap.size _ _ _ rfl OWN1.out _ 1 1 [⟨x, z, y⟩] rfl rfl HX.out (fun h => by cases h) (by omega) (by omega) hb_U3.size ?_
          intro v2 U4 hown hgrow
          have hb_U4 : Below W3.heap.size W3 U4 := hb_U3.grown hgrow hb_U3.size (fun k hk => (OWN1.out.lt k hk).1)
          rw [← mvCells_append] at hown
          obtain ⟨hn, av, cv, rfl, hmv⟩ := owns_mvs hown
          have HMV := Lib.hid hmv
          have HAV : Hid (av = none → cv = 0) := owns_none hown
          have HOV : Hid (∀ b off, av = some ⟨b, off, none⟩ → w2.heap.size + 2 < b) := fun b off e => by
            have h1 := (hown.lt b (by rw [e]; rfl)).1
            have h2 := BK3.lt
            omega
          clear hown hgrow OWN1 hmv HX hn
          refine wpList_hide (fun K hK => ?_)
          go_simp
          refine hK _ _ ?_
          clear hK K
          refine ⟨regrown_of_below hb_U4, ?_⟩
        case' refine_2 =>
          go_wp2
          obtain ⟨U2, hU2⟩ : ∃ U : World, U = (U1.alloc (.cells #[.int .i64 x, .string z, .int .i64 y] 46)) := ⟨_, rfl⟩
          have hb_U2 : Below W3.heap.size W3 U2 := by rw [hU2]; exact hb_U1.alloc hb_U1.size _
          have HX : Hid (MvsAt U2 (some ⟨U1.heap.size, 0, none⟩) [⟨x, z, y⟩]) := by rw [hU2]; exact mv_new U1 ⟨x, z, y⟩
          have OWN0 := Lib.hid (owns_below OWN0.out (w' := U2) (by rw [hU2]; exact (Below.refl _ _).alloc (Nat.le_refl _) _))
          rw [← hU2]
          clear hU2
          refine ⟨regrown_of_below hb_U2, ?_⟩
          refine wpAnyZ_one 3 rfl (by kernel_rfl) ?_
          simp only [List.getElem_toArray, List.getElem_cons_succ, List.getElem_cons_zero]
          refine app_mvs rfl _ _ rfl W3.heap.size _ 0 [] rfl OWN0.out a2 p.mvs.length c2 p.mvs rfl rfl (HM3.out.below hb_U2) HMN.out (by omega) (by omega) hb_U2.size ?_
          intro v1 U3 hown hgrow
          have hb_U3 : Below W3.heap.size W3 U3 := hb_U2.grown hgrow hb_U2.size (fun k hk => (OWN0.out.lt k hk).1)
          have OWN1 : Hid (U3.ownsRow W3.heap.size 46 3 v1 p.mvs.length (mvCells p.mvs)) := by
            have := hown
            rw [Nat.zero_add, List.nil_append] at this
            exact this
          have HX := Lib.hid (HX.out.grownBy hgrow (fun hh => by have hh := Option.some.inj hh; dsimp only at hh; omega))
          clear hown hgrow OWN0
          refine wpList_hide (fun K hK => ?_)
          go_simp
          refine hK _ _ ?_
          clear hK K
          refine ⟨regrown_of_below hb_U3, ?_⟩
          refine wpAnyZ_one 6 rfl (by kernel_rfl) ?_
          simp only [List.getElem_toArray, List.getElem_cons_succ, List.getElem_cons_zero]
          refine app_mvs rfl _ _ rfl W3.heap.size _ _ _ rfl OWN1.out _ 1 1 [⟨x, z, y⟩] rfl rfl HX.out (fun h => by cases h) (by omega) (by omega) hb_U3.size ?_
          intro v2 U4 hown hgrow
          have hb_U4 : Below W3.heap.size W3 U4 := hb_U3.grown hgrow hb_U3.size (fun k hk => (OWN1.out.lt k hk).1)
          rw [← mvCells_append] at hown
          obtain ⟨hn, av, cv, rfl, hmv⟩ := owns_mvs hown
          have HMV := Lib.hid hmv
          have HAV : Hid (av = none → cv = 0) := owns_none hown
          have HOV : Hid (∀ b off, av = some ⟨b, off, none⟩ → w2.heap.size + 2 < b) := fun b off e => by
            have h1 := (hown.lt b (by rw [e]; rfl)).1
            have h2 := BK3.lt
            omega
          clear hown hgrow OWN1 hmv HX hn
          refine wpList_hide (fun K hK => ?_)
          go_simp
          refine hK _ _ ?_
          clear hK K
          refine ⟨regrown_of_below hb_U4, ?_⟩
      case' refine_2 =>
        go_wp2
        obtain ⟨U1, hU1⟩ : ∃ U : World, U = (W3.alloc (.cells #[.int .i64 x, .string z, .int .i64 y] 46)).drew := ⟨_, rfl⟩
        have hb_U1 : Below W3.heap.size W3 U1 := by rw [hU1]; exact ((Below.refl _ _).alloc (Nat.le_refl _) _).drew
        have HX : Hid (MvsAt U1 (some ⟨W3.heap.size, 0, none⟩) [⟨x, z, y⟩]) := by rw [hU1]; exact mv_new W3 ⟨x, z, y⟩
        have hlt_U1 : W3.heap.size < U1.heap.size := by rw [hU1]; simp
        rw [← hU1]
        clear hU1
        refine ⟨regrown_of_below hb_U1, ?_⟩
        refine wpAnyZ_one 0 rfl (by kernel_rfl) ?_
        go_wp2
        obtain ⟨U2, hU2⟩ : ∃ U : World, U = (U1.alloc (.cells #[] 46)) := ⟨_, rfl⟩
        have hb_U2 : Below W3.heap.size W3 U2 := by rw [hU2]; exact hb_U1.alloc hb_U1.size _
        have OWN0 : Hid (U2.ownsRow W3.heap.size 46 3 (.slice (some ⟨U1.heap.size, 0, none⟩) 0 0) 0 []) := by rw [hU2]; exact (owns_empty U1 W3.heap.size hb_U1.size)
        have HX := Lib.hid (HX.out.below (w' := U2) (by rw [hU2]; exact (Below.refl _ _).alloc (Nat.le_refl _) _))
        rw [← hU2]
        clear hU2
        refine ⟨regrown_of_below hb_U2, ?_⟩
        refine wpAnyZ_one 3 rfl (by kernel_rfl) ?_
        simp only [List.getElem_toArray, List.getElem_cons_succ, List.getElem_cons_zero]
        refine app_mvs rfl _ _ rfl W3.heap.size _ 0 [] rfl OWN0.out a2 p.mvs.length c2 p.mvs rfl rfl (HM3.out.below hb_U2) HMN.out (by omega) (by omega) hb_U2.size ?_
        intro v1 U3 hown hgrow
        have hb_U3 : Below W3.heap.size W3 U3 := hb_U2.grown hgrow hb_U2.size (fun k hk => (OWN0.out.lt k hk).1)
        have OWN1 : Hid (U3.ownsRow W3.heap.size 46 3 v1 p.mvs.length (mvCells p.mvs)) := by
          have := hown
          rw [Nat.zero_add, List.nil_append] at this
          exact this
        have HX := Lib.hid (HX.out.grownBy hgrow (fun hh => by have hh := Option.some.inj hh; dsimp only at hh; omega))
        clear hown hgrow OWN0
        refine wpList_hide (fun K hK => ?_)
        go_simp
        refine hK _ _ ?_
        clear hK K
        refine ⟨regrown_of_below hb_U3, ?_⟩
        refine wpAnyZ_one 6 rfl (by kernel_rfl) ?_
        simp only [List.getElem_toArray, List.getElem_cons_succ, List.getElem_cons_zero]
        refine app_mvs rfl _ _ rfl W3.heap.size _ _ _ rfl OWN1.out _ 1 1 [⟨x, z, y⟩] rfl rfl HX.out (fun h => by cases h) (by omega) (by omega) hb_U3.size ?_
        intro v2 U4 hown hgrow
        have hb_U4 : Below W3.heap.size W3 U4 := hb_U3.grown hgrow hb_U3.size (fun k hk => (OWN1.out.lt k hk).1)
        rw [← mvCells_append] at hown
        obtain ⟨hn, av, cv, rfl, hmv⟩ := owns_mvs hown
        have HMV := Lib.hid hmv
        have HAV : Hid (av = none → cv = 0) := owns_none hown
        have HOV : Hid (∀ b off, av = some ⟨b, off, none⟩ → w2.heap.size + 2 < b) := fun b off e => by
          have h1 := (hown.lt b (by rw [e]; rfl)).1
          have h2 := BK3.lt
          omega
        clear hown hgrow OWN1 hmv HX hn
        refine wpList_hide (fun K hK => ?_)
        go_simp
        refine hK _ _ ?_
        clear hK K
        refine ⟨regrown_of_below hb_U4, ?_⟩
      all_goals
        have BA := BK1.below hb_U4
        have BB := BK2.below hb_U4
        have hb4 : Below w2.heap.size w2 U4 := hb3.trans (hb_U4.mono hb3.size)
        clear z4 z5 z6 z7 HM3 BK1 BK2 BK3
        have b0 : U4.cell? ⟨w2.heap.size, 0, none⟩ = some (.string p.cls) := BA.cell 0 (by simp)
        have b1 : U4.cell? ⟨w2.heap.size, 1, none⟩ = some (.slice a1 p.sts.length c1) := BA.cell 1 (by simp)
        have b2 : U4.cell? ⟨w2.heap.size, 2, none⟩ = some (.int .i64 p.start) := BA.cell 2 (by simp)
        have b3 : U4.cell? ⟨w2.heap.size, 3, none⟩ = some (.int .i64 p.err) := BA.cell 3 (by simp)
        have b4 : U4.cell? ⟨w2.heap.size, 4, none⟩ = some (.slice a2 p.mvs.length c2) := BA.cell 4 (by simp)
        have BA2 := Lib.hid BA
        have BB2 := Lib.hid BB
        have f4 := BA.free 4
        clear BA BB
        have HB3 := Lib.hid hb3
        have HB4 := Lib.hid hb_U4
        have HB5 := Lib.hid hb4
        clear hb3 hb4 hb_U4
        refine wpAnyZ_one 7 rfl (by kernel_rfl) ?_
        go_wp2
        refine ⟨regrown_of_below HB4.out, ?_⟩
        refine wpAnyZ_last rfl (by kernel_rfl) ?_
        go_wp2
        refine wpAnyZ_done (by kernel_rfl) ?_ _
        have BA3 : Blk (U4.setCell ⟨w2.heap.size, 4, none⟩ (.slice av (p.mvs.length + 1) cv)) w2.heap.size #[.string p.cls, .slice a1 p.sts.length c1, .int .i64 p.start, .int .i64 p.err, .slice av (p.mvs.length + 1) cv] 25 := BA2.out.set 4 _
        have BB3 : Blk (U4.setCell ⟨w2.heap.size, 4, none⟩ (.slice av (p.mvs.length + 1) cv)) (w2.heap.size + 1) #[.string ⟨#[]⟩, .slice none 0 0, .int .i64 0, .int .i64 0, .slice none 0 0] 25 := BB2.out.other (by omega) 4 _
        have hb6 : Below w2.heap.size w2 (U4.setCell ⟨w2.heap.size, 4, none⟩ (.slice av (p.mvs.length + 1) cv)) := HB5.out.setCell (p := ⟨w2.heap.size, 4, none⟩) (Nat.le_refl _) _
        have HMV2 : Hid (MvsAt (U4.setCell ⟨w2.heap.size, 4, none⟩ (.slice av (p.mvs.length + 1) cv)) av (p.mvs ++ [⟨x, z, y⟩])) := HMV.out.setCell HOV.out
        clear b0 b1 b2 b3 b4 f4 HMV BA2 BB2 HB4 HB5
        generalize U4.setCell ⟨w2.heap.size, 4, none⟩ (.slice av (p.mvs.length + 1) cv) = W5 at *
        have b0 : W5.cell? ⟨w2.heap.size, 0, none⟩ = some (.string p.cls) := BA3.cell 0 (by simp)
        have b1 : W5.cell? ⟨w2.heap.size, 1, none⟩ = some (.slice a1 p.sts.length c1) := BA3.cell 1 (by simp)
        have b2 : W5.cell? ⟨w2.heap.size, 2, none⟩ = some (.int .i64 p.start) := BA3.cell 2 (by simp)
        have b3 : W5.cell? ⟨w2.heap.size, 3, none⟩ = some (.int .i64 p.err) := BA3.cell 3 (by simp)
        have b4 : W5.cell? ⟨w2.heap.size, 4, none⟩ = some (.slice av (p.mvs.length + 1) cv) := BA3.cell 4 (by simp)
        have r0 : W5.cell? ⟨w2.heap.size + 1, 0, none⟩ = some (.string ⟨#[]⟩) := BB3.cell 0 (by simp)
        have r1 : W5.cell? ⟨w2.heap.size + 1, 1, none⟩ = some (.slice none 0 0) := BB3.cell 1 (by simp)
        have r2 : W5.cell? ⟨w2.heap.size + 1, 2, none⟩ = some (.int .i64 0) := BB3.cell 2 (by simp)
        have r3 : W5.cell? ⟨w2.heap.size + 1, 3, none⟩ = some (.int .i64 0) := BB3.cell 3 (by simp)
        have r4 : W5.cell? ⟨w2.heap.size + 1, 4, none⟩ = some (.slice none 0 0) := BB3.cell 4 (by simp)
        have g0 := BB3.free 0
        have g1 := BB3.free 1
        have g2 := BB3.free 2
        have g3 := BB3.free 3
        have g4 := BB3.free 4
        have HBB := Lib.hid BB3
        have HB6 := Lib.hid hb6
        clear BA3 BB3 hb6
        go_wp2
        have BB6 : Blk (((((W5.setCell ⟨w2.heap.size + 1, 0, none⟩ (.string p.cls)).setCell ⟨w2.heap.size + 1, 1, none⟩ (.slice a1 p.sts.length c1)).setCell ⟨w2.heap.size + 1, 2, none⟩ (.int .i64 p.start)).setCell ⟨w2.heap.size + 1, 3, none⟩ (.int .i64 p.err)).setCell ⟨w2.heap.size + 1, 4, none⟩ (.slice av (p.mvs.length + 1) cv)) (w2.heap.size + 1) #[.string p.cls, .slice a1 p.sts.length c1, .int .i64 p.start, .int .i64 p.err, .slice av (p.mvs.length + 1) cv] 25 := ((((HBB.out.set 0 _).set 1 _).set 2 _).set 3 _).set 4 _
        have hb7 : Below w2.heap.size w2 (((((W5.setCell ⟨w2.heap.size + 1, 0, none⟩ (.string p.cls)).setCell ⟨w2.heap.size + 1, 1, none⟩ (.slice a1 p.sts.length c1)).setCell ⟨w2.heap.size + 1, 2, none⟩ (.int .i64 p.start)).setCell ⟨w2.heap.size + 1, 3, none⟩ (.int .i64 p.err)).setCell ⟨w2.heap.size + 1, 4, none⟩ (.slice av (p.mvs.length + 1) cv)) := ((((HB6.out.setCell (p := ⟨w2.heap.size + 1, 0, none⟩) (Nat.le_succ _) _).setCell (p := ⟨w2.heap.size + 1, 1, none⟩) (Nat.le_succ _) _).setCell (p := ⟨w2.heap.size + 1, 2, none⟩) (Nat.le_succ _) _).setCell (p := ⟨w2.heap.size + 1, 3, none⟩) (Nat.le_succ _) _).setCell (p := ⟨w2.heap.size + 1, 4, none⟩) (Nat.le_succ _) _
        have hne : ∀ b off, av = some ⟨b, off, none⟩ → w2.heap.size + 1 + 0 < b := fun b off e => by have := HOV.out b off e; omega
        have HMV6 : Hid (MvsAt (((((W5.setCell ⟨w2.heap.size + 1, 0, none⟩ (.string p.cls)).setCell ⟨w2.heap.size + 1, 1, none⟩ (.slice a1 p.sts.length c1)).setCell ⟨w2.heap.size + 1, 2, none⟩ (.int .i64 p.start)).setCell ⟨w2.heap.size + 1, 3, none⟩ (.int .i64 p.err)).setCell ⟨w2.heap.size + 1, 4, none⟩ (.slice av (p.mvs.length + 1) cv)) av (p.mvs ++ [⟨x, z, y⟩])) := ((((HMV2.out.setCell hne).setCell hne).setCell hne).setCell hne).setCell hne
        clear b0 b1 b2 b3 b4 r0 r1 r2 r3 r4 g0 g1 g2 g3 g4 HBB HB6 HMV2
        generalize (((((W5.setCell ⟨w2.heap.size + 1, 0, none⟩ (.string p.cls)).setCell ⟨w2.heap.size + 1, 1, none⟩ (.slice a1 p.sts.length c1)).setCell ⟨w2.heap.size + 1, 2, none⟩ (.int .i64 p.start)).setCell ⟨w2.heap.size + 1, 3, none⟩ (.int .i64 p.err)).setCell ⟨w2.heap.size + 1, 4, none⟩ (.slice av (p.mvs.length + 1) cv)) = W6 at *
        have r0 : W6.cell? ⟨w2.heap.size + 1, 0, none⟩ = some (.string p.cls) := BB6.cell 0 (by simp)
        have r1 : W6.cell? ⟨w2.heap.size + 1, 1, none⟩ = some (.slice a1 p.sts.length c1) := BB6.cell 1 (by simp)
        have r2 : W6.cell? ⟨w2.heap.size + 1, 2, none⟩ = some (.int .i64 p.start) := BB6.cell 2 (by simp)
        have r3 : W6.cell? ⟨w2.heap.size + 1, 3, none⟩ = some (.int .i64 p.err) := BB6.cell 3 (by simp)
        have r4 : W6.cell? ⟨w2.heap.size + 1, 4, none⟩ = some (.slice av (p.mvs.length + 1) cv) := BB6.cell 4 (by simp)
        clear BB6
        refine bodyPost_ret (v := .tuple #[PrV { p with mvs := p.mvs ++ [⟨x, z, y⟩] } a1 c1 av cv, .int .i64 0]) (by simp [results, Tryd.results39, go_sem, PrV, r0, r1, r2, r3, r4]) rfl ?_
        exact ⟨HB2.out.trans (by rw [← HZ.out]; exact hb7), { p with mvs := p.mvs ++ [⟨x, z, y⟩] }, av, cv, by rw [HE.out], fun _ => ⟨by rw [HE.out], HMV6.out, HAV.out, fun b off e => by have := HOV.out b off e; have := HZ.out; omega⟩⟩

end Go.Proofs.YtlkafolgbkobpaaDoor
