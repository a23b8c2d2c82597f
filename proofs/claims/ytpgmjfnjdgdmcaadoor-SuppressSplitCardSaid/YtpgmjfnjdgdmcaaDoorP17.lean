import Derived.Test.YtpgmjfnjdgdmcaaDoorP16
namespace Go.Proofs.YtpgmjfnjdgdmcaaDoor
open Go.RowKit Go.Sort

def pre (ws : List (List UInt8)) (o : Option (List (List UInt8) × List UInt8)) : Option (List (List UInt8) × List UInt8) := o.map fun p => (ws ++ p.1, p.2)
theorem pre_nil (o : Option (List (List UInt8) × List UInt8)) : pre [] o = o := by cases o <;> simp [pre]
theorem pre_step {n : Nat} {x : List UInt8} (ws : List (List UInt8)) (h : (Lib.cut x [32]).2.2 = true) : pre ws (cutN (n + 1) x) = pre (ws ++ [(Lib.cut x [32]).1]) (cutN n (Lib.cut x [32]).2.1) := by
  simp only [cutN, h, if_true]
  cases cutN n (Lib.cut x [32]).2.1 with
  | none => rfl
  | some p => simp [pre]
theorem pre_none {n : Nat} {x : List UInt8} (ws : List (List UInt8)) (h : (Lib.cut x [32]).2.2 = false) : pre ws (cutN (n + 1) x) = none := by
  simp [cutN, h, pre]
theorem cut_len (x : List UInt8) : (Lib.cut x [32]).1.length ≤ x.length ∧ (Lib.cut x [32]).2.1.length ≤ x.length := by
  rcases cut_index 32 x with ⟨_, h⟩ | ⟨a, r, rfl, _, _, h⟩
  · rw [h]; simp
  · rw [h]; simp; omega
/-- the last kind before k whose word is x, or -1 -/
def kdTo (x : ByteArray) : Nat → Int
  | 0 => -1
  | k + 1 => if (kindW k).toList = x.toList then (k : Int) else kdTo x k
theorem kw_l (k : Nat) (h : k < 5) : kindW k = kindL[k]'(by simpa [kindL] using h) := by
  match k, h with
  | 0, _ => rfl
  | 1, _ => rfl
  | 2, _ => rfl
  | 3, _ => rfl
  | 4, _ => rfl
theorem kd_idx (x : ByteArray) : kdTo x 5 = idx kindL x := by
  have hl : kindL.length = 5 := rfl
  have e0 : (kindW (0 : Nat)).toList = [42] := by rw [ByteArray.toList_eq]; rfl
  have e1 : (kindW (1 : Nat)).toList = [117, 110, 115, 101, 116] := by rw [ByteArray.toList_eq]; rfl
  have e2 : (kindW (2 : Nat)).toList = [115, 116, 97, 116, 101] := by rw [ByteArray.toList_eq]; rfl
  have e3 : (kindW (3 : Nat)).toList = [116, 97, 105, 110, 116] := by rw [ByteArray.toList_eq]; rfl
  have e4 : (kindW (4 : Nat)).toList = [98, 114, 97, 110, 99, 104] := by rw [ByteArray.toList_eq]; rfl
  unfold idx
  rw [idxFrom, dif_pos (by omega), idxFrom, dif_pos (by omega), idxFrom, dif_pos (by omega), idxFrom, dif_pos (by omega), idxFrom, dif_pos (by omega), idxFrom, dif_neg (by omega)]
  rw [← kw_l 0 (by omega), ← kw_l (0 + 1) (by omega), ← kw_l (0 + 1 + 1) (by omega), ← kw_l (0 + 1 + 1 + 1) (by omega), ← kw_l (0 + 1 + 1 + 1 + 1) (by omega)]
  simp only [kdTo, Nat.zero_add, Nat.reduceAdd]
  rw [e0, e1, e2, e3, e4]
  generalize x.toList = y
  by_cases h0 : [42] = y
  · subst h0; simp
  by_cases h1 : [117, 110, 115, 101, 116] = y
  · subst h1; simp
  by_cases h2 : [115, 116, 97, 116, 101] = y
  · subst h2; simp
  by_cases h3 : [116, 97, 105, 110, 116] = y
  · subst h3; simp
  by_cases h4 : [98, 114, 97, 110, 99, 104] = y
  · subst h4; simp
  simp [h0, h1, h2, h3, h4]
def RLPost (l : List UInt8) (w : World) (e : Ending) (w' : World) : Prop := Below w.heap.size w w' ∧ ∃ n, e = .returned (.tuple #[NtV n, .int .i64 (lineP l).1]) ∧ ((lineP l).1 = 0 → n = (lineP l).2)
theorem info9 : (Tryd.prog.info? 9).map (fun i => (i.zero, i.size, i.bytes)) = some (some (.string ⟨#[]⟩), 1, 16) := by kernel_rfl
/-- append of one string, which lies in a block of its own -/
theorem app_str {ops : Array Oper} {rest : List Oper} {o : Oper} {a : Act} {Q : Exit → Act → World → Prop} {w : World} (hgd : o.guard = none) (s x : Operand)
    (ho : o.op = .call { callee := .builtin .append, args := #[s, x], argTypes := #[59, 59] })
    (base : Nat) (v : Value) (l : List (List UInt8)) (hs : a.eval s = v) (hown : w.ownsRow base 9 1 v l.length (l.map (fun x => Value.string (mkB x))))
    (g : Nat) (y : List UInt8) (hx : a.eval x = .slice (some ⟨g, 0, none⟩) 1 1) (hg : Blk w g #[.string (mkB y)] 9)
    (hn : l.length ≤ 1000000) (hbase : base ≤ w.heap.size)
    (h : ∀ v' w', w'.ownsRow base 9 1 v' (l ++ [y]).length ((l ++ [y]).map (fun x => Value.string (mkB x))) → w.grownBy w' v.ownBlock → wpList Tryd.prog ops Q rest (a.put o.dst v') w') : wpList Tryd.prog ops Q (o :: rest) a w := by
  obtain ⟨i0, hi, hz0, hz1, hz2⟩ := info_parts info9
  refine wpList_append_own w hgd s x 59 ho base 9 i0 (.string ⟨#[]⟩) 1 16 Tryd.underlying59 hi hz0 hz1 hz2 rfl (by decide) v l.length _ hs hown ⟨g, 0, none⟩ 1 1 [.string (mkB y)] hx rfl ?_ ?_ (by unfold maxLen; omega) (by omega) hbase ?_
  · intro j u hu
    rw [addr_add, Nat.zero_add, cell_of_row _ _ _ _ _ _ hg]
    simpa using hu
  · intro u hu; simp only [List.mem_singleton] at hu; subst hu; rfl
  · intro v' w' h1 h2 _
    refine h v' w' ?_ h2
    rw [List.map_append, List.length_append]
    exact h1
/-- a world with five cells -/
structure WC5 (A B C D E : Addr) (x0 x1 x2 x3 x4 : Value) where
  u : World
  h0 : u.cell? A = some x0
  h1 : u.cell? B = some x1
  h2 : u.cell? C = some x2
  h3 : u.cell? D = some x3
  h4 : u.cell? E = some x4
structure L1Rel (w : World) (l : List UInt8) (k : Nat) (x : List UInt8) (ws : List (List UInt8)) (v : Value) (wr : World) : Prop where
  hc : cutN 5 l = pre ws (cutN (5 - k) x)
  hk : k ≤ 5
  hw : ws.length = k
  hs : ∀ y ∈ ws, y.length ≤ 65536
  hx : x.length ≤ 65536
  own : wr.ownsRow (w.heap.size + 1) 9 1 v ws.length (ws.map (fun x => Value.string (mkB x)))
  hb : Below w.heap.size w wr
  rb : Blk wr w.heap.size #[.int .i64 0, .string ⟨#[]⟩, .string ⟨#[]⟩, .string ⟨#[]⟩, .string ⟨#[]⟩] 23

set_option maxRecDepth 100000 in
set_option maxHeartbeats 4000000 in
theorem line39 (l : List UInt8) (w : World) (hl : l.length ≤ 65536) : Calls Tryd.prog 39 #[.string (mkB l)] w (RLPost l w) := by
  have R0 : Hid (L1Rel w l 0 l [] (.slice none 0 0) (w.alloc (.cells #[.int .i64 0, .string ⟨#[]⟩, .string ⟨#[]⟩, .string ⟨#[]⟩, .string ⟨#[]⟩] 23))) :=
    ⟨by rw [pre_nil], by omega, rfl, fun y hy => by simp at hy, hl, World.ownsRow_nil _ _ _ _, (Below.refl _ _).alloc (Nat.le_refl _) _, blk_new w _ 23⟩
  go_enter Tryd.func39, Tryd.ntmps39
  go_wp2
  generalize w.alloc (.cells #[.int .i64 0, .string ⟨#[]⟩, .string ⟨#[]⟩, .string ⟨#[]⟩, .string ⟨#[]⟩] 23) = W0 at *
  go_loopw [0, 4, 5] (fun v0 v4 v5 wr => ∃ k x ws, v0 = .string (mkB x) ∧ v5 = .int .i64 (k : Nat) ∧ L1Rel w l k x ws v4 wr) (fun _ _ v5 _ => 5 - (intOf v5).toNat)
  case atStart => exact ⟨0, l, [], rfl, rfl, R0.out⟩
  case round =>
    clear R0
    obtain ⟨k, x, ws, rfl, rfl, hrel⟩ := hrel
    have hk := hrel.hk
    have hxl := hrel.hx
    have hwl := hrel.hw
    have HREL := Lib.hid hrel; clear hrel
    by_cases hlt : k < 5
    · obtain ⟨j, hj⟩ : ∃ j, 5 - k = j + 1 := ⟨5 - k - 1, by omega⟩
      have HC := Lib.hid HREL.out.hc
      rw [hj] at HC
      have hcl := cut_len x
      have HWL := Lib.hid hwl; clear hwl
      have HJ := Lib.hid hj; clear hj
      go_wp2_with fail
      refine (word64 x wr hxl).mono ?_
      rintro e w2 ⟨hb2, rfl⟩
      have HB2 := Lib.hid (HREL.out.hb.trans (hb2.mono HREL.out.hb.size))
      have BR2 := Lib.hid (HREL.out.rb.below hb2)
      have OWN2 := Lib.hid (HREL.out.own.kept ⟨hb2.os, hb2.tape, hb2.output, hb2.size, fun k hk _ => hb2.block k hk⟩ (row := none) (by cases hv : Value.ownBlock _ <;> simp))
      clear hb2
      cases hf : (Lib.cut x [32]).2.2
      · rw [pre_none ws hf] at HC
        have HF : Hid (lineP l = (2, zeroN)) := lineP_bad (fun w0 w1 w2 w3 w4 r h => by rw [HC.out] at h; cases h)
        go_wp2_with (refine store23 rfl _ _ rfl w.heap.size _ _ _ _ _ rfl rfl _ BR2.out rfl ?_)
        have BRz := BR2.out.setRow #[.int .i64 0, .string ⟨#[]⟩, .string ⟨#[]⟩, .string ⟨#[]⟩, .string ⟨#[]⟩]
        refine bodyPost_ret (v := .tuple #[NtV zeroN, .int .i64 2]) (results_c2 Tryd.results39 _ _ w.heap.size _ _ _ rfl rfl BRz Tryd.underlying23 rfl (by kernel_rfl)) rfl ?_
        exact ⟨below_setRow HB2.out (Nat.le_refl _) _, zeroN, by rw [HF.out], fun h => by rw [HF.out] at h; simp at h⟩
      · rw [pre_step ws hf] at HC
        obtain ⟨y, hy⟩ : ∃ y, y = (Lib.cut x [32]).1 := ⟨_, rfl⟩
        obtain ⟨r, hr⟩ : ∃ r, r = (Lib.cut x [32]).2.1 := ⟨_, rfl⟩
        rw [← hy, ← hr] at hcl HC ⊢
        clear hy hr hf
        obtain ⟨W5, hW5⟩ : ∃ W5, W5 = w2.alloc (.cells #[.string (mkB y)] 9) := ⟨_, rfl⟩
        have OWN5 : Hid (W5.ownsRow (w.heap.size + 1) 9 1 u4 ws.length (ws.map (fun x => Value.string (mkB x)))) := by rw [hW5]; exact OWN2.out.alloc _
        have B5 : Hid (Blk W5 w2.heap.size #[.string (mkB y)] 9) := by rw [hW5]; exact blk_new w2 _ 9
        have HB5 : Hid (Below w.heap.size w W5) := by rw [hW5]; exact HB2.out.alloc HB2.out.size _
        have BR5 : Hid (Blk W5 w.heap.size #[.int .i64 0, .string ⟨#[]⟩, .string ⟨#[]⟩, .string ⟨#[]⟩, .string ⟨#[]⟩] 23) := by rw [hW5]; exact BR2.out.below ((Below.refl _ _).alloc (Nat.le_refl _) _)
        have hw5 : w.heap.size + 1 ≤ W5.heap.size := BR5.out.lt
        have HW5 := Lib.hid hW5; clear hW5
        go_wp2_with (at_builtin; rw [← HW5.out]; refine app_str rfl _ _ rfl (w.heap.size + 1) _ ws rfl OWN5.out w2.heap.size y rfl B5.out (by rw [HWL.out]; omega) hw5 ?_)
        intro v' w6 hown hgrow
        have HB6 := Lib.hid (HB5.out.grown hgrow HB5.out.size (fun k hk => by have := (OWN5.out.lt k hk).1; omega))
        have BR6 := Lib.hid (BR5.out.grown hgrow (fun e => by have := (OWN5.out.lt _ e.symm).1; omega))
        have HOWN := Lib.hid hown; clear hown hgrow OWN5 B5 HB5 BR5 HW5 OWN2 HB2 BR2
        go_wp2
        go_roundw
        case rel =>
          refine ⟨k + 1, r, ws ++ [y], rfl, by go_num, ⟨?_, by omega, by simp [HWL.out], ?_, by omega, by rw [List.length_append, List.map_append]; exact HOWN.out, HB6.out, BR6.out⟩⟩
          have e : 5 - (k + 1) = j := by have := HJ.out; omega
          · rw [e]; exact HC.out
          · intro z hz
            rw [List.mem_append, List.mem_singleton] at hz
            rcases hz with hz | rfl
            · exact HREL.out.hs z hz
            · omega
        case measure => simp [intOf]; omega
    · obtain rfl : k = 5 := by omega
      have hc5 : cutN 5 l = some (ws, x) := by rw [HREL.out.hc]; simp [cutN, pre]
      match ws, hwl with
      | [w0, x1, x2, x3, x4], _ =>
        have HLP : Hid (lineP l = if w0 ≠ supW ∨ idx kindL (mkB x1) < 0 ∨ x2 = [] ∨ x3 = [] ∨ x4 = [] then (2, zeroN) else (noteE ⟨idx kindL (mkB x1), unstar x2, unstar x3, unstar x4, mkB x⟩, ⟨idx kindL (mkB x1), unstar x2, unstar x3, unstar x4, mkB x⟩)) := by
          show _ = _
          unfold lineP; rw [hc5]; rfl
        clear hc5
        have hx4 : x4.length ≤ 65536 := HREL.out.hs x4 (by simp)
        have hown := HREL.out.own
        rcases hown.2 with ⟨_, h0⟩ | ⟨g, cap, cur, hv, hbg, hh, hn, hm, hsz, htk⟩
        · simp at h0
        have hcells : ∀ j (u : Value), ([w0, x1, x2, x3, x4].map (fun x => Value.string (mkB x)))[j]? = some u → wr.cell? ⟨g, j, none⟩ = some u := by
          intro j u hu
          have := hown.cells (g := g) (by rw [hv]; rfl) j u hu
          rw [addr_add] at this
          simpa using this
        have c0 := hcells 0 (.string (mkB w0)) rfl
        have c1 := hcells 1 (.string (mkB x1)) rfl
        have c2 := hcells 2 (.string (mkB x2)) rfl
        have c3 := hcells 3 (.string (mkB x3)) rfl
        have c4 := hcells 4 (.string (mkB x4)) rfl
        simp only [List.length_cons, List.length_nil, Nat.zero_add, Nat.reduceAdd] at hv
        rw [hv]
        have hgl : g < wr.heap.size := (Array.getElem?_eq_some_iff.1 hh).1
        have BR := Lib.hid HREL.out.rb
        have HB := Lib.hid HREL.out.hb
        clear hown hcells hh hn hm hsz htk HREL hv
        go_wp2
        have hne : Nonempty (WC4 ⟨g, 2, none⟩ ⟨g, 3, none⟩ ⟨g, 4, none⟩ ⟨g, 4, none⟩ (.string (mkB x2)) (.string (mkB x3)) (.string (mkB x4)) (.string (mkB x4))) := ⟨⟨wr, c2, c3, c4, c4⟩⟩
        have k2 : ∀ q : WC4 ⟨g, 2, none⟩ ⟨g, 3, none⟩ ⟨g, 4, none⟩ ⟨g, 4, none⟩ (.string (mkB x2)) (.string (mkB x3)) (.string (mkB x4)) (.string (mkB x4)), q.u.cell? ⟨g, 2, none⟩ = some (.string (mkB x2)) := fun q => q.h1
        have k3 : ∀ q : WC4 ⟨g, 2, none⟩ ⟨g, 3, none⟩ ⟨g, 4, none⟩ ⟨g, 4, none⟩ (.string (mkB x2)) (.string (mkB x3)) (.string (mkB x4)) (.string (mkB x4)), q.u.cell? ⟨g, 3, none⟩ = some (.string (mkB x3)) := fun q => q.h2
        have k4 : ∀ q : WC4 ⟨g, 2, none⟩ ⟨g, 3, none⟩ ⟨g, 4, none⟩ ⟨g, 4, none⟩ (.string (mkB x2)) (.string (mkB x3)) (.string (mkB x4)) (.string (mkB x4)), q.u.cell? ⟨g, 4, none⟩ = some (.string (mkB x4)) := fun q => q.h3
        have e2 : ({ wr with drawn := wr.drawn + 1 } : World).cell? ⟨g, 2, none⟩ = some (.string (mkB x2)) := c2
        have e3 : ({ wr with drawn := wr.drawn + 1 } : World).cell? ⟨g, 3, none⟩ = some (.string (mkB x3)) := c3
        have e4 : ({ wr with drawn := wr.drawn + 1 } : World).cell? ⟨g, 4, none⟩ = some (.string (mkB x4)) := c4
        have hbd : ∀ o : Obj, Below wr.heap.size wr (wr.drew.alloc o) := fun o => ((Below.refl _ _).drew).alloc (Nat.le_refl _) o
        have f2 : ∀ o : Obj, (wr.drew.alloc o).cell? ⟨g, 2, none⟩ = some (.string (mkB x2)) := fun o => cell_below (hbd o) c2
        have f3 : ∀ o : Obj, (wr.drew.alloc o).cell? ⟨g, 3, none⟩ = some (.string (mkB x3)) := fun o => cell_below (hbd o) c3
        have f4 : ∀ o : Obj, (wr.drew.alloc o).cell? ⟨g, 4, none⟩ = some (.string (mkB x4)) := fun o => cell_below (hbd o) c4
        have HBD := Lib.hid hbd; clear hbd
        refine wp_region_Y (fun w' => ∃ q : WC4 ⟨g, 2, none⟩ ⟨g, 3, none⟩ ⟨g, 4, none⟩ ⟨g, 4, none⟩ (.string (mkB x2)) (.string (mkB x3)) (.string (mkB x4)) (.string (mkB x4)), w' = q.u) (by kernel_rfl) ?_
        refine wpAnyY_take 0 rfl (by kernel_rfl) (fun _ _ _ _ h => h) ⟨⟨_, e2, e3, e4, e4⟩, rfl⟩ (fun K hK => ?_)
        go_simp
        refine hK _ ?_
        clear hK K
        refine wpAnyY_take 1 rfl (by kernel_rfl) (fun _ _ _ _ h => h) ⟨⟨_, e2, e3, e4, e4⟩, rfl⟩ (fun K hK => ?_)
        go_simp
        refine hK _ ?_
        clear hK K
        refine wpAnyY_take 2 rfl (by kernel_rfl) (fun _ _ _ _ h => h) ⟨⟨_, e2, e3, e4, e4⟩, rfl⟩ (fun K hK => ?_)
        go_simp
        refine hK _ ?_
        clear hK K
        refine wpAnyY_take 4 rfl (by kernel_rfl) (fun _ _ _ _ h => h) ⟨⟨_, e2, e3, e4, e4⟩, rfl⟩ (fun K hK => ?_)
        go_simp
        refine hK _ ?_
        clear hK K
        refine wpAnyY_take 5 rfl (by kernel_rfl) (fun _ _ _ _ h => h) ⟨⟨_, e2, e3, e4, e4⟩, rfl⟩ (fun K hK => ?_)
        go_simp
        refine hK _ ?_
        clear hK K
        refine wpAnyY_take 6 rfl (by kernel_rfl) (fun _ _ _ _ h => h) ⟨⟨_, e2, e3, e4, e4⟩, rfl⟩ (fun K hK => ?_)
        go_simp
        refine hK _ ?_
        clear hK K
        refine wpAnyY_take 8 rfl (by kernel_rfl) (fun _ _ _ _ h => h) ⟨⟨_, e2, e3, e4, e4⟩, rfl⟩ (fun K hK => ?_)
        go_simp
        refine hK _ ?_
        clear hK K
        refine wpAnyY_take 9 rfl (by kernel_rfl) (fun _ _ _ _ h => h) ⟨⟨_, e2, e3, e4, e4⟩, rfl⟩ (fun K hK => ?_)
        go_simp
        refine hK _ ?_
        clear hK K
        refine wpAnyY_take 10 rfl (by kernel_rfl) (fun _ _ _ _ h => h) ⟨⟨_, e2, e3, e4, e4⟩, rfl⟩ (fun K hK => ?_)
        go_simp
        refine hK _ ?_
        clear hK K
        refine wpAnyY_take 12 rfl (by kernel_rfl) (fun _ _ _ _ h => h) ⟨⟨_, e2, e3, e4, e4⟩, rfl⟩ (fun K hK => ?_)
        go_simp
        refine hK _ ?_
        clear hK K
        refine wpAnyY_call 3 (.string (unstar x2)) rfl (by kernel_rfl) (fun _ _ _ _ h => h) ⟨⟨_, e2, e3, e4, e4⟩, rfl⟩ rfl ?_ ?_
        · rintro w' ⟨q, rfl⟩
          go_simp
          exact none65 x2 _
        refine wpY_hide (fun K hK => ?_)
        go_simp
        refine hK _ ?_
        clear hK K
        refine wpAnyY_call 7 (.string (unstar x3)) rfl (by kernel_rfl) (fun _ _ _ _ h => h) ⟨⟨_, e2, e3, e4, e4⟩, rfl⟩ rfl ?_ ?_
        · rintro w' ⟨q, rfl⟩
          go_simp
          exact none65 x3 _
        refine wpY_hide (fun K hK => ?_)
        go_simp
        refine hK _ ?_
        clear hK K
        refine wpAnyY_call 11 (.string (unstar x4)) rfl (by kernel_rfl) (fun _ _ _ _ h => h) ⟨⟨_, e2, e3, e4, e4⟩, rfl⟩ rfl ?_ ?_
        · rintro w' ⟨q, rfl⟩
          go_simp
          exact none65 x4 _
        refine wpY_hide (fun K hK => ?_)
        go_simp
        refine hK _ ?_
        clear hK K
        refine wpAnyY_take 13 rfl (by kernel_rfl) (fun _ _ _ _ h => h) ⟨⟨_, e2, e3, e4, e4⟩, rfl⟩ (fun K hK => ?_)
        go_simp
        refine hK _ ?_
        clear hK K
        refine wpAnyY_one 14 rfl (by kernel_rfl) ?_
        go_wp2
        refine ⟨⟨⟨_, f2 _, f3 _, f4 _, f4 _⟩, rfl⟩, ?_⟩
        refine wpAnyY_one 15 rfl (by kernel_rfl) ?_
        go_wp2
        refine ⟨⟨⟨_, f2 _, f3 _, f4 _, f4 _⟩, rfl⟩, ?_⟩
        refine wpAnyY_done (by kernel_rfl) ?_ _
        clear hne k2 k3 k4 e2 e3 e4 f2 f3 f4
        obtain ⟨wo, rfl⟩ : ∃ wo : World, wo = wr := ⟨_, rfl⟩
        obtain ⟨W1, hW1⟩ : ∃ W1, W1 = (wo.alloc (.cells #[.int .i64 (-1), .string (unstar x2), .string (unstar x3), .string (unstar x4), .string (mkB x)] 23)).drew := ⟨_, rfl⟩
        have hb1 : Below wo.heap.size wo W1 := by rw [hW1]; exact HBD.out _
        have BN : Hid (Blk W1 wo.heap.size #[.int .i64 (kdTo (mkB x1) 0), .string (unstar x2), .string (unstar x3), .string (unstar x4), .string (mkB x)] 23) := by rw [hW1]; exact blk_new wo.drew _ 23
        have HB1 := Lib.hid hb1; clear hb1
        rw [← hW1]
        clear hW1 HBD
        go_wp2
        go_loopw [10] (fun v10 w' => ∃ k : Nat, k ≤ 5 ∧ v10 = .int .i64 k ∧ Below wo.heap.size wo w' ∧ Blk w' wo.heap.size #[.int .i64 (kdTo (mkB x1) k), .string (unstar x2), .string (unstar x3), .string (unstar x4), .string (mkB x)] 23) (fun v10 _ => 5 - (intOf v10).toNat)
        case atStart => exact ⟨0, by omega, rfl, HB1.out, BN.out⟩
        case round =>
          clear BN HB1
          obtain ⟨k, hk, rfl, hb7, hn7⟩ := hrel
          have HB7 := Lib.hid hb7; clear hb7
          have BN7 := Lib.hid hn7; clear hn7
          by_cases hlt : k < 5
          · have d1 := HB7.out.cell (p := ⟨g, 1, none⟩) hgl
            rw [c1] at d1
            have c1d : ({ wr with drawn := wr.drawn + 1 } : World).cell? ⟨g, 1, none⟩ = some (.string (mkB x1)) := d1
            have hne : Nonempty (WC1 ⟨g, 1, none⟩ (.string (mkB x1))) := ⟨⟨wr, d1⟩⟩
            have kE : ∀ q : WC1 ⟨g, 1, none⟩ (.string (mkB x1)), q.u.cell? ⟨g, 1, none⟩ = some (.string (mkB x1)) := fun q => q.h1
            have HS : Hid (kdTo (mkB x1) (k + 1) = if (kindW k).toList = (mkB x1).toList then (k : Int) else kdTo (mkB x1) k) := rfl
            have B8 := Lib.hid (BN7.out.below (W' := wr.drew) ⟨rfl, rfl, rfl, Nat.le_refl _, fun _ _ => rfl⟩)
            have HB8 := Lib.hid HB7.out.drew
            go_wp2
            refine wp_region_Y (fun w' => ∃ q : WC1 ⟨g, 1, none⟩ (.string (mkB x1)), w' = q.u) (by kernel_rfl) ?_
            refine wpAnyY_take 0 rfl (by kernel_rfl) (fun _ _ _ _ h => h) ⟨⟨_, c1d⟩, rfl⟩ (fun K hK => ?_)
            go_simp
            refine hK _ ?_
            clear hK K
            refine wpAnyY_take 2 rfl (by kernel_rfl) (fun _ _ _ _ h => h) ⟨⟨_, c1d⟩, rfl⟩ (fun K hK => ?_)
            go_simp
            refine hK _ ?_
            clear hK K
            refine wpAnyY_take 3 rfl (by kernel_rfl) (fun _ _ _ _ h => h) ⟨⟨_, c1d⟩, rfl⟩ (fun K hK => ?_)
            go_simp
            refine hK _ ?_
            clear hK K
            refine wpAnyY_take 4 rfl (by kernel_rfl) (fun _ _ _ _ h => h) ⟨⟨_, c1d⟩, rfl⟩ (fun K hK => ?_)
            go_simp
            refine hK _ ?_
            clear hK K
            refine wpAnyY_call 1 (.string (kindW k)) rfl (by kernel_rfl) (fun _ _ _ _ h => h) ⟨⟨_, c1d⟩, rfl⟩ rfl ?_ ?_
            · rintro w' ⟨q, rfl⟩
              go_simp
              exact kind34 k _
            refine wpY_hide (fun K hK => ?_)
            go_simp
            refine hK _ ?_
            clear hK K
            refine wpAnyY_take 5 rfl (by kernel_rfl) (fun _ _ _ _ h => h) ⟨⟨_, c1d⟩, rfl⟩ (fun K hK => ?_)
            go_simp
            refine hK _ ?_
            clear hK K
            refine wpAnyY_done (by kernel_rfl) ?_ _
            clear kE hne c1d d1
            change Exit.then _ _ _ _ wr.drew
            generalize wr.drew = w8 at *
            have q0 : w8.cell? ⟨wo.heap.size, 0, none⟩ = some (.int .i64 (kdTo (mkB x1) k)) := B8.out.cell 0 (by simp)
            have f0 := B8.out.free 0
            by_cases heq : (kindW k).toList = (mkB x1).toList
            · rw [if_pos heq] at HS
              have hq : ((kindW k).toList == (mkB x1).toList) = true := by simp [heq]
              clear heq
              generalize (kindW k) = kk at *
              rw [hq]
              go_wp2
              go_roundw
              case rel =>
                refine ⟨k + 1, by omega, by go_num, HB8.out.setCell (Nat.le_refl _) _, ?_⟩
                rw [HS.out]
                exact B8.out.set 0 (.int .i64 k)
              case measure => simp [intOf]; omega
            · rw [if_neg heq] at HS
              have hq : ((kindW k).toList == (mkB x1).toList) = false := by simpa using heq
              clear heq
              generalize (kindW k) = kk at *
              rw [hq]
              go_wp2
              go_roundw
              case rel =>
                refine ⟨k + 1, by omega, by go_num, HB8.out, ?_⟩
                rw [HS.out]
                exact B8.out
              case measure => simp [intOf]; omega
          · obtain rfl : k = 5 := by omega
            rw [kd_idx] at BN7
            have g0 := HB7.out.cell (p := ⟨g, 0, none⟩) hgl
            rw [c0] at g0
            have g2 := HB7.out.cell (p := ⟨g, 2, none⟩) hgl
            rw [c2] at g2
            have g3 := HB7.out.cell (p := ⟨g, 3, none⟩) hgl
            rw [c3] at g3
            have g4 := HB7.out.cell (p := ⟨g, 4, none⟩) hgl
            rw [c4] at g4
            have BR2 := Lib.hid (BR.out.below HB7.out)
            have HB2 := Lib.hid (HB.out.trans (HB7.out.mono HB.out.size))
            have hwN : w.heap.size < wo.heap.size := BR.out.lt
            clear c0 c1 c2 c3 c4
            obtain ⟨kd, hkd⟩ : ∃ kd, kd = idx kindL (mkB x1) := ⟨_, rfl⟩
            rw [← hkd] at HLP BN7
            clear hkd
            obtain ⟨nt, hnt⟩ : ∃ nt : Nt, nt = ⟨kd, unstar x2, unstar x3, unstar x4, mkB x⟩ := ⟨_, rfl⟩
            rw [← hnt] at HLP
            have BNT : Hid (Blk wr wo.heap.size #[.int .i64 nt.kind, .string nt.cls, .string nt.meth, .string nt.what, .string nt.reason] 23) := by rw [hnt]; exact BN7.out
            have hwh : nt.what.size ≤ 9223372036854775807 := by
              rw [hnt]
              show (unstar x4).size ≤ _
              rw [unst]
              split
              · exact Nat.zero_le _
              · rw [mkB_size]; omega
            have q0 : wr.cell? ⟨wo.heap.size, 0, none⟩ = some (.int .i64 kd) := BN7.out.cell 0 (by simp)
            clear BN7 hnt
            have hl0 := mkB_toList w0
            have hl2 := mkB_toList x2
            have hl3 := mkB_toList x3
            have hl4 := mkB_toList x4
            by_cases h0 : w0 = supW
            case neg =>
              have HF : Hid (lineP l = (2, zeroN)) := by show _ = _; rw [HLP.out, if_pos (.inl h0)]
              have t1 : ((mkB w0).toList == [115, 117, 112, 112, 114, 101, 115, 115]) = false := by rw [hl0]; simpa [supW] using h0
              clear h0 HLP hl0 hl2 hl3 hl4
              go_wp2_with (refine store23 rfl _ _ rfl w.heap.size _ _ _ _ _ rfl rfl _ BR2.out rfl ?_)
              have BRz := BR2.out.setRow #[.int .i64 0, .string ⟨#[]⟩, .string ⟨#[]⟩, .string ⟨#[]⟩, .string ⟨#[]⟩]
              refine bodyPost_ret (v := .tuple #[NtV zeroN, .int .i64 2]) (results_c2 Tryd.results39 _ _ w.heap.size _ _ _ rfl rfl BRz Tryd.underlying23 rfl (by kernel_rfl)) rfl ?_
              exact ⟨below_setRow HB2.out (Nat.le_refl _) _, zeroN, by rw [HF.out], fun h => by rw [HF.out] at h; simp at h⟩
            have t1 : ((mkB w0).toList == [115, 117, 112, 112, 114, 101, 115, 115]) = true := by rw [hl0]; simp [supW] at h0; simp [h0]
            by_cases hneg : kd < 0
            · have HF : Hid (lineP l = (2, zeroN)) := by show _ = _; rw [HLP.out, if_pos (.inr (.inl hneg))]
              have tn : decide (kd < 0) = true := by simp [hneg]
              clear h0 HLP hl0 hl2 hl3 hl4
              go_wp2_with (refine store23 rfl _ _ rfl w.heap.size _ _ _ _ _ rfl rfl _ BR2.out rfl ?_)
              have BRz := BR2.out.setRow #[.int .i64 0, .string ⟨#[]⟩, .string ⟨#[]⟩, .string ⟨#[]⟩, .string ⟨#[]⟩]
              refine bodyPost_ret (v := .tuple #[NtV zeroN, .int .i64 2]) (results_c2 Tryd.results39 _ _ w.heap.size _ _ _ rfl rfl BRz Tryd.underlying23 rfl (by kernel_rfl)) rfl ?_
              exact ⟨below_setRow HB2.out (Nat.le_refl _) _, zeroN, by rw [HF.out], fun h => by rw [HF.out] at h; simp at h⟩
            have tn : decide (kd < 0) = false := by simp; omega
            by_cases h2 : x2 = []
            · have HF : Hid (lineP l = (2, zeroN)) := by show _ = _; rw [HLP.out, if_pos (.inr (.inr (.inl h2)))]
              have a1 : (mkB x2).toList = [] := by rw [hl2, h2]
              have a2 : (mkB x2).toList.isEmpty = true := by simp [a1]
              clear h0 HLP hl0 hl2 hl3 hl4 h2
              go_wp2_with (refine store23 rfl _ _ rfl w.heap.size _ _ _ _ _ rfl rfl _ BR2.out rfl ?_)
              have BRz := BR2.out.setRow #[.int .i64 0, .string ⟨#[]⟩, .string ⟨#[]⟩, .string ⟨#[]⟩, .string ⟨#[]⟩]
              refine bodyPost_ret (v := .tuple #[NtV zeroN, .int .i64 2]) (results_c2 Tryd.results39 _ _ w.heap.size _ _ _ rfl rfl BRz Tryd.underlying23 rfl (by kernel_rfl)) rfl ?_
              exact ⟨below_setRow HB2.out (Nat.le_refl _) _, zeroN, by rw [HF.out], fun h => by rw [HF.out] at h; simp at h⟩
            have a1 : ¬ (mkB x2).toList = [] := by rw [hl2]; exact h2
            have a2 : (mkB x2).toList.isEmpty = false := by simpa using a1
            by_cases h3 : x3 = []
            · have HF : Hid (lineP l = (2, zeroN)) := by show _ = _; rw [HLP.out, if_pos (.inr (.inr (.inr (.inl h3))))]
              have b1 : (mkB x3).toList = [] := by rw [hl3, h3]
              have b2 : (mkB x3).toList.isEmpty = true := by simp [b1]
              clear h0 HLP hl0 hl2 hl3 hl4 h3
              go_wp2_with (refine store23 rfl _ _ rfl w.heap.size _ _ _ _ _ rfl rfl _ BR2.out rfl ?_)
              have BRz := BR2.out.setRow #[.int .i64 0, .string ⟨#[]⟩, .string ⟨#[]⟩, .string ⟨#[]⟩, .string ⟨#[]⟩]
              refine bodyPost_ret (v := .tuple #[NtV zeroN, .int .i64 2]) (results_c2 Tryd.results39 _ _ w.heap.size _ _ _ rfl rfl BRz Tryd.underlying23 rfl (by kernel_rfl)) rfl ?_
              exact ⟨below_setRow HB2.out (Nat.le_refl _) _, zeroN, by rw [HF.out], fun h => by rw [HF.out] at h; simp at h⟩
            have b1 : ¬ (mkB x3).toList = [] := by rw [hl3]; exact h3
            have b2 : (mkB x3).toList.isEmpty = false := by simpa using b1
            by_cases h4 : x4 = []
            · have HF : Hid (lineP l = (2, zeroN)) := by show _ = _; rw [HLP.out, if_pos (.inr (.inr (.inr (.inr h4))))]
              have v1 : (mkB x4).toList = [] := by rw [hl4, h4]
              have v2 : (mkB x4).toList.isEmpty = true := by simp [v1]
              clear h0 HLP hl0 hl2 hl3 hl4 h4
              go_wp2_with (refine store23 rfl _ _ rfl w.heap.size _ _ _ _ _ rfl rfl _ BR2.out rfl ?_)
              have BRz := BR2.out.setRow #[.int .i64 0, .string ⟨#[]⟩, .string ⟨#[]⟩, .string ⟨#[]⟩, .string ⟨#[]⟩]
              refine bodyPost_ret (v := .tuple #[NtV zeroN, .int .i64 2]) (results_c2 Tryd.results39 _ _ w.heap.size _ _ _ rfl rfl BRz Tryd.underlying23 rfl (by kernel_rfl)) rfl ?_
              exact ⟨below_setRow HB2.out (Nat.le_refl _) _, zeroN, by rw [HF.out], fun h => by rw [HF.out] at h; simp at h⟩
            have v1 : ¬ (mkB x4).toList = [] := by rw [hl4]; exact h4
            have v2 : (mkB x4).toList.isEmpty = false := by simpa using v1
            have HF : Hid (lineP l = (noteE nt, nt)) := by
              show _ = _
              rw [HLP.out, if_neg]
              rintro (h | h | h | h | h)
              · exact h h0
              · exact hneg h
              · exact h2 h
              · exact h3 h
              · exact h4 h
            clear HLP hl0 hl2 hl3 hl4 h0 hneg h2 h3 h4
            go_wp2
            have d0 : ({ wr with drawn := wr.drawn + 1 } : World).cell? ⟨wo.heap.size, 0, none⟩ = some (.int .i64 nt.kind) := BNT.out.cell 0 (by simp)
            have d1 : ({ wr with drawn := wr.drawn + 1 } : World).cell? ⟨wo.heap.size, 1, none⟩ = some (.string nt.cls) := BNT.out.cell 1 (by simp)
            have d2 : ({ wr with drawn := wr.drawn + 1 } : World).cell? ⟨wo.heap.size, 2, none⟩ = some (.string nt.meth) := BNT.out.cell 2 (by simp)
            have d3 : ({ wr with drawn := wr.drawn + 1 } : World).cell? ⟨wo.heap.size, 3, none⟩ = some (.string nt.what) := BNT.out.cell 3 (by simp)
            have d4 : ({ wr with drawn := wr.drawn + 1 } : World).cell? ⟨wo.heap.size, 4, none⟩ = some (.string nt.reason) := BNT.out.cell 4 (by simp)
            have hne : Nonempty (WC5 ⟨wo.heap.size, 0, none⟩ ⟨wo.heap.size, 1, none⟩ ⟨wo.heap.size, 2, none⟩ ⟨wo.heap.size, 3, none⟩ ⟨wo.heap.size, 4, none⟩ (.int .i64 nt.kind) (.string nt.cls) (.string nt.meth) (.string nt.what) (.string nt.reason)) := ⟨⟨_, d0, d1, d2, d3, d4⟩⟩
            have k0 : ∀ q : WC5 ⟨wo.heap.size, 0, none⟩ ⟨wo.heap.size, 1, none⟩ ⟨wo.heap.size, 2, none⟩ ⟨wo.heap.size, 3, none⟩ ⟨wo.heap.size, 4, none⟩ (.int .i64 nt.kind) (.string nt.cls) (.string nt.meth) (.string nt.what) (.string nt.reason), q.u.cell? ⟨wo.heap.size, 0, none⟩ = some (.int .i64 nt.kind) := fun q => q.h0
            have k1 : ∀ q : WC5 ⟨wo.heap.size, 0, none⟩ ⟨wo.heap.size, 1, none⟩ ⟨wo.heap.size, 2, none⟩ ⟨wo.heap.size, 3, none⟩ ⟨wo.heap.size, 4, none⟩ (.int .i64 nt.kind) (.string nt.cls) (.string nt.meth) (.string nt.what) (.string nt.reason), q.u.cell? ⟨wo.heap.size, 1, none⟩ = some (.string nt.cls) := fun q => q.h1
            have k2 : ∀ q : WC5 ⟨wo.heap.size, 0, none⟩ ⟨wo.heap.size, 1, none⟩ ⟨wo.heap.size, 2, none⟩ ⟨wo.heap.size, 3, none⟩ ⟨wo.heap.size, 4, none⟩ (.int .i64 nt.kind) (.string nt.cls) (.string nt.meth) (.string nt.what) (.string nt.reason), q.u.cell? ⟨wo.heap.size, 2, none⟩ = some (.string nt.meth) := fun q => q.h2
            have k3 : ∀ q : WC5 ⟨wo.heap.size, 0, none⟩ ⟨wo.heap.size, 1, none⟩ ⟨wo.heap.size, 2, none⟩ ⟨wo.heap.size, 3, none⟩ ⟨wo.heap.size, 4, none⟩ (.int .i64 nt.kind) (.string nt.cls) (.string nt.meth) (.string nt.what) (.string nt.reason), q.u.cell? ⟨wo.heap.size, 3, none⟩ = some (.string nt.what) := fun q => q.h3
            have k4 : ∀ q : WC5 ⟨wo.heap.size, 0, none⟩ ⟨wo.heap.size, 1, none⟩ ⟨wo.heap.size, 2, none⟩ ⟨wo.heap.size, 3, none⟩ ⟨wo.heap.size, 4, none⟩ (.int .i64 nt.kind) (.string nt.cls) (.string nt.meth) (.string nt.what) (.string nt.reason), q.u.cell? ⟨wo.heap.size, 4, none⟩ = some (.string nt.reason) := fun q => q.h4
            refine wp_region_Y (fun w' => ∃ q : WC5 ⟨wo.heap.size, 0, none⟩ ⟨wo.heap.size, 1, none⟩ ⟨wo.heap.size, 2, none⟩ ⟨wo.heap.size, 3, none⟩ ⟨wo.heap.size, 4, none⟩ (.int .i64 nt.kind) (.string nt.cls) (.string nt.meth) (.string nt.what) (.string nt.reason), w' = q.u) (by kernel_rfl) ?_
            refine wpAnyY_take 0 rfl (by kernel_rfl) (fun _ _ _ _ h => h) ⟨⟨_, d0, d1, d2, d3, d4⟩, rfl⟩ (fun K hK => ?_)
            go_simp
            refine hK _ ?_
            clear hK K
            refine wpAnyY_take 1 rfl (by kernel_rfl) (fun _ _ _ _ h => h) ⟨⟨_, d0, d1, d2, d3, d4⟩, rfl⟩ (fun K hK => ?_)
            go_simp
            refine hK _ ?_
            clear hK K
            refine wpAnyY_one 2 rfl (by kernel_rfl) ?_
            go_wp2_with fail
            refine (check9 nt _ hwh).mono ?_
            rintro e w9 ⟨rfl, hb9⟩
            have hb9' : Below wr.heap.size wr w9 := (Below.refl _ _).drew.trans hb9
            have BR9 := Lib.hid (BR2.out.below hb9')
            have HB9 := Lib.hid (HB2.out.trans (hb9'.mono HB2.out.size))
            have m0 := cell_below hb9 d0
            have m1 := cell_below hb9 d1
            have m2 := cell_below hb9 d2
            have m3 := cell_below hb9 d3
            have m4 := cell_below hb9 d4
            clear hb9 hb9'
            go_wp2
            refine ⟨⟨⟨_, m0, m1, m2, m3, m4⟩, rfl⟩, ?_⟩
            have BRz := BR9.out.setRow #[.int .i64 nt.kind, .string nt.cls, .string nt.meth, .string nt.what, .string nt.reason]
            have hz : ∀ i (u : Value), w9.cell? ⟨wo.heap.size, i, none⟩ = some u → (w9.setRow w.heap.size #[.int .i64 nt.kind, .string nt.cls, .string nt.meth, .string nt.what, .string nt.reason]).cell? ⟨wo.heap.size, i, none⟩ = some u := fun i u h => by
              rw [cell_setRow_other _ _ _ _ (show wo.heap.size ≠ w.heap.size by omega)]; exact h
            have HZ := Lib.hid hz; clear hz
            refine wpAnyY_one 3 rfl (by kernel_rfl) ?_
            simp only [List.getElem_toArray, List.getElem_cons_succ, List.getElem_cons_zero]
            refine store23 rfl _ _ rfl w.heap.size _ _ _ _ _ rfl rfl _ BR9.out rfl ?_
            refine wpList_hide (fun K hK => ?_)
            go_simp
            refine hK _ _ ?_
            clear hK K
            refine ⟨⟨⟨_, HZ.out _ _ m0, HZ.out _ _ m1, HZ.out _ _ m2, HZ.out _ _ m3, HZ.out _ _ m4⟩, rfl⟩, ?_⟩
            refine wpAnyY_one 4 rfl (by kernel_rfl) ?_
            go_wp2
            refine ⟨⟨⟨_, HZ.out _ _ m0, HZ.out _ _ m1, HZ.out _ _ m2, HZ.out _ _ m3, HZ.out _ _ m4⟩, rfl⟩, ?_⟩
            refine wpAnyY_done (by kernel_rfl) ?_ _
            clear hne k0 k1 k2 k3 k4 d0 d1 d2 d3 d4 m0 m1 m2 m3 m4
            go_wp2
            refine bodyPost_ret (v := .tuple #[NtV nt, .int .i64 (noteE nt)]) (results_c2 Tryd.results39 _ _ w.heap.size _ _ _ rfl rfl BRz Tryd.underlying23 rfl (by kernel_rfl)) rfl ?_
            exact ⟨below_setRow HB9.out (Nat.le_refl _) _, nt, by rw [HF.out], fun _ => by rw [HF.out]⟩
end Go.Proofs.YtpgmjfnjdgdmcaaDoor
