import Derived.Test.YtpgmjfnjdgdmcaaDoorP12
namespace Go.Proofs.YtpgmjfnjdgdmcaaDoor
open Go.RowKit Go.Sort

/-- suppressions at an address -/
def NtsAt (w : World) (a : Option Addr) (l : List Nt) : Prop :=
  ∀ k (h : k < l.length), ∃ b off, a = some ⟨b, off, none⟩ ∧ w.cell? ⟨b, off + k * 5, none⟩ = some (.int .i64 l[k].kind) ∧ w.cell? ⟨b, off + k * 5 + 1, none⟩ = some (.string l[k].cls) ∧ w.cell? ⟨b, off + k * 5 + 2, none⟩ = some (.string l[k].meth) ∧ w.cell? ⟨b, off + k * 5 + 3, none⟩ = some (.string l[k].what) ∧ w.cell? ⟨b, off + k * 5 + 4, none⟩ = some (.string l[k].reason)
theorem NtsAt.below {w w' : World} {a : Option Addr} {l : List Nt} (h : NtsAt w a l) (hb : Below w.heap.size w w') : NtsAt w' a l := by
  intro k hk
  obtain ⟨b, off, ha, h0, h1, h2, h3, h4⟩ := h k hk
  exact ⟨b, off, ha, cell_below hb h0, cell_below hb h1, cell_below hb h2, cell_below hb h3, cell_below hb h4⟩
def ntC (n : Nt) : List Value := [.int .i64 n.kind, .string n.cls, .string n.meth, .string n.what, .string n.reason]
def ntCells (l : List Nt) : List Value := (l.map ntC).flatten
theorem ntCells_len (l : List Nt) : (ntCells l).length = l.length * 5 := by
  induction l with
  | nil => rfl
  | cons m l ih => simp only [ntCells, List.map_cons, List.flatten_cons, List.length_append, List.length_cons] at ih ⊢; rw [ih]; simp [ntC]; omega
theorem ntCells_get : ∀ (l : List Nt) (k : Nat) (h : k < l.length) (i : Nat), i < 5 → (ntCells l)[k * 5 + i]? = (ntC l[k])[i]?
  | m :: l, 0, _, i, hi => by
    simp only [ntCells, List.map_cons, List.flatten_cons, Nat.zero_mul, Nat.zero_add, List.getElem_cons_zero]
    rw [List.getElem?_append_left (by simp [ntC]; omega)]
  | m :: l, k + 1, h, i, hi => by
    have ih := ntCells_get l k (by simpa using h) i hi
    simp only [ntCells, List.map_cons, List.flatten_cons, List.getElem_cons_succ] at ih ⊢
    rw [List.getElem?_append_right (by simp [ntC]; omega), ← ih]
    congr 1
    simp [ntC]; omega
theorem ntCells_append (l r : List Nt) : ntCells (l ++ r) = ntCells l ++ ntCells r := by simp [ntCells]
theorem addr_add (b off k : Nat) : (⟨b, off, none⟩ : Addr).add k = ⟨b, off + k, none⟩ := by unfold Addr.add; split <;> simp_all
theorem owns_nts {w : World} {base : Nat} {e : TypeId} {v : Value} {l : List Nt} {n : Nat} (h : w.ownsRow base e 5 v n (ntCells l)) : n = l.length ∧ ∃ a cap, v = .slice a n cap ∧ NtsAt w a l := by
  have hl : n = l.length := by have := h.1; rw [ntCells_len] at this; omega
  refine ⟨hl, ?_⟩
  rcases h.2 with ⟨rfl, h0⟩ | ⟨g, cap, cur, rfl, hb, hh, hn, _, hsz, ht⟩
  · exact ⟨none, 0, by rw [h0], fun k hk => by omega⟩
  · refine ⟨_, _, rfl, fun k hk => ⟨g, 0, rfl, ?_⟩⟩
    have c := fun i hi u hu => h.cells (g := g) rfl (k * 5 + i) u (by rw [ntCells_get l k hk i hi]; exact hu)
    have c0 := c 0 (by omega) (.int .i64 l[k].kind) rfl
    have c1 := c 1 (by omega) (.string l[k].cls) rfl
    have c2 := c 2 (by omega) (.string l[k].meth) rfl
    have c3 := c 3 (by omega) (.string l[k].what) rfl
    have c4 := c 4 (by omega) (.string l[k].reason) rfl
    rw [addr_add] at c0 c1 c2 c3 c4
    exact ⟨by simpa using c0, by simpa [Nat.add_assoc] using c1, by simpa [Nat.add_assoc] using c2, by simpa [Nat.add_assoc] using c3, by simpa [Nat.add_assoc] using c4⟩
theorem ntC_one (n : Nt) : ∀ u ∈ ntC n, u.oneCell' = true := by
  intro u hu
  simp only [ntC, List.mem_cons, List.not_mem_nil, or_false] at hu
  rcases hu with rfl | rfl | rfl | rfl | rfl <;> rfl
theorem info23 : (Tryd.prog.info? 23).map (fun i => (i.zero, i.size, i.bytes)) = some (some (.agg #[.int .i64 0, .string ⟨#[]⟩, .string ⟨#[]⟩, .string ⟨#[]⟩, .string ⟨#[]⟩]), 5, 72) := by kernel_rfl
/-- append of one suppression, which lies in a block of its own, to a row of one's own -/
theorem app_nt {ops : Array Oper} {rest : List Oper} {o : Oper} {a : Act} {Q : Exit → Act → World → Prop} {w : World} (hgd : o.guard = none) (s x : Operand)
    (ho : o.op = .call { callee := .builtin .append, args := #[s, x], argTypes := #[33, 33] })
    (base : Nat) (v : Value) (l : List Nt) (hs : a.eval s = v) (hown : w.ownsRow base 23 5 v l.length (ntCells l))
    (g : Nat) (nt : Nt) (hx : a.eval x = .slice (some ⟨g, 0, none⟩) 1 1) (hg : Blk w g #[.int .i64 nt.kind, .string nt.cls, .string nt.meth, .string nt.what, .string nt.reason] 23)
    (hn : l.length ≤ 1000000) (hbase : base ≤ w.heap.size)
    (h : ∀ v' w', w'.ownsRow base 23 5 v' (l ++ [nt]).length (ntCells (l ++ [nt])) → w.grownBy w' v.ownBlock → wpList Tryd.prog ops Q rest (a.put o.dst v') w') : wpList Tryd.prog ops Q (o :: rest) a w := by
  obtain ⟨i0, hi, hz0, hz1, hz2⟩ := info_parts info23
  refine wpList_append_own w hgd s x 33 ho base 23 i0 (.agg #[.int .i64 0, .string ⟨#[]⟩, .string ⟨#[]⟩, .string ⟨#[]⟩, .string ⟨#[]⟩]) 5 72 Tryd.underlying33 hi hz0 hz1 hz2 rfl (by decide) v l.length (ntCells l) hs hown ⟨g, 0, none⟩ 1 1 (ntC nt) hx rfl ?_ (ntC_one nt) (by unfold maxLen; omega) (by omega) hbase ?_
  · intro j u hu
    rw [addr_add, Nat.zero_add, cell_of_row _ _ _ _ _ _ hg]
    simpa [ntC] using hu
  · intro v' w' h1 h2 _
    refine h v' w' ?_ h2
    rw [ntCells_append, List.length_append]
    exact h1
def PPost (s : ByteArray) (w : World) (e : Ending) (w' : World) : Prop := Below w.heap.size w w' ∧ match parseN s with
  | .bad line er => e = .returned (.tuple #[.slice none 0 0, .int .i64 line, .int .i64 er])
  | .good l => ∃ a c, e = .returned (.tuple #[.slice a l.length c, .int .i64 0, .int .i64 0]) ∧ NtsAt w' a l
def strLen : Value → Nat | .string s => s.size | _ => 0
theorem goN_step {f : Nat} {l : List Nt} {x : List UInt8} (hx : x ≠ []) (hl : l.length ≠ 200) : goN (f + 1) l x = if (Lib.cut x [10]).2.2 = false then .bad (l.length + 1) 21 else if (lineP (Lib.cut x [10]).1).1 ≠ 0 then .bad (l.length + 1) (lineP (Lib.cut x [10]).1).1 else goN f (l ++ [(lineP (Lib.cut x [10]).1).2]) (Lib.cut x [10]).2.1 := by
  rw [goN, if_neg hx, if_neg hl]
theorem below_drewN' {B : Nat} {a w : World} (h : Below B a w) : ∀ n, Below B a (w.drewN n)
  | 0 => h
  | n + 1 => by
    have := below_drewN' h n
    exact ⟨this.os, this.tape, this.output, this.size, this.block⟩
structure PRel (w : World) (s : ByteArray) (l : List Nt) (x : List UInt8) (v : Value) (wr : World) : Prop where
  hg : ∃ f, x.length < f ∧ parseN s = goN f l x
  hx : x.length ≤ 65536
  hl : l.length ≤ 200
  own : wr.ownsRow w.heap.size 23 5 v l.length (ntCells l)
  hb : Below w.heap.size w wr

set_option maxRecDepth 100000 in
set_option maxHeartbeats 4000000 in
theorem parse15 (ad : Addr) (s : ByteArray) (m : Int) (w : World) (hk : KW w) (hm : w.cell? ⟨2, 0, none⟩ = some (.int .i64 m)) (hE : w.cell? ⟨0, 0, none⟩ = some (.iface 134 (.pointer (some ad)))) : Calls Tryd.prog 15 #[.string s] w (PPost s w) := by
  by_cases hbig : 65536 < s.size
  · have HP : Hid (parseN s = .bad 0 3) := by show _ = _; unfold parseN; rw [if_pos hbig]
    go_enter Tryd.func15, Tryd.ntmps15
    go_wp2
    go_ret3
    exact ⟨Below.refl _ _, by rw [HP.out]; rfl⟩
  have HSM : Hid (mkB s.data.toList = s) := WideShapes.bytes_inj (mkB_data _)
  have HLR0 : Hid (PRel w s [] s.data.toList (.slice none 0 0) w) := by
    refine ⟨⟨s.size + 1, by simp, ?_⟩, by simp; omega, by simp, World.ownsRow_nil _ _ _ _, Below.refl _ _⟩
    unfold parseN; rw [if_neg hbig]
  have HK := Lib.hid hk; clear hk
  have HM := Lib.hid hm; clear hm
  have HE := Lib.hid hE; clear hE
  go_enter Tryd.func15, Tryd.ntmps15
  go_wp2
  go_loopw [0, 5, 6] (fun v0 v5 v6 wr => ∃ x l, v0 = .string (mkB x) ∧ v6 = .int .i64 ((l.length : Int) + 1) ∧ PRel w s l x v5 wr) (fun v0 _ _ _ => strLen v0)
  case atStart => exact ⟨s.data.toList, [], by rw [HSM.out], rfl, HLR0.out⟩
  case round =>
    clear HLR0
    obtain ⟨x, l, rfl, rfl, hrel⟩ := hrel
    obtain ⟨f, hf, hg⟩ := hrel.hg
    have hxl := hrel.hx
    have hll := hrel.hl
    have HREL := Lib.hid hrel; clear hrel
    have HG := Lib.hid hg; clear hg
    have hyl : (mkB x).toList = x := mkB_toList x
    by_cases hx : x = []
    · have e1 : (mkB x).toList = [] := by rw [hyl, hx]
      have e2 : (mkB x).toList.isEmpty = true := by simp [e1]
      have HF : Hid (parseN s = .good l) := by
        show _ = _
        rw [HG.out, hx]
        cases f with
        | zero => rfl
        | succ f => rw [goN, if_pos rfl]
      obtain ⟨_, a, c, hv, hat⟩ := owns_nts HREL.out.own
      have HAT := Lib.hid hat; clear hat
      rw [hv]
      clear hyl hx
      generalize mkB x = Y at *
      go_wp2
      go_ret3
      exact ⟨HREL.out.hb, by rw [HF.out]; exact ⟨a, c, rfl, HAT.out⟩⟩
    have e1 : ¬ (mkB x).toList = [] := by rw [hyl]; exact hx
    have e2 : (mkB x).toList.isEmpty = false := by simpa using e1
    clear hyl
    obtain ⟨f, rfl⟩ : ∃ f', f = f' + 1 := ⟨f - 1, by have := List.length_pos_iff.2 hx; omega⟩
    by_cases h200 : l.length = 200
    · have HF : Hid (parseN s = .bad 201 3) := by
        show _ = _
        rw [HG.out, goN, if_neg hx, if_pos h200]
      have hl200 : (200 : Int) < (l.length : Int) + 1 := by omega
      have HL : Hid ((l.length : Int) + 1 = 201) := by show _ = _; omega
      clear h200
      go_wp2
      go_ret3
      exact ⟨HREL.out.hb, by rw [HF.out]; show Ending.returned (.tuple #[.slice none 0 0, .int .i64 ((l.length : Int) + 1), .int .i64 3]) = _; rw [HL.out]⟩
    rw [goN_step hx h200] at HG
    have hl200 : (l.length : Int) + 1 ≤ 200 := by omega
    have h2w : 2 < w.heap.size := World.block_lt_of_cell? w _ HM.out
    have hmc := HREL.out.hb.cell (p := ⟨2, 0, none⟩) h2w
    rw [HM.out] at hmc
    go_wp2_with fail
    refine (cut36 x m wr (by omega) hmc).mono ?_
    clear hmc
    rintro e w2 ⟨rfl, nd, rfl⟩
    have hb2 : Below wr.heap.size wr (wr.drewN nd) := below_drewN' (Below.refl _ _) nd
    have HB2 := Lib.hid (HREL.out.hb.trans (hb2.mono HREL.out.hb.size))
    have OWN2 := Lib.hid (HREL.out.own.kept ⟨hb2.os, hb2.tape, hb2.output, hb2.size, fun k hk _ => hb2.block k hk⟩ (row := none) (by cases hv : Value.ownBlock _ <;> simp))
    clear hb2
    generalize wr.drewN nd = w2 at *
    rcases cut_eq 10 x with ⟨hc, _⟩ | ⟨y, r, hc, _, hlen⟩
    · rw [hc] at HG ⊢
      have HF : Hid (parseN s = .bad ((l.length : Int) + 1) 21) := by show _ = _; rw [HG.out, if_pos rfl]
      clear hc
      go_wp2
      go_ret3
      exact ⟨HB2.out, by rw [HF.out]; rfl⟩
    · rw [hc] at HG ⊢
      have HG2 : Hid (parseN s = if (lineP y).1 ≠ 0 then .bad ((l.length : Int) + 1) (lineP y).1 else goN f (l ++ [(lineP y).2]) r) := by show _ = _; rw [HG.out, if_neg (by simp)]
      clear hc HG
      have hmc := HB2.out.cell (p := ⟨2, 0, none⟩) h2w
      rw [HM.out] at hmc
      have hec := HB2.out.cell (p := ⟨0, 0, none⟩) (show 0 < w.heap.size by omega)
      rw [HE.out] at hec
      have HEC := Lib.hid hec; clear hec
      go_wp2_with fail
      refine (parseLine37 (.iface 134 (.pointer (some ad))) y m w2 (by omega) (HK.out.below HB2.out) hmc HEC.out).mono ?_
      clear hmc
      rintro e w3 ⟨hb3, rfl⟩
      have HB3 := Lib.hid (HB2.out.trans (hb3.mono HB2.out.size))
      have HEC3 := Lib.hid (cell_below hb3 HEC.out)
      have OWN3 := Lib.hid (OWN2.out.kept ⟨hb3.os, hb3.tape, hb3.output, hb3.size, fun k hk _ => hb3.block k hk⟩ (row := none) (by cases hv : Value.ownBlock _ <;> simp))
      clear hb3 OWN2 HB2 HEC
      by_cases he : (lineP y).1 = 0
      · rw [if_neg (by simp [he])] at HG2
        rw [if_pos he, errV_nil he]
        clear he
        generalize (lineP y).2 = nt at *
        unfold NtV
        obtain ⟨W5, hW5⟩ : ∃ W5, W5 = (w3.alloc (.cells #[.int .i64 nt.kind, .string nt.cls, .string nt.meth, .string nt.what, .string nt.reason] 23)).alloc (.cells #[.int .i64 nt.kind, .string nt.cls, .string nt.meth, .string nt.what, .string nt.reason] 23) := ⟨_, rfl⟩
        have OWN5 : Hid (W5.ownsRow w.heap.size 23 5 u5 l.length (ntCells l)) := by rw [hW5]; exact (OWN3.out.alloc _).alloc _
        have B5 : Hid (Blk W5 (w3.heap.size + 1) #[.int .i64 nt.kind, .string nt.cls, .string nt.meth, .string nt.what, .string nt.reason] 23) := by
          rw [hW5]
          have := blk_new (w3.alloc (.cells #[.int .i64 nt.kind, .string nt.cls, .string nt.meth, .string nt.what, .string nt.reason] 23)) #[.int .i64 nt.kind, .string nt.cls, .string nt.meth, .string nt.what, .string nt.reason] 23
          simp only [World.size_alloc] at this
          exact this
        have HB5 : Hid (Below w.heap.size w W5) := by rw [hW5]; exact (HB3.out.alloc HB3.out.size _).alloc (by have := HB3.out.size; simp; omega) _
        have HW5 := Lib.hid hW5; clear hW5
        go_wp2_with (at_builtin; rw [← HW5.out]; refine app_nt rfl _ _ rfl w.heap.size _ l rfl OWN5.out (w3.heap.size + 1) nt rfl B5.out (by omega) HB5.out.size ?_)
        intro v' w6 hown hgrow
        have HB6 := Lib.hid (HB5.out.grown hgrow HB5.out.size (fun k hk => (OWN5.out.lt k hk).1))
        have HOWN := Lib.hid hown; clear hown hgrow OWN5 B5 HB5 HW5 OWN3 HB3
        go_wp2
        go_roundw
        case rel =>
          refine ⟨r, l ++ [nt], rfl, ?_, ⟨⟨f, by omega, HG2.out⟩, by omega, by simp; omega, by rw [List.length_append]; exact HOWN.out, HB6.out⟩⟩
          show Value.int _ _ = _
          congr 1
          simp
        case measure =>
          simp only [strLen]
          show (mkB r).size < (mkB x).size
          rw [mkB_size, mkB_size]
          omega
      · rw [if_pos he] at HG2
        rw [if_neg he]
        have hcode := codeOf38 ad y (w3.alloc (.cells #[.int .i64 zeroN.kind, .string zeroN.cls, .string zeroN.meth, .string zeroN.what, .string zeroN.reason] 23)) (cell_below ((Below.refl _ _).alloc (Nat.le_refl _) _) HEC3.out) he
        have HC := Lib.hid hcode; clear hcode
        obtain ⟨t, v, htv⟩ := errV_some (ad := ad) he
        rw [htv] at HC ⊢
        unfold NtV
        clear he htv
        generalize (lineP y).1 = er at *
        go_wp2_with fail
        refine HC.out.mono ?_
        rintro e w4 ⟨rfl, hb⟩
        have HB4 := Lib.hid ((HB3.out.alloc HB3.out.size (.cells #[.int .i64 zeroN.kind, .string zeroN.cls, .string zeroN.meth, .string zeroN.what, .string zeroN.reason] 23)).trans (hb.mono (by have := HB3.out.size; simp; omega)))
        clear hb HC
        go_wp2
        go_ret3
        exact ⟨HB4.out, by rw [HG2.out]; rfl⟩
end Go.Proofs.YtpgmjfnjdgdmcaaDoor
