import Derived.Test.YtlkafolgbkobpaaDoorA23
namespace Go.Proofs.YtlkafolgbkobpaaDoor
open Go.RowKit Go.Sort

def NotB (a : Option Addr) (g : Nat) : Prop := ∀ b off, a = some ⟨b, off, none⟩ → b ≠ g
def GtB (a : Option Addr) (g : Nat) : Prop := ∀ b off, a = some ⟨b, off, none⟩ → g < b
theorem GtB.nb {a : Option Addr} {g r : Nat} (h : GtB a g) (hr : r ≤ g) : NotB a r := fun b off e => by have := h b off e; omega
theorem StrsAt.setCell {w : World} {a : Option Addr} {l : List ByteArray} (h : StrsAt w a l) {g i : Nat} {v : Value} (hne : NotB a g) : StrsAt (w.setCell ⟨g, i, none⟩ v) a l := by
  intro k hk
  obtain ⟨b, off, rfl, h1⟩ := h k hk
  have hb := hne b off rfl
  refine ⟨b, off, rfl, ?_⟩
  rw [World.cell?_setCell_other w _ _ v (fun e => by injection e with e1; exact hb e1.symm)]; exact h1
theorem MvsAt.setCell' {w : World} {a : Option Addr} {l : List Mv} (h : MvsAt w a l) {g i : Nat} {v : Value} (hne : NotB a g) : MvsAt (w.setCell ⟨g, i, none⟩ v) a l := by
  intro k hk
  obtain ⟨b, off, rfl, h1, h2, h3⟩ := h k hk
  have hb := hne b off rfl
  have e : ∀ o, (w.setCell ⟨g, i, none⟩ v).cell? ⟨b, o, none⟩ = w.cell? ⟨b, o, none⟩ := fun o => World.cell?_setCell_other w _ _ v (fun e => by injection e with e1; exact hb e1.symm)
  exact ⟨b, off, rfl, by rw [e]; exact h1, by rw [e]; exact h2, by rw [e]; exact h3⟩
/-- the cells of a protocol -/
def prC (p : Pr) (a1 : Option Addr) (c1 : Nat) (a2 : Option Addr) (c2 : Nat) : Array Value := #[.string p.cls, .slice a1 p.sts.length c1, .int .i64 p.start, .int .i64 p.err, .slice a2 p.mvs.length c2]
def ParsePost (s : ByteArray) (w : World) (e : Ending) (w' : World) : Prop := Below w.heap.size w w' ∧ match parseT s with
  | .bad line er => e = .returned (.tuple #[PrV st0.p none 0 none 0, .int .i64 line, .int .i64 er])
  | .good p => ∃ a1 c1 a2 c2, e = .returned (.tuple #[PrV p a1 c1 a2 c2, .int .i64 0, .int .i64 0]) ∧ PIn w' p a1 c1 a2
/-- what is known between two lines -/
structure LInv (s : ByteArray) (o : List (List UInt8)) (y : List UInt8) (G : Nat) (st : PSt) (i : Nat) (a1 : Option Addr) (c1 : Nat) (a2 : Option Addr) (c2 : Nat) (wr : World) : Prop where
  hg : parseT s = goP st (i + 1) (o.drop i ++ [y])
  blk : Blk wr G (prC st.p a1 c1 a2 c2) 25
  hs : StrsAt wr a1 st.p.sts
  hm : MvsAt wr a2 st.p.mvs
  hc1 : st.p.sts.length ≤ c1
  l1 : st.p.sts.length ≤ 65537
  l2 : st.p.mvs.length ≤ i
  n2 : a2 = none → c2 = 0
  n1 : GtB a1 G
  n3 : GtB a2 G
theorem LInv.below {s : ByteArray} {o : List (List UInt8)} {y : List UInt8} {G : Nat} {st : PSt} {i : Nat} {a1 : Option Addr} {c1 : Nat} {a2 : Option Addr} {c2 : Nat} {w w' : World} (h : LInv s o y G st i a1 c1 a2 c2 w) (hb : Below w.heap.size w w') : LInv s o y G st i a1 c1 a2 c2 w' :=
  ⟨h.hg, h.blk.below hb, h.hs.below hb, h.hm.below hb, h.hc1, h.l1, h.l2, h.n2, h.n1, h.n3⟩
theorem go_step {st : PSt} {n i : Nat} {o : List (List UInt8)} {y : List UInt8} (h : i < o.length) : goP st n (o.drop i ++ [y]) = if (stepLn st (wordsB o[i])).1 = 0 then goP (stepLn st (wordsB o[i])).2 (n + 1) (o.drop (i + 1) ++ [y]) else .bad n (stepLn st (wordsB o[i])).1 := by
  rw [List.drop_eq_getElem_cons h, List.cons_append]
  cases hr : o.drop (i + 1) ++ [y] with
  | nil => simp at hr
  | cons a r => rfl
theorem go_end {st : PSt} {n i : Nat} {o : List (List UInt8)} {y : List UInt8} (h : ¬ i < o.length) : goP st n (o.drop i ++ [y]) = finP st n y := by
  rw [List.drop_of_length_le (by omega)]; rfl
theorem step5 {p : Pr} {ws : List ByteArray} : (stepLn ⟨p, 5⟩ ws).1 = 2 := by
  unfold stepLn; split; · rfl
  unfold stepK; simp
def nm5 : ByteArray := ⟨#[101, 110, 100]⟩
theorem nm5_l : nm5.toList = [101, 110, 100] := by rw [ByteArray.toList_eq]; rfl
theorem s4_end {p : Pr} {ws : List ByteArray} (h : formB ws nm5 1 = true) : stepLn ⟨p, 4⟩ ws = (0, ⟨p, 5⟩) := by
  obtain ⟨h1, h2, h3⟩ := (form_iff (n := 1)).1 h
  rw [nm5_l] at h1
  simp only [if_pos (show 0 < 1 by omega)] at h2
  unfold stepLn; rw [if_neg h3]; unfold stepK
  rw [if_neg (by simp), if_neg (by simp), if_neg (by simp), if_neg (by simp), if_pos rfl, if_pos ⟨h1, h2⟩]
theorem s4_move {p : Pr} {ws : List ByteArray} (h : formB ws nm5 1 = false) : (stepLn ⟨p, 4⟩ ws).1 = (moveE p ws).1 ∧ ((moveE p ws).1 = 0 → (stepLn ⟨p, 4⟩ ws).2 = ⟨(moveE p ws).2, 4⟩) := by
  unfold stepLn
  split
  · rename_i h0
    have : formB ws nm4 4 = false := by
      cases hf : formB ws nm4 4 with
      | false => rfl
      | true => exact absurd h0 ((form_iff (n := 4)).1 hf).2.2
    unfold moveE
    rw [this]; simp
  · rename_i h0
    unfold stepK
    rw [if_neg (by simp), if_neg (by simp), if_neg (by simp), if_neg (by simp), if_pos rfl]
    have hne : ¬ ((wd ws 0).toList = [101, 110, 100] ∧ ws.length = 1) := fun hc => by
      have : formB ws nm5 1 = true := (form_iff (n := 1)).2 ⟨by rw [nm5_l]; exact hc.1, by simp [hc.2], h0⟩
      rw [h] at this; cases this
    rw [if_neg hne]
    unfold moveE
    by_cases hc : (wd ws 0).toList = [109, 111, 118, 101] ∧ ws.length = 4
    · have hf : formB ws nm4 4 = true := (form_iff (n := 4)).2 ⟨by rw [nm4_l]; exact hc.1, by simp [hc.2], h0⟩
      rw [if_pos hc, if_pos hf]
      simp only
      split <;> simp
    · have hf : ¬ formB ws nm4 4 = true := fun hf => by
        have := (form_iff (n := 4)).1 hf
        rw [nm4_l] at this
        exact hc ⟨this.1, by simpa using this.2.1⟩
      rw [if_neg hc, if_neg hf]
      simp
end Go.Proofs.YtlkafolgbkobpaaDoor
