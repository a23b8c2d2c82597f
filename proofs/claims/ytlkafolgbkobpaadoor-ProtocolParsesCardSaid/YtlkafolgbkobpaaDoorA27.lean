import Derived.Test.YtlkafolgbkobpaaDoorA26
namespace Go.Proofs.YtlkafolgbkobpaaDoor
open Go.RowKit Go.Sort

theorem RInv.below {G B : Nat} {st : PSt} {a1 : Option Addr} {c1 : Nat} {a2 : Option Addr} {c2 : Nat} {w w' : World} (h : RInv G B st a1 c1 a2 c2 w) (hb : Below w.heap.size w w') : RInv G B st a1 c1 a2 c2 w' :=
  ⟨h.blk.below hb, h.hs.below hb, h.hc1, h.l1, owns_below h.own hb, h.n1, h.n2, h.kk, h.km, h.gB, Nat.le_trans h.bB hb.size⟩

set_option maxRecDepth 100000 in
set_option maxHeartbeats 1000000 in
theorem states54 (G : Nat) (p : Pr) (a1 : Option Addr) (c1 : Nat) (a2 : Option Addr) (c2 : Nat) (a : Option Addr) (cap : Nat) (ws : List ByteArray) (w : World) (B : Nat) (h : RInv G B ⟨p, 1⟩ a1 c1 a2 c2 w) (h0 : 0 < ws.length) (hw : StrsAt w a ws) (hl : ws.length ≤ 65537) (hcap : ws.length ≤ cap) :
    Calls Tryd.prog 54 #[.pointer (some ⟨G, 0, none⟩), .slice a ws.length cap] w (ReadPost G ⟨p, 1⟩ ws w) := by
  obtain ⟨b, off, rfl, m0⟩ := wd_cell hw 0 h0
  rw [Nat.add_zero] at m0
  have HW := Lib.hid hw; clear hw
  have HR := Lib.hid h; clear h
  have HE : Hid (stepK ⟨p, 1⟩ ws = (if (wd ws 0).toList = [115, 116, 97, 116, 101, 115] ∧ 2 ≤ ws.length then (0, ⟨{ p with sts := ws.drop 1 }, 2⟩) else (2, ⟨p, 1⟩))) := rfl
  obtain ⟨x0, hx0⟩ : ∃ x, x = wd ws 0 := ⟨_, rfl⟩
  rw [← hx0] at m0 HE
  clear hx0
  by_cases h1 : x0.toList = [115, 116, 97, 116, 101, 115]
  · have t1 : (x0.toList == [115, 116, 97, 116, 101, 115]) = true := by simp [h1]
    by_cases h2 : 2 ≤ ws.length
    · rw [if_pos ⟨h1, h2⟩] at HE
      clear h1
      have t2 : decide ((ws.length : Int) < 2) = false := by simp; omega
      have q1 : w.cell? ⟨G, 1, none⟩ = some (.slice a1 p.sts.length c1) := HR.out.blk.cell 1 (by simp [rdC])
      have q6 : w.cell? ⟨G, 6, none⟩ = some (.func (.func 54) #[.pointer (some ⟨G, 0, none⟩)] #[]) := HR.out.blk.cell 6 (by simp [rdC])
      have f1 := HR.out.blk.free 1
      have f6 := HR.out.blk.free 6
      have hG := HR.out.blk.lt
      have hsl : ∀ u : World, (Instr.slice 22 (.slice (some ⟨b, off, none⟩) ws.length cap) (some (.int .i64 1)) none none).run Tryd.prog u = .ok (.slice (some ⟨b, off + 1, none⟩) (ws.length - 1) (cap - 1)) u := slice22l b off ws.length cap (by omega) hcap
      go_enter Tryd.func54, Tryd.ntmps54
      go_wp2_with fail
      refine (Tryd.slices_Clone_string b (off + 1) (ws.length - 1) (cap - 1) (ws.drop 1) _ (by simp) (by omega) ?_).mono ?_
      · intro j hj
        obtain ⟨b', off', e', hc⟩ := HW.out.drop1 j hj
        simp only [Option.some.injEq, Addr.mk.injEq, and_true] at e'
        obtain ⟨rfl, rfl⟩ := e'
        rw [hc]
        simp only [List.getD_eq_getElem?_getD, List.getElem?_eq_getElem hj, Option.getD_some]
      rintro e w1 ⟨v', rfl, hown, _, hb⟩
      rw [List.take_of_length_le (by simp)] at hown
      obtain ⟨hn, av, cv, rfl, hst, hcv⟩ := owns_strs hown
      have HOV : Hid (∀ b off, av = some ⟨b, off, none⟩ → w.heap.size ≤ b) := fun b off e => (hown.lt b (by rw [e]; rfl)).1
      have HOV1 : Hid (∀ b off, av = some ⟨b, off, none⟩ → b < w1.heap.size) := fun b off e => (hown.lt b (by rw [e]; rfl)).2
      have HST := Lib.hid hst; clear hst hown
      have HN := Lib.hid hn; clear hn
      have HR1 := Lib.hid (HR.out.below hb)
      have p1 := cell_below hb q1
      have p6 := cell_below hb q6
      have g1 := HR1.out.blk.free 1
      have g6 := HR1.out.blk.free 6
      have HBG := Lib.hid (hb.mono (Nat.le_of_lt hG))
      have hb' := hb.size
      clear hb
      go_wp2
      go_ret
      refine ⟨by rw [HE.out]; rfl, below_set (below_set HBG.out _ _) _ _, fun _ => ?_⟩
      rw [HE.out]
      have hav : GtB av G := fun b off e => by have := HOV.out b off e; omega
      obtain ⟨ka, kc, km⟩ := HR.out.km (by simp)
      refine ⟨w1.heap.size, av, cv, a2, c2, ⟨?_, (HST.out.setCell (hav.nb (Nat.le_refl _))).setCell (hav.nb (Nat.le_refl _)), ?_, ?_, ?_, hav, ?_, by simp, fun h => by simp at h, by omega, by rw [set_size, set_size]; exact Nat.le_refl _⟩⟩
      · have := (HR1.out.blk.set 1 (.slice av (ws.length - 1) cv)).set 6 (.func (.func 64) #[.pointer (some ⟨G, 0, none⟩)] #[])
        simp only [rdC]
        rw [← HN.out]
        exact this
      · simp only; rw [← HN.out]; exact hcv
      · simp; omega
      · refine RInv.ownSet (by omega) (RInv.ownSet (by omega) ?_ _ _) _ _
        simp only at km
        subst ka kc
        simp only [km]
        exact World.ownsRow_nil _ _ _ _
      · exact HOV1.out
    · rw [if_neg (fun hc => h2 hc.2)] at HE
      have t2 : decide ((ws.length : Int) < 2) = true := by simp; omega
      clear h1 h2
      go_enter Tryd.func54, Tryd.ntmps54
      go_wp2
      go_ret
      exact ⟨by rw [HE.out]; rfl, Below.refl _ _, fun h => by rw [HE.out] at h; simp at h⟩
  · rw [if_neg (fun hc => h1 hc.1)] at HE
    have t1 : (x0.toList == [115, 116, 97, 116, 101, 115]) = false := by simpa using h1
    clear h1
    go_enter Tryd.func54, Tryd.ntmps54
    go_wp2
    go_ret
    exact ⟨by rw [HE.out]; rfl, Below.refl _ _, fun h => by rw [HE.out] at h; simp at h⟩
end Go.Proofs.YtlkafolgbkobpaaDoor
