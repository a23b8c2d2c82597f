import Derived.Test.YtlkafolgbkobpaaDoorA25
import Derived.Laws.EntriesVeiled
namespace Go.Proofs.YtlkafolgbkobpaaDoor
open Go.RowKit Go.Sort

/-- the method that reads the line that is due -/
def rdF (k : Nat) : Nat := if k = 0 then 32 else if k = 1 then 54 else if k = 2 then 64 else if k = 3 then 71 else if k = 4 then 79 else 83
/-- the cells of a reader -/
def rdC (G : Nat) (p : Pr) (a1 : Option Addr) (c1 : Nat) (a2 : Option Addr) (c2 : Nat) (done : Bool) (f : Nat) : Array Value :=
  #[.string p.cls, .slice a1 p.sts.length c1, .int .i64 p.start, .int .i64 p.err, .slice a2 p.mvs.length c2, .bool done, .func (.func f) #[.pointer (some ⟨G, 0, none⟩)] #[]]
structure RInv (G B : Nat) (st : PSt) (a1 : Option Addr) (c1 : Nat) (a2 : Option Addr) (c2 : Nat) (wr : World) : Prop where
  blk : Blk wr G (rdC G st.p a1 c1 a2 c2 (decide (st.k = 5)) (rdF st.k)) 55
  hs : StrsAt wr a1 st.p.sts
  hc1 : st.p.sts.length ≤ c1
  l1 : st.p.sts.length ≤ 65537
  own : wr.ownsRow B 46 3 (.slice a2 st.p.mvs.length c2) st.p.mvs.length (mvCells st.p.mvs)
  n1 : GtB a1 G
  n2 : ∀ b off, a1 = some ⟨b, off, none⟩ → b < B
  kk : st.k ≤ 5
  km : st.k ≤ 1 → a2 = none ∧ c2 = 0 ∧ st.p.mvs = []
  gB : G < B
  bB : B ≤ wr.heap.size
def ReadPost (G : Nat) (st : PSt) (ws : List ByteArray) (w : World) (e : Ending) (w' : World) : Prop :=
  e = .returned (.int .i64 (stepK st ws).1) ∧ Below G w w' ∧ ((stepK st ws).1 = 0 → ∃ B a1 c1 a2 c2, RInv G B (stepK st ws).2 a1 c1 a2 c2 w')

set_option maxRecDepth 100000 in
set_option maxHeartbeats 1000000 in
theorem nothing83 (G : Nat) (p : Pr) (a : Option Addr) (cap : Nat) (ws : List ByteArray) (w : World) :
    Calls Tryd.prog 83 #[.pointer (some ⟨G, 0, none⟩), .slice a ws.length cap] w (ReadPost G ⟨p, 5⟩ ws w) := by
  have HE : Hid ((stepK ⟨p, 5⟩ ws).1 = 2) := rfl
  go_enter Tryd.func83, Tryd.ntmps83
  go_wp2
  go_ret
  exact ⟨by rw [HE.out]; rfl, Below.refl _ _, fun h => by rw [HE.out] at h; simp at h⟩

theorem below_set {G : Nat} {w0 w : World} (h : Below G w0 w) (i : Nat) (v : Value) : Below G w0 (w.setCell ⟨G, i, none⟩ v) := h.setCell (Nat.le_refl _) v
theorem RInv.ownSet {G B : Nat} {w : World} {v : Value} {n : Nat} {xs : List Value} (hgB : G < B) (h : w.ownsRow B 46 3 v n xs) (i : Nat) (u : Value) : (w.setCell ⟨G, i, none⟩ u).ownsRow B 46 3 v n xs :=
  ownsRow_setCell_below h hgB u
theorem set_size (w : World) (a : Addr) (v : Value) : (w.setCell a v).heap.size = w.heap.size := by simp [World.setCell]
set_option maxRecDepth 100000 in
set_option maxHeartbeats 1000000 in
theorem class32 (G : Nat) (p : Pr) (a1 : Option Addr) (c1 : Nat) (a2 : Option Addr) (c2 : Nat) (a : Option Addr) (cap : Nat) (ws : List ByteArray) (w : World) (B : Nat) (h : RInv G B ⟨p, 0⟩ a1 c1 a2 c2 w) (h0 : 0 < ws.length) (hw : StrsAt w a ws) (hl : ws.length ≤ 100000) :
    Calls Tryd.prog 32 #[.pointer (some ⟨G, 0, none⟩), .slice a ws.length cap] w (ReadPost G ⟨p, 0⟩ ws w) := by
  obtain ⟨b, off, rfl, m0⟩ := wd_cell hw 0 h0
  rw [Nat.add_zero] at m0
  have HW := Lib.hid hw; clear hw
  have HR := Lib.hid h; clear h
  have HE : Hid (stepK ⟨p, 0⟩ ws = (if (wd ws 0).toList = [112, 114, 111, 116, 111, 99, 111, 108] ∧ ws.length = 2 then (0, ⟨{ p with cls := wd ws 1 }, 1⟩) else (2, ⟨p, 0⟩))) := rfl
  obtain ⟨x0, hx0⟩ : ∃ x, x = wd ws 0 := ⟨_, rfl⟩
  rw [← hx0] at m0 HE
  clear hx0
  by_cases h1 : x0.toList = [112, 114, 111, 116, 111, 99, 111, 108]
  · have t1 : (x0.toList == [112, 114, 111, 116, 111, 99, 111, 108]) = true := by simp [h1]
    by_cases h2 : ws.length = 2
    · rw [if_pos ⟨h1, h2⟩] at HE
      obtain ⟨b', off', hbo, m1⟩ := wd_cell HW.out 1 (by omega)
      obtain ⟨rfl, rfl⟩ : b = b' ∧ off = off' := by simpa using hbo
      clear hbo
      obtain ⟨x1, hx1⟩ : ∃ x, x = wd ws 1 := ⟨_, rfl⟩
      rw [← hx1] at m1 HE
      clear hx1 h1
      have hl1 : 1 < ws.length := by omega
      have t2 : ((ws.length : Int) != 2) = false := by simp [h2]
      clear h2
      have q0 : w.cell? ⟨G, 0, none⟩ = some (.string p.cls) := HR.out.blk.cell 0 (by simp [rdC])
      have q6 : w.cell? ⟨G, 6, none⟩ = some (.func (.func 32) #[.pointer (some ⟨G, 0, none⟩)] #[]) := HR.out.blk.cell 6 (by simp [rdC])
      have f0 := HR.out.blk.free 0
      have f6 := HR.out.blk.free 6
      go_enter Tryd.func32, Tryd.ntmps32
      go_wp2
      go_ret
      refine ⟨by rw [HE.out]; rfl, below_set (below_set (Below.refl _ _) _ _) _ _, fun _ => ?_⟩
      rw [HE.out]
      refine ⟨B, a1, c1, a2, c2, ⟨(HR.out.blk.set 0 (.string x1)).set 6 (.func (.func 54) #[.pointer (some ⟨G, 0, none⟩)] #[]), (HR.out.hs.setCell (HR.out.n1.nb (Nat.le_refl _))).setCell (HR.out.n1.nb (Nat.le_refl _)), HR.out.hc1, HR.out.l1, RInv.ownSet HR.out.gB (RInv.ownSet HR.out.gB HR.out.own _ _) _ _, HR.out.n1, HR.out.n2, by simp, fun _ => HR.out.km (by simp), HR.out.gB, by rw [set_size, set_size]; exact HR.out.bB⟩⟩
    · rw [if_neg (fun hc => h2 hc.2)] at HE
      have t2 : ((ws.length : Int) != 2) = true := by simp; omega
      clear h1 h2
      go_enter Tryd.func32, Tryd.ntmps32
      go_wp2
      go_ret
      exact ⟨by rw [HE.out]; rfl, Below.refl _ _, fun h => by rw [HE.out] at h; simp at h⟩
  · rw [if_neg (fun hc => h1 hc.1)] at HE
    have t1 : (x0.toList == [112, 114, 111, 116, 111, 99, 111, 108]) = false := by simpa using h1
    clear h1
    go_enter Tryd.func32, Tryd.ntmps32
    go_wp2
    go_ret
    exact ⟨by rw [HE.out]; rfl, Below.refl _ _, fun h => by rw [HE.out] at h; simp at h⟩
end Go.Proofs.YtlkafolgbkobpaaDoor
