import Derived.Test.YtlkafolgbkobpaaDoorA19
namespace Go.Proofs.YtlkafolgbkobpaaDoor
open Go.RowKit Go.Sort

def formB (ws : List ByteArray) (f : ByteArray) (n : Int) : Bool := decide ((wd ws 0).toList = f.toList) && (if 0 < n then decide ((ws.length : Int) = n) else decide (2 ≤ ws.length)) && decide (idx ws ⟨#[]⟩ < 0)
theorem wd_cell {w : World} {a : Option Addr} {ws : List ByteArray} (h : StrsAt w a ws) (k : Nat) (hk : k < ws.length) : ∃ b off, a = some ⟨b, off, none⟩ ∧ w.cell? ⟨b, off + k, none⟩ = some (.string (wd ws k)) := by
  obtain ⟨b, off, ha, hc⟩ := h k hk
  refine ⟨b, off, ha, ?_⟩
  simp only [wd, List.getD_eq_getElem?_getD, List.getElem?_eq_getElem hk, Option.getD_some]
  exact hc

set_option maxRecDepth 100000 in
set_option maxHeartbeats 1000000 in
theorem form38 (a : Option Addr) (cap : Nat) (ws : List ByteArray) (f : ByteArray) (n : Int) (w : World) (hn : 0 ≤ n) (h0 : 0 < ws.length) (hl : ws.length ≤ 100000) (hs : StrsAt w a ws) :
    Calls Tryd.prog 38 #[.slice a ws.length cap, .string f, .int .i64 n] w (Same w (.bool (formB ws f n))) := by
  obtain ⟨b, off, rfl, m1⟩ := wd_cell hs 0 h0
  rw [Nat.add_zero] at m1
  have HS := Lib.hid hs; clear hs
  have HF : Hid (formB ws f n = (decide ((wd ws 0).toList = f.toList) && (if 0 < n then decide ((ws.length : Int) = n) else decide (2 ≤ ws.length)) && decide (idx ws ⟨#[]⟩ < 0))) := rfl
  generalize formB ws f n = R at *
  generalize wd ws 0 = x at *
  by_cases h1 : x.toList = f.toList
  · rw [decide_eq_true h1] at HF
    have e1 : (x.toList == f.toList) = true := by simp [h1]
    have e1' : (x.toList != f.toList) = false := by simp [h1]
    clear h1
    by_cases h2 : 0 < n
    · rw [if_pos h2] at HF
      have z : (n == 0) = false := by simp; omega
      by_cases h3 : (ws.length : Int) = n
      · have z2 : ((ws.length : Int) != n) = false := by simp [h3]
        rw [decide_eq_true h3] at HF
        have H3 := Lib.hid h3; clear h3
        go_enter Tryd.func38, Tryd.ntmps38
        go_wp2_with (go_at_call 29; refine (at29 _ cap ws _ _ (by omega) HS.out).mono ?_; rintro e w' ⟨rfl, rfl⟩)
        go_ret
        exact ⟨by rw [HF.out]; rfl, rfl⟩
      · have z2 : ((ws.length : Int) != n) = true := by simpa using h3
        rw [decide_eq_false h3] at HF
        have H3 := Lib.hid h3; clear h3
        go_enter Tryd.func38, Tryd.ntmps38
        go_wp2
        go_ret
        exact ⟨by rw [HF.out]; rfl, rfl⟩
    · rw [if_neg h2] at HF
      obtain rfl : n = 0 := by omega
      by_cases h3 : 2 ≤ ws.length
      · rw [decide_eq_true h3] at HF
        have z3 : decide ((ws.length : Int) < 2) = false := by simp; omega
        go_enter Tryd.func38, Tryd.ntmps38
        go_wp2_with (go_at_call 29; refine (at29 _ cap ws _ _ (by omega) HS.out).mono ?_; rintro e w' ⟨rfl, rfl⟩)
        go_ret
        exact ⟨by rw [HF.out]; rfl, rfl⟩
      · rw [decide_eq_false h3] at HF
        have z3 : decide ((ws.length : Int) < 2) = true := by simp; omega
        go_enter Tryd.func38, Tryd.ntmps38
        go_wp2
        go_ret
        exact ⟨by rw [HF.out]; rfl, rfl⟩
  · rw [decide_eq_false h1] at HF
    have e1 : (x.toList == f.toList) = false := by simpa using h1
    have e1' : (x.toList != f.toList) = true := by simpa using h1
    clear h1
    go_enter Tryd.func38, Tryd.ntmps38
    go_wp2
    go_ret
    exact ⟨by rw [HF.out]; rfl, rfl⟩
end Go.Proofs.YtlkafolgbkobpaaDoor
