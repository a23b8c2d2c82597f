import Derived.Test.YtpgmjfnjdgdmcaaDoorP11
namespace Go.Proofs.YtpgmjfnjdgdmcaaDoor
open Go.RowKit Go.Sort

set_option maxRecDepth 100000 in
set_option maxHeartbeats 1000000 in
theorem code_form (ad : Addr) (w : World) (hE : w.cell? ⟨0, 0, none⟩ = some (.iface 134 (.pointer (some ad)))) : Calls Tryd.prog 38 #[.iface 134 (.pointer (some ad))] w (Ret w (.int .i64 2)) := by
  go_enter Tryd.func38, Tryd.ntmps38
  go_wp2_with fail
  refine (is_same ad _).mono ?_
  rintro e w' ⟨rfl, rfl⟩
  go_wp2
  go_ret
  exact ⟨rfl, Below.refl _ _⟩
set_option maxRecDepth 100000 in
set_option maxHeartbeats 1000000 in
theorem code_12 (ad : Addr) (w : World) (hE : w.cell? ⟨0, 0, none⟩ = some (.iface 134 (.pointer (some ad)))) : Calls Tryd.prog 38 #[.iface 29 (.int .i64 12)] w (Ret w (.int .i64 12)) := by
  go_enter Tryd.func38, Tryd.ntmps38
  go_wp2_with fail
  refine (is_code ad 12 _).mono ?_
  rintro e w' ⟨rfl, rfl⟩
  go_wp2
  refine wp_loop_rounds 1 ?_
  rw [rounds_succ]
  go_wp2_with fail
  refine (is_codes 12 12 _).mono ?_
  rintro e w' ⟨rfl, rfl⟩
  go_wp2
  go_ret
  exact ⟨rfl, (Below.refl _ _).alloc (Nat.le_refl _) _⟩
set_option maxRecDepth 100000 in
set_option maxHeartbeats 1000000 in
theorem code_5 (ad : Addr) (w : World) (hE : w.cell? ⟨0, 0, none⟩ = some (.iface 134 (.pointer (some ad)))) : Calls Tryd.prog 38 #[.iface 29 (.int .i64 5)] w (Ret w (.int .i64 5)) := by
  go_enter Tryd.func38, Tryd.ntmps38
  go_wp2_with fail
  refine (is_code ad 5 _).mono ?_
  rintro e w' ⟨rfl, rfl⟩
  go_wp2
  refine wp_loop_rounds 2 ?_
  rw [rounds_succ]
  go_wp2_with fail
  refine (is_codes 5 12 _).mono ?_
  rintro e w' ⟨rfl, rfl⟩
  go_wp2
  rw [rounds_succ]
  go_wp2_with fail
  refine (is_codes 5 5 _).mono ?_
  rintro e w' ⟨rfl, rfl⟩
  go_wp2
  go_ret
  exact ⟨rfl, (Below.refl _ _).alloc (Nat.le_refl _) _⟩
set_option maxRecDepth 100000 in
set_option maxHeartbeats 1000000 in
theorem code_23 (ad : Addr) (w : World) (hE : w.cell? ⟨0, 0, none⟩ = some (.iface 134 (.pointer (some ad)))) : Calls Tryd.prog 38 #[.iface 29 (.int .i64 23)] w (Ret w (.int .i64 23)) := by
  go_enter Tryd.func38, Tryd.ntmps38
  go_wp2_with fail
  refine (is_code ad 23 _).mono ?_
  rintro e w' ⟨rfl, rfl⟩
  go_wp2
  refine wp_loop_rounds 3 ?_
  rw [rounds_succ]
  go_wp2_with fail
  refine (is_codes 23 12 _).mono ?_
  rintro e w' ⟨rfl, rfl⟩
  go_wp2
  rw [rounds_succ]
  go_wp2_with fail
  refine (is_codes 23 5 _).mono ?_
  rintro e w' ⟨rfl, rfl⟩
  go_wp2
  rw [rounds_succ]
  go_wp2_with fail
  refine (is_codes 23 23 _).mono ?_
  rintro e w' ⟨rfl, rfl⟩
  go_wp2
  go_ret
  exact ⟨rfl, (Below.refl _ _).alloc (Nat.le_refl _) _⟩
theorem note_codes (n : Nt) (h : noteE n ≠ 0) : noteE n = 12 ∨ noteE n = 5 ∨ noteE n = 23 := by
  unfold noteE at h ⊢
  repeat' split
  all_goals simp_all
theorem line_codes (l : List UInt8) (h : (lineP l).1 ≠ 0) : (lineP l).1 = 2 ∨ (lineP l).1 = 12 ∨ (lineP l).1 = 5 ∨ (lineP l).1 = 23 := by
  unfold lineP at h ⊢
  split
  · split
    · exact .inl rfl
    · rename_i h1 h2
      rw [h1] at h
      simp only [if_neg h2] at h
      exact .inr (note_codes _ h)
  · exact .inl rfl
theorem codeOf38 (ad : Addr) (l : List UInt8) (w : World) (hE : w.cell? ⟨0, 0, none⟩ = some (.iface 134 (.pointer (some ad)))) (h : (lineP l).1 ≠ 0) : Calls Tryd.prog 38 #[errV (.iface 134 (.pointer (some ad))) (lineP l).1] w (Ret w (.int .i64 (lineP l).1)) := by
  rcases line_codes l h with e | e | e | e
  all_goals rw [e]
  · exact code_form ad w hE
  · exact code_12 ad w hE
  · exact code_5 ad w hE
  · exact code_23 ad w hE
theorem errV_nil {EF : Value} {c : Int} (h : c = 0) : errV EF c = .nilIface := by unfold errV; rw [if_pos h]
theorem errV_some {ad : Addr} {c : Int} (h : c ≠ 0) : ∃ t v, errV (.iface 134 (.pointer (some ad))) c = .iface t v := by
  unfold errV; rw [if_neg h]
  split
  · exact ⟨_, _, rfl⟩
  · exact ⟨_, _, rfl⟩
end Go.Proofs.YtpgmjfnjdgdmcaaDoor
