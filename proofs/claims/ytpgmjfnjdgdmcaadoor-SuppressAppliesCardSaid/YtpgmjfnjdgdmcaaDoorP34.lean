/-
  The law Applies.
-/
import Derived.Test.YtpgmjfnjdgdmcaaDoorP33
namespace Go.Proofs.YtpgmjfnjdgdmcaaDoor
open Go.RowKit Go.Sort

open Classical in
noncomputable def repO (l : List Fd) (notes : List Nt) : List Fd := if appE l notes = 0 then openOf notes l else []
open Classical in
noncomputable def repH (l : List Fd) (notes : List Nt) : List (Fd × Int) := if appE l notes = 0 then hidOf notes l else []
open Classical in
noncomputable def repU (l : List Fd) (notes : List Nt) : List Nat := if appE l notes = 0 then unusedTo notes l notes.length else []
/-- what Apply returns, in one form -/
def RPost (l : List Fd) (notes : List Nt) (w : World) (e : Ending) (w' : World) : Prop := Below w.heap.size w w' ∧
  ∃ ao co ah ch au cu, e = .returned (.tuple #[.agg #[.slice ao (repO l notes).length co, .slice ah (repH l notes).length ch, .slice au (repU l notes).length cu], .int .i64 (appE l notes)]) ∧
     FdsAt w' ao (repO l notes) ∧ HidsAt w' ah (repH l notes) ∧ IntsAt w' au (repU l notes)
theorem APost.rep {l : List Fd} {notes : List Nt} {w w' : World} {e : Ending} (h : APost l notes w e w') : RPost l notes w e w' := by
  obtain ⟨hb, ⟨h0, rfl⟩ | ⟨h0, _, _, ao, co, ah, ch, au, cu, rfl, h1, h2, h3⟩⟩ := h
  · refine ⟨hb, none, 0, none, 0, none, 0, ?_⟩
    have e1 : repO l notes = [] := if_neg h0
    have e2 : repH l notes = [] := if_neg h0
    have e3 : repU l notes = [] := if_neg h0
    rw [e1, e2, e3]
    exact ⟨rfl, fds_nil _ _, fun k hk => absurd hk (by simp), fun k hk => absurd hk (by simp)⟩
  · refine ⟨hb, ao, co, ah, ch, au, cu, ?_⟩
    have e1 : repO l notes = openOf notes l := if_pos h0
    have e2 : repH l notes = hidOf notes l := if_pos h0
    have e3 : repU l notes = unusedTo notes l notes.length := if_pos h0
    rw [e1, e2, e3, h0]
    exact ⟨rfl, h1, h2, h3⟩
theorem repO_mem {l : List Fd} {notes : List Nt} : ∀ f ∈ repO l notes, f ∈ l := by
  intro f hf
  unfold repO at hf
  split at hf
  · exact (List.mem_filter.1 hf).1
  · simp at hf
theorem repH_mem {l : List Fd} {notes : List Nt} : ∀ x ∈ repH l notes, x.1 ∈ l := by
  intro x hx
  unfold repH at hx
  split at hx
  · obtain ⟨f, hf, rfl⟩ := List.mem_map.1 hx
    exact (List.mem_filter.1 hf).1
  · simp at hx
theorem repO_le (l : List Fd) (notes : List Nt) : (repO l notes).length ≤ l.length := by
  unfold repO; split
  · exact openOf_le _ _
  · simp
theorem repH_le (l : List Fd) (notes : List Nt) : (repH l notes).length ≤ l.length := by
  unfold repH; split
  · exact hidOf_le _ _
  · simp
theorem repU_le (l : List Fd) (notes : List Nt) : (repU l notes).length ≤ notes.length := by
  unfold repU; split
  · exact unusedTo_le _ _ _
  · simp
theorem small_le {l : List Fd} {n : Nat} (h : smallB l n = true) : l.length ≤ 3000 ∧ n ≤ 250 ∧ ∀ f ∈ l, f.path.length ≤ 1000000 := by
  simp only [smallB, Bool.and_eq_true, decide_eq_true_eq] at h
  refine ⟨?_, h.2, fun f hf => ?_⟩
  · have : l.length ≤ sizeTo l l.length := by unfold sizeTo; omega
    omega
  · have := path_le hf; omega

set_option maxRecDepth 100000 in
set_option maxHeartbeats 2000000 in
theorem applies6 (l : List Fd) (notes : List Nt) (a : Option Addr) (c : Nat) (b : Option Addr) (d : Nat) (ad : Addr) (m : Int) (w : World) (hk : KW w) (hm : w.cell? ⟨2, 0, none⟩ = some (.int .i64 m)) (hE : w.cell? ⟨0, 0, none⟩ = some (.iface 134 (.pointer (some ad))))
    (hl : FdsAt w a l) (hn : NtsAt w b notes) (hll : l.length ≤ 1000000000000000) (hp : ∀ f ∈ l, f.path.length ≤ 1000000000000000) (hwf : ∀ f ∈ l, f.what.size ≤ 9223372036854775807) (hwn : ∀ n ∈ notes, n.what.size ≤ 9223372036854775807) :
    Calls Tryd.prog 6 #[.slice a l.length c, .slice b notes.length d] w (Ret w (.bool true)) := by
  have HK := Lib.hid hk; clear hk
  have HM := Lib.hid hm; clear hm
  have HE := Lib.hid hE; clear hE
  have HL := Lib.hid hl; clear hl
  have HN := Lib.hid hn; clear hn
  have HP := Lib.hid hp; clear hp
  have HWF := Lib.hid hwf; clear hwf
  have HWN := Lib.hid hwn; clear hwn
  go_enter Tryd.func6, Tryd.ntmps6
  go_wp2_with fail
  refine (size18 l a c b notes.length d _ HL.out hll HP.out).mono ?_
  rintro e w1 ⟨rfl, rfl⟩
  cases hs : smallB l notes.length
  · go_wp2_with fail
    refine (awake12 ad m _ HK.out HM.out HE.out).mono ?_
    rintro e w1 ⟨rfl, hb⟩
    have HB := Lib.hid hb; clear hb
    go_wp2
    go_ret
    exact ⟨rfl, HB.out⟩
  obtain ⟨s1, s2, s3⟩ := small_le hs
  have S3 := Lib.hid s3
  clear s3 hs HP hll
  go_wp2_with fail
  refine (apply19 l notes a c b d _ HK.out HL.out HN.out S3.out (by omega) (by omega)).mono ?_
  rintro e w1 hpost
  obtain ⟨hb1, ao, co, ah, ch, au, cu, rfl, h1, h2, h3⟩ := hpost.rep
  have HB1 := Lib.hid hb1
  have H1 := Lib.hid h1
  have H2 := Lib.hid h2
  have H3 := Lib.hid h3
  clear hpost hb1 h1 h2 h3
  have lO := repO_le l notes
  have lH := repH_le l notes
  have lU := repU_le l notes
  have MO : Hid (∀ f ∈ repO l notes, f.path.length ≤ 1000000) := fun f hf => S3.out f (repO_mem f hf)
  have MH : Hid (∀ x ∈ repH l notes, x.1.path.length ≤ 1000000) := fun x hx => S3.out _ (repH_mem x hx)
  generalize hO : repO l notes = O at *
  generalize hH : repH l notes = H at *
  generalize hU : repU l notes = U at *
  have EO := Lib.hid hO
  have EH := Lib.hid hH
  have EU := Lib.hid hU
  clear hO hH hU
  have hA : Below w1.heap.size w1 (w1.alloc (.cells #[.slice ao O.length co, .slice ah H.length ch, .slice au U.length cu] 46)) := (Below.refl _ _).alloc (Nat.le_refl _) _
  have B2 : Hid (Blk (w1.alloc (.cells #[.slice ao O.length co, .slice ah H.length ch, .slice au U.length cu] 46)) w1.heap.size #[.slice ao O.length co, .slice ah H.length ch, .slice au U.length cu] 46) := blk_new _ _ _
  have HB2 := Lib.hid (HB1.out.trans (hA.mono HB1.out.size))
  have H1' := Lib.hid (H1.out.below hA)
  have H2' := Lib.hid (H2.out.below hA)
  have H3' := Lib.hid (H3.out.below hA)
  clear hA HB1 H1 H2 H3
  go_wp2_with fail
  obtain ⟨g5, hg5⟩ : ∃ g, g = w1.heap.size := ⟨_, rfl⟩
  rw [← hg5] at B2 ⊢
  clear hg5
  generalize w1.alloc (.cells #[.slice ao O.length co, .slice ah H.length ch, .slice au U.length cu] 46) = w2 at *
  refine (apply20 l notes a c b d _ (HL.out.below HB2.out) (HN.out.below HB2.out) HWF.out HWN.out S3.out (by omega) (by omega)).mono ?_
  rintro e w3 hpost
  obtain ⟨hb3, bo, do_, bh, dh, bu, du, rfl, h1, h2, h3⟩ := hpost.rep
  rw [EO.out] at h1 ⊢
  rw [EH.out] at h2 ⊢
  rw [EU.out] at h3 ⊢
  have hA : Below w3.heap.size w3 (w3.alloc (.cells #[.slice bo O.length do_, .slice bh H.length dh, .slice bu U.length du] 46)) := (Below.refl _ _).alloc (Nat.le_refl _) _
  have HB4 := Lib.hid ((HB2.out.trans (hb3.mono HB2.out.size)).trans (hA.mono (HB2.out.trans (hb3.mono HB2.out.size)).size))
  have C4 : Hid (Blk (w3.alloc (.cells #[.slice bo O.length do_, .slice bh H.length dh, .slice bu U.length du] 46)) w3.heap.size #[.slice bo O.length do_, .slice bh H.length dh, .slice bu U.length du] 46) := blk_new _ _ _
  have B4 := Lib.hid ((B2.out.below hb3).below hA)
  have G1 := Lib.hid ((H1'.out.below hb3).below hA)
  have G2 := Lib.hid ((H2'.out.below hb3).below hA)
  have G3 := Lib.hid ((H3'.out.below hb3).below hA)
  have I1 := Lib.hid (h1.below hA)
  have I2 := Lib.hid (h2.below hA)
  have I3 := Lib.hid (h3.below hA)
  clear hpost hb3 h1 h2 h3 hA HB2 B2 H1' H2' H3'
  go_upto_region 5 with (fail)
  obtain ⟨g7, hg7⟩ : ∃ g, g = w3.heap.size := ⟨_, rfl⟩
  rw [← hg7] at C4 ⊢
  clear hg7
  generalize w3.alloc (.cells #[.slice bo O.length do_, .slice bh H.length dh, .slice bu U.length du] 46) = w4 at *
  have e1 := eqi_self (appE l notes)
  have c0 : w4.cell? ⟨g5, 0, none⟩ = some (.slice ao O.length co) := B4.out.cell 0 (by simp)
  have c1 : w4.cell? ⟨g5, 1, none⟩ = some (.slice ah H.length ch) := B4.out.cell 1 (by simp)
  have c2 : w4.cell? ⟨g5, 2, none⟩ = some (.slice au U.length cu) := B4.out.cell 2 (by simp)
  have d0 : w4.cell? ⟨g7, 0, none⟩ = some (.slice bo O.length do_) := C4.out.cell 0 (by simp)
  have d1 : w4.cell? ⟨g7, 1, none⟩ = some (.slice bh H.length dh) := C4.out.cell 1 (by simp)
  have d2 : w4.cell? ⟨g7, 2, none⟩ = some (.slice bu U.length du) := C4.out.cell 2 (by simp)
  go_wp2_with fail
  refine (sameReport21 O H U ao ah au bo bh bu co ch cu do_ dh du _ G1.out G2.out G3.out I1.out I2.out I3.out (by omega) (by omega) (by omega) MO.out MH.out).mono ?_
  rintro e w5 ⟨rfl, hb5⟩
  have HB5 := Lib.hid (HB4.out.trans (hb5.mono HB4.out.size))
  clear hb5 c0 c1 c2 d0 d1 d2
  go_wp2_with fail
  refine (awake12 ad m _ (HK.out.below HB5.out) (cell_below HB5.out HM.out) (cell_below HB5.out HE.out)).mono ?_
  rintro e w6 ⟨rfl, hb⟩
  have HB := Lib.hid (HB5.out.trans (hb.mono HB5.out.size)); clear hb
  go_wp2
  go_ret
  exact ⟨rfl, HB.out⟩
end Go.Proofs.YtpgmjfnjdgdmcaaDoor
