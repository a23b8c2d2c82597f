import Derived.Test.YtpgmjfnjdgdmcaaDoorP13
namespace Go.Proofs.YtpgmjfnjdgdmcaaDoor
open Go.RowKit Go.Sort

def awS : ByteArray := ⟨#[115, 117, 112, 112, 114, 101, 115, 115, 32, 117, 110, 115, 101, 116, 32, 65, 32, 42, 32, 120, 32, 107, 110, 111, 119, 110, 32, 116, 111, 32, 98, 101, 32, 115, 101, 116, 10]⟩
def awL : List UInt8 := [115, 117, 112, 112, 114, 101, 115, 115, 32, 117, 110, 115, 101, 116, 32, 65, 32, 42, 32, 120, 32, 107, 110, 111, 119, 110, 32, 116, 111, 32, 98, 101, 32, 115, 101, 116]
def awN : Nt := ⟨1, ⟨#[65]⟩, ⟨#[]⟩, ⟨#[120]⟩, ⟨#[107, 110, 111, 119, 110, 32, 116, 111, 32, 98, 101, 32, 115, 101, 116]⟩⟩
theorem aw_cut : Lib.cut awS.data.toList [10] = (awL, [], true) := by decide +kernel
theorem aw_five : cutN 5 awL = some ([supW, [117, 110, 115, 101, 116], [65], [42], [120]], [107, 110, 111, 119, 110, 32, 116, 111, 32, 98, 101, 32, 115, 101, 116]) := by decide +kernel
theorem aw_kind : idx kindL (mkB [117, 110, 115, 101, 116]) = 1 := by
  have hl : kindL.length = 5 := rfl
  unfold idx
  rw [idxFrom, dif_pos (by omega), if_neg (by rw [mkB_toList, ByteArray.toList_eq]; simp [kindL]), idxFrom, dif_pos (by omega), if_pos (by rw [mkB_toList, ByteArray.toList_eq]; rfl)]
  rfl
theorem ident_A : identB ⟨#[65]⟩ = true := by
  unfold identB kwB
  simp only [ByteArray.toList_eq]
  decide
theorem aw_note : noteE awN = 0 := by
  unfold noteE nmBad whatBad reasonB
  simp only [awN, ident_A, ByteArray.toList_eq]
  decide
theorem aw_line : lineP awL = (0, awN) := by
  unfold lineP
  rw [aw_five]
  simp only
  rw [aw_kind]
  have u1 : unstar [65] = ⟨#[65]⟩ := rfl
  have u2 : unstar [42] = ⟨#[]⟩ := rfl
  have u3 : unstar [120] = ⟨#[120]⟩ := rfl
  rw [u1, u2, u3]
  rw [if_neg (by simp)]
  have e : (⟨1, ⟨#[65]⟩, ⟨#[]⟩, ⟨#[120]⟩, mkB [107, 110, 111, 119, 110, 32, 116, 111, 32, 98, 101, 32, 115, 101, 116]⟩ : Nt) = awN := rfl
  rw [e, aw_note]
theorem aw_parse : parseN awS = .good [awN] := by
  unfold parseN
  rw [if_neg (by decide), goN_step (by decide) (by decide), aw_cut]
  simp only
  rw [if_neg (by simp), aw_line, if_neg (by simp)]
  rfl
theorem zero_note : noteE zeroN = 23 := by
  unfold noteE nmBad whatBad reasonB
  simp only [zeroN, ByteArray.toList_eq]
  decide
set_option maxRecDepth 100000 in
set_option maxHeartbeats 1000000 in
theorem awake12 (ad : Addr) (m : Int) (w : World) (hk : KW w) (hm : w.cell? ⟨2, 0, none⟩ = some (.int .i64 m)) (hE : w.cell? ⟨0, 0, none⟩ = some (.iface 134 (.pointer (some ad)))) : Calls Tryd.prog 12 #[] w (Ret w (.bool true)) := by
  have HK := Lib.hid hk; clear hk
  have HM := Lib.hid hm; clear hm
  have HE := Lib.hid hE; clear hE
  go_enter Tryd.func12, Tryd.ntmps12
  go_wp2_with fail
  refine (parse15 ad awS m w HK.out HM.out HE.out).mono ?_
  rintro e w1 ⟨hb, hpost⟩
  rw [aw_parse] at hpost
  obtain ⟨a, c, rfl, hat⟩ := hpost
  obtain ⟨b, off, rfl, c0, c1, c2, c3, c4⟩ := hat 0 (by simp)
  simp only [List.getElem_cons_zero, awN, Nat.zero_mul, Nat.add_zero, List.length_cons, List.length_nil, Nat.zero_add] at c0 c1 c2 c3 c4 ⊢
  have HB := Lib.hid hb; clear hb hat
  go_wp2_with fail
  refine (check8 zeroN _ (HK.out.below HB.out)).mono ?_
  rw [zero_note]
  rintro e w2 ⟨rfl, hb⟩
  have HB2 := Lib.hid (HB.out.trans (hb.mono HB.out.size)); clear hb
  go_wp2
  go_ret
  exact ⟨rfl, HB2.out⟩
end Go.Proofs.YtpgmjfnjdgdmcaaDoor
