/-
  Texts of paths, program and reference.
-/
import Derived.Test.YthlnhinjcffllaaGreatDoorQ17
namespace Go.Proofs.YthlnhinjcffllaaGreatDoor
open Go.RowKit

theorem gTab : Tryz.prog.globalNamed "internal/strconv.uint64pow10" = some 2 := by kernel_rfl
abbrev Pow10 (w : World) : Prop := Lib.TabIs Tryz.prog w "internal/strconv.uint64pow10" .u64 Lib.pow10Tab
theorem pow_below {w w' : World} (h : Pow10 w) (hb : Below w.heap.size w w') : Pow10 w' := by
  unfold Pow10 Lib.TabIs World.var? at *
  simp only [gTab, Option.bind_some] at h ⊢
  have hlt : 2 < w.heap.size := by
    rcases Nat.lt_or_ge 2 w.heap.size with h' | h'
    · exact h'
    · rw [Array.getElem?_eq_none h'] at h
      cases h
  rw [hb.block 2 hlt]
  exact h
/-- what Text returns -/
def txtV (p : Pth) : Value := if chkE p = 0 then .tuple #[.string (mkB (textL p)), .int .i64 0] else .tuple #[.string ⟨#[]⟩, .int .i64 (chkE p)]
theorem fldL_snoc (l : List ByteArray) (f : ByteArray) : fldL (l ++ [f]) = fldL l ++ (46 :: f.data.toList) := by simp [fldL]

theorem rootL_len {r n : Int} (hn : n.toNat < 10000) : (rootL r n).length ≤ 8 := by
  have := dec_len _ hn
  unfold rootL
  repeat' split
  all_goals simp [argW, varW, siteW, resW]
  all_goals omega
theorem dot_eq (f : ByteArray) : (⟨#[46]⟩ : ByteArray) ++ f = mkB (46 :: f.data.toList) := by
  apply WideShapes.bytes_inj
  rw [ByteArray.data_append, mkB_data]
  simp

set_option maxRecDepth 100000 in
set_option maxHeartbeats 4000000 in
theorem text19 (p : Pth) (a : Option Addr) (c : Nat) (w : World) (hk : KW w) (ht : Pow10 w) (hs : StrsAt w a p.fs) : Calls Tryz.prog 19 #[pV p a c] w (Ret w (txtV p)) := by
  unfold pV
  have HB0 := Lib.hid (one_below w (.cells #[.int .i64 p.root, .int .i64 p.n, .slice a p.fs.length c, .bool p.star] 24))
  have HS := Lib.hid (hs.below HB0.out); clear hs
  have HK := Lib.hid (hk.below HB0.out); clear hk
  have HP := Lib.hid (pow_below ht HB0.out); clear ht
  have C1 : Hid (Blk (w.alloc (.cells #[.int .i64 p.root, .int .i64 p.n, .slice a p.fs.length c, .bool p.star] 24)) w.heap.size #[.int .i64 p.root, .int .i64 p.n, .slice a p.fs.length c, .bool p.star] 24) := blk_new ..
  go_enter Tryz.func19, Tryz.ntmps19
  go_wp2_with fail
  refine (check12 p a c _ HK.out HS.out).mono ?_
  rintro e w1 ⟨rfl, hb⟩
  have HB1 := Lib.hid (HB0.out.trans (hb.mono HB0.out.size))
  have HS1 := Lib.hid (HS.out.below hb)
  have HP1 := Lib.hid (pow_below HP.out hb)
  have D1 := Lib.hid (C1.out.below hb)
  clear hb HB0 HS HK HP C1
  by_cases he : chkE p = 0
  case neg =>
    have HF : Hid (txtV p = .tuple #[.string ⟨#[]⟩, .int .i64 (chkE p)]) := if_neg he
    have t1 : (chkE p != 0) = true := by simpa using he
    clear he
    go_wp2
    go_ret2
    exact ⟨by rw [HF.out]; rfl, HB1.out⟩
  have HF : Hid (txtV p = .tuple #[.string (mkB (textL p)), .int .i64 0]) := if_pos he
  have HC := Lib.hid he
  have t1 : (chkE p != 0) = false := by simp [he]
  clear he
  obtain ⟨x0, x1, x2, x3⟩ := D1.out.four
  go_upto_block 0 with (fail)
  go_cut [5] (fun v wx => v = .string (mkB (rootL p.root p.n)) ∧ Below w1.heap.size w1 wx)
  case first =>
    obtain ⟨h0, h1, h2, _⟩ := chkE_ok.1 HC.out
    have hdl : (mkB (Lib.decDigits p.n.toNat)).size ≤ 4 := by
      rw [mkB_size]
      refine dec_len _ ?_
      have : mostI p.root ≤ 1023 := by rcases root5 p.root with ⟨_, hm⟩ | ⟨_, hm⟩ | ⟨_, hm⟩ | ⟨_, hm⟩ | ⟨hm, _⟩ <;> omega
      omega
    have hn1 : p.n ≤ 1000000 := by
      have : mostI p.root ≤ 1023 := by rcases root5 p.root with ⟨_, hm⟩ | ⟨_, hm⟩ | ⟨_, hm⟩ | ⟨_, hm⟩ | ⟨hm, _⟩ <;> omega
      omega
    rcases root5 p.root with ⟨hr, hm⟩ | ⟨hr, hm⟩ | ⟨hr, hm⟩ | ⟨hr, hm⟩ | ⟨hm, _⟩
    case inr.inr.inr.inr => omega
    all_goals
      have HM : Hid (p.root = _) := hr
      have t1 : (p.root == 1) = (p.root == 1) := rfl
      have t2 : (p.root == 2) = (p.root == 2) := rfl
      have t3 : (p.root == 3) = (p.root == 3) := rfl
      have t4 : (p.root == 4) = (p.root == 4) := rfl
      conv at t1 => rhs; rw [hr]
      conv at t2 => rhs; rw [hr]
      conv at t3 => rhs; rw [hr]
      conv at t4 => rhs; rw [hr]
      simp only [Int.reduceBEq] at t1 t2 t3 t4
      clear hr hm h0 h2
      go_wp2_with (go_at_call 29; refine (itoa29 _ _ h1 hn1 HP1.out).mono ?_; rintro e w' ⟨rfl, hb⟩)
      go_meet
      refine ⟨?_, by first | exact hb | exact Below.refl _ _⟩
      rw [HM.out]
      first | (show Value.string (mkB argW ++ mkB _) = _; rw [mkB_append]; rfl) | (show Value.string (mkB varW ++ mkB _) = _; rw [mkB_append]; rfl) | (show Value.string (mkB siteW ++ mkB _) = _; rw [mkB_append]; rfl) | rfl
  case rest =>
    obtain ⟨rfl, hb⟩ := hcut
    have HB2 := Lib.hid (HB1.out.trans (hb.mono HB1.out.size))
    have HS2 := Lib.hid (HS1.out.below hb)
    have D2 := Lib.hid (D1.out.below hb)
    clear hb HB1 HS1 HP1 D1 x0 x1 x2 x3
    obtain ⟨x0, x1, x2, x3⟩ := D2.out.four
    obtain ⟨h0, h1, h2, hl2, _⟩ := chkE_ok.1 HC.out
    have hRl : (rootL p.root p.n).length ≤ 8 := rootL_len (by
      have : mostI p.root ≤ 1023 := by rcases root5 p.root with ⟨_, hm⟩ | ⟨_, hm⟩ | ⟨_, hm⟩ | ⟨_, hm⟩ | ⟨hm, _⟩ <;> omega
      omega)
    have HT : Hid (textL p = rootL p.root p.n ++ fldL p.fs ++ (if p.star = true then [42] else [])) := rfl
    clear h0 h1 h2
    generalize rootL p.root p.n = R at *
    obtain ⟨st, hst⟩ : ∃ st : Bool, st = p.star := ⟨_, rfl⟩
    rw [← hst] at x3 HT
    clear hst
    go_wp2
    go_loop [5, 36] (fun v i => ∃ (k : Nat) (t : List UInt8), k ≤ p.fs.length ∧ i = .int .i64 k ∧ v = .string (mkB t) ∧ t.length ≤ 8 + 33 * k ∧ Hid (t = R ++ fldL (p.fs.take k))) (fun _ i => p.fs.length - (intOf i).toNat)
    case atStart => exact ⟨0, R, Nat.zero_le _, rfl, rfl, by omega, by show _ = _; simp [fldL]⟩
    case round =>
      obtain ⟨k, t, hk, rfl, rfl, htl, HI⟩ := hrel
      have hmz := mkB_size t
      by_cases hlt : k < p.fs.length
      · obtain ⟨b, off, rfl, hcell⟩ := HS2.out k hlt
        have HN : Hid (R ++ fldL (p.fs.take (k + 1)) = R ++ fldL (p.fs.take k) ++ (46 :: p.fs[k].data.toList)) := by show _ = _; rw [List.take_succ_eq_append_getElem hlt, fldL_snoc, List.append_assoc]
        have hfs := (ident_bytes (chkE_field HC.out (List.getElem_mem hlt))).1
        generalize p.fs[k] = f at *
        have hfl : f.data.toList.length = f.size := by simp
        have hmz2 : (mkB t).size ≤ 100 := by omega
        clear hmz
        go_wp2
        go_round
        case rel =>
          refine ⟨k + 1, t ++ (46 :: f.data.toList), by omega, by go_num, ?_, ?_, ?_⟩
          · rw [dot_eq, mkB_append]
          · rw [List.length_append, List.length_cons, hfl]; omega
          · show _ = _
            rw [HI.out, HN.out]
        case measure => simp [intOf]; omega
      · obtain rfl : k = p.fs.length := by omega
        have HTT : Hid (textL p = t ++ (if st = true then [42] else [])) := by show _ = _; rw [HT.out, HI.out, List.take_length]
        have hmz2 : (mkB t).size ≤ 100 := by omega
        clear hmz
        cases st
        case true =>
          go_wp2
          go_ret2
          refine ⟨?_, HB2.out⟩
          rw [HF.out, HTT.out]
          show Ending.returned (.tuple #[.string (mkB t ++ mkB [42]), .int .i64 0]) = _
          rw [mkB_append]; rfl
        case false =>
          go_wp2
          go_ret2
          refine ⟨?_, HB2.out⟩
          rw [HF.out, HTT.out]
          simp

set_option maxRecDepth 100000 in
set_option maxHeartbeats 4000000 in
theorem text20 (p : Pth) (a : Option Addr) (c : Nat) (w : World) (hs : StrsAt w a p.fs) : Calls Tryz.prog 20 #[pV p a c] w (Ret w (txtV p)) := by
  unfold pV
  have HB0 := Lib.hid (one_below w (.cells #[.int .i64 p.root, .int .i64 p.n, .slice a p.fs.length c, .bool p.star] 24))
  have HS := Lib.hid (hs.below HB0.out); clear hs
  have C1 : Hid (Blk (w.alloc (.cells #[.int .i64 p.root, .int .i64 p.n, .slice a p.fs.length c, .bool p.star] 24)) w.heap.size #[.int .i64 p.root, .int .i64 p.n, .slice a p.fs.length c, .bool p.star] 24) := blk_new ..
  go_enter Tryz.func20, Tryz.ntmps20
  go_wp2_with fail
  refine (check13 p a c _ HS.out).mono ?_
  rintro e w1 ⟨rfl, hb⟩
  have HB1 := Lib.hid (HB0.out.trans (hb.mono HB0.out.size))
  have HS1 := Lib.hid (HS.out.below hb)
  have D1 := Lib.hid (C1.out.below hb)
  clear hb HB0 HS C1
  by_cases he : chkE p = 0
  case neg =>
    have HF : Hid (txtV p = .tuple #[.string ⟨#[]⟩, .int .i64 (chkE p)]) := if_neg he
    have t1 : (chkE p != 0) = true := by simpa using he
    clear he
    go_wp2
    go_ret2
    exact ⟨by rw [HF.out]; rfl, HB1.out⟩
  have HF : Hid (txtV p = .tuple #[.string (mkB (textL p)), .int .i64 0]) := if_pos he
  have HC := Lib.hid he
  have t1 : (chkE p != 0) = false := by simp [he]
  clear he
  obtain ⟨x0, x1, x2, x3⟩ := D1.out.four
  go_upto_block 0 with (fail)
  go_cut [5] (fun v wx => v = .string (mkB (rootL p.root p.n)) ∧ Below w1.heap.size w1 wx)
  case first =>
    obtain ⟨h0, h1, h2, _⟩ := chkE_ok.1 HC.out
    have hdl : (mkB (Lib.decDigits p.n.toNat)).size ≤ 4 := by
      rw [mkB_size]
      refine dec_len _ ?_
      have : mostI p.root ≤ 1023 := by rcases root5 p.root with ⟨_, hm⟩ | ⟨_, hm⟩ | ⟨_, hm⟩ | ⟨_, hm⟩ | ⟨hm, _⟩ <;> omega
      omega
    have hn1 : p.n ≤ 1023 := by
      have : mostI p.root ≤ 1023 := by rcases root5 p.root with ⟨_, hm⟩ | ⟨_, hm⟩ | ⟨_, hm⟩ | ⟨_, hm⟩ | ⟨hm, _⟩ <;> omega
      omega
    rcases root5 p.root with ⟨hr, hm⟩ | ⟨hr, hm⟩ | ⟨hr, hm⟩ | ⟨hr, hm⟩ | ⟨hm, _⟩
    case inr.inr.inr.inr => omega
    all_goals
      have HM : Hid (p.root = _) := hr
      have t1 : (p.root == 1) = (p.root == 1) := rfl
      have t2 : (p.root == 2) = (p.root == 2) := rfl
      have t3 : (p.root == 3) = (p.root == 3) := rfl
      have t4 : (p.root == 4) = (p.root == 4) := rfl
      conv at t1 => rhs; rw [hr]
      conv at t2 => rhs; rw [hr]
      conv at t3 => rhs; rw [hr]
      conv at t4 => rhs; rw [hr]
      simp only [Int.reduceBEq] at t1 t2 t3 t4
      clear hr hm h0 h2
      go_wp2_with (go_at_call 30; refine (num30 _ _ h1 (by omega)).mono ?_; rintro e w' ⟨rfl, rfl⟩)
      go_meet
      refine ⟨?_, by first | exact hb | exact Below.refl _ _⟩
      rw [HM.out]
      first | (show Value.string (mkB argW ++ mkB _) = _; rw [mkB_append]; rfl) | (show Value.string (mkB varW ++ mkB _) = _; rw [mkB_append]; rfl) | (show Value.string (mkB siteW ++ mkB _) = _; rw [mkB_append]; rfl) | rfl
  case rest =>
    obtain ⟨rfl, hb⟩ := hcut
    have HB2 := Lib.hid (HB1.out.trans (hb.mono HB1.out.size))
    have HS2 := Lib.hid (HS1.out.below hb)
    have D2 := Lib.hid (D1.out.below hb)
    clear hb HB1 HS1 D1 x0 x1 x2 x3
    obtain ⟨x0, x1, x2, x3⟩ := D2.out.four
    obtain ⟨h0, h1, h2, hl2, _⟩ := chkE_ok.1 HC.out
    have hRl : (rootL p.root p.n).length ≤ 8 := rootL_len (by
      have : mostI p.root ≤ 1023 := by rcases root5 p.root with ⟨_, hm⟩ | ⟨_, hm⟩ | ⟨_, hm⟩ | ⟨_, hm⟩ | ⟨hm, _⟩ <;> omega
      omega)
    have HT : Hid (textL p = rootL p.root p.n ++ fldL p.fs ++ (if p.star = true then [42] else [])) := rfl
    clear h0 h1 h2
    generalize rootL p.root p.n = R at *
    obtain ⟨st, hst⟩ : ∃ st : Bool, st = p.star := ⟨_, rfl⟩
    rw [← hst] at x3 HT
    clear hst
    go_wp2
    go_loop [5, 6] (fun v i => ∃ (k : Nat) (t : List UInt8), k ≤ p.fs.length ∧ i = .int .i64 k ∧ v = .string (mkB t) ∧ t.length ≤ 8 + 33 * k ∧ Hid (t = R ++ fldL (p.fs.take k))) (fun _ i => p.fs.length - (intOf i).toNat)
    case atStart => exact ⟨0, R, Nat.zero_le _, rfl, rfl, by omega, by show _ = _; simp [fldL]⟩
    case round =>
      obtain ⟨k, t, hk, rfl, rfl, htl, HI⟩ := hrel
      have hmz := mkB_size t
      by_cases hlt : k < p.fs.length
      · obtain ⟨b, off, rfl, hcell⟩ := HS2.out k hlt
        have HN : Hid (R ++ fldL (p.fs.take (k + 1)) = R ++ fldL (p.fs.take k) ++ (46 :: p.fs[k].data.toList)) := by show _ = _; rw [List.take_succ_eq_append_getElem hlt, fldL_snoc, List.append_assoc]
        have hfs := (ident_bytes (chkE_field HC.out (List.getElem_mem hlt))).1
        generalize p.fs[k] = f at *
        have hfl : f.data.toList.length = f.size := by simp
        have hmz2 : (mkB t).size ≤ 100 := by omega
        clear hmz
        go_wp2
        go_round
        case rel =>
          refine ⟨k + 1, t ++ (46 :: f.data.toList), by omega, by go_num, ?_, ?_, ?_⟩
          · rw [ByteArray.append_assoc, dot_eq, mkB_append]
          · rw [List.length_append, List.length_cons, hfl]; omega
          · show _ = _
            rw [HI.out, HN.out]
        case measure => simp [intOf]; omega
      · obtain rfl : k = p.fs.length := by omega
        have HTT : Hid (textL p = t ++ (if st = true then [42] else [])) := by show _ = _; rw [HT.out, HI.out, List.take_length]
        have hmz2 : (mkB t).size ≤ 100 := by omega
        clear hmz
        cases st
        case true =>
          go_wp2
          go_ret2
          refine ⟨?_, HB2.out⟩
          rw [HF.out, HTT.out]
          show Ending.returned (.tuple #[.string (mkB t ++ mkB [42]), .int .i64 0]) = _
          rw [mkB_append]; rfl
        case false =>
          go_wp2
          go_ret2
          refine ⟨?_, HB2.out⟩
          rw [HF.out, HTT.out]
          simp
end Go.Proofs.YthlnhinjcffllaaGreatDoor
