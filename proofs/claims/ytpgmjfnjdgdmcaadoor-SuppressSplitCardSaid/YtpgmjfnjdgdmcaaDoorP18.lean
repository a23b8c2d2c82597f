import Derived.Test.YtpgmjfnjdgdmcaaDoorP17
namespace Go.Proofs.YtpgmjfnjdgdmcaaDoor
open Go.RowKit Go.Sort

structure SRel (w : World) (s : ByteArray) (L : List UInt8) (fr k : Nat) (l : List Nt) (v : Value) (wr : World) : Prop where
  hf : fr ≤ k
  hk : k ≤ L.length
  hno : (10 : UInt8) ∉ (L.take k).drop fr
  hg : ∃ f, (L.drop fr).length < f ∧ parseN s = goN f l (L.drop fr)
  hl : l.length ≤ 200
  own : wr.ownsRow w.heap.size 23 5 v l.length (ntCells l)
  hb : Below w.heap.size w wr
theorem drop_split (L : List UInt8) (fr k : Nat) (hf : fr ≤ k) (hk : k < L.length) : L.drop fr = (L.take k).drop fr ++ L[k] :: L.drop (k + 1) := by
  have e : L = L.take k ++ L[k] :: L.drop (k + 1) := by rw [← List.drop_eq_getElem_cons hk, List.take_append_drop]
  conv => lhs; rw [e]
  rw [List.drop_append_of_le_length (by simp; omega)]
theorem take_drop_succ (L : List UInt8) (fr k : Nat) (hf : fr ≤ k) (hk : k < L.length) : (L.take (k + 1)).drop fr = (L.take k).drop fr ++ [L[k]] := by
  rw [List.take_succ_eq_append_getElem hk, List.drop_append_of_le_length (by simp; omega)]

set_option maxRecDepth 100000 in
set_option maxHeartbeats 4000000 in
theorem parse17 (L : List UInt8) (w : World) : Calls Tryd.prog 17 #[.string (mkB L)] w (PPost (mkB L) w) := by
  have hz := mkB_size L
  by_cases hbig : 65536 < (mkB L).size
  · have HP : Hid (parseN (mkB L) = .bad 0 3) := by show _ = _; unfold parseN; rw [if_pos hbig]
    clear hz
    go_enter Tryd.func17, Tryd.ntmps17
    go_wp2
    go_ret3
    exact ⟨Below.refl _ _, by rw [HP.out]; rfl⟩
  have R0 : Hid (SRel w (mkB L) L 0 0 [] (.slice none 0 0) w) := by
    refine ⟨Nat.le_refl _, Nat.zero_le _, by simp, ⟨(mkB L).size + 1, by simp [hz], ?_⟩, by simp, World.ownsRow_nil _ _ _ _, Below.refl _ _⟩
    unfold parseN; rw [if_neg hbig, mkB_data]; rfl
  have hsz : (mkB L).size ≤ 65536 := by omega
  have HZ := Lib.hid hz; clear hz
  go_enter Tryd.func17, Tryd.ntmps17
  go_wp2
  go_loopw [5, 6, 7] (fun v5 v6 v7 wr => ∃ fr k l, v6 = .int .i64 (fr : Nat) ∧ v7 = .int .i64 (k : Nat) ∧ SRel w (mkB L) L fr k l v5 wr) (fun _ _ v7 _ => (mkB L).size - (intOf v7).toNat)
  case atStart => exact ⟨0, 0, [], rfl, rfl, R0.out⟩
  case round =>
    clear R0
    obtain ⟨fr, k, l, rfl, rfl, hrel⟩ := hrel
    have hf := hrel.hf
    have hk : k ≤ (mkB L).size := by rw [HZ.out]; exact hrel.hk
    have hl := hrel.hl
    obtain ⟨f, hff, hg⟩ := hrel.hg
    have HG := Lib.hid hg; clear hg
    have HREL := Lib.hid hrel; clear hrel
    obtain ⟨_, av, cv, hv, hat⟩ := owns_nts HREL.out.own
    have HAT := Lib.hid hat; clear hat
    by_cases hlt : k < (mkB L).size
    · have hlt' : k < L.length := by rw [← HZ.out]; exact hlt
      have HGET := Lib.hid (mkB_get L k hlt hlt')
      have HSP := Lib.hid (drop_split L fr k hf hlt')
      have HTS := Lib.hid (take_drop_succ L fr k hf hlt')
      rcases byte_is (mkB L) k hlt 10 10 rfl with ⟨he, hq⟩ | ⟨he, hq⟩
      · have hk10 : L[k] = 10 := HGET.out.symm.trans he
        have HE := Lib.hid hk10; clear hk10 he
        have hq' : ((((mkB L)[k].toNat : Int)) != 10) = false := congrArg (fun b => !b) hq
        have hne : L.drop fr ≠ [] := by
          intro h
          have := congrArg List.length h
          simp at this; omega
        obtain ⟨f, rfl⟩ : ∃ f', f = f' + 1 := ⟨f - 1, by omega⟩
        rw [hv]
        by_cases h200 : l.length = 200
        · have HF : Hid (parseN (mkB L) = .bad 201 3) := by show _ = _; rw [HG.out, goN, if_neg hne, if_pos h200]
          have t2 : ((l.length : Int) == 200) = true := by simp [h200]
          clear h200 hne
          go_wp2
          go_ret3
          exact ⟨HREL.out.hb, by rw [HF.out]; rfl⟩
        have t2 : ((l.length : Int) == 200) = false := by simp; omega
        have hl199 : l.length + 1 ≤ 200 := by omega
        rw [goN_step hne h200] at HG
        have hcut : Lib.cut (L.drop fr) [10] = ((L.take k).drop fr, L.drop (k + 1), true) := by
          rw [HSP.out, HE.out]
          exact cut_at HREL.out.hno
        rw [hcut] at HG
        have HG2 : Hid (parseN (mkB L) = if (lineP ((L.take k).drop fr)).1 ≠ 0 then .bad ((l.length : Int) + 1) (lineP ((L.take k).drop fr)).1 else goN f (l ++ [(lineP ((L.take k).drop fr)).2]) (L.drop (k + 1))) := by
          show _ = _; rw [HG.out, if_neg (by simp)]
        clear hcut HG hne h200
        have HX := Lib.hid (mkB_ext L fr k)
        have hyl : ((L.take k).drop fr).length ≤ 65536 := by simp; omega
        generalize (L.take k).drop fr = y at *
        go_wp2_with fail
        rw [HX.out]
        refine (line39 y _ hyl).mono ?_
        rintro e w3 ⟨hb3, nt, rfl, hgood⟩
        have HGD := Lib.hid hgood; clear hgood
        have HB3 := Lib.hid (HREL.out.hb.trans (hb3.mono HREL.out.hb.size))
        have OWN3 := HREL.out.own.kept ⟨hb3.os, hb3.tape, hb3.output, hb3.size, fun k hk _ => hb3.block k hk⟩ (row := none) (by cases hv : Value.ownBlock _ <;> simp)
        rw [hv] at OWN3
        have OWN3 := Lib.hid OWN3
        clear hb3
        unfold NtV
        by_cases he : (lineP y).1 = 0
        · rw [if_neg (by simp [he])] at HG2
          have hnt := HGD.out he
          rw [← hnt] at HG2
          rw [he]
          clear he hnt HGD
          obtain ⟨W5, hW5⟩ : ∃ W5, W5 = (w3.alloc (.cells #[.int .i64 nt.kind, .string nt.cls, .string nt.meth, .string nt.what, .string nt.reason] 23)).alloc (.cells #[.int .i64 nt.kind, .string nt.cls, .string nt.meth, .string nt.what, .string nt.reason] 23) := ⟨_, rfl⟩
          have OWN5 : Hid (W5.ownsRow w.heap.size 23 5 (.slice av l.length cv) l.length (ntCells l)) := by rw [hW5]; exact (OWN3.out.alloc _).alloc _
          have B5 : Hid (Blk W5 (w3.heap.size + 1) #[.int .i64 nt.kind, .string nt.cls, .string nt.meth, .string nt.what, .string nt.reason] 23) := by
            rw [hW5]
            have := blk_new (w3.alloc (.cells #[.int .i64 nt.kind, .string nt.cls, .string nt.meth, .string nt.what, .string nt.reason] 23)) #[.int .i64 nt.kind, .string nt.cls, .string nt.meth, .string nt.what, .string nt.reason] 23
            simp only [World.size_alloc] at this
            exact this
          have HB5 : Hid (Below w.heap.size w W5) := by rw [hW5]; exact (HB3.out.alloc HB3.out.size _).alloc (by have := HB3.out.size; simp; omega) _
          have HW5 := Lib.hid hW5; clear hW5
          go_wp2_with (at_builtin; rw [← HW5.out]; refine app_nt rfl _ _ rfl w.heap.size _ l rfl OWN5.out (w3.heap.size + 1) nt rfl B5.out (by omega) HB5.out.size ?_)
          intro v' w6 hown hgrow
          have HB6 := Lib.hid (HB5.out.grown hgrow HB5.out.size (fun k hk => (OWN5.out.lt k hk).1))
          have HOWN := Lib.hid hown; clear hown hgrow OWN5 B5 HB5 HW5 OWN3 HB3
          go_wp2
          go_roundw
          case rel =>
            refine ⟨k + 1, k + 1, l ++ [nt], by go_num, by go_num, ⟨Nat.le_refl _, by have := HZ.out; omega, ?_, ⟨f, ?_, HG2.out⟩, by simp; omega, by rw [List.length_append]; exact HOWN.out, HB6.out⟩⟩
            · rw [List.drop_of_length_le (by simp; omega)]; simp
            · have h1 : (L.drop fr).length = L.length - fr := by simp
              have h2 : (L.drop (k + 1)).length = L.length - (k + 1) := by simp
              have := HZ.out
              omega
          case measure => simp [intOf]; omega
        · rw [if_pos he] at HG2
          have he' : ((lineP y).1 != 0) = true := by simp [he]
          clear he HGD
          generalize (lineP y).1 = er at *
          go_wp2
          go_ret3
          exact ⟨HB3.out.alloc HB3.out.size _, by rw [HG2.out]; rfl⟩
      · have hq' : ((((mkB L)[k].toNat : Int)) != 10) = true := congrArg (fun b => !b) hq
        have HE : Hid (L[k] ≠ 10) := fun h => he (HGET.out.trans h)
        clear he
        go_wp2
        go_roundw
        case rel =>
          refine ⟨fr, k + 1, l, rfl, by go_num, ⟨by omega, by have := HZ.out; omega, ?_, HREL.out.hg, hl, HREL.out.own, HREL.out.hb⟩⟩
          rw [HTS.out, List.mem_append, List.mem_singleton]
          rintro (h | h)
          · exact HREL.out.hno h
          · exact HE.out h.symm
        case measure => simp [intOf]; omega
    · have hkL : k = L.length := by have := HZ.out; omega
      have hno := HREL.out.hno
      rw [hkL, List.take_of_length_le (Nat.le_refl _)] at hno
      have hksz : k = (mkB L).size := by omega
      rw [hv]
      by_cases hfe : fr < k
      · have hne : L.drop fr ≠ [] := by
          intro h
          have := congrArg List.length h
          simp at this; omega
        obtain ⟨f, rfl⟩ : ∃ f', f = f' + 1 := ⟨f - 1, by omega⟩
        have hfs : fr < (mkB L).size := by omega
        by_cases h200 : l.length = 200
        · have HF : Hid (parseN (mkB L) = .bad 201 3) := by show _ = _; rw [HG.out, goN, if_neg hne, if_pos h200]
          have t2 : ((l.length : Int) == 200) = true := by simp [h200]
          clear h200 hne hno hkL hksz
          go_wp2
          go_ret3
          exact ⟨HREL.out.hb, by rw [HF.out]; rfl⟩
        have t2 : ((l.length : Int) == 200) = false := by simp; omega
        have HF : Hid (parseN (mkB L) = .bad ((l.length : Int) + 1) 21) := by
          show _ = _
          rw [HG.out, goN_step hne h200, cut_no hno, if_pos rfl]
        clear h200 hne hno hkL hksz
        go_wp2
        go_ret3
        exact ⟨HREL.out.hb, by rw [HF.out]; rfl⟩
      · have HF : Hid (parseN (mkB L) = .good l) := by
          show _ = _
          have e : L.drop fr = [] := List.drop_of_length_le (by omega)
          rw [HG.out, e]
          cases f with
          | zero => rfl
          | succ f => rw [goN, if_pos rfl]
        have hfs : ¬ fr < (mkB L).size := by omega
        have tf : decide (fr < (mkB L).size) = false := by simp [hfs]
        clear hno hkL hksz
        go_wp2
        go_ret3
        exact ⟨HREL.out.hb, by rw [HF.out]; exact ⟨av, cv, rfl, HAT.out⟩⟩
end Go.Proofs.YtpgmjfnjdgdmcaaDoor
