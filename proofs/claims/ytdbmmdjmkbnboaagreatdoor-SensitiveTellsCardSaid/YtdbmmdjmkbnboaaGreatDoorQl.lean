/-
  Rows of slices of numbers compacted by the library.
-/
import Derived.Test.YtdbmmdjmkbnboaaGreatDoorQk
namespace Go.Proofs.YtdbmmdjmkbnboaaGreatDoor
open Go.RowKit Go.Unit0 Go.Lib

def listsOf (D : List Sli) : Array (List Int) := (D.map (·.l)).toArray
theorem listsOf_get {D : List Sli} {j : Nat} (hj : j < D.length) : (listsOf D)[j]! = D[j].l := by
  unfold listsOf
  rw [getElem!_pos _ j (by simpa using hj)]; simp
theorem listsOf_set (D : List Sli) (k : Nat) (z : Sli) : listsOf (D.set k z) = (listsOf D).setIfInBounds k z.l := by
  simp [listsOf, List.map_set]
set_option maxRecDepth 100000 in
set_option maxHeartbeats 16000000 in
theorem compactSl (base g c off : Nat) (D : List Sli) (w : World) (cur0 : Array Value) (hR : SR base g c D w cur0) (ho : off = 0) (h2 : 2 ≤ D.length) (hl : D.length ≤ 1000000) :
    Calls Tryz.prog 25 #[.slice (some ⟨g, off, none⟩) D.length c, .func (.func 26) #[] #[]] w (fun e w' => ∃ D' cur, e = .returned (.slice (some ⟨g, off, none⟩) D'.length c) ∧ w.grownBy w' (some g) ∧ D'.map (·.l) = compactUpTo (listsOf D) D.length ∧ SR base g c D' w' cur) := by
  have R0 := Lib.hid hR
  have HO := Lib.hid ho
  have hcap : D.length ≤ c := hR.le
  have HALL : Hid ((∀ j, j < D.length → keeps (listsOf D) j = true) → D.map (·.l) = compactUpTo (listsOf D) D.length) := fun h => by
    have e : (listsOf D).size = D.length := by simp [listsOf]
    rw [← e] at h ⊢
    rw [compactUpTo_all _ _ h, range_map_get]; simp [listsOf]
  have HEQ : Hid (∀ (wq : World) (x y : Sli), IntsAt wq x.a x.l → IntsAt wq y.a y.l → x.l.length ≤ 1000000 → y.l.length ≤ 1000000 → Calls Tryz.prog 26 #[.slice x.a x.l.length x.c, .slice y.a y.l.length y.c] wq (Ret wq (.bool (decide (x.l = y.l))))) := fun wq x y h1 h2 h3 h4 => equalI x.l y.l x.a x.c y.a y.c wq h1 h2 h3 h4
  have HSZ : Hid ((listsOf D).size = D.length) := by show _ = _; simp [listsOf]
  have HGT : Hid (∀ j (hj : j < D.length), (listsOf D)[j]! = D[j].l) := fun j hj => listsOf_get hj
  clear hR ho
  generalize hd : listsOf D = d at *
  have HLD := Lib.hid hd
  clear hd
  go_enter Tryz.func25, Tryz.ntmps25
  go_wp2
  go_loopw [5] (fun s3 wr => ∃ k : Nat, 1 ≤ k ∧ k ≤ D.length ∧ s3 = .int .i64 k ∧ Hid (SR base g c D wr cur0) ∧ Hid (w.grownBy wr (some g)) ∧ Hid (∀ j, j < k → keeps d j = true)) (fun s3 _ => D.length - (intOf s3).toNat)
  case atStart => exact ⟨1, Nat.le_refl _, by omega, rfl, R0.out, World.grownBy.refl _ _, keeps_lt_one _⟩
  case round =>
    clear R0
    obtain ⟨k, hk1, hk, rfl, R, HG, HA⟩ := hrel
    by_cases hlt : k < D.length
    case neg =>
      obtain rfl : k = D.length := by omega
      have HE := Lib.hid (HALL.out HA.out)
      go_wp2
      go_ret
      exact ⟨D, cur0, rfl, HG.out, HE.out, R.out⟩
    have hlt1 : k - 1 < D.length := by omega
    have c0 := R.out.at HO.out hlt
    have p0 := R.out.at HO.out hlt1
    have hne : Nonempty (WB wr) := ⟨⟨wr, Go.RowKit.Below.refl _ _⟩⟩
    have HXY : Hid (∀ o : WB wr, Calls Tryz.prog 26 #[.slice D[k].a D[k].l.length D[k].c, .slice D[k - 1].a D[k - 1].l.length D[k - 1].c] o.u (Ret o.u (.bool (decide (D[k].l = D[k - 1].l))))) := fun o => by
      have h1 := R.out.ok _ (List.getElem_mem hlt)
      have h2 := R.out.ok _ (List.getElem_mem hlt1)
      exact HEQ.out o.u D[k] D[k - 1] (h1.1.1.below o.h) (h2.1.1.below o.h) h1.2 h2.2
    have B : Hid (d[k]! = D[k].l ∧ d[k - 1]! = D[k - 1].l) := ⟨HGT.out k hlt, HGT.out (k - 1) hlt1⟩
    generalize D[k] = x at *
    generalize D[k - 1] = y at *
    have k0 : ∀ o : WB wr, o.u.cell? ⟨g, off + k, none⟩ = some (.slice x.a x.l.length x.c) := fun o => cell_below o.h c0
    have k2 : ∀ o : WB wr, o.u.cell? ⟨g, off + (k - 1), none⟩ = some (.slice y.a y.l.length y.c) := fun o => cell_below o.h p0
    clear c0 p0
    by_cases hdup : x.l = y.l
    case neg =>
      rw [decide_eq_false hdup] at HXY
      have HA2 : Hid (∀ j, j < k + 1 → keeps d j = true) := fun j hj => by
        by_cases e : j = k
        · subst e
          exact keeps_pos (by rw [B.out.1, B.out.2]; exact hdup)
        · exact HA.out j (by omega)
      clear HA hdup HEQ HALL B
      go_upto_region 6 with (fail)
      refine wp_region_WB wr (by kernel_rfl) ?_
      repeat (go_big_quiet_step ((rename_i o; exact (HXY.out o).mono (fun _ _ h => Ret.inB h))))
      refine wpQuiet_nil ?_
      intro _ hw'
      obtain ⟨o, rfl⟩ := hw'
      have R3 := Lib.hid (R.out.below o.h)
      have HG3 := Lib.hid (grown_below HG.out o.h)
      clear k0 k2 HXY R HG
      go_wp2
      go_roundw
      case rel => exact ⟨k + 1, by omega, by omega, by go_num, R3.out, HG3.out, HA2.out⟩
      case measure => simp [intOf]; omega
    rw [decide_eq_true hdup] at HXY
    have HST : Hid (CompInv d (k + 1) k d) := CompInv.start HA.out (keeps_neg (by omega) (by rw [B.out.1, B.out.2]; exact hdup))
    clear hdup HA HALL B
    go_upto_region 6 with (fail)
    refine wp_region_WB wr (by kernel_rfl) ?_
    repeat (go_big_quiet_step ((rename_i o; exact (HXY.out o).mono (fun _ _ h => Ret.inB h))))
    refine wpQuiet_nil ?_
    intro _ hw'
    obtain ⟨o, rfl⟩ := hw'
    have R3 := Lib.hid (R.out.below o.h)
    have HG3 := Lib.hid (grown_below HG.out o.h)
    clear k0 k2 HXY R HG hne
    generalize o.u = W3 at *
    have hsl := slLoAt g off D.length c k hlt hcap
    go_wp2
    clear hsl
    go_loopw [5, 7] (fun s3 s5 wr => ∃ (kk k2 : Nat) (dk : List Sli) (cur : Array Value), s3 = .int .i64 kk ∧ s5 = .int .i64 k2 ∧ 1 ≤ k2 ∧ k + k2 ≤ D.length ∧ kk < k + k2 ∧ dk.length = D.length ∧ Hid (SR base g c dk wr cur) ∧ Hid (CompInv d (k + k2) kk (listsOf dk)) ∧ Hid (w.grownBy wr (some g))) (fun _ s5 _ => D.length - (intOf s5).toNat)
    case atStart => exact ⟨k, 1, D, cur0, rfl, rfl, Nat.le_refl _, by omega, by omega, rfl, R3.out, by rw [HLD.out]; exact HST.out, HG3.out⟩
    case round =>
      clear R3 HST HG3
      obtain ⟨kk, k2, dk, cur, rfl, rfl, h1, hle, hkk, hds, R, HI, HG⟩ := hrel
      by_cases hlt2 : k + k2 < D.length
      case neg =>
        have hend : k + k2 = D.length := by omega
        have HI2 : Hid (CompInv d D.length kk (listsOf dk)) := by rw [← hend]; exact HI.out
        have hkd : kk < dk.length := by omega
        obtain ⟨w', cur', hcl, hcr, hgr⟩ := clearSl R.out HO.out kk hkd
        have HC : Hid ((dk.take kk).map (·.l) = compactUpTo d D.length) := by
          have hi := HI2.out
          show _ = _
          apply List.ext_getElem?
          intro j
          by_cases hj : j < kk
          · rw [hi.low j hj, listsOf_get (by omega), List.getElem?_map, List.getElem?_take_of_lt hj, List.getElem?_eq_getElem (by omega)]; rfl
          · rw [List.getElem?_eq_none (by simp; omega), List.getElem?_eq_none (by rw [hi.len]; omega)]
        have HL : Hid ((dk.take kk).length = kk) := by show _ = _; simp; omega
        rw [hds] at hcl
        have HCR := Lib.hid hcr
        have HGR := Lib.hid (grown_grown HG.out hgr (fun q hq => .inr hq))
        have hsl := slLoAt g off D.length c kk (by omega) hcap
        have hsh := slHi (some ⟨g, off, none⟩) D.length c kk (by omega)
        clear hcr hgr HI HI2 R HG hkd hend HEQ
        go_wp2
        go_ret
        exact ⟨dk.take kk, cur', by rw [HL.out]; rfl, HGR.out, HC.out, HCR.out⟩
      have hl1 : k + k2 < dk.length := by omega
      have hl3 : k + k2 - 1 < dk.length := by omega
      have c0 := R.out.at HO.out hl1
      have p0 := R.out.at HO.out hl3
      rw [show off + (k + k2) = off + k + k2 by omega] at c0
      rw [show off + (k + k2 - 1) = off + k + (k2 - 1) by omega] at p0
      have hne : Nonempty (WB wr) := ⟨⟨wr, Go.RowKit.Below.refl _ _⟩⟩
      have HXY : Hid (∀ o : WB wr, Calls Tryz.prog 26 #[.slice dk[k + k2].a dk[k + k2].l.length dk[k + k2].c, .slice dk[k + k2 - 1].a dk[k + k2 - 1].l.length dk[k + k2 - 1].c] o.u (Ret o.u (.bool (decide (dk[k + k2].l = dk[k + k2 - 1].l))))) := fun o => by
        have h1 := R.out.ok _ (List.getElem_mem hl1)
        have h2 := R.out.ok _ (List.getElem_mem hl3)
        exact HEQ.out o.u dk[k + k2] dk[k + k2 - 1] (h1.1.1.below o.h) (h2.1.1.below o.h) h1.2 h2.2
      have HB : Hid (d[k + k2]! = dk[k + k2].l ∧ d[k + k2 - 1]! = dk[k + k2 - 1].l) := by
        rw [← listsOf_get hl1, ← listsOf_get hl3]
        exact ⟨(HI.out.high (k + k2) (by omega)).symm, (HI.out.high (k + k2 - 1) (by omega)).symm⟩
      have HXM : Hid (dk[k + k2] ∈ dk) := List.getElem_mem hl1
      generalize dk[k + k2] = x at *
      generalize dk[k + k2 - 1] = y at *
      have k0 : ∀ o : WB wr, o.u.cell? ⟨g, off + k + k2, none⟩ = some (.slice x.a x.l.length x.c) := fun o => cell_below o.h c0
      have k4 : ∀ o : WB wr, o.u.cell? ⟨g, off + k + (k2 - 1), none⟩ = some (.slice y.a y.l.length y.c) := fun o => cell_below o.h p0
      clear c0 p0
      have hk2 : k2 < D.length - k := by omega
      by_cases huv : x.l = y.l
      case pos =>
        rw [decide_eq_true huv] at HXY
        have HI2 : Hid (CompInv d (k + (k2 + 1)) kk (listsOf dk)) := HI.out.skip (keeps_neg (by omega) (by rw [HB.out.1, HB.out.2]; exact huv))
        clear HI huv HB HEQ
        go_upto_region 11 with (fail)
        refine wp_region_WB wr (by kernel_rfl) ?_
        repeat (go_big_quiet_step ((rename_i o; exact (HXY.out o).mono (fun _ _ h => Ret.inB h))))
        refine wpQuiet_nil ?_
        intro _ hw'
        obtain ⟨o, rfl⟩ := hw'
        have R3 := Lib.hid (R.out.below o.h)
        have HG3 := Lib.hid (grown_below HG.out o.h)
        clear k0 k4 HXY R HG
        go_wp2
        go_roundw
        case rel => exact ⟨kk, k2 + 1, dk, cur, rfl, by go_num, by omega, by omega, by omega, hds, R3.out, HI2.out, HG3.out⟩
        case measure => simp [intOf]; omega
      rw [decide_eq_false huv] at HXY
      have HI2 : Hid (CompInv d (k + (k2 + 1)) (kk + 1) (listsOf (dk.set kk x))) := by
        have hsd : k + k2 < d.size := by rw [HSZ.out]; omega
        have := HI.out.keep hsd (keeps_pos (by rw [HB.out.1, HB.out.2]; exact huv))
        rw [HB.out.1] at this
        rw [listsOf_set]
        exact this
      have hkl : kk < dk.length := by omega
      clear HI huv HB HEQ
      go_upto_region 11 with (fail)
      refine wp_region_WB wr (by kernel_rfl) ?_
      repeat (go_big_quiet_step ((rename_i o; exact (HXY.out o).mono (fun _ _ h => Ret.inB h))))
      refine wpQuiet_nil ?_
      intro _ hw'
      obtain ⟨o, rfl⟩ := hw'
      have R3 := Lib.hid (R.out.below o.h)
      have HG3 := Lib.hid (grown_below HG.out o.h)
      have j0 := k0 o
      clear k0 k4 HXY R HG hne
      generalize o.u = W4 at *
      have R5 : Hid (SR base g c (dk.set kk x) (W4.setCell ⟨g, off + kk, none⟩ (.slice x.a x.l.length x.c)) (cur.setIfInBounds (off + kk) (.slice x.a x.l.length x.c))) := by
        have h0 := HO.out
        subst h0
        rw [Nat.zero_add]
        exact R3.out.set hkl HXM.out
      have HG5 := Lib.hid (grown_grown HG3.out (grown_set W4 g (off + kk) (.slice x.a x.l.length x.c)) (fun q hq => .inr hq))
      have hkd : kk < D.length := by omega
      have jk : W4.cell? ⟨g, off + kk, none⟩ = _ := R3.out.at HO.out hkl
      have hfr := R3.out.bk.free (off + kk)
      go_wp2
      clear j0 jk hfr R3 HG3
      generalize W4.setCell _ _ = W5 at *
      go_roundw
      case rel => exact ⟨kk + 1, k2 + 1, dk.set kk x, _, by go_num, by go_num, by omega, by omega, by omega, by simpa using hds, R5.out, HI2.out, HG5.out⟩
      case measure => simp [intOf]; omega
end Go.Proofs.YtdbmmdjmkbnboaaGreatDoor
