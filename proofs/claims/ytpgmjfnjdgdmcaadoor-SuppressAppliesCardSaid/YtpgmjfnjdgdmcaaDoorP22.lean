import Derived.Test.YtpgmjfnjdgdmcaaDoorP21
namespace Go.Proofs.YtpgmjfnjdgdmcaaDoor
open Go.RowKit Go.Sort

theorem bldAt_below {B b : Nat} {p : Value} {bs : List Value} {w w' : World} (h : Lib.BuilderAt 58 5 B b p bs w) (hb : Below w.heap.size w w') : Lib.BuilderAt 58 5 B b p bs w' := by
  obtain ⟨hB, v, hbk, hown, hne⟩ := h
  refine ⟨hB, v, ?_, hown.kept ⟨hb.os, hb.tape, hb.output, hb.size, fun k hk _ => hb.block k hk⟩ (row := none) (by cases hv : Value.ownBlock _ <;> simp), hne⟩
  rw [hb.block b (Array.getElem?_eq_some_iff.1 hbk).1, hbk]
theorem bld_below {B b : Nat} {bs : List Value} {w w' : World} (h : Lib.IsBuilder 58 5 B b bs w) (hb : Below w.heap.size w w') : Lib.IsBuilder 58 5 B b bs w' :=
  h.imp (bldAt_below · hb) (bldAt_below · hb)
theorem orStar (s : ByteArray) (w : World) : Calls Tryd.prog 30 #[.string s, .string ⟨#[]⟩, .string ⟨#[42]⟩] w (Same w (.string (starB s))) := by
  have h := orAny30 s ⟨#[]⟩ ⟨#[42]⟩ w
  have e : orA s ⟨#[]⟩ ⟨#[42]⟩ = starB s := by
    unfold orA starB
    rw [show (⟨#[]⟩ : ByteArray).toList = [] from mkB_toList []]
  rwa [e] at h
theorem kind_cell (w : World) (k : Int) (kn : Nat) (h : kn < 5) (hk : k = kn) : (w.alloc (.cells (kindL.map Value.string).toArray 9)).cell? ⟨w.heap.size, kn, none⟩ = some (.string (kindW k)) := by
  subst hk
  rw [Lib.cell_of_heap (heap_alloc_new w _)]
  match kn, h with
  | 0, _ => rfl
  | 1, _ => rfl
  | 2, _ => rfl
  | 3, _ => rfl
  | 4, _ => rfl

def lineXs (x : Nt) : List ByteArray := [⟨#[115, 117, 112, 112, 114, 101, 115, 115]⟩, kindW x.kind, starB x.cls, starB x.meth, starB x.what, x.reason]
def lineJ (x : Nt) : ByteArray := ⟨(Lib.join ((lineXs x).map (·.data.toList)) (⟨#[32]⟩ : ByteArray).data.toList).toArray⟩
theorem line_eq (R : ByteArray) (x : Nt) : Lib.strCells R ++ Lib.strCells (lineJ x) ++ Lib.strCells ⟨#[10]⟩ = Lib.strCells (lineR R x) := by
  simp [Lib.strCells, lineR, lineJ, lineXs, Lib.join, ByteArray.data_append]
theorem line_cells (w : World) (x : Nt) (j : Nat) (y : ByteArray) (h : (lineXs x)[j]? = some y) : (w.alloc (.cells #[.string ⟨#[115, 117, 112, 112, 114, 101, 115, 115]⟩, .string (kindW x.kind), .string (starB x.cls), .string (starB x.meth), .string (starB x.what), .string x.reason] 9)).cell? ⟨w.heap.size, 0 + j, none⟩ = some (.string y) := by
  rw [Lib.cell_of_heap (heap_alloc_new w _), Nat.zero_add]
  have e : #[Value.string ⟨#[115, 117, 112, 112, 114, 101, 115, 115]⟩, .string (kindW x.kind), .string (starB x.cls), .string (starB x.meth), .string (starB x.what), .string x.reason] = ((lineXs x).map Value.string).toArray := rfl
  rw [e, List.getElem?_toArray, List.getElem?_map, h]; rfl

set_option maxRecDepth 100000 in
set_option maxHeartbeats 4000000 in
theorem text13 (l : List Nt) (a : Option Addr) (c : Nat) (w : World) (h : NtsAt w a l) (hl : l.length ≤ 1000000) (hK : KW w) :
    Calls Tryd.prog 13 #[.slice a l.length c] w (Ret w (textV l)) := by
  have HA := Lib.hid h; clear h
  have HK := Lib.hid hK; clear hK
  by_cases hbig : 200 < l.length
  · have HF : Hid (textV l = .tuple #[.string ⟨#[]⟩, .int .i64 3]) := if_pos hbig
    go_enter Tryd.func13, Tryd.ntmps13
    go_wp2
    go_ret2
    exact ⟨by rw [HF.out]; rfl, Below.refl _ _⟩
  have hl2 : l.length ≤ 200 := by omega
  have HBIG := Lib.hid hbig; clear hbig
  have R0 : Hid (TRel w l 0 ⟨#[]⟩ (w.alloc (.cells #[.pointer none, .slice none 0 0] 58))) := ⟨Nat.zero_le _, by simp, by simp [linesR], by decide, (Below.refl _ _).alloc (Nat.le_refl _) _⟩
  have B0 : Hid (Lib.IsBuilder 58 5 w.heap.size w.heap.size (Lib.strCells ⟨#[]⟩) (w.alloc (.cells #[.pointer none, .slice none 0 0] 58))) := Lib.fresh_isBuilder 58 5 w
  go_enter Tryd.func13, Tryd.ntmps13
  go_wp2
  go_loopw [14] (fun i wr => ∃ k R, i = .int .i64 (k : Nat) ∧ TRel w l k R wr ∧ Lib.IsBuilder 58 5 w.heap.size w.heap.size (Lib.strCells R) wr) (fun i _ => l.length - (intOf i).toNat)
  case atStart => exact ⟨0, _, rfl, R0.out, B0.out⟩
  case round =>
    clear R0 B0
    obtain ⟨k, R, rfl, hrel, hbl⟩ := hrel
    have hk := hrel.hk
    have hs := hrel.hs
    have HREL := Lib.hid hrel; clear hrel
    have HBL := Lib.hid hbl; clear hbl
    by_cases hlt : k < l.length
    · obtain ⟨b, off, rfl, m0, m1, m2, m3, m4⟩ := HA.out.below HREL.out.hb k hlt
      have HX : Hid (l.take (k + 1) = l.take k ++ [l[k]]) := List.take_succ_eq_append_getElem hlt
      have HER := Lib.hid (errN_at hlt HREL.out.hok)
      generalize l[k] = x at *
      go_wp2_with fail
      have HB1 := Lib.hid (HREL.out.hb.alloc (by have := HREL.out.hb.size; omega) (.cells #[.int .i64 x.kind, .string x.cls, .string x.meth, .string x.what, .string x.reason] 23))
      have BN : Hid (Blk (wr.alloc (.cells #[.int .i64 x.kind, .string x.cls, .string x.meth, .string x.what, .string x.reason] 23)) wr.heap.size #[.int .i64 x.kind, .string x.cls, .string x.meth, .string x.what, .string x.reason] 23) := blk_new _ _ _
      have HBL1 := Lib.hid (bld_below HBL.out ((Below.refl wr.heap.size wr).alloc (Nat.le_refl _) (.cells #[.int .i64 x.kind, .string x.cls, .string x.meth, .string x.what, .string x.reason] 23)))
      refine (check8 x _ (HK.out.below HB1.out)).mono ?_
      rintro e w2 ⟨rfl, hb2⟩
      have HB2 := Lib.hid (HB1.out.trans (hb2.mono HB1.out.size))
      have BN2 := Lib.hid (BN.out.below hb2)
      have HBL2 := Lib.hid (bld_below HBL1.out hb2)
      clear hb2 BN HB1 HBL HBL1 m0 m1 m2 m3 m4
      by_cases h0 : noteE x = 0
      · have t0 : (noteE x != 0) = false := by simp [h0]
        obtain ⟨z1, z2, z3, z4, z5⟩ := note_size h0
        have HLS := Lib.hid (lineR_size (R := R) h0)
        have hk0 : 0 ≤ x.kind := (note_ok h0).1.1
        have hk5 : x.kind < 5 := by have := (note_ok h0).1.2; omega
        have H0 := Lib.hid h0; clear h0
        have c0 : w2.cell? ⟨wr.heap.size, 0, none⟩ = some (.int .i64 x.kind) := BN2.out.cell 0 (by simp)
        have c1 : w2.cell? ⟨wr.heap.size, 1, none⟩ = some (.string x.cls) := BN2.out.cell 1 (by simp)
        have c2 : w2.cell? ⟨wr.heap.size, 2, none⟩ = some (.string x.meth) := BN2.out.cell 2 (by simp)
        have c3 : w2.cell? ⟨wr.heap.size, 3, none⟩ = some (.string x.what) := BN2.out.cell 3 (by simp)
        have c4 : w2.cell? ⟨wr.heap.size, 4, none⟩ = some (.string x.reason) := BN2.out.cell 4 (by simp)
        go_wp2
        have hne : Nonempty (WC5 ⟨wr.heap.size, 0, none⟩ ⟨wr.heap.size, 1, none⟩ ⟨wr.heap.size, 2, none⟩ ⟨wr.heap.size, 3, none⟩ ⟨wr.heap.size, 4, none⟩ (.int .i64 x.kind) (.string x.cls) (.string x.meth) (.string x.what) (.string x.reason)) := ⟨⟨w2, c0, c1, c2, c3, c4⟩⟩
        have k0 : ∀ q : WC5 ⟨wr.heap.size, 0, none⟩ ⟨wr.heap.size, 1, none⟩ ⟨wr.heap.size, 2, none⟩ ⟨wr.heap.size, 3, none⟩ ⟨wr.heap.size, 4, none⟩ (.int .i64 x.kind) (.string x.cls) (.string x.meth) (.string x.what) (.string x.reason), q.u.cell? ⟨wr.heap.size, 0, none⟩ = some (.int .i64 x.kind) := fun q => q.h0
        have e0 : ({ w2 with drawn := w2.drawn + 1 } : World).cell? ⟨wr.heap.size, 0, none⟩ = some (.int .i64 x.kind) := c0
        have k1 : ∀ q : WC5 ⟨wr.heap.size, 0, none⟩ ⟨wr.heap.size, 1, none⟩ ⟨wr.heap.size, 2, none⟩ ⟨wr.heap.size, 3, none⟩ ⟨wr.heap.size, 4, none⟩ (.int .i64 x.kind) (.string x.cls) (.string x.meth) (.string x.what) (.string x.reason), q.u.cell? ⟨wr.heap.size, 1, none⟩ = some (.string x.cls) := fun q => q.h1
        have e1 : ({ w2 with drawn := w2.drawn + 1 } : World).cell? ⟨wr.heap.size, 1, none⟩ = some (.string x.cls) := c1
        have k2 : ∀ q : WC5 ⟨wr.heap.size, 0, none⟩ ⟨wr.heap.size, 1, none⟩ ⟨wr.heap.size, 2, none⟩ ⟨wr.heap.size, 3, none⟩ ⟨wr.heap.size, 4, none⟩ (.int .i64 x.kind) (.string x.cls) (.string x.meth) (.string x.what) (.string x.reason), q.u.cell? ⟨wr.heap.size, 2, none⟩ = some (.string x.meth) := fun q => q.h2
        have e2 : ({ w2 with drawn := w2.drawn + 1 } : World).cell? ⟨wr.heap.size, 2, none⟩ = some (.string x.meth) := c2
        have k3 : ∀ q : WC5 ⟨wr.heap.size, 0, none⟩ ⟨wr.heap.size, 1, none⟩ ⟨wr.heap.size, 2, none⟩ ⟨wr.heap.size, 3, none⟩ ⟨wr.heap.size, 4, none⟩ (.int .i64 x.kind) (.string x.cls) (.string x.meth) (.string x.what) (.string x.reason), q.u.cell? ⟨wr.heap.size, 3, none⟩ = some (.string x.what) := fun q => q.h3
        have e3 : ({ w2 with drawn := w2.drawn + 1 } : World).cell? ⟨wr.heap.size, 3, none⟩ = some (.string x.what) := c3
        have k4 : ∀ q : WC5 ⟨wr.heap.size, 0, none⟩ ⟨wr.heap.size, 1, none⟩ ⟨wr.heap.size, 2, none⟩ ⟨wr.heap.size, 3, none⟩ ⟨wr.heap.size, 4, none⟩ (.int .i64 x.kind) (.string x.cls) (.string x.meth) (.string x.what) (.string x.reason), q.u.cell? ⟨wr.heap.size, 4, none⟩ = some (.string x.reason) := fun q => q.h4
        have e4 : ({ w2 with drawn := w2.drawn + 1 } : World).cell? ⟨wr.heap.size, 4, none⟩ = some (.string x.reason) := c4
        refine wp_region_Y (fun w' => ∃ q : WC5 ⟨wr.heap.size, 0, none⟩ ⟨wr.heap.size, 1, none⟩ ⟨wr.heap.size, 2, none⟩ ⟨wr.heap.size, 3, none⟩ ⟨wr.heap.size, 4, none⟩ (.int .i64 x.kind) (.string x.cls) (.string x.meth) (.string x.what) (.string x.reason), w' = q.u) (by kernel_rfl) ?_
        refine wpAnyY_take 1 rfl (by kernel_rfl) (fun _ _ _ _ h => h) ⟨⟨_, e0, e1, e2, e3, e4⟩, rfl⟩ (fun K hK => ?_)
        go_simp
        refine hK _ ?_
        clear hK K
        refine wpAnyY_take 2 rfl (by kernel_rfl) (fun _ _ _ _ h => h) ⟨⟨_, e0, e1, e2, e3, e4⟩, rfl⟩ (fun K hK => ?_)
        go_simp
        refine hK _ ?_
        clear hK K
        refine wpAnyY_take 5 rfl (by kernel_rfl) (fun _ _ _ _ h => h) ⟨⟨_, e0, e1, e2, e3, e4⟩, rfl⟩ (fun K hK => ?_)
        go_simp
        refine hK _ ?_
        clear hK K
        refine wpAnyY_take 6 rfl (by kernel_rfl) (fun _ _ _ _ h => h) ⟨⟨_, e0, e1, e2, e3, e4⟩, rfl⟩ (fun K hK => ?_)
        go_simp
        refine hK _ ?_
        clear hK K
        refine wpAnyY_take 8 rfl (by kernel_rfl) (fun _ _ _ _ h => h) ⟨⟨_, e0, e1, e2, e3, e4⟩, rfl⟩ (fun K hK => ?_)
        go_simp
        refine hK _ ?_
        clear hK K
        refine wpAnyY_take 9 rfl (by kernel_rfl) (fun _ _ _ _ h => h) ⟨⟨_, e0, e1, e2, e3, e4⟩, rfl⟩ (fun K hK => ?_)
        go_simp
        refine hK _ ?_
        clear hK K
        refine wpAnyY_take 11 rfl (by kernel_rfl) (fun _ _ _ _ h => h) ⟨⟨_, e0, e1, e2, e3, e4⟩, rfl⟩ (fun K hK => ?_)
        go_simp
        refine hK _ ?_
        clear hK K
        refine wpAnyY_take 12 rfl (by kernel_rfl) (fun _ _ _ _ h => h) ⟨⟨_, e0, e1, e2, e3, e4⟩, rfl⟩ (fun K hK => ?_)
        go_simp
        refine hK _ ?_
        clear hK K
        refine wpAnyY_take 14 rfl (by kernel_rfl) (fun _ _ _ _ h => h) ⟨⟨_, e0, e1, e2, e3, e4⟩, rfl⟩ (fun K hK => ?_)
        go_simp
        refine hK _ ?_
        clear hK K
        refine wpAnyY_take 15 rfl (by kernel_rfl) (fun _ _ _ _ h => h) ⟨⟨_, e0, e1, e2, e3, e4⟩, rfl⟩ (fun K hK => ?_)
        go_simp
        refine hK _ ?_
        clear hK K
        refine wpAnyY_one 0 rfl (by kernel_rfl) ?_
        go_wp2_with fail
        refine (kinds29 _).mono ?_
        rintro e w3 ⟨rfl, hw3⟩
        have hb3 : Below w2.heap.size w2 w3 := by rw [hw3]; exact ((Below.refl _ _).drew).alloc (Nat.le_refl _) _
        have HKL : Hid (w3.cell? ⟨w2.heap.size, x.kind.toNat, none⟩ = some (.string (kindW x.kind))) := by rw [hw3]; exact kind_cell _ _ _ (by omega) (by omega)
        clear hw3
        have HKL' := HKL.out
        have f0 := cell_below hb3 c0
        have f1 := cell_below hb3 c1
        have f2 := cell_below hb3 c2
        have f3 := cell_below hb3 c3
        have f4 := cell_below hb3 c4
        go_wp2
        refine ⟨⟨⟨_, f0, f1, f2, f3, f4⟩, rfl⟩, ?_⟩
        refine wpAnyY_call 7 (.string (starB x.cls)) rfl (by kernel_rfl) (fun _ _ _ _ h => h) ⟨⟨_, f0, f1, f2, f3, f4⟩, rfl⟩ rfl ?_ ?_
        · rintro w' ⟨q, rfl⟩
          go_simp
          exact orStar x.cls _
        refine wpY_hide (fun K hK => ?_)
        go_simp
        refine hK _ ?_
        clear hK K
        refine wpAnyY_call 10 (.string (starB x.meth)) rfl (by kernel_rfl) (fun _ _ _ _ h => h) ⟨⟨_, f0, f1, f2, f3, f4⟩, rfl⟩ rfl ?_ ?_
        · rintro w' ⟨q, rfl⟩
          go_simp
          exact orStar x.meth _
        refine wpY_hide (fun K hK => ?_)
        go_simp
        refine hK _ ?_
        clear hK K
        refine wpAnyY_call 13 (.string (starB x.what)) rfl (by kernel_rfl) (fun _ _ _ _ h => h) ⟨⟨_, f0, f1, f2, f3, f4⟩, rfl⟩ rfl ?_ ?_
        · rintro w' ⟨q, rfl⟩
          go_simp
          exact orStar x.what _
        refine wpY_hide (fun K hK => ?_)
        go_simp
        refine hK _ ?_
        clear hK K
        refine wpAnyY_one 3 rfl (by kernel_rfl) ?_
        go_wp2
        refine ⟨⟨⟨_, f0, f1, f2, f3, f4⟩, rfl⟩, ?_⟩
        refine wpAnyY_one 4 rfl (by kernel_rfl) ?_
        go_wp2
        refine ⟨⟨⟨_, f0, f1, f2, f3, f4⟩, rfl⟩, ?_⟩
        refine wpAnyY_one 16 rfl (by kernel_rfl) ?_
        go_wp2
        have hb4 := hb3.alloc (Nat.le_trans (Nat.le_refl _) hb3.size) (.cells #[.string ⟨#[115, 117, 112, 112, 114, 101, 115, 115]⟩, .string (kindW x.kind), .string (starB x.cls), .string (starB x.meth), .string (starB x.what), .string x.reason] 9)
        refine ⟨⟨⟨_, cell_below hb4 c0, cell_below hb4 c1, cell_below hb4 c2, cell_below hb4 c3, cell_below hb4 c4⟩, rfl⟩, ?_⟩
        refine wpAnyY_one 17 rfl (by kernel_rfl) ?_
        go_wp2
        refine ⟨⟨⟨_, cell_below hb4 c0, cell_below hb4 c1, cell_below hb4 c2, cell_below hb4 c3, cell_below hb4 c4⟩, rfl⟩, ?_⟩
        refine wpAnyY_done (by kernel_rfl) ?_ _
        have HC := Lib.hid (line_cells w3 x)
        have hlt4 : w3.heap.size < (w3.alloc (.cells #[.string ⟨#[115, 117, 112, 112, 114, 101, 115, 115]⟩, .string (kindW x.kind), .string (starB x.cls), .string (starB x.meth), .string (starB x.what), .string x.reason] 9)).heap.size := (blk_new w3 _ 9).lt
        have HLT4 := Lib.hid hlt4; clear hlt4
        have HBL4 := Lib.hid (bld_below HBL2.out hb4)
        have HB4 := Lib.hid (HB2.out.trans (hb4.mono HB2.out.size))
        have HLE := Lib.hid (line_eq R x)
        have hsz : R.size + (lineJ x).size + 1 ≤ R.size + 316 := by
          have h1 := congrArg List.length HLE.out
          simp only [List.length_append, Lib.strCells_length] at h1
          have h2 := HLS.out
          have h3 : (⟨#[10]⟩ : ByteArray).size = 1 := rfl
          omega
        have HJL : Hid ((Lib.join ((lineXs x).map (·.data.toList)) (⟨#[32]⟩ : ByteArray).data.toList).length ≤ 140737488355328) := by
          show _ ≤ _
          have : (lineJ x).size = (Lib.join ((lineXs x).map (·.data.toList)) (⟨#[32]⟩ : ByteArray).data.toList).length := rfl
          omega
        have HN6 : Hid ((lineXs x).length = 6) := rfl
        generalize (w3.alloc (.cells #[.string ⟨#[115, 117, 112, 112, 114, 101, 115, 115]⟩, .string (kindW x.kind), .string (starB x.cls), .string (starB x.meth), .string (starB x.what), .string x.reason] 9)) = w4 at *
        generalize w3.heap.size = bk at *
        clear hne k0 k1 k2 k3 k4 e0 e1 e2 e3 e4 f0 f1 f2 f3 f4 c0 c1 c2 c3 c4 hb3 hb4 HKL HKL' BN2 HB2 HBL2
        go_wp2_with fail
        refine (Tryd.strings_Join bk 0 6 (lineXs x) ⟨#[32]⟩ w4 HC.out HLT4.out (by rw [HN6.out]; decide) (by rw [HN6.out]; decide) HJL.out).mono ?_
        rintro e w5 ⟨rfl, hb5⟩
        have HBL5 := Lib.hid (bld_below HBL4.out hb5)
        have HB5 := Lib.hid (HB4.out.trans (hb5.mono HB4.out.size))
        clear hb5 HBL4 HB4 HC HLT4
        go_wp2_with fail
        refine (writeString31 w.heap.size w.heap.size _ (lineJ x) w5 HBL5.out (by rw [Lib.strCells_length]; omega) HB5.out.size).mono ?_
        rintro e w6 ⟨rfl, hbl6, hb6⟩
        have HBL6 := Lib.hid hbl6; clear hbl6
        have HB6 := Lib.hid (HB5.out.trans hb6); clear hb6 HB5 HBL5
        go_wp2_with fail
        refine (writeString31 w.heap.size w.heap.size _ ⟨#[10]⟩ w6 (.inr HBL6.out) (by rw [List.length_append, Lib.strCells_length, Lib.strCells_length, show (⟨#[10]⟩ : ByteArray).size = 1 from rfl]; omega) HB6.out.size).mono ?_
        rintro e w7 ⟨rfl, hbl7, hb7⟩
        have HBL7 := Lib.hid hbl7; clear hbl7
        have HB7 := Lib.hid (HB6.out.trans hb7); clear hb7 HB6 HBL6
        go_wp2
        go_roundw
        case rel =>
          refine ⟨k + 1, lineR R x, by go_num, ⟨by omega, ?_, ?_, ?_, HB7.out⟩, ?_⟩
          · rw [HX.out]
            intro n hn
            rcases List.mem_append.1 hn with h | h
            · exact HREL.out.hok n h
            · rw [List.mem_singleton.1 h]; exact H0.out
          · rw [HX.out, linesR_snoc, ← HREL.out.hR]
          · have := HLS.out; omega
          · rw [← HLE.out]; exact .inr HBL7.out
        case measure => simp [intOf]; omega
      · have t0 : (noteE x != 0) = true := by simpa using h0
        have HF : Hid (textV l = .tuple #[.string ⟨#[]⟩, .int .i64 (noteE x)]) := by
          show _ = _
          unfold textV
          rw [if_neg HBIG.out, HER.out h0, if_pos h0]
        clear h0
        go_wp2
        go_ret2
        exact ⟨by rw [HF.out]; rfl, HB2.out⟩
    · obtain rfl : k = l.length := by omega
      have HF : Hid (textV l = .tuple #[.string R, .int .i64 0]) := by
        show _ = _
        have h1 := HREL.out.hok
        have h2 := HREL.out.hR
        rw [List.take_of_length_le (Nat.le_refl _)] at h1 h2
        unfold textV
        rw [if_neg HBIG.out, errN_all h1, if_neg (by simp), h2]
      go_wp2_with fail
      refine (Tryd.Builder_String_any w.heap.size w.heap.size R.data.toList wr HBL.out HREL.out.hb.size).mono ?_
      rintro e w7 ⟨rfl, hb7⟩
      have HB7 := Lib.hid (HREL.out.hb.trans hb7); clear hb7
      go_wp2
      go_ret2
      exact ⟨by rw [HF.out]; rfl, HB7.out⟩
end Go.Proofs.YtpgmjfnjdgdmcaaDoor
