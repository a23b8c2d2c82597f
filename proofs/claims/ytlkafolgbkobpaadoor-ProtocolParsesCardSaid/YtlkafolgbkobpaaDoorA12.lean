import Derived.Test.YtlkafolgbkobpaaDoorA11
namespace Go.Proofs.YtlkafolgbkobpaaDoor
open Go.RowKit Go.Sort

/-- the protocol of the example -/
def doorP : Pr := { cls := ⟨#[70, 105, 108, 101]⟩, sts := [⟨#[102, 114, 101, 115, 104]⟩, ⟨#[111, 112, 101, 110]⟩, ⟨#[102, 97, 105, 108, 101, 100]⟩], start := 0, err := 2, mvs := [⟨0, ⟨#[111, 112, 101, 110]⟩, 1⟩, ⟨0, ⟨#[114, 101, 97, 100]⟩, 2⟩] }

def DoorPost (w : World) (e : Ending) (w' : World) : Prop := Below w.heap.size w w' ∧ ∃ a1 a2, e = .returned (PrV doorP a1 3 a2 2) ∧ PIn w' doorP a1 3 a2
set_option maxHeartbeats 400000 in
theorem door22 (w : World) : Calls Tryd.prog 22 #[] w (DoorPost w) := by
  go_enter Tryd.func22, Tryd.ntmps22
  go_wp2
  refine bodyPost_ret (v := PrV doorP (some ⟨w.heap.size + 1, 0, none⟩) 3 (some ⟨w.heap.size + 2, 0, none⟩) 2) (by simp [results, Tryd.results22, go_sem, PrV, doorP]) rfl ?_
  refine ⟨((((Below.refl _ _).alloc (Nat.le_refl _) _).alloc (by simp) _).alloc (by simp; omega) _), _, _, rfl, ?_, ?_, by decide, by decide, by decide⟩
  · intro k hk
    refine ⟨w.heap.size + 1, 0, rfl, ?_⟩
    match k, hk with
    | 0, _ => simp [doorP, go_sem]
    | 1, _ => simp [doorP, go_sem]
    | 2, _ => simp [doorP, go_sem]
  · intro k hk
    refine ⟨w.heap.size + 2, 0, rfl, ?_⟩
    match k, hk with
    | 0, _ => simp [doorP, go_sem]
    | 1, _ => simp [doorP, go_sem]
theorem door_check : checkP doorP = 0 := by decide +kernel
theorem door_text : (textB doorP).size = 112 := by decide +kernel
theorem door_run : runP doorP [⟨#[115, 105, 122, 101]⟩, ⟨#[111, 112, 101, 110]⟩, ⟨#[114, 101, 97, 100]⟩] = 1 := by decide +kernel
theorem door_step : stepP doorP 0 ⟨#[114, 101, 97, 100]⟩ = 2 := by decide +kernel
theorem strs3 (w : World) (x y z : ByteArray) (e : TypeId) : StrsAt (w.alloc (.cells #[.string x, .string y, .string z] e)) (some ⟨w.heap.size, 0, none⟩) [x, y, z] := by
  intro k hk
  refine ⟨w.heap.size, 0, rfl, ?_⟩
  rw [cell_of_row _ _ _ _ e (0, 0) (heap_alloc_new w _)]
  match k, hk with
  | 0, _ => rfl
  | 1, _ => rfl
  | 2, _ => rfl
set_option maxHeartbeats 400000 in
theorem awake8 (w : World) (hk : KW w) : Calls Tryd.prog 8 #[] w (Ret w (.bool true)) := by
  have HK := Lib.hid hk; clear hk
  go_enter Tryd.func8, Tryd.ntmps8
  go_wp2_with fail
  refine (door22 _).mono ?_
  rintro e w1 ⟨hb1, a1, a2, rfl, hp⟩
  have HP := Lib.hid hp; clear hp
  go_wp2_with fail
  refine (text17 doorP _ _ _ _ _ (HK.out.below hb1) HP.out).mono ?_
  rintro e w2 ⟨rfl, hb2⟩
  have hb := hb1.trans (hb2.mono hb1.size)
  clear hb1 hb2
  unfold textV
  rw [if_pos door_check]
  have hsz : ((textB doorP).size : Int) = 112 := by rw [door_text]; rfl
  generalize textB doorP = T at *
  go_wp2_with fail
  refine (door22 _).mono ?_
  rintro e w3 ⟨hb1, a3, a4, rfl, hp⟩
  have hb3 := hb.trans (hb1.mono hb.size)
  clear hb hb1
  have HP := Lib.hid hp; clear hp
  go_wp2_with fail
  refine (check15 doorP _ _ _ _ _ (HK.out.below hb3) HP.out.hs HP.out.hm HP.out.hc).mono ?_
  rintro e w4 ⟨rfl, hb1⟩
  have hb := hb3.trans (hb1.mono hb3.size)
  clear hb3 hb1
  rw [door_check]
  go_wp2_with fail
  refine (door22 _).mono ?_
  rintro e w5 ⟨hb1, a5, a6, rfl, hp⟩
  have hb3 := hb.trans (hb1.mono hb.size)
  clear hb hb1
  have HP := Lib.hid hp; clear hp
  go_wp2_with fail
  have hbA : Below w5.heap.size w5 (w5.alloc (.cells #[.string ⟨#[115, 105, 122, 101]⟩, .string ⟨#[111, 112, 101, 110]⟩, .string ⟨#[114, 101, 97, 100]⟩] 9)) := (Below.refl _ _).alloc (Nat.le_refl _) _
  refine (run11 doorP _ _ _ _ _ _ [⟨#[115, 105, 122, 101]⟩, ⟨#[111, 112, 101, 110]⟩, ⟨#[114, 101, 97, 100]⟩] _ (HK.out.below (hb3.trans (hbA.mono hb3.size))) (HP.out.below hbA) (strs3 _ _ _ _ _) (by decide)).mono ?_
  rintro e w6 ⟨rfl, hb1⟩
  have hb := (hb3.trans (hbA.mono hb3.size)).trans (hb1.mono (Nat.le_trans hb3.size hbA.size))
  clear hb3 hb1 hbA
  rw [door_run]
  go_wp2_with fail
  refine (door22 _).mono ?_
  rintro e w7 ⟨hb1, a7, a8, rfl, hp⟩
  have hb3 := hb.trans (hb1.mono hb.size)
  clear hb hb1
  have HP := Lib.hid hp; clear hp
  go_wp2_with fail
  refine (step9 doorP _ _ _ _ _ _ _ (HK.out.below hb3) HP.out).mono ?_
  rintro e w8 ⟨rfl, hb1⟩
  have hb := hb3.trans (hb1.mono hb3.size)
  clear hb3 hb1
  rw [door_step]
  go_wp2
  go_ret
  exact ⟨rfl, hb⟩
end Go.Proofs.YtlkafolgbkobpaaDoor
