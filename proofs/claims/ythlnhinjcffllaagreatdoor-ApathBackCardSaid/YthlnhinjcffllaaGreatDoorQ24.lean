/-
  awake() returns true.
-/
import Derived.Test.YthlnhinjcffllaaGreatDoorAw
import Derived.Test.YthlnhinjcffllaaGreatDoorQ21
import Derived.Recover
namespace Go.Proofs.YthlnhinjcffllaaGreatDoor
open Go Go.AM Go.RowKit
set_option maxRecDepth 100000

def mks : List ByteArray := [⟨#[58, 58]⟩, ⟨#[61, 61]⟩, ⟨#[58]⟩, ⟨#[123]⟩, ⟨#[125]⟩, ⟨#[40]⟩, ⟨#[41]⟩, ⟨#[59]⟩, ⟨#[44]⟩, ⟨#[46]⟩, ⟨#[61]⟩, ⟨#[60]⟩, ⟨#[43]⟩, ⟨#[45]⟩, ⟨#[42]⟩]
def fms : List ByteArray := [⟨#[]⟩, ⟨#[100, 110]⟩, ⟨#[100]⟩, ⟨#[100, 97]⟩, ⟨#[100, 97, 111, 98]⟩, ⟨#[100]⟩, ⟨#[100, 99]⟩, ⟨#[100, 97, 109]⟩, ⟨#[97, 109, 98]⟩, ⟨#[100, 97, 99, 109, 42]⟩, ⟨#[100, 99, 109, 42]⟩, ⟨#[97, 103]⟩, ⟨#[103]⟩, ⟨#[97]⟩, ⟨#[97]⟩, ⟨#[100, 99]⟩, ⟨#[100, 97, 110]⟩]
/-- the variables that are read hold what the text lays -/
structure AW (w : World) : Prop where
  kw : KW w
  m5 : ∃ t fr, w.heap[5]? = some (.cells (mks.map Value.string).toArray t fr)
  fm : ∃ t fr, w.heap[6]? = some (.cells (fms.map Value.string).toArray t fr)
  z : lowN ≤ w.heap.size
  p10 : Pow10 w
  mc : ∃ m, w.cell? ⟨1, 0, none⟩ = some (.int .i64 m)
theorem held_below {w w' : World} {g : Nat} {c : Array Value} (h : ∃ t fr, w.heap[g]? = some (.cells c t fr)) (hb : Below w.heap.size w w') : ∃ t fr, w'.heap[g]? = some (.cells c t fr) := by
  obtain ⟨t, fr, h⟩ := h
  exact ⟨t, fr, by rw [hb.block g (Array.getElem?_eq_some_iff.1 h).1, h]⟩
theorem AW.below {w w' : World} (h : AW w) (hb : Below w.heap.size w w') : AW w' :=
  ⟨h.kw.below hb, held_below h.m5 hb, held_below h.fm hb, Nat.le_trans h.z hb.size, pow_below h.p10 hb, by obtain ⟨m, hm⟩ := h.mc; exact ⟨m, cell_below hb hm⟩⟩
theorem AW.low {w : World} (h : AW w) : LowOk lowL w := by
  intro r l hm
  unfold lowL at hm
  simp only [List.mem_cons, List.mem_nil_iff, or_false, Prod.mk.injEq] at hm
  rcases hm with ⟨rfl, rfl⟩ | ⟨rfl, rfl⟩ | ⟨rfl, rfl⟩
  · exact ⟨by decide, rfl, low_strs (l := kws) h.kw (by kernel_rfl) rfl⟩
  · exact ⟨by decide, rfl, low_strs (l := mks) h.m5 (by kernel_rfl) rfl⟩
  · exact ⟨by decide, rfl, low_strs (l := fms) h.fm (by kernel_rfl) rfl⟩
theorem mixed : Tryz.prog.follows .mixedOrders = true := by kernel_rfl
theorem namedB : Tryz.prog.funcs.all (fun F => F.body.isNone || !(F.name == "runtime.NumGoroutine")) = true := by kernel_rfl
theorem named : Named Tryz.prog := by
  intro f F c hf hb
  have h1 := Array.all_eq_true.1 namedB f (Array.getElem?_eq_some_iff.1 hf).1
  rw [(Array.getElem?_eq_some_iff.1 hf).2, hb] at h1
  simpa using h1
theorem enters {f : Nat} {F : Func} {c : Code} (hf : Tryz.prog.funcs[f]? = some F) (hb : F.body = some c) : ∀ args w, (callFunc f args).run Tryz.prog w = .ok (.enter f args) w := fun args w => run_callFunc_body named hf hb args w
theorem map_nat_inj : ∀ {l m : List UInt8}, l.map (·.toNat) = m.map (·.toNat) → l = m
  | [], [], _ => rfl
  | [], _ :: _, h => by cases h
  | _ :: _, [], h => by cases h
  | a :: l, b :: m, h => by
    simp only [List.map_cons, List.cons.injEq] at h
    rw [UInt8.toNat_inj.1 h.1, map_nat_inj h.2]
theorem tab_ok {l : List UInt8} {v : AV} (hl : l.length ≤ 65536) (hv : ∀ E, VRel E v (rootV l)) : ∀ (z : ByteArray) (w : World), z.data.toList.map (·.toNat) = l.map (·.toNat) → Calls Tryz.prog 33 #[.string z] w fun e w' => ∃ u, e = .returned u ∧ (∀ E, VRel E v u) ∧ Below w.heap.size w w' := by
  intro z w hz
  have h := parseRoot33 l w hl
  rw [← map_nat_inj hz, mkB_self] at h
  refine h.mono ?_
  rintro e w' ⟨rfl, hb⟩
  exact ⟨_, rfl, fun E => by rw [map_nat_inj hz]; exact hv E, hb⟩
theorem h149 (w : World) : (Instr.typeAssert .nilIface 20 149 true).run Tryz.prog w = .ok (.tuple #[.agg #[.int .i64 0], .bool false]) w := by kernel_rfl
theorem key89 (T : Array Value) (hT : T.size = 12) (w : World) (c₀ : Frame) (cs : List Frame) (hu : c₀.mode = .returning) : (Tryz.f89.body.getD .skip).wpS Tryz.prog (bodyPostS Tryz.prog Tryz.f89 c₀ cs (fun e u' w' => (∃ v, e = .returned v) ∧ u' = .returning ∧ Below w.heap.size w w')) { tmps := T, defers := [] } (c₀ :: cs) w := by
  obtain ⟨l⟩ := T
  match l, hT with
  | [a0, a1, a2, a3, a4, a5, a6, a7, a8, a9, a10, a11], _ =>
  show Code.wpS _ _ _ _ _ _
  apply wpS_seq
  apply wpS_region
  simp [wpOpsS, go_sem, recoverD, hu, Exit.thenS, h149]
  apply wpS_seq
  apply wpS_region
  simp [wpOpsS, go_sem, Exit.thenS]
  refine wpS_cond (t := false) (by simp [Act.eval]) ?_
  simp only [Bool.false_eq_true, if_false]
  refine wpS_of_wp (wp_skip ?_)
  cases c₀
  simp_all [bodyPostS, results, Tryz.results89]
  exact (Below.refl _ _).alloc (Nat.le_refl _) _
theorem noop89 (args : Array Value) (w : World) (hs : args.size ≤ 2) : CallsD Tryz.prog 89 args .returning w (fun e u' w' => (∃ v, e = .returned v) ∧ u' = .returning ∧ Below w.heap.size w w') :=
  callsD_of_wpS Tryz.func89 rfl fun c₀ cs hu => key89 _ (by rw [Tryz.ntmps89]; simp; omega) w c₀ cs hu

theorem h341 (w : World) : (Instr.typeAssert .nilIface 20 341 true).run Tryz.prog w = .ok (.tuple #[.agg #[.int .i64 0], .bool false]) w := by kernel_rfl
theorem key256 (T : Array Value) (hT : T.size = 11) (w : World) (c₀ : Frame) (cs : List Frame) (hu : c₀.mode = .returning) : (Tryz.f256.body.getD .skip).wpS Tryz.prog (bodyPostS Tryz.prog Tryz.f256 c₀ cs (fun e u' w' => (∃ v, e = .returned v) ∧ u' = .returning ∧ Below w.heap.size w w')) { tmps := T, defers := [] } (c₀ :: cs) w := by
  obtain ⟨l⟩ := T
  match l, hT with
  | [a0, a1, a2, a3, a4, a5, a6, a7, a8, a9, a10], _ =>
  show Code.wpS _ _ _ _ _ _
  apply wpS_seq
  apply wpS_region
  simp [wpOpsS, go_sem, recoverD, hu, Exit.thenS, h341]
  apply wpS_seq
  apply wpS_region
  simp [wpOpsS, go_sem, Exit.thenS]
  refine wpS_cond (t := false) (by simp [Act.eval]) ?_
  simp only [Bool.false_eq_true, if_false]
  refine wpS_of_wp (wp_skip ?_)
  cases c₀
  simp_all [bodyPostS, results, Tryz.results256]
  exact (Below.refl _ _).alloc (Nat.le_refl _) _
theorem noop256 (args : Array Value) (w : World) (hs : args.size ≤ 2) : CallsD Tryz.prog 256 args .returning w (fun e u' w' => (∃ v, e = .returned v) ∧ u' = .returning ∧ Below w.heap.size w w') :=
  callsD_of_wpS Tryz.func256 rfl fun c₀ cs hu => key256 _ (by rw [Tryz.ntmps256]; simp; omega) w c₀ cs hu

theorem noopOk : NoopOk Tryz.prog env.noop := by
  intro f hf args w hs
  have hf : (Nat.beq f 89 || Nat.beq f 256) = true := hf
  rw [Bool.or_eq_true] at hf
  rcases hf with h | h
  · obtain rfl := Nat.eq_of_beq_eq_true h
    exact ⟨enters Tryz.func89 rfl _ _, noop89 args w hs⟩
  · obtain rfl := Nat.eq_of_beq_eq_true h
    exact ⟨enters Tryz.func256 rfl _ _, noop256 args w hs⟩
theorem idxSaid : IdxSaid Tryz.prog 332 := ⟨Tryz.strings_IndexByte, enters Tryz.func332 rfl⟩
theorem ixSaid : IxSaid Tryz.prog 53 := ⟨Tryz.strings_Index_one, enters Tryz.func53 rfl⟩
theorem cntSaid : CntSaid Tryz.prog 85 := ⟨Tryz.strings_Count_one, enters Tryz.func85 rfl⟩
/-- one by one -/
theorem cond_prim {f k : Nat} {x y : Option CallF1} {g : CallF1} (h : cond (Nat.beq f k) x y = some g) : (f = k ∧ x = some g) ∨ y = some g := by
  cases hb : Nat.beq f k with
  | true => rw [hb] at h; exact .inl ⟨Nat.eq_of_beq_eq_true hb, h⟩
  | false => rw [hb] at h; exact .inr h
theorem env_ok : ∀ B f g, env.prim f = some g → CallOk1 Tryz.prog B f g := by
  intro B f g h
  rcases cond_prim h with ⟨rfl, h⟩ | h
  · cases h; exact idxPrim_ok idxSaid
  · cases h
theorem cA_call (B : Bds) : CallOk1 Tryz.prog B 37 cA.prim := Chunk.callOk cA cA_ok cA_run mixed noopOk named env_ok
theorem cB_call (B : Bds) : CallOk1 Tryz.prog B 38 cB.prim := Chunk.callOk cB cB_ok cB_run mixed noopOk named env_ok
theorem cC_call (B : Bds) : CallOk1 Tryz.prog B 39 cC.prim := Chunk.callOk cC cC_ok cC_run mixed noopOk named env_ok
theorem env2_ok : ∀ B f g, env2.prim f = some g → CallOk1 Tryz.prog B f g := by
  intro B f g h
  rcases cond_prim h with ⟨rfl, h⟩ | h
  · cases h; exact cA_call B
  rcases cond_prim h with ⟨rfl, h⟩ | h
  · cases h; exact cB_call B
  rcases cond_prim h with ⟨rfl, h⟩ | h
  · cases h; exact cC_call B
  · exact env_ok B f g h
theorem cL_call (B : Bds) : CallOk1 Tryz.prog B 23 cL.primR := Chunk.callOkR cL cL_ok cL_run mixed noopOk named env2_ok
theorem tab33_ok (B : Bds) : CallOk1 Tryz.prog B 33 (tabPrim tab33) := by
  refine tabPrim_ok (enters Tryz.func33 rfl) ?_
  intro p hp
  unfold tab33 at hp
  simp only [List.mem_cons, List.mem_nil_iff, or_false] at hp
  rcases hp with rfl | rfl | rfl
  · refine tab_ok (l := [114, 101, 115, 117, 108, 116]) (by decide) fun E => ?_
    simp only [VRel, LRel]
    exact ⟨_, rfl, _, _, rfl, rfl, _, _, rfl, rfl, _, _, rfl, rfl, rfl⟩
  · refine tab_ok (l := [97, 114, 103, 57]) (by decide) fun E => ?_
    simp only [VRel, LRel]
    exact ⟨_, rfl, _, _, rfl, rfl, _, _, rfl, rfl, _, _, rfl, rfl, rfl⟩
  · refine tab_ok (l := [97, 114, 103, 48, 49]) (by decide) fun E => ?_
    simp only [VRel, LRel]
    exact ⟨_, rfl, _, _, rfl, rfl, _, _, rfl, rfl, _, _, rfl, rfl, rfl⟩
theorem env3_ok : ∀ B f g, env3.prim f = some g → CallOk1 Tryz.prog B f g := by
  intro B f g h
  rcases cond_prim h with ⟨rfl, h⟩ | h
  · cases h; exact dupPrim_ok (enters Tryz.func25 rfl) B
  rcases cond_prim h with ⟨rfl, h⟩ | h
  · cases h; exact cL_call B
  rcases cond_prim h with ⟨rfl, h⟩ | h
  · cases h; exact tab33_ok B
  rcases cond_prim h with ⟨rfl, h⟩ | h
  · cases h; exact idxPrim_ok idxSaid
  rcases cond_prim h with ⟨rfl, h⟩ | h
  · cases h; exact ixPrim_ok ixSaid
  rcases cond_prim h with ⟨rfl, h⟩ | h
  · cases h; exact cntPrim_ok cntSaid
  · cases h
theorem awake9 (w : World) (h : AW w) : Calls Tryz.prog 9 #[] w (Ret w (.bool true)) := closed_true (G := env3) mixed noopOk named env3_ok awake_run h.low h.z
end Go.Proofs.YthlnhinjcffllaaGreatDoor
