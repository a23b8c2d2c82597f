/-
  The closed example awake() of dataflowlaw23 returns true.
-/
import Derived.Test.YtdbmmdjmkbnboaaGreatDoorAw23
import Derived.Test.YtdbmmdjmkbnboaaGreatDoorT2
import Derived.Test.YtdbmmdjmkbnboaaGreatDoorShelf
import Derived.Shelf.Small.Strs
import Derived.Recover
namespace Go.Proofs.YtdbmmdjmkbnboaaGreatDoor
open Go Go.AM Go.RowKit
set_option maxRecDepth 100000
def mks : List ByteArray := [⟨#[58, 58]⟩, ⟨#[61, 61]⟩, ⟨#[58]⟩, ⟨#[123]⟩, ⟨#[125]⟩, ⟨#[40]⟩, ⟨#[41]⟩, ⟨#[59]⟩, ⟨#[44]⟩, ⟨#[46]⟩, ⟨#[61]⟩, ⟨#[60]⟩, ⟨#[43]⟩, ⟨#[45]⟩, ⟨#[42]⟩]
def fms : List ByteArray := [⟨#[]⟩, ⟨#[100, 110]⟩, ⟨#[100]⟩, ⟨#[100, 97]⟩, ⟨#[100, 97, 111, 98]⟩, ⟨#[100]⟩, ⟨#[100, 99]⟩, ⟨#[100, 97, 109]⟩, ⟨#[97, 109, 98]⟩, ⟨#[100, 97, 99, 109, 42]⟩, ⟨#[100, 99, 109, 42]⟩, ⟨#[97, 103]⟩, ⟨#[103]⟩, ⟨#[97]⟩, ⟨#[97]⟩, ⟨#[100, 99]⟩, ⟨#[100, 97, 110]⟩]
def kws : List ByteArray := [⟨#[99, 108, 97, 115, 115]⟩, ⟨#[101, 120, 116, 101, 110, 100, 115]⟩, ⟨#[118, 97, 114]⟩, ⟨#[100, 101, 102]⟩, ⟨#[115, 116, 97, 116, 105, 99]⟩, ⟨#[105, 102]⟩, ⟨#[101, 108, 115, 101]⟩, ⟨#[119, 104, 105, 108, 101]⟩, ⟨#[116, 114, 121]⟩, ⟨#[99, 97, 116, 99, 104]⟩, ⟨#[116, 104, 114, 111, 119]⟩, ⟨#[114, 101, 116, 117, 114, 110]⟩, ⟨#[110, 101, 119]⟩, ⟨#[110, 117, 108, 108]⟩, ⟨#[116, 104, 105, 115]⟩, ⟨#[105, 110, 112, 117, 116]⟩, ⟨#[105, 110, 116]⟩]
/-- the variables that are read hold what the text lays -/
structure AW (w : World) : Prop where
  mr : ∃ t fr, w.heap[0]? = some (.cells (mks.map Value.string).toArray t fr)
  kw : ∃ t fr, w.heap[1]? = some (.cells (kws.map Value.string).toArray t fr)
  fm : ∃ t fr, w.heap[2]? = some (.cells (fms.map Value.string).toArray t fr)
  z : lowN ≤ w.heap.size
theorem held_below {w w' : World} {g : Nat} {c : Array Value} (h : ∃ t fr, w.heap[g]? = some (.cells c t fr)) (hb : Below w.heap.size w w') : ∃ t fr, w'.heap[g]? = some (.cells c t fr) := by
  obtain ⟨t, fr, h⟩ := h
  exact ⟨t, fr, by rw [hb.block g (Array.getElem?_eq_some_iff.1 h).1, h]⟩
theorem AW.below {w w' : World} (h : AW w) (hb : Below w.heap.size w w') : AW w' :=
  ⟨held_below h.mr hb, held_below h.kw hb, held_below h.fm hb, Nat.le_trans h.z hb.size⟩
theorem AW.low {w : World} (h : AW w) : LowOk lowL w := by
  intro r l hm
  unfold lowL at hm
  simp only [List.mem_cons, List.mem_nil_iff, or_false, Prod.mk.injEq] at hm
  rcases hm with ⟨rfl, rfl⟩ | ⟨rfl, rfl⟩ | ⟨rfl, rfl⟩
  · exact ⟨by decide, rfl, low_strs (l := mks) h.mr (by kernel_rfl) rfl⟩
  · exact ⟨by decide, rfl, low_strs (l := kws) h.kw (by kernel_rfl) rfl⟩
  · exact ⟨by decide, rfl, low_strs (l := fms) h.fm (by kernel_rfl) rfl⟩
theorem mixed : Tryz.prog.follows .mixedOrders = true := by kernel_rfl
theorem namedB : Tryz.prog.funcs.all (fun F => F.body.isNone || !(F.name == "runtime.NumGoroutine")) = true := by kernel_rfl
theorem named : Named Tryz.prog := by
  intro f F c hf hb
  have h1 := Array.all_eq_true.1 namedB f (Array.getElem?_eq_some_iff.1 hf).1
  rw [(Array.getElem?_eq_some_iff.1 hf).2, hb] at h1
  simpa using h1
theorem enters {f : Nat} {F : Func} {c : Code} (hf : Tryz.prog.funcs[f]? = some F) (hb : F.body = some c) : ∀ args w, (callFunc f args).run Tryz.prog w = .ok (.enter f args) w := fun args w => run_callFunc_body named hf hb args w
theorem h147 (w : World) : (Instr.typeAssert .nilIface 20 147 true).run Tryz.prog w = .ok (.tuple #[.agg #[.int .i64 0], .bool false]) w := by kernel_rfl
theorem key66 (T : Array Value) (hT : T.size = 12) (w : World) (c₀ : Frame) (cs : List Frame) (hu : c₀.mode = .returning) : (Tryz.f66.body.getD .skip).wpS Tryz.prog (bodyPostS Tryz.prog Tryz.f66 c₀ cs (fun e u' w' => (∃ v, e = .returned v) ∧ u' = .returning ∧ Below w.heap.size w w')) { tmps := T, defers := [] } (c₀ :: cs) w := by
  obtain ⟨l⟩ := T
  match l, hT with
  | [a0, a1, a2, a3, a4, a5, a6, a7, a8, a9, a10, a11], _ =>
  show Code.wpS _ _ _ _ _ _
  apply wpS_seq
  apply wpS_region
  simp [wpOpsS, go_sem, recoverD, hu, Exit.thenS, h147]
  apply wpS_seq
  apply wpS_region
  simp [wpOpsS, go_sem, Exit.thenS]
  refine wpS_cond (t := false) (by simp [Act.eval]) ?_
  simp only [Bool.false_eq_true, if_false]
  refine wpS_of_wp (wp_skip ?_)
  cases c₀
  simp_all [bodyPostS, results, Tryz.results66]
  exact (Below.refl _ _).alloc (Nat.le_refl _) _
theorem noop66 (args : Array Value) (w : World) (hs : args.size ≤ 2) : CallsD Tryz.prog 66 args .returning w (fun e u' w' => (∃ v, e = .returned v) ∧ u' = .returning ∧ Below w.heap.size w w') :=
  callsD_of_wpS Tryz.func66 rfl fun c₀ cs hu => key66 _ (by rw [Tryz.ntmps66]; simp; omega) w c₀ cs hu
theorem h323 (w : World) : (Instr.typeAssert .nilIface 20 323 true).run Tryz.prog w = .ok (.tuple #[.agg #[.int .i64 0], .bool false]) w := by kernel_rfl
theorem key226 (T : Array Value) (hT : T.size = 11) (w : World) (c₀ : Frame) (cs : List Frame) (hu : c₀.mode = .returning) : (Tryz.f226.body.getD .skip).wpS Tryz.prog (bodyPostS Tryz.prog Tryz.f226 c₀ cs (fun e u' w' => (∃ v, e = .returned v) ∧ u' = .returning ∧ Below w.heap.size w w')) { tmps := T, defers := [] } (c₀ :: cs) w := by
  obtain ⟨l⟩ := T
  match l, hT with
  | [a0, a1, a2, a3, a4, a5, a6, a7, a8, a9, a10], _ =>
  show Code.wpS _ _ _ _ _ _
  apply wpS_seq
  apply wpS_region
  simp [wpOpsS, go_sem, recoverD, hu, Exit.thenS, h323]
  apply wpS_seq
  apply wpS_region
  simp [wpOpsS, go_sem, Exit.thenS]
  refine wpS_cond (t := false) (by simp [Act.eval]) ?_
  simp only [Bool.false_eq_true, if_false]
  refine wpS_of_wp (wp_skip ?_)
  cases c₀
  simp_all [bodyPostS, results, Tryz.results226]
  exact (Below.refl _ _).alloc (Nat.le_refl _) _
theorem noop226 (args : Array Value) (w : World) (hs : args.size ≤ 2) : CallsD Tryz.prog 226 args .returning w (fun e u' w' => (∃ v, e = .returned v) ∧ u' = .returning ∧ Below w.heap.size w w') :=
  callsD_of_wpS Tryz.func226 rfl fun c₀ cs hu => key226 _ (by rw [Tryz.ntmps226]; simp; omega) w c₀ cs hu
theorem noopOk : NoopOk Tryz.prog env.noop := by
  intro f hf args w hs
  have hf : (Nat.beq f 66 || Nat.beq f 226) = true := hf
  rw [Bool.or_eq_true] at hf
  rcases hf with h | h
  · obtain rfl := Nat.eq_of_beq_eq_true h
    exact ⟨enters Tryz.func66 rfl _ _, noop66 args w hs⟩
  · obtain rfl := Nat.eq_of_beq_eq_true h
    exact ⟨enters Tryz.func226 rfl _ _, noop226 args w hs⟩
theorem idxSaid : IdxSaid Tryz.prog 307 := ⟨Any.strings_IndexByte Tryz.lays137, enters Tryz.func307 rfl⟩
/-- one by one -/
theorem cond_prim {f k : Nat} {x y : Option CallF1} {g : CallF1} (h : cond (Nat.beq f k) x y = some g) : (f = k ∧ x = some g) ∨ y = some g := by
  cases hb : Nat.beq f k with
  | true => rw [hb] at h; exact .inl ⟨Nat.eq_of_beq_eq_true hb, h⟩
  | false => rw [hb] at h; exact .inr h
theorem orPrim_ok {B : Bds} {f : Nat} {g1 g2 : CallF1} (h1 : CallOk1 Tryz.prog B f g1) (h2 : CallOk1 Tryz.prog B f g2) : CallOk1 Tryz.prog B f (orPrim g1 g2) := by
  intro xs st outs E w args h hs hB hl
  unfold orPrim at h
  split at h
  · rename_i r hr
    cases h
    exact h1 xs st outs E w args hr hs hB hl
  · exact h2 xs st outs E w args h hs hB hl
theorem env_ok : ∀ B f g, env.prim f = some g → CallOk1 Tryz.prog B f g := by
  intro B f g h
  rcases cond_prim h with ⟨rfl, h⟩ | h
  · cases h; exact idxPrim_ok idxSaid
  rcases cond_prim h with ⟨rfl, h⟩ | h
  · cases h; exact packPrim_ok (enters Tryz.func95 rfl) B
  · cases h
theorem cA_call (B : Bds) : CallOk1 Tryz.prog B 15 cA.prim := Chunk.callOk cA cA_ok cA_run mixed noopOk named env_ok
theorem cB_call (B : Bds) : CallOk1 Tryz.prog B 16 cB.prim := Chunk.callOk cB cB_ok cB_run mixed noopOk named env_ok
theorem cK_call (B : Bds) : CallOk1 Tryz.prog B 48 cK.primR := Chunk.callOkR cK cK_ok cK_run mixed noopOk named env_ok
theorem selfP_call (B : Bds) (f : Nat) : CallOk1 Tryz.prog B f (selfP f) := fun xs st outs E w args h hs hB hl => (recs_ok mixed noopOk named env_ok 100000 B).call B f xs st outs E w args h hs hB hl
theorem solve23_call (B : Bds) : CallOk1 Tryz.prog B 20 solve23 :=
  orPrim_ok (Chunk.callOkR cD00 cD00_ok cD00_run mixed noopOk named env_ok) (orPrim_ok (Chunk.callOkR cD11 cD11_ok cD11_run mixed noopOk named env_ok) (selfP_call B 20))
theorem env23_ok : ∀ B f g, env23.prim f = some g → CallOk1 Tryz.prog B f g := by
  intro B f g h
  rcases cond_prim h with ⟨rfl, h⟩ | h
  · cases h; exact cA_call B
  rcases cond_prim h with ⟨rfl, h⟩ | h
  · cases h; exact cB_call B
  rcases cond_prim h with ⟨rfl, h⟩ | h
  · cases h; exact solve23_call B
  rcases cond_prim h with ⟨rfl, h⟩ | h
  · cases h; exact cK_call B
  · exact env_ok B f g h
theorem awake23 (w : World) (h : AW w) : Calls Tryz.prog 9 #[] w (Ret w (.bool true)) := closed_true (G := env23) mixed noopOk named env23_ok aw23_run h.low h.z
end Go.Proofs.YtdbmmdjmkbnboaaGreatDoor
