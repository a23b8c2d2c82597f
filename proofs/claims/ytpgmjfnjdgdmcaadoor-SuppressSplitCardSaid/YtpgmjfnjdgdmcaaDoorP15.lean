import Derived.Test.YtpgmjfnjdgdmcaaDoorP14
namespace Go.Proofs.YtpgmjfnjdgdmcaaDoor
open Go.RowKit Go.Sort

theorem Calls.reg_ret {P : Program} {f : FuncId} {args : Array Value} {w : World} {d : Nat} {os : Array Obj} {v : Value}
    (h : Calls P f args (grow (redrawn w d) os) (Ret (grow (redrawn w d) os) v)) : Calls P f args (grow (redrawn w d) os) fun e w'' => e = .returned v ∧ ∃ p : Regrown, w'' = grow (redrawn w p.d) p.os :=
  Calls.regrown_of h
theorem reg_start (W : World) : ∃ p : Regrown, ({ W with drawn := W.drawn + 1 } : World) = grow (redrawn W p.d) p.os := ⟨⟨W.drawn + 1, #[]⟩, by rw [grow_empty]; rfl⟩
theorem eqi_self (x : Int) : (x == x) = true := by simp
theorem eqb_self (x : Bool) : (x == x) = true := by simp
set_option maxRecDepth 100000 in
set_option maxHeartbeats 2000000 in
theorem tells3 (n : Nt) (f : Fd) (a : Option Addr) (c : Nat) (ad : Addr) (m : Int) (w : World) (hk : KW w) (hm : w.cell? ⟨2, 0, none⟩ = some (.int .i64 m)) (hE : w.cell? ⟨0, 0, none⟩ = some (.iface 134 (.pointer (some ad)))) (hw : n.what.size ≤ 9223372036854775807) :
    Calls Tryd.prog 3 #[NtV n, FdV f a c] w (Ret w (.bool true)) := by
  unfold NtV FdV
  obtain ⟨W, hW⟩ : ∃ W, W = (w.alloc (.cells #[.int .i64 n.kind, .string n.cls, .string n.meth, .string n.what, .string n.reason] 23)).alloc (.cells #[.int .i64 f.kind, .string f.pl.cls, .string f.pl.meth, .int .i64 f.pl.instr, .string f.what, .slice a f.path.length c] 28) := ⟨_, rfl⟩
  have hb : Below w.heap.size w W := by rw [hW]; exact two_below ..
  have B1 : Blk W w.heap.size #[.int .i64 n.kind, .string n.cls, .string n.meth, .string n.what, .string n.reason] 23 := by rw [hW]; exact (blk_new w _ 23).below ((Below.refl _ _).alloc (Nat.le_refl _) _)
  have B2 : Blk W (w.heap.size + 1) #[.int .i64 f.kind, .string f.pl.cls, .string f.pl.meth, .int .i64 f.pl.instr, .string f.what, .slice a f.path.length c] 28 := by
    rw [hW]
    have := blk_new (w.alloc (.cells #[.int .i64 n.kind, .string n.cls, .string n.meth, .string n.what, .string n.reason] 23)) #[.int .i64 f.kind, .string f.pl.cls, .string f.pl.meth, .int .i64 f.pl.instr, .string f.what, .slice a f.path.length c] 28
    simp only [World.size_alloc] at this
    exact this
  have HK := Lib.hid (hk.below hb); clear hk
  have HM := Lib.hid (cell_below hb hm); clear hm
  have HE := Lib.hid (cell_below hb hE); clear hE
  have HW := Lib.hid hW; clear hW
  go_enter Tryd.func3, Tryd.ntmps3
  go_wp2
  rw [← HW.out]
  have z0 := cell_regrown (B1.cell 0 (by simp))
  have z1 := cell_regrown (B1.cell 1 (by simp))
  have z2 := cell_regrown (B1.cell 2 (by simp))
  have z3 := cell_regrown (B1.cell 3 (by simp))
  have z4 := cell_regrown (B1.cell 4 (by simp))
  have y0 := cell_regrown (B2.cell 0 (by simp))
  have y1 := cell_regrown (B2.cell 1 (by simp))
  have y2 := cell_regrown (B2.cell 2 (by simp))
  have y3 := cell_regrown (B2.cell 3 (by simp))
  have y4 := cell_regrown (B2.cell 4 (by simp))
  have y5 := cell_regrown (B2.cell 5 (by simp))
  have e1 := eqi_self (noteE n)
  have e2 := eqb_self (matchB n f)
  have HB := Lib.hid hb; clear hb B1 B2 HW
  refine wp_region_quiet_below (by kernel_rfl) (by kernel_rfl) ?_
  repeat (quiet_step (first
    | (go_at_call 8; exact Calls.reg_ret (check8 n _ (HK.out.below (below_regrown ..))))
    | (go_at_call 9; exact Calls.reg_ret (check9 n _ hw))
    | (go_at_call 10; exact Calls.reg_ret (match10 n f a c _))
    | (go_at_call 11; exact Calls.reg_ret (match11 n f a c _))
    | (go_at_call 12; exact Calls.reg_ret (awake12 ad m _ (HK.out.below (below_regrown ..)) (cell_below (below_regrown ..) HM.out) (cell_below (below_regrown ..) HE.out)))))
  refine wpQuiet_nil ?_
  rintro w' ⟨⟨d, os⟩, rfl⟩
  go_wp2
  go_ret
  exact ⟨rfl, HB.out.trans ((below_regrown W d os).mono HB.out.size)⟩
end Go.Proofs.YtpgmjfnjdgdmcaaDoor
