import Derived.Test.YtpgmjfnjdgdmcaaDoorP5
namespace Go.Proofs.YtpgmjfnjdgdmcaaDoor
open Go.RowKit

structure Pl where
  cls : ByteArray
  meth : ByteArray
  instr : Int
structure Fd where
  kind : Int
  pl : Pl
  what : ByteArray
  path : List Pl
def FdV (f : Fd) (a : Option Addr) (c : Nat) : Value := .agg #[.int .i64 f.kind, .string f.pl.cls, .string f.pl.meth, .int .i64 f.pl.instr, .string f.what, .slice a f.path.length c]
def eqB (s t : ByteArray) : Bool := s.toList.isEmpty || s.toList == t.toList
/-- does a suppression apply? -/
def matchB (n : Nt) (f : Fd) : Bool := (n.kind == 0 || n.kind == f.kind) && eqB n.cls f.pl.cls && eqB n.meth f.pl.meth && eqB n.what f.what
theorem eq3 (s t : ByteArray) : (s.toList.isEmpty = true ∧ eqB s t = true) ∨ (s.toList.isEmpty = false ∧ (s.toList == t.toList) = true ∧ eqB s t = true) ∨ (s.toList.isEmpty = false ∧ (s.toList == t.toList) = false ∧ eqB s t = false) := by
  unfold eqB
  cases s.toList.isEmpty <;> cases (s.toList == t.toList) <;> simp
theorem k3 (a b : Int) : ((a == 0) = true ∧ (a == 0 || a == b) = true) ∨ ((a == 0) = false ∧ (a == b) = true ∧ (a == 0 || a == b) = true) ∨ ((a == 0) = false ∧ (a == b) = false ∧ (a == 0 || a == b) = false) := by
  cases (a == 0) <;> cases (a == b) <;> simp

set_option maxRecDepth 100000 in
set_option maxHeartbeats 2000000 in
theorem match10 (n : Nt) (f : Fd) (a : Option Addr) (c : Nat) (w : World) : Calls Tryd.prog 10 #[NtV n, FdV f a c] w (Ret w (.bool (matchB n f))) := by
  unfold NtV FdV
  have HB0 := Lib.hid (((Below.refl w.heap.size w).alloc (Nat.le_refl _) (.cells #[.int .i64 n.kind, .string n.cls, .string n.meth, .string n.what, .string n.reason] 23)).alloc (by simp) (.cells #[.int .i64 f.kind, .string f.pl.cls, .string f.pl.meth, .int .i64 f.pl.instr, .string f.what, .slice a f.path.length c] 28))
  have HF : Hid (matchB n f = ((n.kind == 0 || n.kind == f.kind) && eqB n.cls f.pl.cls && eqB n.meth f.pl.meth && eqB n.what f.what)) := rfl
  rcases k3 n.kind f.kind with ⟨k0, kk⟩ | ⟨k0, k1, kk⟩ | ⟨k0, k1, kk⟩
  case inr.inr =>
    rw [kk] at HF
    go_enter Tryd.func10, Tryd.ntmps10
    go_wp2
    go_ret
    exact ⟨ret_bool (by rw [HF.out]; rfl), HB0.out⟩
  all_goals
    rw [kk] at HF
    clear kk
    rcases eq3 n.cls f.pl.cls with ⟨c0, kk⟩ | ⟨c0, c1, kk⟩ | ⟨c0, c1, kk⟩
    all_goals
      rw [kk] at HF
      clear kk
  case inl.inr.inr | inr.inl.inr.inr =>
    go_enter Tryd.func10, Tryd.ntmps10
    go_wp2
    go_ret
    exact ⟨ret_bool (by rw [HF.out]; rfl), HB0.out⟩
  all_goals
    rcases eq3 n.meth f.pl.meth with ⟨m0, kk⟩ | ⟨m0, m1, kk⟩ | ⟨m0, m1, kk⟩
    all_goals
      rw [kk] at HF
      clear kk
  all_goals first
    | (have hx : Hid (matchB n f = (true && true && false && eqB n.what f.what)) := HF
       go_enter Tryd.func10, Tryd.ntmps10
       go_wp2
       go_ret
       exact ⟨ret_bool (by rw [hx.out]; rfl), HB0.out⟩)
    | skip
  all_goals
    rcases eq3 n.what f.what with ⟨w0, kk⟩ | ⟨w0, w1, kk⟩ | ⟨w0, w1, kk⟩
    all_goals
      rw [kk] at HF
      clear kk
      go_enter Tryd.func10, Tryd.ntmps10
      go_wp2
      go_ret
      exact ⟨ret_bool (by rw [HF.out]; rfl), HB0.out⟩

set_option maxRecDepth 100000 in
set_option maxHeartbeats 2000000 in
theorem match11 (n : Nt) (f : Fd) (a : Option Addr) (c : Nat) (w : World) : Calls Tryd.prog 11 #[NtV n, FdV f a c] w (Ret w (.bool (matchB n f))) := by
  unfold NtV FdV
  have HB0 := Lib.hid (((Below.refl w.heap.size w).alloc (Nat.le_refl _) (.cells #[.int .i64 n.kind, .string n.cls, .string n.meth, .string n.what, .string n.reason] 23)).alloc (by simp) (.cells #[.int .i64 f.kind, .string f.pl.cls, .string f.pl.meth, .int .i64 f.pl.instr, .string f.what, .slice a f.path.length c] 28))
  have HF : Hid (matchB n f = ((n.kind == 0 || n.kind == f.kind) && eqB n.cls f.pl.cls && eqB n.meth f.pl.meth && eqB n.what f.what)) := rfl
  rcases k3 n.kind f.kind with ⟨k0, kk⟩ | ⟨k0, k1, kk⟩ | ⟨k0, k1, kk⟩
  case inr.inr =>
    rw [kk] at HF
    go_enter Tryd.func11, Tryd.ntmps11
    go_wp2
    go_ret
    exact ⟨ret_bool (by rw [HF.out]; rfl), HB0.out⟩
  all_goals
    rw [kk] at HF
    clear kk
    rcases eq3 n.cls f.pl.cls with ⟨c0, kk⟩ | ⟨c0, c1, kk⟩ | ⟨c0, c1, kk⟩
    all_goals
      rw [kk] at HF
      clear kk
  case inl.inr.inr | inr.inl.inr.inr =>
    go_enter Tryd.func11, Tryd.ntmps11
    go_wp2
    go_ret
    exact ⟨ret_bool (by rw [HF.out]; rfl), HB0.out⟩
  all_goals
    rcases eq3 n.meth f.pl.meth with ⟨m0, kk⟩ | ⟨m0, m1, kk⟩ | ⟨m0, m1, kk⟩
    all_goals
      rw [kk] at HF
      clear kk
  all_goals first
    | (have hx : Hid (matchB n f = (true && true && false && eqB n.what f.what)) := HF
       go_enter Tryd.func11, Tryd.ntmps11
       go_wp2
       go_ret
       exact ⟨ret_bool (by rw [hx.out]; rfl), HB0.out⟩)
    | skip
  all_goals
    rcases eq3 n.what f.what with ⟨w0, kk⟩ | ⟨w0, w1, kk⟩ | ⟨w0, w1, kk⟩
    all_goals
      rw [kk] at HF
      clear kk
      go_enter Tryd.func11, Tryd.ntmps11
      go_wp2
      go_ret
      exact ⟨ret_bool (by rw [HF.out]; rfl), HB0.out⟩
end Go.Proofs.YtpgmjfnjdgdmcaaDoor
