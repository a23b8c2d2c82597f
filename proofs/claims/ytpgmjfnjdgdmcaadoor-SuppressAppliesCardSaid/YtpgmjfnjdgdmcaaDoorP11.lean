import Derived.Test.YtpgmjfnjdgdmcaaDoorP10
import Derived.LaidEql
import Derived.Stop.Asserts
import Derived.RowKitTokens
namespace Go
section
variable {P : Program} (w : World)
/-- two interface values of one integer type are equal as their numbers are -/
theorem run_equalIn_iface_int (d : Nat) {ti tn : TypeId} {ms : Array (String × TypeId)} {i : TypeInfo} {k : IntKind} (a b : Int)
    (hi : P.underlying ti = some (.interface ms)) (hn : P.underlying tn = some (.int k)) (hinfo : P.info? tn = some i) (hcomp : i.comparable = true) :
    (Op.equalIn (d + 2) ti (.iface tn (.int k a)) (.iface tn (.int k b))).run P w = .ok (a == b) w := by
  simp [Op.equalIn, run_underlying hi, run_underlying hn, typeInfo, hinfo, hcomp]
theorem run_eql_iface_int {ti tn : TypeId} {ms : Array (String × TypeId)} {i : TypeInfo} {k : IntKind} (a b : Int)
    (hi : P.underlying ti = some (.interface ms)) (hn : P.underlying tn = some (.int k)) (hinfo : P.info? tn = some i) (hcomp : i.comparable = true) :
    (binOp .eql ti (.iface tn (.int k a)) (.iface tn (.int k b))).run P w = .ok (.bool (a == b)) w := by
  simp only [binOp]
  simp [Op.equal, Op.maxDepth, run_equalIn_iface_int w 9998 a b hi hn hinfo hcomp]
end
end Go
namespace Go.Proofs.YtpgmjfnjdgdmcaaDoor
open Go.RowKit Go.Sort Go.Extern.Stop Go.Stop Go.Extern

def cmpX : Array Value → Sem Value := Extern.ReflectliteType.method fun t => do Extern.Rtype.noPackHeld "Comparable" t; pure (.bool (← typeInfo t).comparable)
theorem isTypeOfE (v : Value) (w : World) : (Extern.ReflectliteType.typeOf #[.iface 134 v]).run Tryd.prog w = .ok (.iface 114 (.agg #[.pointer (some ⟨5, 134, none⟩)])) w := by kernel_rfl
theorem isTypeOfN (v : Value) (w : World) : (Extern.ReflectliteType.typeOf #[.iface 29 v]).run Tryd.prog w = .ok (.iface 114 (.agg #[.pointer (some ⟨5, 29, none⟩)])) w := by kernel_rfl
theorem isComparableE (w : World) : (cmpX #[.agg #[.pointer (some ⟨5, 134, none⟩)]]).run Tryd.prog w = .ok (.bool true) w := by kernel_rfl
theorem isComparableN (w : World) : (cmpX #[.agg #[.pointer (some ⟨5, 29, none⟩)]]).run Tryd.prog w = .ok (.bool true) w := by kernel_rfl
theorem isMethodComparable (v : Value) (w : World) : (Go.method 268 114 v "Comparable").run Tryd.prog w = .ok (119, v) w := by kernel_rfl
theorem isCompE : (Tryd.prog.info? 134).map (·.comparable) = some true := by kernel_rfl
theorem isCompN : (Tryd.prog.info? 29).map (·.comparable) = some true := by kernel_rfl
theorem isSize : (Tryd.prog.info? 157).map (·.size) = some 1 := by kernel_rfl
theorem noIsN (v : Value) (xT : TypeId) (w : World) : (Instr.typeAssert (.iface 29 v) xT 116 true).run Tryd.prog w = .ok (.tuple #[.nilIface, .bool false]) w := run_typeAssert_lacksB Tryd.underlying116 (by kernel_rfl) (by kernel_rfl) v xT w
theorem noUnwrapN (v : Value) (xT : TypeId) (w : World) : (Instr.typeAssert (.iface 29 v) xT 119 true).run Tryd.prog w = .ok (.tuple #[.nilIface, .bool false]) w := run_typeAssert_lacksB Tryd.underlying119 (by kernel_rfl) (by kernel_rfl) v xT w
theorem noUnwrapsN (v : Value) (xT : TypeId) (w : World) : (Instr.typeAssert (.iface 29 v) xT 121 true).run Tryd.prog w = .ok (.tuple #[.nilIface, .bool false]) w := run_typeAssert_lacksB Tryd.underlying121 (by kernel_rfl) (by kernel_rfl) v xT w

set_option maxRecDepth 100000 in
set_option maxHeartbeats 1000000 in
/-- errors.Is(x, x), x a pointer to an errors.errorString. -/
theorem is_same (a : Addr) (w : World) : Calls Tryd.prog 63 #[.iface 134 (.pointer (some a)), .iface 134 (.pointer (some a))] w (Same w (.bool true)) := by
  obtain ⟨i, hi, hcmp⟩ := Option.map_eq_some_iff.1 isCompE
  obtain ⟨j, hj, hjs⟩ := Option.map_eq_some_iff.1 isSize
  have h80 := @run_callFunc_extern Tryd.prog 80 _ Extern.ReflectliteType.typeOf Tryd.func80 (by kernel_rfl) (by kernel_rfl) (by kernel_rfl) (by kernel_rfl)
  have h119 := @run_callFunc_extern Tryd.prog 119 _ cmpX Tryd.func119 (by kernel_rfl) (by kernel_rfl) (by kernel_rfl) (by kernel_rfl)
  have tT := isTypeOfE
  have cT := isComparableE
  have mR := isMethodComparable
  have heq := run_eql_iface_ptr_same (P := Tryd.prog) w a Tryd.underlying63 Tryd.underlying134 hi hcmp hj
  go_enter Tryd.func63, Tryd.ntmps63
  go_wp2
  refine wp_loop_rounds 1 ?_
  rw [rounds_succ]
  go_wp2
  go_ret
  exact ⟨rfl, rfl⟩
set_option maxRecDepth 100000 in
set_option maxHeartbeats 1000000 in
/-- errors.Is(c, x), c a code, x a pointer to an errors.errorString. -/
theorem is_code (a : Addr) (c : Int) (w : World) : Calls Tryd.prog 63 #[.iface 29 (.int .i64 c), .iface 134 (.pointer (some a))] w (Same w (.bool false)) := by
  have h80 := @run_callFunc_extern Tryd.prog 80 _ Extern.ReflectliteType.typeOf Tryd.func80 (by kernel_rfl) (by kernel_rfl) (by kernel_rfl) (by kernel_rfl)
  have h119 := @run_callFunc_extern Tryd.prog 119 _ cmpX Tryd.func119 (by kernel_rfl) (by kernel_rfl) (by kernel_rfl) (by kernel_rfl)
  have tT := isTypeOfE
  have cT := isComparableE
  have mR := isMethodComparable
  have nE := noIsN
  have uE := noUnwrapN
  have vE := noUnwrapsN
  have hty := run_eql_iface_types (P := Tryd.prog) 29 134 (.int .i64 c) (.pointer (some a)) Tryd.underlying63 (by decide) w
  go_enter Tryd.func63, Tryd.ntmps63
  go_wp2
  refine wp_loop_rounds 1 ?_
  rw [rounds_succ]
  go_wp2
  go_ret
  exact ⟨rfl, rfl⟩
set_option maxRecDepth 100000 in
set_option maxHeartbeats 1000000 in
/-- errors.Is(c, d) of two codes -/
theorem is_codes (c d : Int) (w : World) : Calls Tryd.prog 63 #[.iface 29 (.int .i64 c), .iface 29 (.int .i64 d)] w (Same w (.bool (c == d))) := by
  obtain ⟨i, hi, hcmp⟩ := Option.map_eq_some_iff.1 isCompN
  have h80 := @run_callFunc_extern Tryd.prog 80 _ Extern.ReflectliteType.typeOf Tryd.func80 (by kernel_rfl) (by kernel_rfl) (by kernel_rfl) (by kernel_rfl)
  have h119 := @run_callFunc_extern Tryd.prog 119 _ cmpX Tryd.func119 (by kernel_rfl) (by kernel_rfl) (by kernel_rfl) (by kernel_rfl)
  have tT := isTypeOfN
  have cT := isComparableN
  have mR := isMethodComparable
  have nE := noIsN
  have uE := noUnwrapN
  have vE := noUnwrapsN
  have heq := run_eql_iface_int (P := Tryd.prog) w c d Tryd.underlying63 Tryd.underlying29 hi hcmp
  cases hcd : c == d
  all_goals
    rw [hcd] at heq
    go_enter Tryd.func63, Tryd.ntmps63
    go_wp2
    refine wp_loop_rounds 1 ?_
    rw [rounds_succ]
    go_wp2
    go_ret
    exact ⟨rfl, rfl⟩
end Go.Proofs.YtpgmjfnjdgdmcaaDoor
