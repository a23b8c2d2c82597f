/-
  The closed examples of the laws, run by the evaluator: what is handed to it, the variables that are read.
  The closed examples: what the evaluator asks of the program.
-/
import Derived.Test.YtffcklfigpmlgaaGreatDoorProg
import Derived.Test.YtffcklfigpmlgaaGreatDoorAmD
import Derived.KernelRfl
import Derived.Test.YtffcklfigpmlgaaGreatDoorShelf
import Derived.Test.YtffcklfigpmlgaaGreatDoorVB
import Derived.Test.YtffcklfigpmlgaaGreatDoorRG
import Derived.Recover
namespace Go.Proofs.YtffcklfigpmlgaaGreatDoor
open Go Go.AM
set_option maxRecDepth 100000
def rowKeywords:AV:=.cn (.s [99,108,97,115,115]) (.cn (.s [101,120,116,101,110,100,115]) (.cn (.s [118,97,114]) (.cn (.s [100,101,102]) (.cn (.s [115,116,97,116,105,99]) (.cn (.s [105,102]) (.cn (.s [101,108,115,101]) (.cn (.s [119,104,105,108,101]) (.cn (.s [116,114,121]) (.cn (.s [99,97,116,99,104]) (.cn (.s [116,104,114,111,119]) (.cn (.s [114,101,116,117,114,110]) (.cn (.s [110,101,119]) (.cn (.s [110,117,108,108]) (.cn (.s [116,104,105,115]) (.cn (.s [105,110,112,117,116]) (.cn (.s [105,110,116]) (AV.nl)))))))))))))))))
def rowMarks:AV:=.cn (.s [58,58]) (.cn (.s [61,61]) (.cn (.s [58]) (.cn (.s [123]) (.cn (.s [125]) (.cn (.s [40]) (.cn (.s [41]) (.cn (.s [59]) (.cn (.s [44]) (.cn (.s [46]) (.cn (.s [61]) (.cn (.s [60]) (.cn (.s [43]) (.cn (.s [45]) (.cn (.s [42]) (AV.nl)))))))))))))))
def rowForms:AV:=.cn (.s []) (.cn (.s [100,110]) (.cn (.s [100]) (.cn (.s [100,97]) (.cn (.s [100,97,111,98]) (.cn (.s [100]) (.cn (.s [100,99]) (.cn (.s [100,97,109]) (.cn (.s [97,109,98]) (.cn (.s [100,97,99,109,42]) (.cn (.s [100,99,109,42]) (.cn (.s [97,103]) (.cn (.s [103]) (.cn (.s [97]) (.cn (.s [97]) (.cn (.s [100,99]) (.cn (.s [100,97,110]) (AV.nl)))))))))))))))))
noncomputable def lowL:LSt:=[(6,.c 0 17 rowForms),(5,.c 0 15 rowMarks),(0,.c 0 17 rowKeywords)]
noncomputable def env:AM.Env:=⟨fun f=>cond (Nat.beq f 389) (some idxPrim) none,fun f=>or (Nat.beq f 136) (Nat.beq f 322)⟩
end Go.Proofs.YtffcklfigpmlgaaGreatDoor
namespace Go.Proofs.YtffcklfigpmlgaaGreatDoor
open Go Go.AM Go.RowKit
set_option maxRecDepth 100000
def mks:List ByteArray:=[⟨#[58,58]⟩,⟨#[61,61]⟩,⟨#[58]⟩,⟨#[123]⟩,⟨#[125]⟩,⟨#[40]⟩,⟨#[41]⟩,⟨#[59]⟩,⟨#[44]⟩,⟨#[46]⟩,⟨#[61]⟩,⟨#[60]⟩,⟨#[43]⟩,⟨#[45]⟩,⟨#[42]⟩]
def fms:List ByteArray:=[⟨#[]⟩,⟨#[100,110]⟩,⟨#[100]⟩,⟨#[100,97]⟩,⟨#[100,97,111,98]⟩,⟨#[100]⟩,⟨#[100,99]⟩,⟨#[100,97,109]⟩,⟨#[97,109,98]⟩,⟨#[100,97,99,109,42]⟩,⟨#[100,99,109,42]⟩,⟨#[97,103]⟩,⟨#[103]⟩,⟨#[97]⟩,⟨#[97]⟩,⟨#[100,99]⟩,⟨#[100,97,110]⟩]
def kwsP:List ByteArray:=[⟨#[99,108,97,115,115]⟩,⟨#[101,120,116,101,110,100,115]⟩,⟨#[118,97,114]⟩,⟨#[100,101,102]⟩,⟨#[115,116,97,116,105,99]⟩,⟨#[105,102]⟩,⟨#[101,108,115,101]⟩,⟨#[119,104,105,108,101]⟩,⟨#[116,114,121]⟩,⟨#[99,97,116,99,104]⟩,⟨#[116,104,114,111,119]⟩,⟨#[114,101,116,117,114,110]⟩,⟨#[110,101,119]⟩,⟨#[110,117,108,108]⟩,⟨#[116,104,105,115]⟩,⟨#[105,110,112,117,116]⟩,⟨#[105,110,116]⟩]
theorem held_below {w w':World} {g:Nat} {c:Array Value} (h:∃ t fr,w.heap[g]? = some (.cells c t fr)) (hb:Below w.heap.size w w'):∃ t fr,w'.heap[g]? = some (.cells c t fr):=by
 obtain ⟨t,fr,h⟩:=h
 exact ⟨t,fr,by rw [hb.block g (Array.getElem?_eq_some_iff.1 h).1,h]⟩
theorem mixed:Tryz.prog.follows .mixedOrders=true:=by kernel_rfl
theorem namedB : Tryz.prog.funcs.all (fun F => F.body.isNone || !(F.name == "runtime.NumGoroutine")) = true := by kernel_rfl
theorem named:Named Tryz.prog:=by
 intro f F c hf hb
 have h1:=Array.all_eq_true.1 namedB f (Array.getElem?_eq_some_iff.1 hf).1
 rw [(Array.getElem?_eq_some_iff.1 hf).2,hb] at h1
 simpa using h1
theorem enters {f:Nat} {F:Func} {c:Code} (hf:Tryz.prog.funcs[f]? = some F) (hb:F.body=some c):∀ args w,(callFunc f args).run Tryz.prog w = .ok (.enter f args) w:=fun args w=>run_callFunc_body named hf hb args w
theorem hPr (w:World):(Instr.typeAssert .nilIface 20 212 true).run Tryz.prog w = .ok (.tuple #[.agg #[.int .i64 0],.bool false]) w:=by kernel_rfl
theorem key66 (T:Array Value) (hT:T.size=12) (w:World) (c₀:Frame) (cs:List Frame) (hu:c₀.mode = .returning):(Tryz.f136.body.getD .skip).wpS Tryz.prog (bodyPostS Tryz.prog Tryz.f136 c₀ cs (fun e u' w'=>(∃ v,e = .returned v)∧u' = .returning∧Below w.heap.size w w')) { tmps:=T,defers:=[] } (c₀ :: cs) w:=by
 obtain ⟨l⟩:=T
 match l,hT with
 | [a0,a1,a2,a3,a4,a5,a6,a7,a8,a9,a10,a11],_ =>
 show Code.wpS _ _ _ _ _ _
 apply wpS_seq
 apply wpS_region
 simp [wpOpsS,go_sem,recoverD,hu,Exit.thenS,hPr]
 apply wpS_seq
 apply wpS_region
 simp [wpOpsS,go_sem,Exit.thenS]
 refine wpS_cond (t:=false) (by simp [Act.eval]) ?_
 simp only [Bool.false_eq_true,if_false]
 refine wpS_of_wp (wp_skip ?_)
 cases c₀
 simp_all [bodyPostS,results,Tryz.results136]
 exact (Below.refl _ _).alloc (Nat.le_refl _) _
theorem noop66 (args:Array Value) (w:World) (hs:args.size≤2):CallsD Tryz.prog 136 args .returning w (fun e u' w'=>(∃ v,e = .returned v)∧u' = .returning∧Below w.heap.size w w') :=
 callsD_of_wpS Tryz.func136 rfl fun c₀ cs hu=>key66 _ (by rw [Tryz.ntmps136];simp;omega) w c₀ cs hu
theorem hTc (w:World):(Instr.typeAssert .nilIface 20 389 true).run Tryz.prog w = .ok (.tuple #[.agg #[.int .i64 0],.bool false]) w:=by kernel_rfl
theorem key226 (T:Array Value) (hT:T.size=11) (w:World) (c₀:Frame) (cs:List Frame) (hu:c₀.mode = .returning):(Tryz.f322.body.getD .skip).wpS Tryz.prog (bodyPostS Tryz.prog Tryz.f322 c₀ cs (fun e u' w'=>(∃ v,e = .returned v)∧u' = .returning∧Below w.heap.size w w')) { tmps:=T,defers:=[] } (c₀ :: cs) w:=by
 obtain ⟨l⟩:=T
 match l,hT with
 | [a0,a1,a2,a3,a4,a5,a6,a7,a8,a9,a10],_ =>
 show Code.wpS _ _ _ _ _ _
 apply wpS_seq
 apply wpS_region
 simp [wpOpsS,go_sem,recoverD,hu,Exit.thenS,hTc]
 apply wpS_seq
 apply wpS_region
 simp [wpOpsS,go_sem,Exit.thenS]
 refine wpS_cond (t:=false) (by simp [Act.eval]) ?_
 simp only [Bool.false_eq_true,if_false]
 refine wpS_of_wp (wp_skip ?_)
 cases c₀
 simp_all [bodyPostS,results,Tryz.results322]
 exact (Below.refl _ _).alloc (Nat.le_refl _) _
theorem noop226 (args:Array Value) (w:World) (hs:args.size≤2):CallsD Tryz.prog 322 args .returning w (fun e u' w'=>(∃ v,e = .returned v)∧u' = .returning∧Below w.heap.size w w') :=
 callsD_of_wpS Tryz.func322 rfl fun c₀ cs hu=>key226 _ (by rw [Tryz.ntmps322];simp;omega) w c₀ cs hu
theorem noopOk:NoopOk Tryz.prog env.noop:=by
 intro f hf args w hs
 have hf:(Nat.beq f 136 || Nat.beq f 322)=true:=hf
 rw [Bool.or_eq_true] at hf
 rcases hf with h | h
 ·obtain rfl:=Nat.eq_of_beq_eq_true h
  exact ⟨enters Tryz.func136 rfl _ _,noop66 args w hs⟩
 ·obtain rfl:=Nat.eq_of_beq_eq_true h
  exact ⟨enters Tryz.func322 rfl _ _,noop226 args w hs⟩
theorem idxSaid:IdxSaid Tryz.prog 389:=⟨Tryz.strings_IndexByte,enters Tryz.func389 rfl⟩
theorem cond_prim {f k:Nat} {x y:Option CallF1} {g:CallF1} (h:cond (Nat.beq f k) x y=some g):(f=k∧x=some g) ∨ y=some g:=by
 cases hb:Nat.beq f k with
 | true=>rw [hb] at h;exact .inl ⟨Nat.eq_of_beq_eq_true hb,h⟩
 | false=>rw [hb] at h;exact .inr h
theorem env_ok:∀ B f g,env.prim f=some g→CallOk1 Tryz.prog B f g:=by
 intro B f g h
 rcases cond_prim h with ⟨rfl,h⟩ | h
 ·cases h;exact idxPrim_ok idxSaid
 ·cases h
end Go.Proofs.YtffcklfigpmlgaaGreatDoor
