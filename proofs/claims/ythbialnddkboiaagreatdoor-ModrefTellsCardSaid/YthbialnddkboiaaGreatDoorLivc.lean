/-
  The closed examples: what the evaluator asks of the program.
-/
import Derived.Test.YthbialnddkboiaaGreatDoorLive0
import Derived.Test.YthbialnddkboiaaGreatDoorAmD
import Derived.Test.YthbialnddkboiaaGreatDoorShelf
import Derived.Test.YthbialnddkboiaaGreatDoorVB
import Derived.Test.YthbialnddkboiaaGreatDoorRG
import Derived.Recover
namespace Go.Proofs.YthbialnddkboiaaGreatDoor
open Go Go.AM Go.RowKit
set_option maxRecDepth 100000
def mks:List ByteArray:=[⟨#[58,58]⟩,⟨#[61,61]⟩,⟨#[58]⟩,⟨#[123]⟩,⟨#[125]⟩,⟨#[40]⟩,⟨#[41]⟩,⟨#[59]⟩,⟨#[44]⟩,⟨#[46]⟩,⟨#[61]⟩,⟨#[60]⟩,⟨#[43]⟩,⟨#[45]⟩,⟨#[42]⟩]
def fms:List ByteArray:=[⟨#[]⟩,⟨#[100,110]⟩,⟨#[100]⟩,⟨#[100,97]⟩,⟨#[100,97,111,98]⟩,⟨#[100]⟩,⟨#[100,99]⟩,⟨#[100,97,109]⟩,⟨#[97,109,98]⟩,⟨#[100,97,99,109,42]⟩,⟨#[100,99,109,42]⟩,⟨#[97,103]⟩,⟨#[103]⟩,⟨#[97]⟩,⟨#[97]⟩,⟨#[100,99]⟩,⟨#[100,97,110]⟩]
def kwsP:List ByteArray:=[⟨#[99,108,97,115,115]⟩,⟨#[101,120,116,101,110,100,115]⟩,⟨#[118,97,114]⟩,⟨#[100,101,102]⟩,⟨#[115,116,97,116,105,99]⟩,⟨#[105,102]⟩,⟨#[101,108,115,101]⟩,⟨#[119,104,105,108,101]⟩,⟨#[116,114,121]⟩,⟨#[99,97,116,99,104]⟩,⟨#[116,104,114,111,119]⟩,⟨#[114,101,116,117,114,110]⟩,⟨#[110,101,119]⟩,⟨#[110,117,108,108]⟩,⟨#[116,104,105,115]⟩,⟨#[105,110,112,117,116]⟩,⟨#[105,110,116]⟩]
theorem held_below {w w':World} {g:Nat} {c:Array Value} (h:∃ t fr,w.heap[g]? = some (.cells c t fr)) (hb:Below w.heap.size w w'):∃ t fr,w'.heap[g]? = some (.cells c t fr):=by
 obtain ⟨t,fr,h⟩:=h
 exact ⟨t,fr,by rw [hb.block g (Array.getElem?_eq_some_iff.1 h).1,h]⟩
theorem mixed:Tryz.prog.follows .mixedOrders=true:=by kernel_rfl
theorem namedB : Tryz.prog.funcs.all (fun F => F.body.isNone || !(F.name == "runtime.NumGoroutine")) = true := by kernel_rfl
theorem named:Named Tryz.prog:=by
 intro f F c hf hb
 have h1:=Array.all_eq_true.1 namedB f (Array.getElem?_eq_some_iff.1 hf).1
 rw [(Array.getElem?_eq_some_iff.1 hf).2,hb] at h1
 simpa using h1
theorem enters {f:Nat} {F:Func} {c:Code} (hf:Tryz.prog.funcs[f]? = some F) (hb:F.body=some c):∀ args w,(callFunc f args).run Tryz.prog w = .ok (.enter f args) w:=fun args w=>run_callFunc_body named hf hb args w
theorem hPr (w:World):(Instr.typeAssert .nilIface 20 159 true).run Tryz.prog w = .ok (.tuple #[.agg #[.int .i64 0],.bool false]) w:=by kernel_rfl
theorem key66 (T:Array Value) (hT:T.size=12) (w:World) (c₀:Frame) (cs:List Frame) (hu:c₀.mode = .returning):(Tryz.f67.body.getD .skip).wpS Tryz.prog (bodyPostS Tryz.prog Tryz.f67 c₀ cs (fun e u' w'=>(∃ v,e = .returned v)∧u' = .returning∧Below w.heap.size w w')) { tmps:=T,defers:=[] } (c₀ :: cs) w:=by
 obtain ⟨l⟩:=T
 match l,hT with
 | [a0,a1,a2,a3,a4,a5,a6,a7,a8,a9,a10,a11],_ =>
 show Code.wpS _ _ _ _ _ _
 apply wpS_seq
 apply wpS_region
 simp [wpOpsS,go_sem,recoverD,hu,Exit.thenS,hPr]
 apply wpS_seq
 apply wpS_region
 simp [wpOpsS,go_sem,Exit.thenS]
 refine wpS_cond (t:=false) (by simp [Act.eval]) ?_
 simp only [Bool.false_eq_true,if_false]
 refine wpS_of_wp (wp_skip ?_)
 cases c₀
 simp_all [bodyPostS,results,Tryz.results67]
 exact (Below.refl _ _).alloc (Nat.le_refl _) _
theorem noop66 (args:Array Value) (w:World) (hs:args.size≤2):CallsD Tryz.prog 67 args .returning w (fun e u' w'=>(∃ v,e = .returned v)∧u' = .returning∧Below w.heap.size w w') :=
 callsD_of_wpS Tryz.func67 rfl fun c₀ cs hu=>key66 _ (by rw [Tryz.ntmps67];simp;omega) w c₀ cs hu
theorem hTc (w:World):(Instr.typeAssert .nilIface 20 340 true).run Tryz.prog w = .ok (.tuple #[.agg #[.int .i64 0],.bool false]) w:=by kernel_rfl
theorem key226 (T:Array Value) (hT:T.size=11) (w:World) (c₀:Frame) (cs:List Frame) (hu:c₀.mode = .returning):(Tryz.f233.body.getD .skip).wpS Tryz.prog (bodyPostS Tryz.prog Tryz.f233 c₀ cs (fun e u' w'=>(∃ v,e = .returned v)∧u' = .returning∧Below w.heap.size w w')) { tmps:=T,defers:=[] } (c₀ :: cs) w:=by
 obtain ⟨l⟩:=T
 match l,hT with
 | [a0,a1,a2,a3,a4,a5,a6,a7,a8,a9,a10],_ =>
 show Code.wpS _ _ _ _ _ _
 apply wpS_seq
 apply wpS_region
 simp [wpOpsS,go_sem,recoverD,hu,Exit.thenS,hTc]
 apply wpS_seq
 apply wpS_region
 simp [wpOpsS,go_sem,Exit.thenS]
 refine wpS_cond (t:=false) (by simp [Act.eval]) ?_
 simp only [Bool.false_eq_true,if_false]
 refine wpS_of_wp (wp_skip ?_)
 cases c₀
 simp_all [bodyPostS,results,Tryz.results233]
 exact (Below.refl _ _).alloc (Nat.le_refl _) _
theorem noop226 (args:Array Value) (w:World) (hs:args.size≤2):CallsD Tryz.prog 233 args .returning w (fun e u' w'=>(∃ v,e = .returned v)∧u' = .returning∧Below w.heap.size w w') :=
 callsD_of_wpS Tryz.func233 rfl fun c₀ cs hu=>key226 _ (by rw [Tryz.ntmps233];simp;omega) w c₀ cs hu
theorem noopOk:NoopOk Tryz.prog env.noop:=by
 intro f hf args w hs
 have hf:(Nat.beq f 67 || Nat.beq f 233)=true:=hf
 rw [Bool.or_eq_true] at hf
 rcases hf with h | h
 ·obtain rfl:=Nat.eq_of_beq_eq_true h
  exact ⟨enters Tryz.func67 rfl _ _,noop66 args w hs⟩
 ·obtain rfl:=Nat.eq_of_beq_eq_true h
  exact ⟨enters Tryz.func233 rfl _ _,noop226 args w hs⟩
theorem idxSaid:IdxSaid Tryz.prog 326:=⟨Tryz.strings_IndexByte,enters Tryz.func326 rfl⟩
theorem cond_prim {f k:Nat} {x y:Option CallF1} {g:CallF1} (h:cond (Nat.beq f k) x y=some g):(f=k∧x=some g) ∨ y=some g:=by
 cases hb:Nat.beq f k with
 | true=>rw [hb] at h;exact .inl ⟨Nat.eq_of_beq_eq_true hb,h⟩
 | false=>rw [hb] at h;exact .inr h
theorem env_ok:∀ B f g,env.prim f=some g→CallOk1 Tryz.prog B f g:=by
 intro B f g h
 rcases cond_prim h with ⟨rfl,h⟩ | h
 ·cases h;exact idxPrim_ok idxSaid
 ·cases h
end Go.Proofs.YthbialnddkboiaaGreatDoor
