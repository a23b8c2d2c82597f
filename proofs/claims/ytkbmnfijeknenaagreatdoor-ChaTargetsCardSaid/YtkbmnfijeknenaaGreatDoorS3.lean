/-
  The reference's Find, Can and IsCall.
-/
import Derived.Test.YtkbmnfijeknenaaGreatDoorSA
import Derived.Test.YtkbmnfijeknenaaGreatDoorH3
namespace Go.Proofs.YtkbmnfijeknenaaGreatDoor
open Go.RowKit Go.Unit0 Go.AM

theorem fn_step {s t : Str} {l : List Fnc} {k : Nat} (hk : k < l.length) : fnFrom s t (l.drop k) k = if isFn s t l[k] = true then (k : Int) else fnFrom s t (l.drop (k + 1)) (k + 1) := by
  by_cases e : isFn s t l[k] = true
  · rw [if_pos e, fn_hit hk e]
  · rw [if_neg e, fn_miss hk (by simpa using e)]
set_option maxHeartbeats 4000000 in
theorem findR12 (u : Unt) (ha : Option Addr) (hc : Nat) (fa : Option Addr) (fc : Nat) (s t : Str) (w : World) (h : ClssAt w ha u.h) (f : FncsAt w fa u.fs) (hn : u.fs.length ≤ 1000000) :
    Calls Tryz.prog 160 #[unV u ha hc fa fc, .string s, .string t] w (Ret w (.int .i64 (fnI u.fs s t))) := by
  have S0 := Lib.hid (UB.start (hc := hc) (fc := fc) h f)
  clear h f
  unfold unV
  go_enter Tryz.func160, Tryz.ntmps160
  go_upto_region 1 with (fail)
  generalize w.alloc _ = W at *
  have HB := Lib.hid S0.out.hb
  obtain ⟨z0, z1, z2⟩ := S0.out.cells
  go_wp2
  go_loop [7] (fun i => ∃ k : Nat, k ≤ u.fs.length ∧ i = .int .i64 k ∧ Hid (fnFrom s t (u.fs.drop k) k = fnI u.fs s t)) (fun i => u.fs.length - (intOf i).toNat)
  case atStart => exact ⟨0, Nat.zero_le _, rfl, rfl⟩
  case round =>
    obtain ⟨k, hk, rfl, HI⟩ := hrel
    by_cases hlt : k < u.fs.length
    case neg =>
      have HN := Lib.hid (@fn_end s t u.fs k (by omega))
      go_wp2
      go_ret
      exact ⟨ret_int (by rw [← HI.out, HN.out]), HB.out⟩
    case pos =>
      obtain ⟨b, off, va, vc, ca, cc, he, m0, m1, m2, m3, m4, m5, m6, _, _⟩ := S0.out.f k hlt
      subst he
      have HS := Lib.hid (@fn_step s t u.fs k hlt)
      have HD : Hid (isFn s t u.fs[k] = ((u.fs[k].cls.toList == s.toList) && (u.fs[k].name.toList == t.toList))) := rfl
      clear m2 m3 m4 m5 m6
      generalize isFn s t u.fs[k] = q at *
      generalize u.fs[k].cls = xc at *
      generalize u.fs[k].name = xn at *
      cases h1 : (xc.toList == s.toList)
      · rw [h1, Bool.false_and] at HD
        have HN : Hid (fnFrom s t (u.fs.drop (k + 1)) (k + 1) = fnI u.fs s t) := by show _ = _; rw [← HI.out, HS.out, if_neg (by rw [HD.out]; simp)]
        clear HS HD
        go_wp2
        go_round
        case rel => exact ⟨k + 1, by omega, by go_num, HN.out⟩
        case measure => simp [intOf]; omega
      · rw [h1, Bool.true_and] at HD
        cases h2 : (xn.toList == t.toList)
        · rw [h2] at HD
          have HN : Hid (fnFrom s t (u.fs.drop (k + 1)) (k + 1) = fnI u.fs s t) := by show _ = _; rw [← HI.out, HS.out, if_neg (by rw [HD.out]; simp)]
          clear HS HD
          go_wp2
          go_round
          case rel => exact ⟨k + 1, by omega, by go_num, HN.out⟩
          case measure => simp [intOf]; omega
        · rw [h2] at HD
          have HN : Hid (fnI u.fs s t = (k : Int)) := by show _ = _; rw [← HI.out, HS.out, if_pos HD.out]
          clear HS HD
          go_wp2
          go_ret
          exact ⟨ret_int HN.out.symm, HB.out⟩
set_option maxHeartbeats 1000000 in
theorem findR13 (u : Unt) (ha : Option Addr) (hc : Nat) (fa : Option Addr) (fc : Nat) (s t : Str) (w : World) (h : ClssAt w ha u.h) (f : FncsAt w fa u.fs) (hn : u.fs.length ≤ 1000000) :
    Calls Tryz.prog 101 #[unV u ha hc fa fc, .string s, .string t] w (Ret w (.int .i64 (fnI u.fs s t))) := by
  have S0 := Lib.hid (UB.start (hc := hc) (fc := fc) h f)
  have HK : Hid (∀ w1, ClssAt w1 ha u.h → FncsAt w1 fa u.fs → Calls Tryz.prog 160 #[unV u ha hc fa fc, .string s, .string t] w1 (Ret w1 (.int .i64 (fnI u.fs s t)))) := fun w1 h1 h2 => findR12 u ha hc fa fc s t w1 h1 h2 hn
  clear h f
  unfold unV at *
  go_enter Tryz.func101, Tryz.ntmps101
  go_upto_region 1 with (fail)
  generalize w.alloc _ = W at *
  obtain ⟨z0, z1, z2⟩ := S0.out.cells
  go_wp2_with fail
  refine (HK.out _ S0.out.h S0.out.f).mono ?_
  rintro e w2 ⟨rfl, hb⟩
  go_wp2
  go_ret
  exact ⟨rfl, S0.out.hb.trans (hb.mono S0.out.hb.size)⟩
structure UI (u : Unt) (ha : Option Addr) (hc : Nat) (fa : Option Addr) (fc : Nat) (x : Ins) (ga : Option Addr) (gc : Nat) (w wr : World) : Prop where
  ub : UB u ha hc fa fc w wr
  ib : Blk wr (w.heap.size + 1) #[.int .i64 x.op, .int .i64 x.dst, .int .i64 x.a, .int .i64 x.b, .int .i64 x.n, .string x.cls, .string x.name, .slice ga x.args.length gc, .int .i64 x.goto, .int .i64 x.catch_] 57
theorem UI.below {u : Unt} {ha : Option Addr} {hc : Nat} {fa : Option Addr} {fc : Nat} {x : Ins} {ga : Option Addr} {gc : Nat} {w wr w' : World} (k : UI u ha hc fa fc x ga gc w wr) (hb : Below wr.heap.size wr w') : UI u ha hc fa fc x ga gc w w' := ⟨k.ub.below hb, k.ib.below hb⟩
open Classical in
noncomputable def decB (P : Prop) : Bool := decide P
open Classical in
theorem decB_t {P : Prop} (h : P) : decB P = true := decide_eq_true h
open Classical in
theorem decB_f {P : Prop} (h : ¬ P) : decB P = false := decide_eq_false h
open Classical in
theorem decB_iff {P : Prop} : decB P = true ↔ P := decide_eq_true_iff
theorem decB_eq {P : Prop} {b : Bool} (h : b = true ↔ P) : b = decB P := by
  cases b with
  | true => exact (decB_t (h.1 rfl)).symm
  | false => exact (decB_f (fun hp => Bool.false_ne_true (h.2 hp))).symm
set_option maxRecDepth 100000 in
set_option maxHeartbeats 8000000 in
theorem canR (u : Unt) (ha : Option Addr) (hc : Nat) (fa : Option Addr) (fc : Nat) (x : Ins) (ga : Option Addr) (gc : Nat) (g : Int) (w : World) (h : ClssAt w ha u.h) (f : FncsAt w fa u.fs) (hb : BndU u) (hl : u.h.length ≤ 10000) (hx : x.op = 9 ∨ x.op = 10) :
    Calls Tryz.prog 53 #[unV u ha hc fa fc, inV x ga gc, .int .i64 g] w (Ret w (.bool (decB (callS u.h u.fs x g)))) := by
  have S0 : Hid (UI u ha hc fa fc x ga gc w ((w.alloc (unC u ha hc fa fc)).alloc (.cells #[.int .i64 x.op, .int .i64 x.dst, .int .i64 x.a, .int .i64 x.b, .int .i64 x.n, .string x.cls, .string x.name, .slice ga x.args.length gc, .int .i64 x.goto, .int .i64 x.catch_] 57))) :=
    ⟨(UB.start (hc := hc) (fc := fc) h f).below (one_below ..), blk_new2 ..⟩
  have HFN : Hid (∀ (y t : Str) (w1 : World), ClssAt w1 ha u.h → FncsAt w1 fa u.fs → Calls Tryz.prog 101 #[unV u ha hc fa fc, .string y, .string t] w1 (Ret w1 (.int .i64 (fnI u.fs y t)))) := fun y t w1 h1 h2 => findR13 u ha hc fa fc y t w1 h1 h2 (by have := hb.l; omega)
  have HTG : Hid (∀ (y t : Str) (w1 : World), ClssAt w1 ha u.h → Calls Tryz.prog 102 #[.agg #[.slice ha u.h.length hc], .string y, .string t] w1 (StrsSet (tgtNS u.h y t) u.h.length w1)) := fun y t w1 h1 => targetsR u.h y t ha hc w1 h1 hl hb.h.m
  have HC : Hid (∀ P : Prop, P = callS u.h u.fs x g → decB (callS u.h u.fs x g) = decB P) := fun P e => by rw [e]
  have HCS : Hid (callS u.h u.fs x g ↔ (x.op = 10 ∧ g = fnI u.fs x.cls x.name) ∨ (x.op = 9 ∧ ∃ y, tgtNS u.h x.cls x.name y ∧ g = fnI u.fs y x.name)) := Iff.rfl
  clear h f hb HC
  generalize callS u.h u.fs x g = PC at *
  unfold unV inV at *
  go_enter Tryz.func53, Tryz.ntmps53
  go_upto_region 1 with (fail)
  generalize (w.alloc _).alloc _ = W at *
  obtain ⟨z0, z1, z2⟩ := S0.out.ub.cells
  have y0 := S0.out.ib.cell 0 (by simp)
  have y5 := S0.out.ib.cell 5 (by simp)
  have y6 := S0.out.ib.cell 6 (by simp)
  simp only [List.getElem_toArray, List.getElem_cons_zero, List.getElem_cons_succ] at y0 y5 y6
  rcases hx with hx | hx
  case inr =>
    have t1 : (x.op == 10) = true := by simp [hx]
    have HB : Hid ((fnI u.fs x.cls x.name == g) = decB PC) := decB_eq (by
      rw [HCS.out, hx, beq_iff_eq]
      constructor
      · intro e; exact .inl ⟨rfl, e.symm⟩
      · rintro (⟨_, e⟩ | ⟨e, _⟩)
        · exact e.symm
        · exact absurd e (by decide))
    clear hx HCS
    go_wp2_with fail
    refine (HFN.out _ _ _ S0.out.ub.h S0.out.ub.f).mono ?_
    rintro e w2 ⟨rfl, hb2⟩
    go_wp2
    go_ret
    exact ⟨ret_bool HB.out, S0.out.ub.hb.trans (hb2.mono S0.out.ub.hb.size)⟩
  case inl =>
    have t1 : (x.op == 10) = false := by simp [hx]
    have HCS2 : Hid (PC ↔ ∃ y, tgtNS u.h x.cls x.name y ∧ g = fnI u.fs y x.name) := by
      show _ ↔ _
      rw [HCS.out, hx]
      constructor
      · rintro (⟨e, _⟩ | ⟨_, e⟩)
        · exact absurd e (by decide)
        · exact e
      · intro e; exact .inr ⟨rfl, e⟩
    clear hx HCS
    go_upto_region 4 with (go_at_call 102; refine (HTG.out _ _ _ S0.out.ub.h).mono ?_; rintro e w2 ⟨hb2, l, la, lc, rfl, hll, hlc, hmem, hat⟩)
    have S1 := Lib.hid (S0.out.below hb2)
    have HL := Lib.hid hat
    have HCL : Hid (PC ↔ ∃ y ∈ l, fnI u.fs y x.name = g) := by
      show _ ↔ _
      rw [HCS2.out]
      constructor
      · rintro ⟨y, hy, e⟩; exact ⟨y, (hmem y).2 hy, e.symm⟩
      · rintro ⟨y, hy, e⟩; exact ⟨y, (hmem y).1 hy, e.symm⟩
    clear S0 hb2 hat hmem HTG HCS2 z0 z1 z2 y0 y5 y6 hlc
    go_wp2
    go_loopw [8] (fun i wr => ∃ k : Nat, k ≤ l.length ∧ i = .int .i64 k ∧ Hid (∀ y ∈ l.take k, fnI u.fs y x.name ≠ g) ∧ Hid (StrsAt wr la l) ∧ Hid (UI u ha hc fa fc x ga gc w wr)) (fun i _ => l.length - (intOf i).toNat)
    case atStart => exact ⟨0, Nat.zero_le _, rfl, (fun y hy => by simp at hy), HL.out, S1.out⟩
    case round =>
      clear S1 HL
      obtain ⟨k, hk, rfl, HN, HL, S⟩ := hrel
      by_cases hlt : k < l.length
      case neg =>
        have HB : Hid (false = decB PC) := (decB_f (fun hp => by
          obtain ⟨y, hy, e⟩ := HCL.out.1 hp
          exact HN.out y (by rw [List.take_of_length_le (by omega)]; exact hy) e)).symm
        go_wp2
        go_ret
        exact ⟨ret_bool HB.out, S.out.ub.hb⟩
      case pos =>
        have HLC := Lib.hid HL.out
        obtain ⟨b, off, he, c0⟩ := HL.out k hlt
        subst he
        have HTK : Hid (l.take (k + 1) = l.take k ++ [l[k]]) := List.take_succ_eq_append_getElem hlt
        have HME : Hid (fnI u.fs l[k] x.name = g → PC) := fun e => HCL.out.2 ⟨_, List.getElem_mem hlt, e⟩
        have HF := Lib.hid (HFN.out l[k] x.name)
        generalize l[k] = nm at *
        obtain ⟨z0, z1, z2⟩ := S.out.ub.cells
        have y6 := S.out.ib.cell 6 (by simp)
        simp only [List.getElem_toArray, List.getElem_cons_zero, List.getElem_cons_succ] at y6
        have hne : Nonempty (WB wr) := ⟨⟨wr, Below.refl _ _⟩⟩
        have k0 : ∀ o : WB wr, o.u.cell? ⟨w.heap.size, 0, none⟩ = some (.slice ha u.h.length hc) := fun o => cell_below o.h z0
        have k1 : ∀ o : WB wr, o.u.cell? ⟨w.heap.size, 1, none⟩ = some (.slice fa u.fs.length fc) := fun o => cell_below o.h z1
        have k2 : ∀ o : WB wr, o.u.cell? ⟨w.heap.size, 2, none⟩ = some (.int .i64 u.main) := fun o => cell_below o.h z2
        have k3 : ∀ o : WB wr, o.u.cell? ⟨w.heap.size + 1, 6, none⟩ = some (.string x.name) := fun o => cell_below o.h y6
        have k4 : ∀ o : WB wr, o.u.cell? ⟨b, off + k, none⟩ = some (.string nm) := fun o => cell_below o.h c0
        go_upto_region 7 with (fail)
        clear z0 z1 z2 y6 c0
        refine wp_region_WB wr (by kernel_rfl) ?_
        repeat (go_big_quiet_step ((rename_i o; exact (HF.out _ (S.out.below o.h).ub.h (S.out.below o.h).ub.f).mono (fun _ _ h => Ret.inB h))))
        refine wpQuiet_nil ?_
        intro _ hw'
        obtain ⟨o, rfl⟩ := hw'
        have S2 := Lib.hid (S.out.below o.h)
        have HL2 := Lib.hid (HLC.out.below o.h)
        clear k0 k1 k2 k3 k4 S HL HLC hne HF
        generalize o.u = W2 at *
        by_cases hg : fnI u.fs nm x.name = g
        · have t2 : (fnI u.fs nm x.name == g) = true := by simp [hg]
          have HB : Hid (true = decB PC) := (decB_t (HME.out hg)).symm
          clear hg
          go_wp2
          go_ret
          exact ⟨ret_bool HB.out, S2.out.ub.hb⟩
        · have t2 : (fnI u.fs nm x.name == g) = false := by simp [hg]
          have HN2 : Hid (∀ y ∈ l.take (k + 1), fnI u.fs y x.name ≠ g) := fun y hy => by
            rw [HTK.out] at hy
            rcases List.mem_append.1 hy with hy | hy
            · exact HN.out y hy
            · rw [List.mem_singleton.1 hy]; exact hg
          clear hg
          go_wp2
          go_roundw
          case rel => exact ⟨k + 1, by omega, by go_num, HN2.out, HL2.out, S2.out⟩
          case measure => simp [intOf]; omega
set_option maxHeartbeats 1000000 in
theorem isCallR (x : Ins) (ga : Option Addr) (gc : Nat) (w : World) :
    Calls Tryz.prog 52 #[inV x ga gc] w (Ret w (.bool (x.op == 9 || x.op == 10))) := by
  have HB := Lib.hid (one_below w (.cells #[.int .i64 x.op, .int .i64 x.dst, .int .i64 x.a, .int .i64 x.b, .int .i64 x.n, .string x.cls, .string x.name, .slice ga x.args.length gc, .int .i64 x.goto, .int .i64 x.catch_] 57))
  unfold inV
  go_enter Tryz.func52, Tryz.ntmps52
  cases h1 : (x.op == 9)
  · go_wp2
    go_ret
    exact ⟨ret_bool (by simp), HB.out⟩
  · go_wp2
    go_ret
    exact ⟨ret_bool (by simp), HB.out⟩
end Go.Proofs.YtkbmnfijeknenaaGreatDoor
