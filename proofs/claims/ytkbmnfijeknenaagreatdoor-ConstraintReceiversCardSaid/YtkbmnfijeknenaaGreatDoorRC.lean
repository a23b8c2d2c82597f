/-
  The program's allocation sites.
  The program's instances of a class.
-/
import Derived.Test.YtkbmnfijeknenaaGreatDoorRB
import Derived.Test.YtkbmnfijeknenaaGreatDoorWF
import Derived.Test.YtkbmnfijeknenaaGreatDoorH0
import Derived.Test.YtkbmnfijeknenaaGreatDoorTD
namespace Go.Proofs.YtkbmnfijeknenaaGreatDoor
open Go.RowKit Go.Unit0 Go.AM

/-- the call returns sites, in memory of its own -/
def SitsPost (L : List Sit) (w : World) (e : Ending) (w' : World) : Prop :=
  Below w.heap.size w w' ∧ ∃ a c, e = .returned (.slice a L.length c) ∧ w'.ownsRow w.heap.size 83 3 (.slice a L.length c) L.length (flatS L)
/-- a unit boxed, and sites of one's own -/
structure SE (u : Unt) (ha : Option Addr) (hc : Nat) (fa : Option Addr) (fc : Nat) (out : List Sit) (oa : Option Addr) (oc : Nat) (w wr : World) : Prop where
  ub : UB u ha hc fa fc w wr
  ow : wr.ownsRow (w.heap.size + 1) 83 3 (.slice oa out.length oc) out.length (flatS out)
section
variable {u : Unt} {ha : Option Addr} {hc : Nat} {fa : Option Addr} {fc : Nat} {out : List Sit} {oa : Option Addr} {oc : Nat} {w wr w' : World}
theorem SE.below (k : SE u ha hc fa fc out oa oc w wr) (hb : Below wr.heap.size wr w') : SE u ha hc fa fc out oa oc w w' := ⟨k.ub.below hb, owns_below k.ow hb⟩
theorem SE.grow {out' : List Sit} {oa' : Option Addr} {oc' : Nat} (h : ClssAt w ha u.h) (f : FncsAt w fa u.fs) (k : SE u ha hc fa fc out oa oc w wr) (own : w'.ownsRow (w.heap.size + 1) 83 3 (.slice oa' out'.length oc') out'.length (flatS out')) (hg : wr.grownBy w' (Value.slice oa out.length oc).ownBlock) : SE u ha hc fa fc out' oa' oc' w w' :=
  ⟨k.ub.grow h f hg (fun q hq => by have := (k.ow.lt q hq).1; omega), own⟩
end
set_option maxRecDepth 100000 in
set_option maxHeartbeats 8000000 in
theorem sitesP (u : Unt) (ha : Option Addr) (hc : Nat) (fa : Option Addr) (fc : Nat) (w : World) (h : ClssAt w ha u.h) (hf : FncsAt w fa u.fs) (hb : FitOk u 150) :
    Calls Tryz.prog 41 #[unV u ha hc fa fc] w (SitsPost (sitL u) w) := by
  have S0 : Hid (SE u ha hc fa fc [] none 0 w (w.alloc (unC u ha hc fa fc))) := ⟨UB.start h hf, World.ownsRow_nil _ _ _ _⟩
  have HM : Hid (ClssAt w ha u.h ∧ FncsAt w fa u.fs) := ⟨h, hf⟩
  have hn := hb.nf
  have HCL : Hid (∀ x ∈ u.fs, x.code.length ≤ 150) := fun x hx => (hb.f x hx).c
  have HE0 : Hid ([] = sitU u.fs 0) := by show _ = _; simp [sitU]
  have HLL : Hid (sitL u = sitU u.fs u.fs.length) := rfl
  clear h hf hb
  generalize sitL u = R at *
  unfold unV at *
  go_enter Tryz.func41, Tryz.ntmps41
  go_upto_region 1 with (fail)
  generalize w.alloc _ = W at *
  obtain ⟨z0, z1, z2⟩ := S0.out.ub.cells
  go_wp2
  clear z0 z1 z2
  go_loopw [3, 11] (fun v i wr => ∃ (m : Nat) (out : List Sit) (oa : Option Addr) (oc : Nat), m ≤ u.fs.length ∧ out.length ≤ m * 150 ∧ v = .slice oa out.length oc ∧ i = .int .i64 m ∧ Hid (out = sitU u.fs m) ∧ Hid (SE u ha hc fa fc out oa oc w wr)) (fun _ i _ => u.fs.length - (intOf i).toNat)
  case atStart => exact ⟨0, [], none, 0, Nat.zero_le _, Nat.zero_le _, rfl, rfl, HE0.out, S0.out⟩
  case round =>
    clear S0 HE0
    obtain ⟨m, out, oa, oc, hm, hol, rfl, rfl, HI, S⟩ := hrel
    by_cases hlt : m < u.fs.length
    case neg =>
      have HF : Hid (out = R) := by show _ = _; rw [HLL.out, HI.out, show m = u.fs.length by omega]
      go_wp2
      go_ret
      have hbs := S.out.ub.hb
      exact ⟨hbs, oa, oc, by rw [← HF.out] <;> rfl, by rw [← HF.out]; exact owns_mono S.out.ow (Nat.le_succ _)⟩
    have HUM := Lib.hid (@sitU_succ u.fs m hlt)
    have hcl := HCL.out _ (List.getElem_mem hlt)
    obtain ⟨b, off, va, vc, ca, cc, he, m0, m1, m2, m3, m4, m5, m6, -, -⟩ := S.out.ub.f m hlt
    subst he
    have HCC : Hid (∀ wx, Below w.heap.size w wx → InssAt wx ca u.fs[m].code) := fun wx hx => by
      obtain ⟨b', off', va', vc', ca', cc', he, -, -, -, -, -, -, n6, -, hcode⟩ := HM.out.2 m hlt
      cases he
      have := cell_below S.out.ub.hb n6
      rw [m6] at this
      cases this
      exact hcode.below hx
    have HSF : Hid (∀ q (hq : q < u.fs[m].code.length), sitF m u.fs[m].code (q + 1) = sitF m u.fs[m].code q ++ sitI m q u.fs[m].code[q]) := fun q hq => sitF_succ hq
    generalize u.fs[m] = f at *
    have BZ : Hid (Blk (wr.alloc zFnC) wr.heap.size _ 55) := blk_new ..
    go_upto_region 5 with (refine storeFunc rfl rfl _ _ rfl wr.heap.size f va vc ca cc rfl rfl _ BZ.out rfl ?_)
    have hrow := below_row (one_below wr zFnC) (Nat.le_refl wr.heap.size) #[.string f.cls, .string f.name, .bool f.stat, .int .i64 f.params, .slice va f.vars.length vc, .string f.result, .slice ca f.code.length cc]
    have B2 := Lib.hid (BZ.out.setRow #[.string f.cls, .string f.name, .bool f.stat, .int .i64 f.params, .slice va f.vars.length vc, .string f.result, .slice ca f.code.length cc])
    have S2 := Lib.hid (S.out.below hrow)
    clear S BZ hrow m0 m1 m2 m3 m4 m5 m6
    generalize (wr.alloc zFnC).setRow wr.heap.size _ = W2 at *
    generalize wr.heap.size = n2 at *
    have y6 := B2.out.cell 6 (by simp)
    simp only [List.getElem_toArray, List.getElem_cons_zero, List.getElem_cons_succ] at y6
    go_wp2
    clear y6 B2
    obtain ⟨wo, rfl⟩ : ∃ wo, wo = W2 := ⟨_, rfl⟩
    go_loopw [3, 19] (fun v i wr => ∃ (q : Nat) (out : List Sit) (oa : Option Addr) (oc : Nat), q ≤ f.code.length ∧ out.length ≤ m * 150 + q ∧ v = .slice oa out.length oc ∧ i = .int .i64 q ∧ Hid (out = sitU u.fs m ++ sitF m f.code q) ∧ Hid (SE u ha hc (some ⟨b, off, none⟩) fc out oa oc w wr)) (fun _ i _ => f.code.length - (intOf i).toNat)
    case atStart => exact ⟨0, out, oa, oc, Nat.zero_le _, by omega, rfl, rfl, (by show _ = _; rw [HI.out]; simp [sitF]), S2.out⟩
    case round =>
      clear S2 HI
      obtain ⟨q, out, oa, oc, hq, hol, rfl, rfl, HI, S⟩ := hrel
      by_cases hql : q < f.code.length
      case neg =>
        have HN : Hid (out = sitU u.fs (m + 1)) := by show _ = _; rw [HUM.out, HI.out, show q = f.code.length by omega]
        go_wp2
        go_roundw
        case rel => exact ⟨m + 1, out, oa, oc, by omega, by omega, rfl, by go_num, HN.out, S.out⟩
        case measure => simp [intOf]; omega
      obtain ⟨b2, off2, ga, gc, he, m0, m1, m2, m3, m4, m5, m6, m7, m8, m9, -⟩ := HCC.out _ S.out.ub.hb q hql
      subst he
      have HSQ := Lib.hid (HSF.out q hql)
      have HSI : Hid (sitI m q f.code[q] = if f.code[q].op = 6 then [⟨m, q, f.code[q].cls⟩] else []) := rfl
      generalize f.code[q] = x at *
      have BZ : Hid (Blk (wr.alloc zInC) wr.heap.size _ 57) := blk_new ..
      go_upto_region 8 with (refine storeInstr rfl rfl _ _ rfl wr.heap.size x ga gc rfl rfl _ BZ.out rfl ?_)
      have hrow := below_row (one_below wr zInC) (Nat.le_refl wr.heap.size) #[.int .i64 x.op, .int .i64 x.dst, .int .i64 x.a, .int .i64 x.b, .int .i64 x.n, .string x.cls, .string x.name, .slice ga x.args.length gc, .int .i64 x.goto, .int .i64 x.catch_]
      have B2 := Lib.hid (BZ.out.setRow #[.int .i64 x.op, .int .i64 x.dst, .int .i64 x.a, .int .i64 x.b, .int .i64 x.n, .string x.cls, .string x.name, .slice ga x.args.length gc, .int .i64 x.goto, .int .i64 x.catch_])
      have S2 := Lib.hid (S.out.below hrow)
      clear S BZ hrow m0 m1 m2 m3 m4 m5 m6 m7 m8 m9
      generalize (wr.alloc zInC).setRow wr.heap.size _ = W2 at *
      generalize wr.heap.size = n3 at *
      have y0 := B2.out.cell 0 (by simp)
      have y5 := B2.out.cell 5 (by simp)
      simp only [List.getElem_toArray, List.getElem_cons_zero, List.getElem_cons_succ] at y0 y5
      cases h6 : (x.op == 6)
      case false =>
        have HN : Hid (out = sitU u.fs m ++ sitF m f.code (q + 1)) := by show _ = _; rw [HSQ.out, HSI.out, if_neg (by simpa using h6), List.append_nil]; exact HI.out
        clear HI
        go_wp2
        go_roundw
        case rel => exact ⟨q + 1, out, oa, oc, by omega, by omega, rfl, by go_num, HN.out, S2.out⟩
        case measure => simp [intOf]; omega
      case true =>
        have HN : Hid (out ++ [⟨(m : Int), (q : Int), x.cls⟩] = sitU u.fs m ++ sitF m f.code (q + 1)) := by show _ = _; rw [HSQ.out, HSI.out, if_pos (by simpa using h6), HI.out, List.append_assoc]
        clear HI
        generalize x.cls = xc at *
        have S1 := Lib.hid (S2.out.below (one_below W2 (.cells #[.int .i64 m, .int .i64 q, .string xc] 83)))
        have B1 : Hid (Blk (W2.alloc (.cells #[.int .i64 m, .int .i64 q, .string xc] 83)) W2.heap.size #[.int .i64 m, .int .i64 q, .string xc] 83) := blk_new ..
        have hbs : w.heap.size + 1 ≤ (W2.alloc (.cells #[.int .i64 m, .int .i64 q, .string xc] 83)).heap.size := Nat.succ_le_of_lt S1.out.ub.b1.lt
        have hoc : out.length ≤ 1000000 := by omega
        go_wp2_with (at_builtin; refine appS rfl _ _ rfl (w.heap.size + 1) _ out rfl S1.out.ow W2.heap.size ⟨(m : Int), (q : Int), xc⟩ rfl B1.out hoc hbs ?_; intro v7 W7 own7 hg7; obtain ⟨-, oa7, oc7, rfl, -, -⟩ := ownsS own7)
        have S7 := Lib.hid (SE.grow HM.out.1 HM.out.2 S1.out own7 hg7)
        clear own7 hg7 S1 B1 S2 B2 y0 y5
        have hlen : (out ++ [(⟨(m : Int), (q : Int), xc⟩ : Sit)]).length = out.length + 1 := by simp
        go_roundw
        case rel => exact ⟨q + 1, out ++ [(⟨(m : Int), (q : Int), xc⟩ : Sit)], oa7, oc7, by omega, by omega, (by first | rfl | simp), by go_num, HN.out, S7.out⟩
        case measure => simp [intOf]; omega
end Go.Proofs.YtkbmnfijeknenaaGreatDoor
namespace Go.Proofs.YtkbmnfijeknenaaGreatDoor
open Go.RowKit Go.Unit0 Go.AM

theorem storeSite {ops : Array Oper} {rest : List Oper} {o : Oper} {a : Act} {w : World} {Q : Exit → Act → World → Prop} (hgd : o.guard = none) (x y : Operand) (ho : o.op = .store 83 x y)
    (g : Nat) (i j : Int) (s : ByteArray) (hx : a.eval x = .pointer (some ⟨g, 0, none⟩)) (hy : a.eval y = .agg #[.int .i64 i, .int .i64 j, .string s])
    (old : Array Value) (hg : Blk w g old 83) (hold : old.size = 3)
    (h : wpList Tryz.prog ops Q rest (a.put o.dst undef) (w.setRow g #[.int .i64 i, .int .i64 j, .string s])) : wpList Tryz.prog ops Q (o :: rest) a w :=
  wpList_store_row hgd 83 x y ho g _ hx hy 83 old hg (by kernel_rfl) hold (by simp [Value.oneCell']) h
/-- a cache of a Bool function of names -/
def CacheB (w : World) (g : Nat) (p : Str → Bool) (F : Str → Option Value) (n : Nat) : Prop := MapF w g Value.string F n ∧ ∀ s v, F s = some v → v = .bool (p s)
theorem CacheB.below {w w' : World} {g : Nat} {p : Str → Bool} {F : Str → Option Value} {n : Nat} (k : CacheB w g p F n) (hb : Below w.heap.size w w') : CacheB w' g p F n := ⟨k.1.below hb, k.2⟩
theorem CacheB.put {w' : World} {g : Nat} {p : Str → Bool} {F : Str → Option Value} {n : Nat} {s : Str} (k : ∀ s v, F s = some v → v = .bool (p s)) (hm : MapF w' g Value.string (fun k' => if k' = s then some (.bool (p s)) else F k') (n + 1)) : CacheB w' g p (fun k' => if k' = s then some (.bool (p s)) else F k') (n + 1) :=
  ⟨hm, fun t v e => by
    replace e : (if t = s then some (Value.bool (p s)) else F t) = some v := e
    by_cases h : t = s
    · rw [if_pos h] at e
      cases e
      rw [h]
    · rw [if_neg h] at e
      exact k t v e⟩
/-- a unit boxed, sites, a cache, numbers of one's own -/
structure IE (u : Unt) (ha : Option Addr) (hc : Nat) (fa : Option Addr) (fc : Nat) (L : List Sit) (sa : Option Addr) (gm : Nat) (p : Str → Bool) (F : Str → Option Value) (n : Nat) (out : List Int) (oa : Option Addr) (oc : Nat) (w wr : World) : Prop where
  ub : UB u ha hc fa fc w wr
  sa : SitsAt wr sa L
  ca : CacheB wr gm p F n
  ow : wr.ownsRow (w.heap.size + 1) 3 1 (.slice oa out.length oc) out.length (out.map intV)
  gg : w.heap.size < gm
section
variable {u : Unt} {ha : Option Addr} {hc : Nat} {fa : Option Addr} {fc : Nat} {L : List Sit} {sa : Option Addr} {gm : Nat} {p : Str → Bool} {F : Str → Option Value} {n : Nat} {out : List Int} {oa : Option Addr} {oc : Nat} {w wr w' : World}
theorem IE.below (k : IE u ha hc fa fc L sa gm p F n out oa oc w wr) (hb : Below wr.heap.size wr w') : IE u ha hc fa fc L sa gm p F n out oa oc w w' :=
  ⟨k.ub.below hb, k.sa.below hb, k.ca.below hb, owns_below k.ow hb, k.gg⟩
theorem IE.grow {out' : List Int} {oa' : Option Addr} {oc' : Nat} (h : ClssAt w ha u.h) (f : FncsAt w fa u.fs) (hs : SitsAt w sa L) (k : IE u ha hc fa fc L sa gm p F n out oa oc w wr) (own : w'.ownsRow (w.heap.size + 1) 3 1 (.slice oa' out'.length oc') out'.length (out'.map intV)) (hg : wr.grownBy w' (Value.slice oa out.length oc).ownBlock) : IE u ha hc fa fc L sa gm p F n out' oa' oc' w w' :=
  have hr : ∀ q, (Value.slice oa out.length oc).ownBlock = some q → w.heap.size < q := fun q hq => by have := (k.ow.lt q hq).1; omega
  have ub := k.ub.grow h f hg hr
  ⟨ub, hs.below ub.hb, ⟨k.ca.1.grown hg (owns_mapF k.ow k.ca.1), k.ca.2⟩, own, k.gg⟩
theorem IE.put {F' : Str → Option Value} {n' : Nat} (h : ClssAt w ha u.h) (f : FncsAt w fa u.fs) (hs : SitsAt w sa L) (k : IE u ha hc fa fc L sa gm p F n out oa oc w wr) (hc' : CacheB w' gm p F' n') (hg : wr.grownBy w' (some gm)) : IE u ha hc fa fc L sa gm p F' n' out oa oc w w' :=
  have ub := k.ub.grow h f hg (fun q hq => by cases hq; exact k.gg)
  ⟨ub, hs.below ub.hb, hc', owns_put k.ow k.ca.1 hg, k.gg⟩
end
theorem insB_at {h : List Cls} {L : List Sit} {c : Str} {k : Nat} (hk : k < L.length) : insB h L c k = subP h L[k].c c := by
  unfold insB; rw [List.getElem?_eq_getElem hk]; rfl
set_option maxRecDepth 100000 in
set_option maxHeartbeats 8000000 in
theorem instancesP (u : Unt) (ha : Option Addr) (hc : Nat) (fa : Option Addr) (fc : Nat) (L : List Sit) (sa : Option Addr) (sc : Nat) (c : Str) (w : World) (h : ClssAt w ha u.h) (hf : FncsAt w fa u.fs) (hs : SitsAt w sa L) (hl : u.h.length ≤ 100000) (hL : L.length ≤ 1000000) :
    Calls Tryz.prog 84 #[unV u ha hc fa fc, .slice sa L.length sc, .string c] w (IntsPost (instL u.h L c) w) := by
  have S00 := Lib.hid (UB.start (hc := hc) (fc := fc) h hf)
  have HZ : Hid ((w.alloc (unC u ha hc fa fc)).heap.size = w.heap.size + 1) := by show _ = _; simp
  have HM : Hid (ClssAt w ha u.h ∧ FncsAt w fa u.fs ∧ SitsAt w sa L) := ⟨h, hf, hs⟩
  have HIS : Hid (∀ (s : Str) (w1 : World), ClssAt w1 ha u.h → Calls Tryz.prog 130 #[.agg #[.slice ha u.h.length hc], .string s, .string c] w1 (Ret w1 (.bool (subP u.h s c)))) := fun s w1 h1 => isSubP u.h s c ha hc w1 h1 hl
  have HDF : Hid (instL u.h L c = idxL L.length (insB u.h L c)) := rfl
  have HIT : Hid (∀ k (hk : k < L.length), subP u.h L[k].c c = true → idxL (k + 1) (insB u.h L c) = idxL k (insB u.h L c) ++ [(k : Int)]) := fun k hk e => idxL_t (by rw [insB_at hk]; exact e)
  have HIF : Hid (∀ k (hk : k < L.length), subP u.h L[k].c c = false → idxL (k + 1) (insB u.h L c) = idxL k (insB u.h L c)) := fun k hk e => idxL_f (by rw [insB_at hk]; exact e)
  clear h hf
  generalize instL u.h L c = R at *
  generalize hp : (fun s => subP u.h s c) = p at *
  have HPP : Hid (∀ s, subP u.h s c = p s) := fun s => by rw [← hp]
  clear hp
  generalize insB u.h L c = B at *
  unfold unV at *
  go_enter Tryz.func84, Tryz.ntmps84
  go_upto_region 1 with (fail)
  generalize w.alloc _ = W at *
  go_upto_region 3 with (refine wpList_makeF rfl 114 rfl undMSB Value.string ?_; intro hmp)
  have hgm : w.heap.size < W.heap.size := by rw [HZ.out]; omega
  have hob := one_below W (.map #[] 0)
  have S0 : Hid (IE u ha hc fa fc L sa W.heap.size p (fun _ => none) 0 [] none 0 w (W.alloc (.map #[] 0))) := ⟨S00.out.below hob, (HM.out.2.2).below (S00.out.hb.trans (hob.mono S00.out.hb.size)), ⟨hmp, fun s v e => (by cases e)⟩, World.ownsRow_nil _ _ _ _, hgm⟩
  clear S00 HZ hmp hgm hob hs
  generalize W.heap.size = gm at *
  generalize W.alloc (.map #[] 0) = W1 at *
  go_wp2
  go_loopw [7, 16] (fun v i wr => ∃ (k : Nat) (F : Str → Option Value) (n : Nat) (out : List Int) (oa : Option Addr) (oc : Nat), k ≤ L.length ∧ out.length ≤ k ∧ v = .slice oa out.length oc ∧ i = .int .i64 k ∧ Hid (out = idxL k B) ∧ Hid (IE u ha hc fa fc L sa gm p F n out oa oc w wr)) (fun _ i _ => L.length - (intOf i).toNat)
  case atStart => exact ⟨0, _, _, [], none, 0, Nat.zero_le _, Nat.zero_le _, rfl, rfl, rfl, S0.out⟩
  case round =>
    clear S0
    obtain ⟨k, F, n, out, oa, oc, hk, hol, rfl, rfl, HI, S⟩ := hrel
    by_cases hlt : k < L.length
    case neg =>
      have HF : Hid (out = R) := by show _ = _; rw [HDF.out, HI.out, show k = L.length by omega]
      go_wp2
      go_ret
      exact ⟨S.out.ub.hb, oa, oc, by rw [← HF.out] <;> rfl, by rw [← HF.out]; exact owns_mono S.out.ow (Nat.le_succ _)⟩
    obtain ⟨b, off, he, m0, m1, m2⟩ := S.out.sa k hlt
    subst he
    have HT := Lib.hid (HIT.out k hlt)
    have HFF := Lib.hid (HIF.out k hlt)
    have HQ := Lib.hid (HIS.out L[k].c)
    rw [HPP.out] at HT HFF HQ
    generalize L[k].f = xf at *
    generalize L[k].i = xi at *
    generalize L[k].c = xc at *
    have BZ : Hid (Blk (wr.alloc (.cells #[.int .i64 0, .int .i64 0, .string ⟨#[]⟩] 83)) wr.heap.size _ 83) := blk_new ..
    go_upto_region 6 with (refine storeSite rfl _ _ rfl wr.heap.size xf xi xc rfl rfl _ BZ.out rfl ?_)
    have hrow := below_row (one_below wr (.cells #[.int .i64 0, .int .i64 0, .string ⟨#[]⟩] 83)) (Nat.le_refl wr.heap.size) #[.int .i64 xf, .int .i64 xi, .string xc]
    have B2 := Lib.hid (BZ.out.setRow #[.int .i64 xf, .int .i64 xi, .string xc])
    have S2 := Lib.hid (S.out.below hrow)
    clear S BZ hrow m0 m1 m2
    generalize (wr.alloc _).setRow wr.heap.size _ = W2 at *
    generalize wr.heap.size = n2 at *
    have y2 := B2.out.cell 2 (by simp)
    simp only [List.getElem_toArray, List.getElem_cons_zero, List.getElem_cons_succ] at y2
    cases hF : F xc with
    | some v =>
      have hv := S2.out.ca.2 xc v hF
      subst hv
      have HV := Lib.hid hF
      clear hF
      cases hb : p xc
      case false =>
        have HN : Hid (out = idxL (k + 1) B) := by show _ = _; rw [HFF.out hb]; exact HI.out
        rw [hb] at HV
        clear HT HFF HI hb
        go_wp2_with (at_lookup; refine wpList_lookF rfl _ _ _ _ rfl keyStr undMSB _ (zeroBool _) gm rfl S2.out.ca.1 xc rfl ?_; rw [HV.out])
        go_roundw
        case rel => exact ⟨k + 1, F, n, out, oa, oc, by omega, by omega, rfl, by go_num, HN.out, S2.out⟩
        case measure => simp [intOf]; omega
      case true =>
        have HN : Hid (out ++ [(k : Int)] = idxL (k + 1) B) := by show _ = _; rw [HT.out hb, HI.out]
        rw [hb] at HV
        clear HT HFF HI hb
        have S1 := Lib.hid (S2.out.below (one_below W2 (.cells #[.int .i64 k] 3)))
        have hbs : w.heap.size + 1 ≤ (W2.alloc (.cells #[.int .i64 k] 3)).heap.size := Nat.succ_le_of_lt S1.out.ub.b1.lt
        have hoc : out.length ≤ 1000000 := by omega
        go_wp2_with (first | (at_lookup; refine wpList_lookF rfl _ _ _ _ rfl keyStr undMSB _ (zeroBool _) gm rfl S2.out.ca.1 xc rfl ?_; rw [HV.out]) | (at_builtin; refine app_ints rfl _ _ rfl (w.heap.size + 1) _ out rfl S1.out.ow _ 1 [(k : Int)] rfl (ints_new _ _) hoc (by simp) hbs ?_; intro v7 W7 own7 hg7; obtain ⟨-, oa7, oc7, rfl, -, -⟩ := owns_ints own7))
        have S7 := Lib.hid (IE.grow HM.out.1 HM.out.2.1 HM.out.2.2 S1.out own7 hg7)
        clear own7 hg7 S1 S2 B2 y2
        have hlen : (out ++ [(k : Int)]).length = out.length + 1 := by simp
        go_roundw
        case rel => exact ⟨k + 1, F, n, out ++ [(k : Int)], oa7, oc7, by omega, by omega, (by first | rfl | simp), by go_num, HN.out, S7.out⟩
        case measure => simp [intOf]; omega
    | none =>
      have HV := Lib.hid hF
      clear hF
      obtain ⟨z0, z1, z2⟩ := S2.out.ub.cells
      go_upto_region 9 with (first | (at_lookup; refine wpList_lookF rfl _ _ _ _ rfl keyStr undMSB _ (zeroBool _) gm rfl S2.out.ca.1 xc rfl ?_; rw [HV.out]) | (go_at_call 130; refine (HQ.out _ S2.out.ub.h).mono ?_; rintro e w3 ⟨rfl, hb3⟩))
      have S3 := Lib.hid (S2.out.below hb3)
      have B3 := Lib.hid (B2.out.below hb3)
      clear S2 B2 hb3 y2 z0 z1 z2 HV HQ
      have y2 := B3.out.cell 2 (by simp)
      simp only [List.getElem_toArray, List.getElem_cons_zero, List.getElem_cons_succ] at y2
      go_upto_region 10 with (at_mapUpdate; refine wpList_mapF rfl _ _ _ _ rfl keyStr undMSB gm rfl S3.out.ca.1 xc rfl (.bool (p xc)) rfl ?_; intro w4 hm4 hg4 hs4)
      have S4 := Lib.hid (IE.put HM.out.1 HM.out.2.1 HM.out.2.2 S3.out (CacheB.put S3.out.ca.2 hm4) hg4)
      clear S3 B3 y2 hm4 hg4 hs4
      cases hb : p xc
      case false =>
        have HN : Hid (out = idxL (k + 1) B) := by show _ = _; rw [HFF.out hb]; exact HI.out
        clear HT HFF HI hb
        go_wp2
        go_roundw
        case rel => exact ⟨k + 1, _, _, out, oa, oc, by omega, by omega, rfl, by go_num, HN.out, S4.out⟩
        case measure => simp [intOf]; omega
      case true =>
        have HN : Hid (out ++ [(k : Int)] = idxL (k + 1) B) := by show _ = _; rw [HT.out hb, HI.out]
        clear HT HFF HI hb
        have S1 := Lib.hid (S4.out.below (one_below w4 (.cells #[.int .i64 k] 3)))
        have hbs : w.heap.size + 1 ≤ (w4.alloc (.cells #[.int .i64 k] 3)).heap.size := Nat.succ_le_of_lt S1.out.ub.b1.lt
        have hoc : out.length ≤ 1000000 := by omega
        go_wp2_with ((at_builtin; refine app_ints rfl _ _ rfl (w.heap.size + 1) _ out rfl S1.out.ow _ 1 [(k : Int)] rfl (ints_new _ _) hoc (by simp) hbs ?_; intro v7 W7 own7 hg7; obtain ⟨-, oa7, oc7, rfl, -, -⟩ := owns_ints own7))
        have S7 := Lib.hid (IE.grow HM.out.1 HM.out.2.1 HM.out.2.2 S1.out own7 hg7)
        clear own7 hg7 S1 S4
        have hlen : (out ++ [(k : Int)]).length = out.length + 1 := by simp
        go_roundw
        case rel => exact ⟨k + 1, _, _, out ++ [(k : Int)], oa7, oc7, by omega, by omega, (by first | rfl | simp), by go_num, HN.out, S7.out⟩
        case measure => simp [intOf]; omega
end Go.Proofs.YtkbmnfijeknenaaGreatDoor
