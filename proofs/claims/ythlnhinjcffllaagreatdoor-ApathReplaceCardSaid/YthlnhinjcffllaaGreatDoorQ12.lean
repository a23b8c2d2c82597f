/-
  A path of one's own: duplicate.
-/
import Derived.Test.YthlnhinjcffllaaGreatDoorQ11
import Derived.Laws.Tables
import Derived.Laws.CopyOwn
namespace Go.Proofs.YthlnhinjcffllaaGreatDoor
open Go.RowKit

/-- a path's cells -/
def pC (p : Pth) (a : Option Addr) (c : Nat) : Array Value := #[.int .i64 p.root, .int .i64 p.n, .slice a p.fs.length c, .bool p.star]
/-- a path is stored whole -/
theorem store24 {ops : Array Oper} {rest : List Oper} {o : Oper} {a : Act} {w : World} {Q : Exit → Act → World → Prop} (hgd : o.guard = none) (x y : Operand) (ho : o.op = .store 24 x y)
    (g : Nat) (r n : Int) (b : Option Addr) (k d : Nat) (s : Bool) (hx : a.eval x = .pointer (some ⟨g, 0, none⟩)) (hy : a.eval y = .agg #[.int .i64 r, .int .i64 n, .slice b k d, .bool s])
    (old : Array Value) (hg : Blk w g old 24) (hold : old.size = 4)
    (h : wpList Tryz.prog ops Q rest (a.put o.dst undef) (w.setRow g #[.int .i64 r, .int .i64 n, .slice b k d, .bool s])) : wpList Tryz.prog ops Q (o :: rest) a w :=
  wpList_store_row hgd 24 x y ho g _ hx hy 24 old hg (by kernel_rfl) hold (by simp [Value.oneCell']) h
theorem wload24 {ops : Array Oper} {rest : List Oper} {o : Oper} {a : Act} {w : World} {Q : Exit → Act → World → Prop} (hgd : o.guard = none) (x : Operand) (ho : o.op = .load 24 x)
    (g : Nat) (cs : Array Value) (hx : a.eval x = .pointer (some ⟨g, 0, none⟩)) (hg : Blk w g cs 24) (hc : cs.size = 4)
    (h : wpList Tryz.prog ops Q rest (a.put o.dst (.agg cs)) w) : wpList Tryz.prog ops Q (o :: rest) a w :=
  wpList_load_row hgd 24 x ho g hx 24 cs (0, 0) _ hg Tryz.underlying24 rfl (by rw [hc]; kernel_rfl) h
theorem results_c1 {P : Program} {fn : Func} {p : Tmp} {ty : TypeId} (h : fn.results = #[.cell p ty]) (tmps : Array Value) (w : World) (g : Nat) (cs : Array Value) (d : TypeDesc)
    (hp : tmps.getD p undef = .pointer (some ⟨g, 0, none⟩)) (hg : Blk w g cs ty)
    (hu : P.underlying ty = some d) (hd : (match d with | .struct _ | .array _ _ => true | _ => false) = true) (hi : (P.info? ty).map (·.size) = some cs.size) :
    (results fn tmps).run P w = .ok (.agg cs) w := by
  have hp' : tmps[p]?.getD undef = .pointer (some ⟨g, 0, none⟩) := by simpa using hp
  simp [results, h, hp', asAddr, run_loadVar_row w g ty ty cs (0, 0) d hg hu hd hi]
theorem results_c2 {P : Program} {fn : Func} {p t1 : Tmp} {ty : TypeId} (h : fn.results = #[.cell p ty, .tmp t1]) (tmps : Array Value) (w : World) (g : Nat) (cs : Array Value) (d : TypeDesc) (v1 : Value)
    (hp : tmps.getD p undef = .pointer (some ⟨g, 0, none⟩)) (h1 : tmps.getD t1 undef = v1) (hg : Blk w g cs ty)
    (hu : P.underlying ty = some d) (hd : (match d with | .struct _ | .array _ _ => true | _ => false) = true) (hi : (P.info? ty).map (·.size) = some cs.size) :
    (results fn tmps).run P w = .ok (.tuple #[.agg cs, v1]) w := by
  have hp' : tmps[p]?.getD undef = .pointer (some ⟨g, 0, none⟩) := by simpa using hp
  have h1' : tmps[t1]?.getD undef = v1 := by simpa using h1
  simp [results, h, hp', h1', asAddr, run_loadVar_row w g ty ty cs (0, 0) d hg hu hd hi]
theorem addr_add (b off k : Nat) : (⟨b, off, none⟩ : Addr).add k = ⟨b, off + k, none⟩ := by unfold Addr.add; split <;> simp_all
/-- strings that are owned lie at their address -/
theorem owns_strs {w : World} {base : Nat} {v : Value} {l : List ByteArray} {n : Nat} (h : w.ownsRow base 9 1 v n (l.map Value.string)) : n = l.length ∧ ∃ a cap, v = .slice a n cap ∧ n ≤ cap ∧ StrsAt w a l := by
  have hl : n = l.length := by have := h.1; simp at this; omega
  refine ⟨hl, ?_⟩
  rcases h.2 with ⟨rfl, h0⟩ | ⟨g, cap, cur, rfl, hb, hh, hn, _, hsz, ht⟩
  · exact ⟨none, 0, by rw [h0], by omega, fun k hk => by omega⟩
  · refine ⟨_, _, rfl, hn, fun k hk => ⟨g, 0, rfl, ?_⟩⟩
    have c := h.cells (g := g) rfl k (.string l[k]) (by simp [hk])
    rw [addr_add] at c
    exact c
/-- the call returns a path whose fields lie in memory of the call's own -/
def OwnP (p : Pth) (w : World) (e : Ending) (w' : World) : Prop := Below w.heap.size w w' ∧ ∃ b d, e = .returned (pV p b d) ∧ w'.ownsRow w.heap.size 9 1 (.slice b p.fs.length d) p.fs.length (p.fs.map Value.string)

theorem info9 : (Tryz.prog.info? 9).map (fun i => (i.zero, i.size, i.bytes)) = some (some (.string ⟨#[]⟩), 1, 16) := by kernel_rfl
theorem make22 (n : Nat) (hn : n ≤ 1000) (u : World) : (Instr.makeSlice 22 (.int .i64 (n : Int)) (.int .i64 ((n : Int) + 1))).run Tryz.prog u = .ok (.slice (some ⟨u.heap.size, 0, none⟩) n (n + 1)) (u.alloc (.cells (List.replicate (n + 1) (Value.string ⟨#[]⟩)).toArray 9)) := by
  obtain ⟨i0, hi, hz0, hz1, hz2⟩ := info_parts info9
  have h := run_make (P := Tryz.prog) u 22 9 i0 (.string ⟨#[]⟩) Tryz.underlying22 hi hz0 .i64 .i64 (n : Int) ((n : Int) + 1) (by omega) (by omega) (by rw [hz2]; omega) (by omega)
  rw [h, hz1]
  have e0 : ((n : Int) + 1).toNat = n + 1 := by omega
  have e : madeCells (Value.string ⟨#[]⟩).cells (((n : Int) + 1).toNat * 1) = (List.replicate (n + 1) (Value.string ⟨#[]⟩)).toArray := by
    apply Array.ext'
    have := toList_madeCells_one (Value.string ⟨#[]⟩) (n + 1)
    simp only [Value.cells, e0, Nat.mul_one]
    exact this
  rw [e, e0]; simp
set_option maxRecDepth 100000 in
set_option maxHeartbeats 2000000 in
theorem dup25 (p : Pth) (a : Option Addr) (c : Nat) (w : World) (hs : StrsAt w a p.fs) (hl : p.fs.length ≤ 1000) : Calls Tryz.prog 25 #[pV p a c] w (OwnP p w) := by
  unfold pV
  have HB0 := Lib.hid (two_below w (.cells #[.int .i64 p.root, .int .i64 p.n, .slice a p.fs.length c, .bool p.star] 24) (.cells #[.int .i64 0, .int .i64 0, .slice none 0 0, .bool false] 24))
  have HS := Lib.hid (hs.below HB0.out); clear hs
  obtain ⟨W, hW⟩ : ∃ W, W = (w.alloc (.cells #[.int .i64 p.root, .int .i64 p.n, .slice a p.fs.length c, .bool p.star] 24)).alloc (.cells #[.int .i64 0, .int .i64 0, .slice none 0 0, .bool false] 24) := ⟨_, rfl⟩
  have C1 : Hid (Blk W w.heap.size #[.int .i64 p.root, .int .i64 p.n, .slice a p.fs.length c, .bool p.star] 24) := by rw [hW]; exact (blk_new ..).below (one_below ..)
  have C2 : Hid (Blk W (w.heap.size + 1) #[.int .i64 0, .int .i64 0, .slice none 0 0, .bool false] 24) := by rw [hW]; exact blk_new2 ..
  have HZ : Hid (W.heap.size = w.heap.size + 1 + 1) := by show _ = _; rw [hW]; simp
  rw [← hW] at HB0 HS
  have hmk := make22 p.fs.length hl W
  obtain ⟨X, hX⟩ : ∃ X, X = List.replicate (p.fs.length + 1) (Value.string ⟨#[]⟩) := ⟨_, rfl⟩
  have hXl : X.length = p.fs.length + 1 := by rw [hX]; simp
  rw [← hX] at hmk
  have HXL := Lib.hid hXl; clear hXl hX
  go_enter Tryz.func25, Tryz.ntmps25
  go_upto_region 1 with (fail)
  rw [← hW]
  clear hW
  obtain ⟨x0, x1, x2, x3⟩ := C1.out.four
  obtain ⟨g, hg⟩ : ∃ g, g = W.heap.size := ⟨_, rfl⟩
  have HG := Lib.hid hg
  rw [← hg] at hmk
  clear hg
  go_upto_region 2 with (fail)
  obtain ⟨W3, hW3⟩ : ∃ W3, W3 = W.alloc (.cells X.toArray 9) := ⟨_, rfl⟩
  have B3 : Hid (Below W.heap.size W W3) := by rw [hW3]; exact one_below ..
  have G3 : Hid (W3.heap[g]? = some (.cells X.toArray 9 (0, 0))) := by rw [hW3, HG.out]; exact heap_alloc_new W _
  rw [← hW3]
  clear hW3 hmk
  have D1 := Lib.hid (C1.out.below B3.out)
  have S3 := Lib.hid (HS.out.below B3.out)
  clear x0 x1 x2 x3
  obtain ⟨x0, x1, x2, x3⟩ := D1.out.four
  go_wp2_with (with_reducible refine wpList_copy_splice rfl (.tmp 12) (.tmp 14) 22 22 rfl 9 Tryz.underlying22 (by kernel_rfl) (some ⟨g, 0, none⟩) a p.fs.length (p.fs.length + 1) p.fs.length c rfl rfl g 0 X 9 G3.out (p.fs.map Value.string) ?c1 ?c2 ?c3 ?c4 W.heap.size W B3.out ?c5 ?_)
  case c1 => simp
  case c2 =>
    intro h0
    obtain ⟨b, off, ha, _⟩ := S3.out 0 h0
    refine ⟨_, ha, fun j v hj => ?_⟩
    obtain ⟨x, rfl⟩ := List.getElem?_eq_some_iff.1 hj
    obtain ⟨b', off', ha', hc⟩ := S3.out j x
    rw [ha] at ha'
    cases ha'
    rw [addr_add, hc]
  case c3 => rw [List.length_map, HXL.out]; omega
  case c4 =>
    intro v hv
    obtain ⟨x, _, rfl⟩ := List.mem_map.1 hv
    rfl
  case c5 => rw [HG.out]; exact Nat.le_refl _
  intro w4 hg4 hb4
  have D4 := Lib.hid (C1.out.below hb4)
  have E4 := Lib.hid (C2.out.below hb4)
  have BW4 := Lib.hid (HB0.out.trans (hb4.mono HB0.out.size))
  have hgl : w.heap.size < g := by rw [HG.out, HZ.out]; omega
  have hgl2 : w.heap.size + 1 < g := by rw [HG.out, HZ.out]; omega
  have hsz4 : w.heap.size + 1 < w4.heap.size := E4.out.lt
  clear hb4 B3 G3 D1 S3 x0 x1 x2 x3 C1 C2 HB0 HS
  obtain ⟨y0, y1, y2, y3⟩ := D4.out.four
  have f2 := D4.out.free 2
  have D5 : Hid (Blk (w4.setCell ⟨w.heap.size, 2, none⟩ (.slice (some ⟨g, 0, none⟩) p.fs.length (p.fs.length + 1))) w.heap.size #[.int .i64 p.root, .int .i64 p.n, .slice (some ⟨g, 0, none⟩) p.fs.length (p.fs.length + 1), .bool p.star] 24) := by
    have := D4.out.set 2 (.slice (some ⟨g, 0, none⟩) p.fs.length (p.fs.length + 1))
    show Blk _ _ _ _
    simpa using this
  have E5 : Hid (Blk (w4.setCell ⟨w.heap.size, 2, none⟩ (.slice (some ⟨g, 0, none⟩) p.fs.length (p.fs.length + 1))) (w.heap.size + 1) #[.int .i64 0, .int .i64 0, .slice none 0 0, .bool false] 24) := E4.out.other (by omega) 2 _
  go_wp2_with (first | (refine wload24 rfl _ rfl w.heap.size _ rfl D5.out rfl ?_) | (refine store24 rfl _ _ rfl (w.heap.size + 1) _ _ _ _ _ _ rfl rfl _ E5.out rfl ?_))
  have E6 := E5.out.setRow #[.int .i64 p.root, .int .i64 p.n, .slice (some ⟨g, 0, none⟩) p.fs.length (p.fs.length + 1), .bool p.star]
  refine bodyPost_ret (v := pV p (some ⟨g, 0, none⟩) (p.fs.length + 1)) (results_c1 Tryz.results25 _ _ (w.heap.size + 1) _ _ rfl E6 Tryz.underlying24 rfl (by kernel_rfl)) rfl ?_
  refine ⟨below_setRow (BW4.out.setCell (Nat.le_refl _) _) (by omega) _, _, _, rfl, by simp, .inr ⟨g, p.fs.length + 1, (splice X 0 (p.fs.map Value.string)).toArray, rfl, by omega, ?_, by omega, by unfold maxLen; omega, ?_, ?_⟩⟩
  · rw [setRow_other _ _ _ _ (by omega)]
    simp only [World.setCell, Array.getElem?_modify]
    rw [if_neg (by omega)]
    exact hg4.out
  · have := length_splice X 0 (p.fs.map Value.string) (by rw [List.length_map, HXL.out]; omega)
    simp only [List.size_toArray, this, HXL.out]; omega
  · simp [splice]
end Go.Proofs.YthlnhinjcffllaaGreatDoor
