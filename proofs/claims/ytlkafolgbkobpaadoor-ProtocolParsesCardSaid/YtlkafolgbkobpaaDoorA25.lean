import Derived.Test.YtlkafolgbkobpaaDoorA24
import Derived.Laws.Tables
import Derived.Laws.CopyOwn
namespace Go.Proofs.YtlkafolgbkobpaaDoor
open Go.RowKit Go.Sort

theorem Blk.setRow {W : World} {g : Nat} {cs : Array Value} {t : TypeId} (h : Blk W g cs t) (cs' : Array Value) : Blk (W.setRow g cs') g cs' t := setRow_heap W g cs cs' t (0, 0) h
theorem Blk.setRow_ne {W : World} {g g' : Nat} {cs : Array Value} {t : TypeId} (h : Blk W g cs t) (hne : g ≠ g') (cs' : Array Value) : Blk (W.setRow g' cs') g cs t := by
  unfold Blk; rw [setRow_other W g' g cs' hne]; exact h
theorem StrsAt.setRow {w : World} {a : Option Addr} {l : List ByteArray} (h : StrsAt w a l) {g : Nat} {cs : Array Value} (hne : NotB a g) : StrsAt (w.setRow g cs) a l := by
  intro k hk
  obtain ⟨b, off, rfl, h1⟩ := h k hk
  exact ⟨b, off, rfl, by rw [cell_setRow_other w g cs _ (hne b off rfl)]; exact h1⟩
theorem MvsAt.setRow {w : World} {a : Option Addr} {l : List Mv} (h : MvsAt w a l) {g : Nat} {cs : Array Value} (hne : NotB a g) : MvsAt (w.setRow g cs) a l := by
  intro k hk
  obtain ⟨b, off, rfl, h1, h2, h3⟩ := h k hk
  have e : ∀ o, (w.setRow g cs).cell? ⟨b, o, none⟩ = w.cell? ⟨b, o, none⟩ := fun o => cell_setRow_other w g cs _ (hne b off rfl)
  exact ⟨b, off, rfl, by rw [e]; exact h1, by rw [e]; exact h2, by rw [e]; exact h3⟩
def zeroC : Array Value := #[.string ⟨#[]⟩, .slice none 0 0, .int .i64 0, .int .i64 0, .slice none 0 0]
/-- what is known at the head of a round -/
structure LRel (w : World) (s : ByteArray) (o : List (List UInt8)) (y : List UInt8) (aL : Option Addr) (G : Nat) (st : PSt) (k : Nat) (a1 : Option Addr) (c1 : Nat) (a2 : Option Addr) (c2 : Nat) (wr : World) : Prop where
  inv : LInv s o y G st k a1 c1 a2 c2 wr
  hk : k ≤ o.length
  hst : (st.k = 5 ∧ 4 ≤ k) ∨ (st.k = k ∧ k < 4) ∨ (st.k = 4 ∧ 4 ≤ k)
  hb : Below w.heap.size w wr
  rb : Blk wr w.heap.size zeroC 25
  ln : StrsAt wr aL (o.map mkB)
  nl : 0 < o.length → NotB aL G
  gR : w.heap.size < G
theorem wordsB_ne (l : List UInt8) : 0 < (wordsB l).length := by
  unfold wordsB
  rw [List.length_map]
  exact List.length_pos_iff.2 (splitOn_ne 32 l)
theorem wordsB_len (l : List UInt8) : (wordsB l).length ≤ l.length + 1 := by
  unfold wordsB
  rw [List.length_map]
  exact splitOn_len 32 l

theorem load25 {W : World} {g : Nat} {cs : Array Value} (h : Blk W g cs 25) (hc : cs.size = 5) : (loadVar 25 ⟨g, 0, none⟩).run Tryd.prog W = .ok (.agg cs) W :=
  run_loadVar_row W g 25 25 cs (0, 0) _ h Tryd.underlying25 rfl (by rw [hc]; kernel_rfl)
/-- a protocol is stored whole -/
theorem store25 {ops : Array Oper} {rest : List Oper} {o : Oper} {a : Act} {w : World} {Q : Exit → Act → World → Prop} (hgd : o.guard = none) (x y : Operand) (ho : o.op = .store 25 x y)
    (g : Nat) (s : ByteArray) (a1 : Option Addr) (n1 c1 : Nat) (i j : Int) (a2 : Option Addr) (n2 c2 : Nat) (hx : a.eval x = .pointer (some ⟨g, 0, none⟩)) (hy : a.eval y = .agg #[.string s, .slice a1 n1 c1, .int .i64 i, .int .i64 j, .slice a2 n2 c2])
    (old : Array Value) (hg : Blk w g old 25) (hold : old.size = 5)
    (h : wpList Tryd.prog ops Q rest (a.put o.dst undef) (w.setRow g #[.string s, .slice a1 n1 c1, .int .i64 i, .int .i64 j, .slice a2 n2 c2])) : wpList Tryd.prog ops Q (o :: rest) a w :=
  wpList_store_row hgd 25 x y ho g _ hx hy 25 old hg (by kernel_rfl) hold (by simp [Value.oneCell']) h
theorem wload25 {ops : Array Oper} {rest : List Oper} {o : Oper} {a : Act} {w : World} {Q : Exit → Act → World → Prop} (hgd : o.guard = none) (x : Operand) (ho : o.op = .load 25 x)
    (g : Nat) (cs : Array Value) (hx : a.eval x = .pointer (some ⟨g, 0, none⟩)) (hg : Blk w g cs 25) (hc : cs.size = 5)
    (h : wpList Tryd.prog ops Q rest (a.put o.dst (.agg cs)) w) : wpList Tryd.prog ops Q (o :: rest) a w :=
  wpList_load_row hgd 25 x ho g hx 25 cs (0, 0) _ hg Tryd.underlying25 rfl (by rw [hc]; kernel_rfl) h
theorem results_c3 {P : Program} {fn : Func} {p t1 t2 : Tmp} {ty : TypeId} (h : fn.results = #[.cell p ty, .tmp t1, .tmp t2]) (tmps : Array Value) (w : World) (g : Nat) (cs : Array Value) (d : TypeDesc) (v1 v2 : Value)
    (hp : tmps.getD p undef = .pointer (some ⟨g, 0, none⟩)) (h1 : tmps.getD t1 undef = v1) (h2 : tmps.getD t2 undef = v2) (hg : Blk w g cs ty)
    (hu : P.underlying ty = some d) (hd : (match d with | .struct _ | .array _ _ => true | _ => false) = true) (hi : (P.info? ty).map (·.size) = some cs.size) :
    (results fn tmps).run P w = .ok (.tuple #[.agg cs, v1, v2]) w := by
  have hp' : tmps[p]?.getD undef = .pointer (some ⟨g, 0, none⟩) := by simpa using hp
  have h1' : tmps[t1]?.getD undef = v1 := by simpa using h1
  have h2' : tmps[t2]?.getD undef = v2 := by simpa using h2
  simp [results, h, hp', h1', h2', asAddr, run_loadVar_row w g ty ty cs (0, 0) d hg hu hd hi]
theorem head37 (k : Nat) (hk : k < 4) (p : Pr) (a1 : Option Addr) (c1 : Nat) (a2 : Option Addr) (c2 : Nat) (a : Option Addr) (cap : Nat) (ws : List ByteArray) (w : World) (h0 : 0 < ws.length) (hl : ws.length ≤ 100000) (hs : StrsAt w a1 p.sts) (hc1 : p.sts.length ≤ c1) (hpl : p.sts.length ≤ 100000) (hw : StrsAt w a ws) (hcap : ws.length ≤ cap) :
    Calls Tryd.prog 37 #[PrV p a1 c1 a2 c2, .int .i64 (k : Nat), .slice a ws.length cap] w (HeadPost w ⟨p, k⟩ ws a1 a a2 c2) := by
  match k, hk with
  | 0, _ => exact head37_0 p a1 c1 a2 c2 a cap ws w h0 hl hs hc1 hpl hw hcap
  | 1, _ => exact head37_1 p a1 c1 a2 c2 a cap ws w h0 hl hs hc1 hpl hw hcap
  | 2, _ => exact head37_2 p a1 c1 a2 c2 a cap ws w h0 hl hs hc1 hpl hw hcap
  | 3, _ => exact head37_3 p a1 c1 a2 c2 a cap ws w h0 hl hs hc1 hpl hw hcap
theorem step_lt4 {k : Nat} (hk : k < 4) {p : Pr} {ws : List ByteArray} (h : (stepLn ⟨p, k⟩ ws).1 = 0) : (stepLn ⟨p, k⟩ ws).2.k = k + 1 ∧ (stepLn ⟨p, k⟩ ws).2.p.mvs = p.mvs ∧ ((stepLn ⟨p, k⟩ ws).2.p.sts = p.sts ∨ (stepLn ⟨p, k⟩ ws).2.p.sts = ws.drop 1) := by
  unfold stepLn at h ⊢
  split at h
  · simp at h
  rename_i h0
  rw [if_neg h0]
  unfold stepK at h ⊢
  match k, hk with
  | 0, _ =>
    simp only [if_true] at h ⊢
    split at h
    · rename_i h1; rw [if_pos h1]; exact ⟨rfl, rfl, .inl rfl⟩
    · simp at h
  | 1, _ =>
    rw [if_neg (by simp), if_pos rfl] at h ⊢
    split at h
    · rename_i h1; rw [if_pos h1]; exact ⟨rfl, rfl, .inr rfl⟩
    · simp at h
  | 2, _ =>
    rw [if_neg (by simp), if_neg (by simp), if_pos rfl] at h ⊢
    split at h
    · rename_i h1; rw [if_pos h1]
      split at h
      · simp at h
      · rename_i h2; rw [if_neg h2]; exact ⟨rfl, rfl, .inl rfl⟩
    · simp at h
  | 3, _ =>
    rw [if_neg (by simp), if_neg (by simp), if_neg (by simp), if_pos rfl] at h ⊢
    split at h
    · rename_i h1; rw [if_pos h1]
      split at h
      · simp at h
      · rename_i h2; rw [if_neg h2]; exact ⟨rfl, rfl, .inl rfl⟩
    · simp at h
theorem move_ok {p : Pr} {ws : List ByteArray} (h : (moveE p ws).1 = 0) : (moveE p ws).2.sts = p.sts ∧ (moveE p ws).2.mvs.length = p.mvs.length + 1 := by
  unfold moveE at h ⊢
  split at h
  · rename_i h1; rw [if_pos h1]
    split at h
    · simp at h
    · rename_i h2; rw [if_neg h2]; simp
  · simp at h
set_option maxRecDepth 100000 in
set_option maxHeartbeats 4000000 in
theorem parse21 (s : ByteArray) (w : World) : Calls Tryd.prog 21 #[.string s] w (ParsePost s w) := by
  by_cases hbig : 65536 < s.size
  · have HP : Hid (parseT s = .bad 0 3) := by show _ = _; unfold parseT; rw [if_pos hbig]
    go_enter Tryd.func21, Tryd.ntmps21
    go_wp2
    refine bodyPost_ret (v := .tuple #[PrV st0.p none 0 none 0, .int .i64 0, .int .i64 3]) (by simp [results, Tryd.results21, go_sem, PrV, st0]) rfl ?_
    exact ⟨(Below.refl _ _).alloc (Nat.le_refl _) _, by rw [HP.out]⟩
  have HP : Hid (parseT s = goP st0 1 (splitOn 10 s.data.toList)) := by show _ = _; unfold parseT; rw [if_neg hbig]
  have hs : s.size ≤ 65536 := by omega
  go_enter Tryd.func21, Tryd.ntmps21
  go_wp2_with fail
  refine (lines35 s _ hs).mono ?_
  rintro e w1 ⟨hb1, o, y, aL, cL, hsp, rfl, hst⟩
  have RB := (blk_new w #[.string ⟨#[]⟩, .slice none 0 0, .int .i64 0, .int .i64 0, .slice none 0 0] 25).below hb1
  have HB1 := Lib.hid (((Below.refl w.heap.size w).alloc (Nat.le_refl _) (.cells #[.string ⟨#[]⟩, .slice none 0 0, .int .i64 0, .int .i64 0, .slice none 0 0] 25)).trans (hb1.mono (by simp)))
  have hol : o.length ≤ 65537 := by
    have h1 := splitOn_len 10 s.data.toList
    rw [hsp] at h1
    simp at h1; omega
  have HSP := Lib.hid hsp; clear hsp
  have HST := Lib.hid hst; clear hst
  have hw1 : w.heap.size < w1.heap.size := by have := hb1.size; simp at this; omega
  clear hb1
  go_wp2
  obtain ⟨G, hG⟩ : ∃ G, G = w1.heap.size := ⟨_, rfl⟩
  have LR0 : LRel w s o y aL G st0 0 none 0 none 0 (w1.alloc (.cells #[.string ⟨#[]⟩, .slice none 0 0, .int .i64 0, .int .i64 0, .slice none 0 0] 25)) := by
    have hal : Below w1.heap.size w1 (w1.alloc (.cells #[.string ⟨#[]⟩, .slice none 0 0, .int .i64 0, .int .i64 0, .slice none 0 0] 25)) := (Below.refl _ _).alloc (Nat.le_refl _) _
    refine ⟨⟨?_, by rw [hG]; exact blk_new .., fun k hk => absurd hk (by simp [st0]), fun k hk => absurd hk (by simp [st0]), Nat.zero_le _, Nat.zero_le _, Nat.zero_le _, fun _ => rfl, fun b off e => by simp at e, fun b off e => by simp at e⟩, Nat.zero_le _, .inr (.inl ⟨rfl, by omega⟩), HB1.out.trans (hal.mono (by omega)), RB.below hal, HST.out.below hal, ?_, by omega⟩
    · rw [HP.out, HSP.out]; rfl
    · intro ho b off e
      obtain ⟨b', off', e', hc⟩ := HST.out 0 (by simpa using ho)
      rw [e] at e'
      obtain ⟨rfl, rfl⟩ : b = b' ∧ off = off' := by simpa using e'
      have := World.block_lt_of_cell? w1 _ hc
      simp at this
      omega
  rw [← hG]
  clear RB HST HB1
  generalize w1.alloc (.cells #[.string ⟨#[]⟩, .slice none 0 0, .int .i64 0, .int .i64 0, .slice none 0 0] 25) = W0 at *
  have HLR0 := Lib.hid LR0; clear LR0
  have HG := Lib.hid hG; clear hG
  go_loopw [8, 9] (fun e i wr => ∃ st k a1 c1 a2 c2, e = .bool (decide (st.k = 5)) ∧ i = .int .i64 (k : Nat) ∧ LRel w s o y aL G st k a1 c1 a2 c2 wr) (fun _ i _ => o.length - (intOf i).toNat)
  case atStart => exact ⟨st0, 0, none, 0, none, 0, rfl, rfl, HLR0.out⟩
  case round =>
    clear HLR0
    obtain ⟨st, k, a1, c1, a2, c2, rfl, rfl, hrel⟩ := hrel
    have HREL := Lib.hid hrel
    have hk := hrel.hk
    by_cases hlt : k < o.length
    · obtain ⟨b, off, rfl, hcell⟩ := hrel.ln k (by simpa using hlt)
      simp only [List.getElem_map] at hcell
      have hlen : o[k].length ≤ 65536 := by
        have h1 := splitOn_mem_len 10 s.data.toList o[k] (by rw [HSP.out]; simp)
        simp at h1; omega
      have HST := Lib.hid (go_step (st := st) (n := k + 1) (y := y) hlt)
      obtain ⟨x, hx⟩ : ∃ x, x = o[k] := ⟨_, rfl⟩
      rw [← hx] at hcell hlen HST
      clear hx
      have hxs : (mkB x).size ≤ 65536 := by simpa [mkB, ByteArray.size] using hlen
      go_wp2_with fail
      refine (words36 (mkB x) _ hxs).mono ?_
      rintro e w2 ⟨hb2, a, cap, rfl, hws, hcap, hnew⟩
      rw [mkB_data] at hws hcap ⊢
      have h0 := wordsB_ne x
      have hwl := wordsB_len x
      generalize wordsB x = ws at *
      have HWS := Lib.hid hws; clear hws
      have hinv := hrel.inv.below hb2
      have RB := hrel.rb.below hb2
      have HB := Lib.hid (hrel.hb.trans (hb2.mono hrel.hb.size))
      have HLN := Lib.hid (hrel.ln.below hb2)
      have hgR := hrel.gR
      have HNL := Lib.hid (hrel.nl (by omega))
      have hGlt := hinv.blk.lt
      have hGwr := hrel.inv.blk.lt
      have HNEW := Lib.hid hnew; clear hnew
      have HINV := Lib.hid hinv
      have hsti := hrel.hst
      clear hrel HREL hb2
      have hG5 : Blk w2 G #[.string st.p.cls, .slice a1 st.p.sts.length c1, .int .i64 st.p.start, .int .i64 st.p.err, .slice a2 st.p.mvs.length c2] 25 := hinv.blk
      have hR5 : Blk w2 w.heap.size #[.string ⟨#[]⟩, .slice none 0 0, .int .i64 0, .int .i64 0, .slice none 0 0] 25 := RB
      have BG := Lib.hid hG5; clear hG5
      have BR := Lib.hid hR5; clear hR5
      clear RB hinv
      rcases hsti with ⟨h5, h5k⟩ | ⟨hkk, hk4⟩ | ⟨h4, h4k⟩
      · have d5 : decide (st.k = 5) = true := by simp [h5]
        rw [d5]
        have HF : Hid (parseT s = .bad (k + 1 : Nat) 2) := by
          show _ = _
          obtain ⟨p0, k0⟩ := st
          simp only at h5
          subst h5
          rw [HINV.out.hg, HST.out, if_neg (by rw [step5]; simp), step5]
        clear h5
        go_wp2_with (refine store25 rfl _ _ rfl w.heap.size _ _ _ _ _ _ _ _ _ rfl rfl _ BR.out rfl ?_)
        have BR2 := BR.out.setRow #[.string ⟨#[]⟩, .slice none 0 0, .int .i64 0, .int .i64 0, .slice none 0 0]
        refine bodyPost_ret (v := .tuple #[PrV st0.p none 0 none 0, .int .i64 (k + 1 : Nat), .int .i64 2]) (results_c3 Tryd.results21 _ _ w.heap.size _ _ _ _ rfl rfl rfl BR2 Tryd.underlying25 rfl (by kernel_rfl)) rfl ?_
        exact ⟨below_setRow HB.out (Nat.le_refl _) _, by rw [HF.out]⟩
      · obtain ⟨p, k0⟩ := st
        simp only at hkk
        subst hkk
        have d5 : decide (k0 = 5) = false := by simp; omega
        simp only [d5]
        have d4 : decide (k0 < 4) = true := by simp [hk4]
        have l1 := HINV.out.l1
        have hc1 := HINV.out.hc1
        simp only at l1 hc1
        go_wp2_with (refine wload25 rfl _ rfl G _ rfl BG.out rfl ?_)
        refine (head37 k0 hk4 p a1 c1 a2 c2 a cap ws w2 h0 (by omega) HINV.out.hs hc1 (by omega) HWS.out hcap).mono ?_
        rintro e w3 ⟨hb3, p', a1', c1', rfl, hgood⟩
        have HGD := Lib.hid hgood; clear hgood
        have HB3 := Lib.hid hb3
        have BG3 := Lib.hid (BG.out.below hb3)
        have BG4 := Lib.hid (BG3.out.setRow #[.string p'.cls, .slice a1' p'.sts.length c1', .int .i64 p'.start, .int .i64 p'.err, .slice a2 p'.mvs.length c2])
        have BR4 := Lib.hid ((BR.out.below hb3).setRow_ne (show w.heap.size ≠ G by omega) #[.string p'.cls, .slice a1' p'.sts.length c1', .int .i64 p'.start, .int .i64 p'.err, .slice a2 p'.mvs.length c2])
        have hbs := HB.out.size
        have HB4 := Lib.hid (below_setRow (HB.out.trans (hb3.mono hbs)) (Nat.le_of_lt hgR) #[.string p'.cls, .slice a1' p'.sts.length c1', .int .i64 p'.start, .int .i64 p'.err, .slice a2 p'.mvs.length c2])
        have hw3 := hb3.size
        clear hb3 hbs
        obtain ⟨er, her⟩ : ∃ er, er = (stepLn ⟨p, k0⟩ ws).1 := ⟨_, rfl⟩
        rw [← her]
        have HER := Lib.hid her; clear her
        unfold PrV
        by_cases he : er = 0
        · have he' : (er != 0) = false := by simp [he]
          have HE0 := Lib.hid he; clear he
          go_wp2_with (refine store25 rfl _ _ rfl G _ _ _ _ _ _ _ _ _ rfl rfl _ BG3.out rfl ?_)
          go_roundw
          case rel =>
            have hz : (stepLn ⟨p, k0⟩ ws).1 = 0 := by rw [← HER.out, HE0.out]
            obtain ⟨g1, g2, g3, g4⟩ := HGD.out hz
            obtain ⟨t1, t2, t3⟩ := step_lt4 hk4 hz
            have hn1 : GtB a1' G := by
              rcases g4 with rfl | ⟨bb, oo, ea, rfl⟩
              · exact HINV.out.n1
              · intro b1 o1 e1
                have := HNEW.out bb oo ea
                simp only [Option.some.injEq, Addr.mk.injEq] at e1
                omega
            have hm := HINV.out.hm
            refine ⟨(stepLn ⟨p, k0⟩ ws).2, k0 + 1, a1', c1', a2, c2, ?_, by go_num, ⟨⟨?_, ?_, ?_, ?_, ?_, ?_, ?_, HINV.out.n2, hn1, HINV.out.n3⟩, by omega, ?_, HB4.out, BR4.out, ?_, fun _ => HNL.out, hgR⟩⟩
            · rw [t1]; simp; omega
            · rw [HINV.out.hg, HST.out, if_pos hz]
            · rw [← g1]; exact BG4.out
            · rw [← g1]; exact g2.setRow (hn1.nb (Nat.le_refl _))
            · rw [t2]; exact (hm.below HB3.out).setRow (HINV.out.n3.nb (Nat.le_refl _))
            · rw [← g1]; exact g3
            · rcases t3 with t3 | t3
              · rw [t3]; exact l1
              · rw [t3]; simp; omega
            · rw [t2]; have := HINV.out.l2; simp only at this; omega
            · rw [t1]; omega
            · exact (HLN.out.below HB3.out).setRow HNL.out
          case measure => simp [intOf]; omega
        · have he' : (er != 0) = true := by simp [he]
          have HF : Hid (parseT s = .bad (k0 + 1 : Nat) er) := by
            show _ = _
            rw [HINV.out.hg, HST.out, if_neg (by rw [← HER.out]; exact he), HER.out]
          have HE0 := Lib.hid he; clear he
          go_wp2_with (first | (refine store25 rfl _ _ rfl G _ _ _ _ _ _ _ _ _ rfl rfl _ BG3.out rfl ?_) | (refine store25 rfl _ _ rfl w.heap.size _ _ _ _ _ _ _ _ _ rfl rfl _ BR4.out rfl ?_))
          have BR2 := BR4.out.setRow #[.string ⟨#[]⟩, .slice none 0 0, .int .i64 0, .int .i64 0, .slice none 0 0]
          refine bodyPost_ret (v := .tuple #[PrV st0.p none 0 none 0, .int .i64 (k0 + 1 : Nat), .int .i64 er]) (results_c3 Tryd.results21 _ _ w.heap.size _ _ _ _ rfl rfl rfl BR2 Tryd.underlying25 rfl (by kernel_rfl)) rfl ?_
          exact ⟨below_setRow HB4.out (Nat.le_refl _) _, by rw [HF.out]⟩
      · obtain ⟨p, k0⟩ := st
        simp only at h4
        subst h4
        have d5 : decide ((4 : Nat) = 5) = false := rfl
        simp only [d5]
        have d4 : decide ((k : Int) < 4) = false := by simp; omega
        have l1 := HINV.out.l1
        have l2 := HINV.out.l2
        simp only at l1 l2
        go_wp2_with fail
        refine (form38 a cap ws _ 1 _ (by omega) h0 (by omega) HWS.out).mono ?_
        rintro e w3 ⟨rfl, rfl⟩
        rw [show (ByteArray.mk #[101, 110, 100]) = nm5 from rfl]
        cases hf : formB ws nm5 1
        · obtain ⟨sm1, sm2⟩ := s4_move (p := p) hf
          have SM1 := Lib.hid sm1; clear sm1
          have SM2 := Lib.hid sm2; clear sm2
          go_wp2_with (refine wload25 rfl _ rfl G _ rfl BG.out rfl ?_)
          refine (move39 p a1 c1 a2 c2 a cap ws w2 h0 (by omega) HINV.out.hs (by omega) HINV.out.hm (by omega) HINV.out.n2 HWS.out).mono ?_
          rintro e w3 ⟨hb3, p', a2', c2', rfl, hgood⟩
          have HGD := Lib.hid hgood; clear hgood
          have HB3 := Lib.hid hb3
          have BG3 := Lib.hid (BG.out.below hb3)
          have BG4 := Lib.hid (BG3.out.setRow #[.string p'.cls, .slice a1 p'.sts.length c1, .int .i64 p'.start, .int .i64 p'.err, .slice a2' p'.mvs.length c2'])
          have BR4 := Lib.hid ((BR.out.below hb3).setRow_ne (show w.heap.size ≠ G by omega) #[.string p'.cls, .slice a1 p'.sts.length c1, .int .i64 p'.start, .int .i64 p'.err, .slice a2' p'.mvs.length c2'])
          have hbs := HB.out.size
          have HB4 := Lib.hid (below_setRow (HB.out.trans (hb3.mono hbs)) (Nat.le_of_lt hgR) #[.string p'.cls, .slice a1 p'.sts.length c1, .int .i64 p'.start, .int .i64 p'.err, .slice a2' p'.mvs.length c2'])
          have hw3 := hb3.size
          clear hb3 hbs
          obtain ⟨er, her⟩ : ∃ er, er = (moveE p ws).1 := ⟨_, rfl⟩
          rw [← her]
          have HER := Lib.hid her; clear her
          unfold PrV
          by_cases he : er = 0
          · have he' : (er != 0) = false := by simp [he]
            have HE0 := Lib.hid he; clear he
            go_wp2_with (refine store25 rfl _ _ rfl G _ _ _ _ _ _ _ _ _ rfl rfl _ BG3.out rfl ?_)
            go_roundw
            case rel =>
              have hz : (moveE p ws).1 = 0 := by rw [← HER.out, HE0.out]
              obtain ⟨g1, g2, g3, g4⟩ := HGD.out hz
              have hst := SM2.out hz
              obtain ⟨t2, t3⟩ := move_ok hz
              rw [← g1] at hst t2 t3
              have hn3 : GtB a2' G := fun b1 o1 e1 => by have := g4 b1 o1 e1; omega
              refine ⟨⟨p', 4⟩, k + 1, a1, c1, a2', c2', rfl, by go_num, ⟨⟨?_, BG4.out, ?_, g2.setRow (hn3.nb (Nat.le_refl _)), ?_, ?_, ?_, g3, HINV.out.n1, hn3⟩, by omega, .inr (.inr ⟨rfl, by omega⟩), HB4.out, BR4.out, ?_, fun _ => HNL.out, hgR⟩⟩
              · rw [HINV.out.hg, HST.out, if_pos (by rw [SM1.out]; exact hz), hst]
              · simp only [t2]; exact (HINV.out.hs.below HB3.out).setRow (HINV.out.n1.nb (Nat.le_refl _))
              · simp only [t2]; exact HINV.out.hc1
              · simp only [t2]; exact l1
              · simp only [t3]; omega
              · exact (HLN.out.below HB3.out).setRow HNL.out
            case measure => simp [intOf]; omega
          · have he' : (er != 0) = true := by simp [he]
            have HF : Hid (parseT s = .bad (k + 1 : Nat) er) := by
              show _ = _
              rw [HINV.out.hg, HST.out, if_neg (by rw [SM1.out, ← HER.out]; exact he), SM1.out, HER.out]
            have HE0 := Lib.hid he; clear he
            go_wp2_with (first | (refine store25 rfl _ _ rfl G _ _ _ _ _ _ _ _ _ rfl rfl _ BG3.out rfl ?_) | (refine store25 rfl _ _ rfl w.heap.size _ _ _ _ _ _ _ _ _ rfl rfl _ BR4.out rfl ?_))
            have BR2 := BR4.out.setRow #[.string ⟨#[]⟩, .slice none 0 0, .int .i64 0, .int .i64 0, .slice none 0 0]
            refine bodyPost_ret (v := .tuple #[PrV st0.p none 0 none 0, .int .i64 (k + 1 : Nat), .int .i64 er]) (results_c3 Tryd.results21 _ _ w.heap.size _ _ _ _ rfl rfl rfl BR2 Tryd.underlying25 rfl (by kernel_rfl)) rfl ?_
            exact ⟨below_setRow HB4.out (Nat.le_refl _) _, by rw [HF.out]⟩
        · have SE := Lib.hid (s4_end (p := p) hf)
          go_wp2
          go_roundw
          case rel =>
            have hz : (stepLn ⟨p, 4⟩ ws).1 = 0 := by rw [SE.out]
            refine ⟨⟨p, 5⟩, k + 1, a1, c1, a2, c2, rfl, by go_num, ⟨⟨?_, HINV.out.blk, HINV.out.hs, HINV.out.hm, HINV.out.hc1, l1, ?_, HINV.out.n2, HINV.out.n1, HINV.out.n3⟩, by omega, .inl ⟨rfl, by omega⟩, HB.out, BR.out, HLN.out, fun _ => HNL.out, hgR⟩⟩
            · rw [HINV.out.hg, HST.out, if_pos hz, SE.out]
            · simp only; omega
          case measure => simp [intOf]; omega
    · obtain rfl : k = o.length := by omega
      have HGE := Lib.hid (go_end (st := st) (n := o.length + 1) (y := y) (Nat.lt_irrefl o.length))
      have HG := Lib.hid hrel.inv.hg
      have hR5 : Blk wr w.heap.size #[.string ⟨#[]⟩, .slice none 0 0, .int .i64 0, .int .i64 0, .slice none 0 0] 25 := hrel.rb
      have hG5 : Blk wr G #[.string st.p.cls, .slice a1 st.p.sts.length c1, .int .i64 st.p.start, .int .i64 st.p.err, .slice a2 st.p.mvs.length c2] 25 := hrel.inv.blk
      have BG := Lib.hid hG5; clear hG5
      have BR := Lib.hid hR5; clear hR5
      have HB := Lib.hid hrel.hb
      have HINV := Lib.hid hrel.inv
      have hgR := hrel.gR
      have h5o : st.k = 5 ∨ st.k ≠ 5 := by omega
      clear hrel
      rcases h5o with h5 | h5
      · have d5 : decide (st.k = 5) = true := by simp [h5]
        simp only [d5]
        have HF : Hid (parseT s = if y ≠ [] then .bad (o.length + 1 : Nat) 2 else if checkP st.p ≠ 0 then .bad 0 (checkP st.p) else .good st.p) := by
          show _ = _
          rw [HG.out, HGE.out]; unfold finP; rw [if_neg (by simp [h5])]
        clear h5
        have hyl : (mkB y).toList = y := by rw [ByteArray.toList_eq, mkB_data]
        by_cases hy : y = []
        · have e1 : (mkB y).toList = [] := by rw [hyl, hy]
          have e2 : (mkB y).toList.isEmpty = true := by simp [e1]
          rw [if_neg (by simp [hy])] at HF
          clear hyl hy
          generalize mkB y = Y at *
          go_wp2_with (refine wload25 rfl _ rfl G _ rfl BG.out rfl ?_)
          refine (check16 st.p a1 c1 a2 c2 wr HINV.out.hs HINV.out.hm HINV.out.hc1).mono ?_
          rintro e w3 ⟨rfl, hb3⟩
          have HB3 := Lib.hid hb3
          have BG3 := Lib.hid (BG.out.below hb3)
          have BR3 := Lib.hid (BR.out.below hb3)
          have HB4 := Lib.hid (HB.out.trans (hb3.mono HB.out.size))
          clear hb3
          obtain ⟨er, her⟩ : ∃ er, er = checkP st.p := ⟨_, rfl⟩
          rw [← her] at HF ⊢
          clear her
          by_cases he : er = 0
          · rw [if_neg (by simp [he])] at HF
            have he' : (er != 0) = false := by simp [he]
            clear he
            go_wp2_with (first | (refine wload25 rfl _ rfl G _ rfl BG3.out rfl ?_) | (refine store25 rfl _ _ rfl w.heap.size _ _ _ _ _ _ _ _ _ rfl rfl _ BR3.out rfl ?_))
            have BR2 := BR3.out.setRow #[.string st.p.cls, .slice a1 st.p.sts.length c1, .int .i64 st.p.start, .int .i64 st.p.err, .slice a2 st.p.mvs.length c2]
            refine bodyPost_ret (v := .tuple #[PrV st.p a1 c1 a2 c2, .int .i64 0, .int .i64 0]) (results_c3 Tryd.results21 _ _ w.heap.size _ _ _ _ rfl rfl rfl BR2 Tryd.underlying25 rfl (by kernel_rfl)) rfl ?_
            refine ⟨below_setRow HB4.out (Nat.le_refl _) _, ?_⟩
            rw [HF.out]
            have l1 := HINV.out.l1
            have l2 := HINV.out.l2
            exact ⟨a1, c1, a2, c2, rfl, ⟨(HINV.out.hs.below HB3.out).setRow (HINV.out.n1.nb (Nat.le_of_lt hgR)), (HINV.out.hm.below HB3.out).setRow (HINV.out.n3.nb (Nat.le_of_lt hgR)), HINV.out.hc1, by omega, by omega⟩⟩
          · rw [if_pos he] at HF
            have he' : (er != 0) = true := by simp [he]
            clear he
            go_wp2_with (refine store25 rfl _ _ rfl w.heap.size _ _ _ _ _ _ _ _ _ rfl rfl _ BR3.out rfl ?_)
            have BR2 := BR3.out.setRow #[.string ⟨#[]⟩, .slice none 0 0, .int .i64 0, .int .i64 0, .slice none 0 0]
            refine bodyPost_ret (v := .tuple #[PrV st0.p none 0 none 0, .int .i64 0, .int .i64 er]) (results_c3 Tryd.results21 _ _ w.heap.size _ _ _ _ rfl rfl rfl BR2 Tryd.underlying25 rfl (by kernel_rfl)) rfl ?_
            exact ⟨below_setRow HB4.out (Nat.le_refl _) _, by rw [HF.out]⟩
        · have e1 : ¬ (mkB y).toList = [] := by rw [hyl]; exact hy
          have e2 : (mkB y).toList.isEmpty = false := by simpa using e1
          rw [if_pos hy] at HF
          clear hyl hy
          generalize mkB y = Y at *
          go_wp2_with (refine store25 rfl _ _ rfl w.heap.size _ _ _ _ _ _ _ _ _ rfl rfl _ BR.out rfl ?_)
          have BR2 := BR.out.setRow #[.string ⟨#[]⟩, .slice none 0 0, .int .i64 0, .int .i64 0, .slice none 0 0]
          refine bodyPost_ret (v := .tuple #[PrV st0.p none 0 none 0, .int .i64 (o.length + 1 : Nat), .int .i64 2]) (results_c3 Tryd.results21 _ _ w.heap.size _ _ _ _ rfl rfl rfl BR2 Tryd.underlying25 rfl (by kernel_rfl)) rfl ?_
          exact ⟨below_setRow HB.out (Nat.le_refl _) _, by rw [HF.out]⟩
      · have d5 : decide (st.k = 5) = false := by simp [h5]
        simp only [d5]
        have HF : Hid (parseT s = .bad (o.length + 1 : Nat) 21) := by
          show _ = _
          rw [HG.out, HGE.out]; unfold finP; rw [if_pos h5]
        clear h5
        go_wp2_with (refine store25 rfl _ _ rfl w.heap.size _ _ _ _ _ _ _ _ _ rfl rfl _ BR.out rfl ?_)
        have BR2 := BR.out.setRow #[.string ⟨#[]⟩, .slice none 0 0, .int .i64 0, .int .i64 0, .slice none 0 0]
        refine bodyPost_ret (v := .tuple #[PrV st0.p none 0 none 0, .int .i64 (o.length + 1 : Nat), .int .i64 21]) (results_c3 Tryd.results21 _ _ w.heap.size _ _ _ _ rfl rfl rfl BR2 Tryd.underlying25 rfl (by kernel_rfl)) rfl ?_
        exact ⟨below_setRow HB.out (Nat.le_refl _) _, by rw [HF.out]⟩
end Go.Proofs.YtlkafolgbkobpaaDoor
