import Derived.Test.YtlkafolgbkobpaaDoorA29
namespace Go.Proofs.YtlkafolgbkobpaaDoor
open Go.RowKit Go.Sort

theorem bytes_map : ∀ l : List ByteArray, (l.map (·.data.toList)).map (fun x => (⟨x.toArray⟩ : ByteArray)) = l
  | [] => rfl
  | b :: l => by
    rw [List.map_cons, List.map_cons, bytes_map l]
theorem splitB_words (x : List UInt8) : Lib.splitB ⟨#[32]⟩ 0 (Lib.countB (mkB x) ⟨#[32]⟩) (mkB x) = wordsB x := by
  rw [← bytes_map (Lib.splitB ⟨#[32]⟩ 0 (Lib.countB (mkB x) ⟨#[32]⟩) (mkB x)), Lib.splitB_data]
  unfold wordsB
  congr 1
  rw [mkB_data]
  have h1 : Lib.countB (mkB x) ⟨#[32]⟩ = Lib.count x [32] := by show Lib.count _ _ = _; rw [mkB_data]
  rw [h1]
  exact split_eq 32 x
theorem countB_words (x : List UInt8) : Lib.countB (mkB x) ⟨#[32]⟩ + 1 = (wordsB x).length := by
  rw [← splitB_words, Lib.splitB_all ⟨#[32]⟩ (by decide) 0 _ _ rfl]
theorem split34 (x : List UInt8) (m : Int) (w : World) (hs : x.length ≤ 65536) (hm : w.cell? ⟨1, 0, none⟩ = some (.int .i64 m)) :
    Calls Tryd.prog 34 #[.string (mkB x), .string ⟨#[32]⟩] w fun e w' => e = .returned (.slice (some ⟨w.heap.size, 0, none⟩) (wordsB x).length (wordsB x).length) ∧ w' = w.alloc (.cells ((wordsB x).map Value.string).toArray 9) := by
  have hz : (mkB x).size = x.length := by simp [mkB, ByteArray.size]
  have := Tryd.strings_Split (mkB x) ⟨#[32]⟩ m w (by omega) hm (by decide)
  rw [countB_words, splitB_words] at this
  exact this
theorem cut33 (x : List UInt8) (m : Int) (w : World) (hs : x.length ≤ 65536) (hm : w.cell? ⟨1, 0, none⟩ = some (.int .i64 m)) :
    Calls Tryd.prog 33 #[.string (mkB x), .string ⟨#[10]⟩] w fun e w' => e = .returned (.tuple #[.string (mkB (Lib.cut x [10]).1), .string (mkB (Lib.cut x [10]).2.1), .bool (Lib.cut x [10]).2.2]) ∧ ∃ n, w' = w.drewN n := by
  have hz : (mkB x).size = x.length := by simp [mkB, ByteArray.size]
  have := Tryd.strings_Cut (mkB x) ⟨#[10]⟩ m w (by omega) hm
  rw [mkB_data] at this
  exact this
theorem strs_new (w : World) (l : List ByteArray) (e : TypeId) : StrsAt (w.alloc (.cells (l.map Value.string).toArray e)) (some ⟨w.heap.size, 0, none⟩) l := by
  intro k hk
  refine ⟨w.heap.size, 0, rfl, ?_⟩
  rw [cell_of_row _ _ _ _ e (0, 0) (heap_alloc_new w _)]
  simp [hk]
theorem read_any (G B : Nat) (st : PSt) (a1 : Option Addr) (c1 : Nat) (a2 : Option Addr) (c2 : Nat) (a : Option Addr) (cap : Nat) (ws : List ByteArray) (w : World) (h : RInv G B st a1 c1 a2 c2 w) (h0 : 0 < ws.length) (hw : StrsAt w a ws) (hl : ws.length ≤ 65537) (hcap : ws.length ≤ cap) (hml : st.p.mvs.length ≤ 100000)
    (hbm : ∀ b off, a = some ⟨b, off, none⟩ → some b ≠ (Value.slice a2 st.p.mvs.length c2).ownBlock) :
    Calls Tryd.prog (rdF st.k) #[.pointer (some ⟨G, 0, none⟩), .slice a ws.length cap] w (ReadPost G st ws w) := by
  obtain ⟨p, k⟩ := st
  have hk := h.kk
  simp only at hk
  match k, hk with
  | 0, _ => exact class32 G p a1 c1 a2 c2 a cap ws w B h h0 hw (by omega)
  | 1, _ => exact states54 G p a1 c1 a2 c2 a cap ws w B h h0 hw hl hcap
  | 2, _ => exact start64 G p a1 c1 a2 c2 a cap ws w B h h0 hw
  | 3, _ => exact failure71 G p a1 c1 a2 c2 a cap ws w B h h0 hw
  | 4, _ => exact move79 G p a1 c1 a2 c2 a cap ws w B h h0 hw hml hbm
  | 5, _ => exact nothing83 G p a cap ws w
theorem KW.below' {w w' : World} (h : KW w) (hb : Below w.heap.size w w') : KW w' := h.below hb
theorem callF0 (args : Array Value) (u : World) : (callFunc 32 args).run Tryd.prog u = .ok (.enter 32 args) u := by kernel_rfl
theorem callF1 (args : Array Value) (u : World) : (callFunc 54 args).run Tryd.prog u = .ok (.enter 54 args) u := by kernel_rfl
theorem callF2 (args : Array Value) (u : World) : (callFunc 64 args).run Tryd.prog u = .ok (.enter 64 args) u := by kernel_rfl
theorem callF3 (args : Array Value) (u : World) : (callFunc 71 args).run Tryd.prog u = .ok (.enter 71 args) u := by kernel_rfl
theorem callF4 (args : Array Value) (u : World) : (callFunc 79 args).run Tryd.prog u = .ok (.enter 79 args) u := by kernel_rfl
theorem callF5 (args : Array Value) (u : World) : (callFunc 83 args).run Tryd.prog u = .ok (.enter 83 args) u := by kernel_rfl
theorem callF (k : Nat) (hk : k ≤ 5) (args : Array Value) (u : World) : (callFunc (rdF k) args).run Tryd.prog u = .ok (.enter (rdF k) args) u := by
  match k, hk with
  | 0, _ => exact callF0 args u
  | 1, _ => exact callF1 args u
  | 2, _ => exact callF2 args u
  | 3, _ => exact callF3 args u
  | 4, _ => exact callF4 args u
  | 5, _ => exact callF5 args u
theorem Blk.belowG {W W' : World} {g G : Nat} {cs : Array Value} {t : TypeId} (h : Blk W g cs t) (hb : Below G W W') (hg : g < G) : Blk W' g cs t := by
  unfold Blk; rw [hb.block g hg]; exact h
theorem stepK_mvs (st : PSt) (ws : List ByteArray) : (stepK st ws).2.p.mvs.length ≤ st.p.mvs.length + 1 := by
  unfold stepK
  repeat' split
  all_goals simp
def strLen : Value → Nat | .string s => s.size | _ => 0
/-- what is known at the head of a round -/
structure NRel (w : World) (s : ByteArray) (G : Nat) (B : Nat) (x : List UInt8) (st : PSt) (n : Nat) (a1 : Option Addr) (c1 : Nat) (a2 : Option Addr) (c2 : Nat) (wr : World) : Prop where
  hg : parseT s = goP st n (splitOn 10 x)
  inv : RInv G B st a1 c1 a2 c2 wr
  hn : n + x.length ≤ 65537
  h1 : 1 ≤ n
  hm : st.p.mvs.length ≤ n
  hb : Below w.heap.size w wr
  rb : Blk wr w.heap.size zeroC 25
  gR : w.heap.size < G
theorem goP_last {st : PSt} {n : Nat} {x : List UInt8} : goP st n [x] = finP st n x := rfl
theorem goP_cons {st : PSt} {n : Nat} {l x : List UInt8} : goP st n (l :: splitOn 10 x) = if (stepLn st (wordsB l)).1 = 0 then goP (stepLn st (wordsB l)).2 (n + 1) (splitOn 10 x) else .bad n (stepLn st (wordsB l)).1 := by
  cases h : splitOn 10 x with
  | nil => exact absurd h (splitOn_ne 10 x)
  | cons a r => rfl

set_option maxRecDepth 100000 in
set_option maxHeartbeats 4000000 in
theorem parse19 (s : ByteArray) (m : Int) (w : World) (hkw : KW w) (hmc : w.cell? ⟨1, 0, none⟩ = some (.int .i64 m)) : Calls Tryd.prog 19 #[.string s] w (ParsePost s w) := by
  by_cases hbig : 65536 < s.size
  · have HP : Hid (parseT s = .bad 0 3) := by show _ = _; unfold parseT; rw [if_pos hbig]
    go_enter Tryd.func19, Tryd.ntmps19
    go_wp2
    refine bodyPost_ret (v := .tuple #[PrV st0.p none 0 none 0, .int .i64 0, .int .i64 3]) (by simp [results, Tryd.results19, go_sem, PrV, st0]) rfl ?_
    exact ⟨(Below.refl _ _).alloc (Nat.le_refl _) _, by rw [HP.out]⟩
  have HP : Hid (parseT s = goP st0 1 (splitOn 10 s.data.toList)) := by show _ = _; unfold parseT; rw [if_neg hbig]
  have hs : s.size ≤ 65536 := by omega
  have HKW := Lib.hid hkw; clear hkw
  have HMC := Lib.hid hmc; clear hmc
  go_enter Tryd.func19, Tryd.ntmps19
  go_wp2
  obtain ⟨W0, hW0⟩ : ∃ W0, W0 = (w.alloc (.cells #[.string ⟨#[]⟩, .slice none 0 0, .int .i64 0, .int .i64 0, .slice none 0 0] 25)).alloc (.cells #[.string ⟨#[]⟩, .slice none 0 0, .int .i64 0, .int .i64 0, .slice none 0 0, .bool false, .func (.func 32) #[.pointer (some ⟨w.heap.size + 1, 0, none⟩)] #[]] 55) := ⟨_, rfl⟩
  have LR0 : NRel w s (w.heap.size + 1) (w.heap.size + 2) s.data.toList st0 1 none 0 none 0 W0 := by
    subst hW0
    refine ⟨HP.out, ⟨?_, fun k hk => absurd hk (by simp [st0]), Nat.zero_le _, Nat.zero_le _, World.ownsRow_nil _ _ _ _, fun b off e => by simp at e, fun b off e => by simp at e, Nat.zero_le _, fun _ => ⟨rfl, rfl, rfl⟩, by omega, by simp⟩, by simp; omega, Nat.le_refl _, Nat.zero_le _, two_below .., ?_, by omega⟩
    · have := blk_new (w.alloc (.cells #[.string ⟨#[]⟩, .slice none 0 0, .int .i64 0, .int .i64 0, .slice none 0 0] 25)) #[.string ⟨#[]⟩, .slice none 0 0, .int .i64 0, .int .i64 0, .slice none 0 0, .bool false, .func (.func 32) #[.pointer (some ⟨w.heap.size + 1, 0, none⟩)] #[]] 55
      have e : (w.alloc (.cells #[.string ⟨#[]⟩, .slice none 0 0, .int .i64 0, .int .i64 0, .slice none 0 0] 25)).heap.size = w.heap.size + 1 := by simp
      rw [e] at this
      exact this
    · exact (blk_new w _ 25).below ((Below.refl _ _).alloc (Nat.le_refl _) _)
  rw [← hW0]
  clear hW0
  have HLR0 := Lib.hid LR0; clear LR0
  have HSM : Hid (mkB s.data.toList = s) := WideShapes.bytes_inj (mkB_data _)
  generalize w.heap.size + 1 = G at *
  go_loopw [0, 6] (fun v i wr => ∃ x st n B a1 c1 a2 c2, v = .string (mkB x) ∧ i = .int .i64 (n : Nat) ∧ NRel w s G B x st n a1 c1 a2 c2 wr) (fun v _ _ => strLen v)
  case atStart => exact ⟨s.data.toList, st0, 1, _, none, 0, none, 0, by rw [HSM.out], rfl, HLR0.out⟩
  case round =>
    clear HLR0
    obtain ⟨x, st, n, B, a1, c1, a2, c2, rfl, rfl, hrel⟩ := hrel
    have hnl := hrel.hn
    have h1n := hrel.h1
    have h1w : 1 < w.heap.size := World.block_lt_of_cell? w _ HMC.out
    have hmc := hrel.hb.cell (p := ⟨1, 0, none⟩) h1w
    rw [HMC.out] at hmc
    go_wp2_with fail
    refine (cut33 x m wr (by omega) hmc).mono ?_
    clear hmc
    rintro e w2 ⟨rfl, nd, rfl⟩
    have hb2 : Below wr.heap.size wr (wr.drewN nd) := below_drewN' (Below.refl _ _) nd
    have hinv := hrel.inv.below hb2
    have hR5 : Blk (wr.drewN nd) w.heap.size #[.string ⟨#[]⟩, .slice none 0 0, .int .i64 0, .int .i64 0, .slice none 0 0] 25 := hrel.rb.below hb2
    have BR := Lib.hid hR5; clear hR5
    have HB := Lib.hid (hrel.hb.trans (hb2.mono hrel.hb.size))
    have HG := Lib.hid hrel.hg
    have hgR := hrel.gR
    have hmv := hrel.hm
    clear hb2 hrel
    generalize wr.drewN nd = w2 at *
    have HINV := Lib.hid hinv
    have hGlt := hinv.blk.lt
    rcases cut_eq 10 x with ⟨hc, hs1⟩ | ⟨l, r, hc, hs1, hlen⟩
    · rw [hc]
      rw [hs1, goP_last] at HG
      clear hc hs1
      have q5 : w2.cell? ⟨G, 5, none⟩ = some (.bool (decide (st.k = 5))) := hinv.blk.cell 5 (by simp [rdC])
      have h5o : st.k = 5 ∨ st.k ≠ 5 := by omega
      clear hinv
      rcases h5o with h5 | h5
      · have d5 : decide (st.k = 5) = true := by simp [h5]
        rw [d5] at q5
        have HF : Hid (parseT s = if x ≠ [] then .bad n 2 else if checkP st.p ≠ 0 then .bad 0 (checkP st.p) else .good st.p) := by
          show _ = _
          rw [HG.out]; unfold finP; rw [if_neg (by simp [h5])]
        clear h5 d5
        have hyl : (mkB x).toList = x := by rw [ByteArray.toList_eq, mkB_data]
        by_cases hy : x = []
        · have e1 : (mkB x).toList = [] := by rw [hyl, hy]
          have e2 : (mkB x).toList.isEmpty = true := by simp [e1]
          rw [if_neg (by simp [hy])] at HF
          clear hyl hy
          generalize mkB x = Y at *
          have q0 : w2.cell? ⟨G, 0, none⟩ = some (.string st.p.cls) := HINV.out.blk.cell 0 (by simp [rdC])
          have q1 : w2.cell? ⟨G, 1, none⟩ = some (.slice a1 st.p.sts.length c1) := HINV.out.blk.cell 1 (by simp [rdC])
          have q2 : w2.cell? ⟨G, 2, none⟩ = some (.int .i64 st.p.start) := HINV.out.blk.cell 2 (by simp [rdC])
          have q3 : w2.cell? ⟨G, 3, none⟩ = some (.int .i64 st.p.err) := HINV.out.blk.cell 3 (by simp [rdC])
          have q4 : w2.cell? ⟨G, 4, none⟩ = some (.slice a2 st.p.mvs.length c2) := HINV.out.blk.cell 4 (by simp [rdC])
          obtain ⟨ho, _, _, hv, hmvs⟩ := owns_mvs HINV.out.own
          obtain ⟨rfl, _, rfl⟩ := Value.slice.inj hv
          have HMV := Lib.hid hmvs; clear hmvs hv ho
          have HKW2 := Lib.hid (HKW.out.below' HB.out)
          go_wp2_with fail
          refine (check15 st.p a1 c1 a2 c2 w2 HKW2.out HINV.out.hs HMV.out HINV.out.hc1).mono ?_
          rintro e w3 ⟨rfl, hb3⟩
          have HB3 := Lib.hid hb3
          have BR3 := Lib.hid (BR.out.below hb3)
          have HB4 := Lib.hid (HB.out.trans (hb3.mono HB.out.size))
          have z0 := cell_below hb3 q0
          have z1 := cell_below hb3 q1
          have z2 := cell_below hb3 q2
          have z3 := cell_below hb3 q3
          have z4 := cell_below hb3 q4
          clear hb3 q0 q1 q2 q3 q4 q5
          obtain ⟨er, her⟩ : ∃ er, er = checkP st.p := ⟨_, rfl⟩
          rw [← her] at HF ⊢
          clear her
          by_cases he : er = 0
          · rw [if_neg (by simp [he])] at HF
            have he' : (er != 0) = false := by simp [he]
            clear he
            go_wp2_with (refine store25 rfl _ _ rfl w.heap.size _ _ _ _ _ _ _ _ _ rfl rfl _ BR3.out rfl ?_)
            have BR2 := BR3.out.setRow #[.string st.p.cls, .slice a1 st.p.sts.length c1, .int .i64 st.p.start, .int .i64 st.p.err, .slice a2 st.p.mvs.length c2]
            refine bodyPost_ret (v := .tuple #[PrV st.p a1 c1 a2 c2, .int .i64 0, .int .i64 0]) (results_c3 Tryd.results19 _ _ w.heap.size _ _ _ _ rfl rfl rfl BR2 Tryd.underlying25 rfl (by kernel_rfl)) rfl ?_
            refine ⟨below_setRow HB4.out (Nat.le_refl _) _, ?_⟩
            rw [HF.out]
            have l1 := HINV.out.l1
            exact ⟨a1, c1, a2, c2, rfl, ⟨(HINV.out.hs.below HB3.out).setRow (HINV.out.n1.nb (Nat.le_of_lt hgR)), (HMV.out.below HB3.out).setRow (fun b off e => by have h1 := (HINV.out.own.lt b (by rw [e]; rfl)).1; have h2 := HINV.out.gB; omega), HINV.out.hc1, by omega, by omega⟩⟩
          · rw [if_pos he] at HF
            have he' : (er != 0) = true := by simp [he]
            clear he
            go_wp2_with (refine store25 rfl _ _ rfl w.heap.size _ _ _ _ _ _ _ _ _ rfl rfl _ BR3.out rfl ?_)
            have BR2 := BR3.out.setRow #[.string ⟨#[]⟩, .slice none 0 0, .int .i64 0, .int .i64 0, .slice none 0 0]
            refine bodyPost_ret (v := .tuple #[PrV st0.p none 0 none 0, .int .i64 0, .int .i64 er]) (results_c3 Tryd.results19 _ _ w.heap.size _ _ _ _ rfl rfl rfl BR2 Tryd.underlying25 rfl (by kernel_rfl)) rfl ?_
            exact ⟨below_setRow HB4.out (Nat.le_refl _) _, by rw [HF.out]⟩
        · have e1 : ¬ (mkB x).toList = [] := by rw [hyl]; exact hy
          have e2 : (mkB x).toList.isEmpty = false := by simpa using e1
          rw [if_pos hy] at HF
          clear hyl hy
          generalize mkB x = Y at *
          go_wp2_with (refine store25 rfl _ _ rfl w.heap.size _ _ _ _ _ _ _ _ _ rfl rfl _ BR.out rfl ?_)
          have BR2 := BR.out.setRow #[.string ⟨#[]⟩, .slice none 0 0, .int .i64 0, .int .i64 0, .slice none 0 0]
          refine bodyPost_ret (v := .tuple #[PrV st0.p none 0 none 0, .int .i64 n, .int .i64 2]) (results_c3 Tryd.results19 _ _ w.heap.size _ _ _ _ rfl rfl rfl BR2 Tryd.underlying25 rfl (by kernel_rfl)) rfl ?_
          exact ⟨below_setRow HB.out (Nat.le_refl _) _, by rw [HF.out]⟩
      · have d5 : decide (st.k = 5) = false := by simp [h5]
        rw [d5] at q5
        have HF : Hid (parseT s = .bad n 21) := by
          show _ = _
          rw [HG.out]; unfold finP; rw [if_pos h5]
        clear h5 d5
        go_wp2_with (refine store25 rfl _ _ rfl w.heap.size _ _ _ _ _ _ _ _ _ rfl rfl _ BR.out rfl ?_)
        have BR2 := BR.out.setRow #[.string ⟨#[]⟩, .slice none 0 0, .int .i64 0, .int .i64 0, .slice none 0 0]
        refine bodyPost_ret (v := .tuple #[PrV st0.p none 0 none 0, .int .i64 n, .int .i64 21]) (results_c3 Tryd.results19 _ _ w.heap.size _ _ _ _ rfl rfl rfl BR2 Tryd.underlying25 rfl (by kernel_rfl)) rfl ?_
        exact ⟨below_setRow HB.out (Nat.le_refl _) _, by rw [HF.out]⟩
    · rw [hc]
      rw [hs1, goP_cons] at HG
      clear hc hs1 hinv
      have hmc := HB.out.cell (p := ⟨1, 0, none⟩) h1w
      rw [HMC.out] at hmc
      go_wp2_with fail
      refine (split34 l m w2 (by omega) hmc).mono ?_
      clear hmc
      rintro e w3 ⟨rfl, hw3⟩
      have h0 := wordsB_ne l
      have hwl := wordsB_len l
      generalize wordsB l = ws at *
      have hb3 : Below w2.heap.size w2 w3 := by rw [hw3]; exact (Below.refl _ _).alloc (Nat.le_refl _) _
      have HWS : Hid (StrsAt w3 (some ⟨w2.heap.size, 0, none⟩) ws) := by rw [hw3]; exact strs_new w2 ws 9
      clear hw3
      have BR3 := Lib.hid (BR.out.below hb3)
      have HB3 := Lib.hid (HB.out.trans (hb3.mono HB.out.size))
      have hinv := HINV.out.below hb3
      have HINV3 := Lib.hid hinv
      have HBM : Hid (∀ b off, some (⟨w2.heap.size, 0, none⟩ : Addr) = some ⟨b, off, none⟩ → some b ≠ (Value.slice a2 st.p.mvs.length c2).ownBlock) := by
        intro b off e hh
        have h1 := (HINV.out.own.lt b hh.symm).2
        simp only [Option.some.injEq, Addr.mk.injEq] at e
        omega
      have q6 : w3.cell? ⟨G, 6, none⟩ = some (.func (.func (rdF st.k)) #[.pointer (some ⟨G, 0, none⟩)] #[]) := hinv.blk.cell 6 (by simp [rdC])
      clear hinv
      have hw2s := hb3.size
      clear hb3
      generalize w2.heap.size = hb at *
      by_cases he0 : 0 ≤ idx ws ⟨#[]⟩
      · have HF : Hid (parseT s = .bad n 2) := by
          show _ = _
          rw [HG.out]
          have : (stepLn st ws).1 = 2 := by unfold stepLn; rw [if_pos he0]
          rw [this, if_neg (by simp)]
        have d0 : decide (0 ≤ idx ws ⟨#[]⟩) = true := by simp [he0]
        go_wp2_with fail
        refine (contains26 _ _ ws _ _ (by omega) HWS.out).mono ?_
        rintro e w4 ⟨rfl, rfl⟩
        rw [d0]
        clear he0 d0
        go_wp2_with (refine store25 rfl _ _ rfl w.heap.size _ _ _ _ _ _ _ _ _ rfl rfl _ BR3.out rfl ?_)
        have BR2 := BR3.out.setRow #[.string ⟨#[]⟩, .slice none 0 0, .int .i64 0, .int .i64 0, .slice none 0 0]
        refine bodyPost_ret (v := .tuple #[PrV st0.p none 0 none 0, .int .i64 n, .int .i64 2]) (results_c3 Tryd.results19 _ _ w.heap.size _ _ _ _ rfl rfl rfl BR2 Tryd.underlying25 rfl (by kernel_rfl)) rfl ?_
        exact ⟨below_setRow HB3.out (Nat.le_refl _) _, by rw [HF.out]⟩
      · have hsl : stepLn st ws = stepK st ws := by unfold stepLn; rw [if_neg he0]
        rw [hsl] at HG
        clear hsl
        have d0 : decide (0 ≤ idx ws ⟨#[]⟩) = false := by simpa using he0
        go_wp2_with fail
        refine (contains26 _ _ ws _ _ (by omega) HWS.out).mono ?_
        rintro e w4 ⟨rfl, rfl⟩
        rw [d0]
        clear he0 d0
        have hcf : ∀ (args : Array Value) (u : World), (callFunc (rdF st.k) args).run Tryd.prog u = .ok (.enter (rdF st.k) args) u := callF st.k HINV3.out.kk
        go_wp2_with fail
        refine (read_any G B st a1 c1 a2 c2 _ _ ws w3 HINV3.out h0 HWS.out (by omega) (Nat.le_refl _) (by omega) HBM.out).mono ?_
        rintro e w4 ⟨rfl, hb4, hgood⟩
        clear hcf q6
        have BR4 := Lib.hid (BR3.out.belowG hb4 hgR)
        have HB4 := Lib.hid (HB3.out.trans (hb4.mono (Nat.le_of_lt hgR)))
        have HGD := Lib.hid hgood; clear hgood hb4
        obtain ⟨er, her⟩ : ∃ er, er = (stepK st ws).1 := ⟨_, rfl⟩
        rw [← her] at HG ⊢
        have HER := Lib.hid her; clear her
        by_cases he : er = 0
        · have he' : (er != 0) = false := by simp [he]
          have HE0 := Lib.hid he; clear he
          go_wp2
          go_roundw
          case rel =>
            have hz : (stepK st ws).1 = 0 := by rw [← HER.out, HE0.out]
            obtain ⟨B', a1', c1', a2', c2', hr⟩ := HGD.out hz
            refine ⟨r, (stepK st ws).2, n + 1, B', a1', c1', a2', c2', rfl, by go_num, ⟨?_, hr, by omega, by omega, ?_, HB4.out, BR4.out, hgR⟩⟩
            · rw [HG.out, if_pos HE0.out]
            · have := stepK_mvs st ws
              omega
          case measure =>
            simp only [strLen]
            have h1 : (mkB x).size = x.length := by simp [mkB, ByteArray.size]
            have h2 : (mkB r).size = r.length := by simp [mkB, ByteArray.size]
            show (mkB r).size < (mkB x).size
            omega
        · have he' : (er != 0) = true := by simp [he]
          have HF : Hid (parseT s = .bad n er) := by
            show _ = _
            rw [HG.out, if_neg he]
          clear he
          go_wp2_with (refine store25 rfl _ _ rfl w.heap.size _ _ _ _ _ _ _ _ _ rfl rfl _ BR4.out rfl ?_)
          have BR2 := BR4.out.setRow #[.string ⟨#[]⟩, .slice none 0 0, .int .i64 0, .int .i64 0, .slice none 0 0]
          refine bodyPost_ret (v := .tuple #[PrV st0.p none 0 none 0, .int .i64 n, .int .i64 er]) (results_c3 Tryd.results19 _ _ w.heap.size _ _ _ _ rfl rfl rfl BR2 Tryd.underlying25 rfl (by kernel_rfl)) rfl ?_
          exact ⟨below_setRow HB4.out (Nat.le_refl _) _, by rw [HF.out]⟩
end Go.Proofs.YtlkafolgbkobpaaDoor
