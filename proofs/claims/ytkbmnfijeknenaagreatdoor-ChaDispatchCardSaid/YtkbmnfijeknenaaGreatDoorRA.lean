/-
  Plain: sites, instances, receivers.
  The program's hierarchies: Lookup; a list of strings cloned.
  interp.Dispatch.
-/
import Derived.Test.YtkbmnfijeknenaaGreatDoorHA
import Derived.Test.YtkbmnfijeknenaaGreatDoorUA
import Derived.Test.YtkbmnfijeknenaaGreatDoorTD
import Derived.Test.YtkbmnfijeknenaaGreatDoorGA
import Derived.Test.YtkbmnfijeknenaaGreatDoorWF
namespace Go.Proofs.YtkbmnfijeknenaaGreatDoor
open Go.RowKit Go.Unit0 Go.AM

structure Sit where
 f:Int
 i:Int
 c:Str
def sitI (f i:Nat) (c:Ins):List Sit:=if c.op=6 then [⟨f,i,c.cls⟩] else []
def sitF (f:Nat) (code:List Ins) (n:Nat):List Sit:=(List.range n).flatMap (fun i=>code[i]?.elim [] (sitI f i))
def sitU (fs:List Fnc) (m:Nat):List Sit:=(List.range m).flatMap (fun f=>fs[f]?.elim [] (fun x=>sitF f x.code x.code.length))
theorem sitF_succ {f:Nat} {code:List Ins} {n:Nat} (hn:n < code.length):sitF f code (n + 1)=sitF f code n ++ sitI f n code[n]:=by
 unfold sitF;rw [List.range_succ,List.flatMap_append];simp [hn]
theorem sitU_succ {fs:List Fnc} {m:Nat} (hm:m < fs.length):sitU fs (m + 1)=sitU fs m ++ sitF m fs[m].code fs[m].code.length:=by
 unfold sitU;rw [List.range_succ,List.flatMap_append];simp [hm]
theorem sitI_len (f i:Nat) (c:Ins):(sitI f i c).length≤1:=by unfold sitI;split <;> simp
theorem sitF_len {f:Nat} {code:List Ins}:∀ {n:Nat},n≤code.length→(sitF f code n).length≤n
 | 0,_=>by simp [sitF]
 | n + 1,hn=>by
   rw [sitF_succ (by omega),List.length_append]
   have:=sitF_len (f:=f) (code:=code) (n:=n) (by omega)
   have:=sitI_len f n code[n]
   omega
theorem sitU_len {fs:List Fnc}:∀ {m:Nat},m≤fs.length→(sitU fs m).length≤sumC (fs.take m)
 | 0,_=>by simp [sitU]
 | m + 1,hm=>by
   rw [sitU_succ (by omega),List.length_append,sumC_snoc (by omega)]
   have:=sitU_len (fs:=fs) (m:=m) (by omega)
   have:=sitF_len (f:=m) (code:=fs[m].code) (n:=fs[m].code.length) (Nat.le_refl _)
   omega
def sitL (u:Unt):List Sit:=sitU u.fs u.fs.length
def insB (h:List Cls) (sites:List Sit) (c:Str) (i:Nat):Bool:=sites[i]?.elim false (fun s=>subP h s.c c)
def instL (h:List Cls) (sites:List Sit) (c:Str):List Int:=idxL sites.length (insB h sites c)
theorem instL_mem {h:List Cls} {sites:List Sit} {c:Str} {x:Int}:x ∈ instL h sites c ↔ ∃ (i:Nat) (hi:i < sites.length),x=(i:Int)∧subP h sites[i].c c=true:=by
 unfold instL
 rw [idxL_mem]
 constructor
 ·rintro ⟨i,hi,hp,rfl⟩
  refine ⟨i,hi,rfl,?_⟩
  unfold insB at hp
  rw [List.getElem?_eq_getElem hi] at hp
  exact hp
 ·rintro ⟨i,hi,rfl,hp⟩
  refine ⟨i,hi,?_,rfl⟩
  unfold insB
  rw [List.getElem?_eq_getElem hi]
  exact hp
def fndB (h:List Cls) (fs:List Fnc) (c m:Str) (g:Int):Bool:=match lookP h c m with
 | some (x,_)=>fnI fs x m == g
 | none=>false
def dspP (h:List Cls) (fs:List Fnc) (c m:Str):Int:=match lookP h c m with
 | some (x,s)=>if s.stat=true then -1 else fnI fs x m
 | none=>-1
def stcB (h:List Cls) (c m:Str):Bool:=match lookP h c m with
 | some (_,s)=>s.stat
 | none=>false
theorem fnd_dsp {h:List Cls} {fs:List Fnc} {c m:Str} (hs:stcB h c m=false) (f:Nat):fndB h fs c m (f:Int)=decide ((f:Int)=dspP h fs c m):=by
 unfold fndB dspP
 unfold stcB at hs
 cases e:lookP h c m with
 | none=>
   simp only
   symm
   rw [decide_eq_false_iff_not]
   omega
 | some q =>
   obtain ⟨x,s⟩:=q
   rw [e] at hs
   simp only at hs ⊢
   have e:(if s.stat=true then (-1:Int) else fnI fs x m)=fnI fs x m:=if_neg (by simp [hs])
   rw [Bool.eq_iff_iff,beq_iff_eq,decide_eq_true_iff,e]
   exact ⟨fun h=>h.symm,fun h=>h.symm⟩
def rcvL (h:List Cls) (fs:List Fnc) (sites:List Sit) (c m:Str) (g:Int):List Int:=if g < 0 then [] else (instL h sites c).filter (fun x=>sites[x.toNat]?.elim false (fun s=>fndB h fs s.c m g))
theorem rcvL_mem {h:List Cls} {fs:List Fnc} {sites:List Sit} {c m:Str} {g:Nat} {i:Nat} (hi:i < sites.length) (hin:(i:Int) ∈ instL h sites c):(i:Int) ∈ rcvL h fs sites c m (g:Int) ↔ fndB h fs sites[i].c m (g:Int)=true:=by
 unfold rcvL
 rw [if_neg (by omega),List.mem_filter]
 simp [hi,hin]
end Go.Proofs.YtkbmnfijeknenaaGreatDoor
namespace Go.Proofs.YtkbmnfijeknenaaGreatDoor
open Go.RowKit Go.Unit0 Go.AM

theorem cloneStr (l:List Str) (a:Option Addr) (c:Nat) (w:World) (hs:StrsAt w a l) (hl:l.length≤1000000):Calls Tryz.prog 87 #[.slice a l.length c] w (StrsPost l w):=by
 by_cases h0:0 < l.length
 ·obtain ⟨b,off,rfl,_⟩:=hs 0 h0
  refine (Tryz.slices_Clone_string b off l.length c l w (Nat.le_refl _) (by omega) (fun j hj=>?_)).mono ?_
  ·obtain ⟨b',off',he,hc⟩:=hs j hj
   cases he
   rw [hc,List.getD_eq_getElem?_getD,List.getElem?_eq_getElem hj];rfl
  ·rintro e w' ⟨v,rfl,own,_,hb⟩
   rw [List.take_length] at own
   obtain ⟨-,a',c',rfl,-,-⟩:=owns_strs own
   exact ⟨hb,a',c',rfl,own⟩
 ·have hl0:l = []:=List.eq_nil_of_length_eq_zero (by omega)
  subst hl0
  cases a with
  | none =>
    refine (Tryz.slices_Clone_string_nil 0 c w).mono ?_
    rintro e w' ⟨rfl,rfl⟩
    exact ⟨Below.refl _ _,none,0,rfl,World.ownsRow_nil _ _ _ _⟩
  | some ad =>
    refine (Tryz.slices_Clone_string_zero ad c w).mono ?_
    rintro e w' ⟨v,rfl,own,_,hb⟩
    obtain ⟨-,a',c',rfl,-,-⟩:=owns_strs (l:=[]) own
    exact ⟨hb,a',c',rfl,own⟩
theorem below_same {W o:World} {g:Nat} {cs:Array Value} {t:TypeId} (hb:Below W.heap.size W o) (h:Blk W g cs t):Below W.heap.size W (o.setRow g cs):=by
 refine ⟨hb.os,hb.tape,hb.output,?_,fun k hk=>?_⟩
 ·simpa [World.setRow] using hb.size
 ·by_cases e:k=g
  ·subst e
   rw [setRow_heap o k cs cs t (0,0) (h.below hb)]
   exact h.symm
  ·rw [setRow_other o g k cs e]
   exact hb.block k hk
theorem blk_apart {w:World} {g1 g2:Nat} {c1 c2:Array Value} {t1 t2:TypeId} (h1:Blk w g1 c1 t1) (h2:Blk w g2 c2 t2) (hne:t1 ≠ t2):some g1 ≠ some g2:=by
 intro e
 cases e
 unfold Blk at h1 h2
 rw [h1] at h2
 simp only [Option.some.injEq,Obj.cells.injEq] at h2
 exact hne h2.2.1
structure LQ (h:List Cls) (a:Option Addr) (c g tb:Nat) (cs:Array Value) (w wr:World):Prop where
 hb:Below w.heap.size w wr
 bt:Blk wr tb #[.slice a h.length c,.map (some g)] 129
 rs:Blk wr (w.heap.size + 1) cs 79
 hc:ClssAt wr a h
 tg:TabAt wr g h
 sz:w.heap.size + 1 < wr.heap.size
theorem LQ.below {h:List Cls} {a:Option Addr} {c g tb:Nat} {cs:Array Value} {w wr w':World} (k:LQ h a c g tb cs w wr) (hb:Below wr.heap.size wr w'):LQ h a c g tb cs w w' :=
 ⟨k.hb.trans (hb.mono k.hb.size),k.bt.below hb,k.rs.below hb,k.hc.below hb,k.tg.below hb,Nat.lt_of_lt_of_le k.sz hb.size⟩
def LookQ (r:Option (Str × Sgn)) (w:World) (e:Ending) (w':World):Prop:=Below w.heap.size w w' ∧
 ((r=none∧e = .returned (.tuple #[.string ⟨#[]⟩,.agg #[.string ⟨#[]⟩,.bool false,.slice none 0 0,.string ⟨#[]⟩],.bool false])) ∨
  ∃ x g pa pc,r=some (x,g)∧e = .returned (.tuple #[.string x,.agg #[.string g.name,.bool g.stat,.slice pa g.params.length pc,.string g.result],.bool true])∧StrsAt w' pa g.params)
set_option maxRecDepth 100000 in
set_option maxHeartbeats 8000000 in
theorem lookupP (h:List Cls) (s t:Str) (a:Option Addr) (c:Nat) (w:World) (hc:ClssAt w a h) (hl:h.length≤100000) (hm:∀ x ∈ h,x.methods.length≤100000) (hp:∀ x ∈ h,∀ y ∈ x.methods,y.params.length≤100000) :
 Calls Tryz.prog 43 #[.agg #[.slice a h.length c],.string s,.string t] w (LookQ (lookP h s t) w):=by
 have HB:=Lib.hid (two_below w (.cells #[.slice a h.length c] 24) (.cells #[.string ⟨#[]⟩,.bool false,.slice none 0 0,.string ⟨#[]⟩] 79))
 have HX:Hid (Blk ((w.alloc (.cells #[.slice a h.length c] 24)).alloc (.cells #[.string ⟨#[]⟩,.bool false,.slice none 0 0,.string ⟨#[]⟩] 79)) w.heap.size #[.slice a h.length c] 24):=(blk_new ..).below (one_below ..)
 have RS:Hid (Blk ((w.alloc (.cells #[.slice a h.length c] 24)).alloc (.cells #[.string ⟨#[]⟩,.bool false,.slice none 0 0,.string ⟨#[]⟩] 79)) (w.heap.size + 1) #[.string ⟨#[]⟩,.bool false,.slice none 0 0,.string ⟨#[]⟩] 79):=blk_new2 ..
 have HC0:=Lib.hid hc
 have HM:=Lib.hid hm
 have HPA:=Lib.hid hp
 have HT:Hid (∀ w1,ClssAt w1 a h→Calls Tryz.prog 66 #[.agg #[.slice a h.length c]] w1 (TabPost h a c w1)):=fun w1 h1=>tableOf h a c w1 h1 hl
 have HF:Hid (∀ g w1,TabAt w1 g h→Calls Tryz.prog 86 #[.agg #[.slice a h.length c,.map (some g)],.string s] w1 (Ret w1 (.int .i64 (findI h s)))):=fun g w1 h1=>tfind h s a c g w1 h1
 have HLK:Hid (∀ g w1,ClssAt w1 a h→TabAt w1 g h→Calls Tryz.prog 85 #[.agg #[.slice a h.length c,.map (some g)],.int .i64 (findI h s),.string t] w1 (Ret w1 (.tuple #[.int .i64 (lkP h (findI h s) t).1,.int .i64 (lkP h (findI h s) t).2]))):=fun g w1 h1 h2=>tlookup h t a c g _ (findI_in h s) w1 h1 hl hm h2
 have HR:=Lib.hid (lkP_find h s t)
 have HRS:=Tryz.results43
 clear hc hm hp
 generalize lookP h s t=R at *
 generalize lkP h (findI h s) t=p at *
 generalize findI h s=i0 at *
 obtain ⟨p1,p2⟩:=p
 simp only at HLK
 go_enter Tryz.func43,Tryz.ntmps43
 go_upto_region 1 with (fail)
 generalize (w.alloc _).alloc _=W at *
 have x0:=HX.out.cell 0 (by simp)
 go_upto_region 2 with (go_at_call 66;refine (HT.out _ (HC0.out.below HB.out)).mono ?_;rintro e w1 ⟨hb1,g,rfl,tg,hgg⟩)
 have hws:=HB.out.size
 have hb1':Below w.heap.size w w1:=HB.out.trans (hb1.mono hws)
 have hb2:=hb1'.trans ((one_below w1 (.cells #[.slice a h.length c,.map (some g)] 129)).mono hb1'.size)
 have hob:=one_below w1 (.cells #[.slice a h.length c,.map (some g)] 129)
 have S2:Hid (LQ h a c g w1.heap.size #[.string ⟨#[]⟩,.bool false,.slice none 0 0,.string ⟨#[]⟩] w (w1.alloc (.cells #[.slice a h.length c,.map (some g)] 129))) :=
  ⟨hb2,blk_new ..,(RS.out.below hb1).below hob,HC0.out.below hb2,tg.below hob,((RS.out.below hb1).below hob).lt⟩
 clear hb1 hb1' hb2 hob tg HX x0 RS HB hws HT
 replace HF:=Lib.hid (HF.out g)
 replace HLK:=Lib.hid (HLK.out g)
 generalize w1.heap.size=tb at *
 generalize w1.alloc _=W2 at *
 have k0:∀ o:WB W2,o.u.cell? ⟨tb,0,none⟩=some (.slice a h.length c):=fun o=>(S2.out.below o.h).bt.cell 0 (by simp)
 have k1:∀ o:WB W2,o.u.cell? ⟨tb,1,none⟩=some (.map (some g)):=fun o=>(S2.out.below o.h).bt.cell 1 (by simp)
 have hne:Nonempty (WB W2):=⟨⟨W2,Below.refl _ _⟩⟩
 refine wp_region_WB W2 (by kernel_rfl) ?_
 repeat (go_big_quiet_step ((first | (go_at_call 86;rename_i o;exact (HF.out _ (S2.out.below o.h).tg).mono (fun _ _ h=>Ret.inB h)) | (go_at_call 85;rename_i o;exact (HLK.out _ (S2.out.below o.h).hc (S2.out.below o.h).tg).mono (fun _ _ h=>Ret.inB h)))))
 refine wpQuiet_nil ?_
 intro _ hw'
 obtain ⟨o,rfl⟩:=hw'
 have S3:=Lib.hid (S2.out.below o.h)
 clear k0 k1 S2 hne HF HLK
 generalize o.u=W3 at *
 rcases HR.out with ⟨e1,e2⟩ | ⟨j,m,hj,hml,_,e2,e1⟩
 ·simp only [Prod.mk.injEq] at e2
  obtain ⟨rfl,rfl⟩:=e2
  have HN:=Lib.hid e1
  clear e1 HR
  go_wp2_with (refine store114 rfl _ _ rfl (w.heap.size + 1) _ _ _ _ _ _ rfl rfl _ S3.out.rs rfl ?_)
  refine bodyPost_ret (v:=.tuple #[.string ⟨#[]⟩,.agg #[.string ⟨#[]⟩,.bool false,.slice none 0 0,.string ⟨#[]⟩],.bool false]) (results_tct HRS _ _ (w.heap.size + 1) _ _ _ _ rfl rfl rfl (S3.out.rs.setRow _) Tryz.underlying79 rfl (by kernel_rfl)) rfl ?_
  exact ⟨below_row S3.out.hb (by omega) _,.inl ⟨HN.out,rfl⟩⟩
 ·simp only [Prod.mk.injEq] at e2
  obtain ⟨rfl,rfl⟩:=e2
  have HN:=Lib.hid e1
  have hpl:=HPA.out _ (List.getElem_mem hj) _ (List.getElem_mem hml)
  have hmm:=HM.out _ (List.getElem_mem hj)
  clear e1 HR HM HPA
  obtain ⟨b,off,fa,fc,ma,mc,he,m0,m1,m2,m3,_,hms⟩:=HC0.out j hj
  subst he
  obtain ⟨b2,o2,pa,pc,he,n0,n1,n2,n3,hps⟩:=hms m hml
  subst he
  have HPS:=Lib.hid hps
  have M0:=Lib.hid m0
  clear m1 m2 hms hps m0
  replace m3:=cell_below S3.out.hb m3
  replace n0:=cell_below S3.out.hb n0
  replace n1:=cell_below S3.out.hb n1
  replace n2:=cell_below S3.out.hb n2
  replace n3:=cell_below S3.out.hb n3
  generalize h[j].methods[m]=y at *
  generalize h[j].methods.length=ml at *
  generalize h[j].name=nm at *
  have t0:=S3.out.bt.cell 0 (by simp)
  simp only [List.getElem_toArray,List.getElem_cons_zero] at t0
  have t1:decide ((j:Int) < 0)=false:=decide_eq_false (by omega)
  go_upto_region 6 with (refine store114 rfl _ _ rfl (w.heap.size + 1) _ _ _ _ _ _ rfl rfl _ S3.out.rs rfl ?_)
  have hb4:Below w.heap.size w (W3.setRow (w.heap.size + 1) #[.string y.name,.bool y.stat,.slice pa y.params.length pc,.string y.result]):=below_row S3.out.hb (by omega) _
  have hg4:W3.grownBy (W3.setRow (w.heap.size + 1) #[.string y.name,.bool y.stat,.slice pa y.params.length pc,.string y.result]) (some (w.heap.size + 1)):=grown_row ..
  have S4:Hid (LQ h (some ⟨b,off,none⟩) c g tb #[.string y.name,.bool y.stat,.slice pa y.params.length pc,.string y.result] w (W3.setRow (w.heap.size + 1) #[.string y.name,.bool y.stat,.slice pa y.params.length pc,.string y.result])) :=
   ⟨hb4,S3.out.bt.grown hg4 (blk_apart S3.out.bt S3.out.rs (by decide)),S3.out.rs.setRow _,HC0.out.below hb4,S3.out.tg.grown hg4 (Ne.symm (blk_mapF S3.out.rs S3.out.tg)),Nat.lt_of_lt_of_le S3.out.sz hg4.size⟩
  clear hb4 hg4 S3 m3 n0 n1 n2 n3 t0 t1
  generalize W3.setRow _ _=W4 at *
  have q2:=S4.out.rs.cell 2 (by simp)
  simp only [List.getElem_toArray,List.getElem_cons_zero,List.getElem_cons_succ] at q2
  go_wp2_with fail
  refine (cloneStr y.params pa pc _ (HPS.out.below S4.out.hb) (by omega)).mono ?_
  rintro e w5 ⟨hb5,qa,qc,rfl,own5⟩
  have S5:=Lib.hid (S4.out.below hb5)
  have O5:=Lib.hid own5
  clear S4 hb5 own5 q2
  have q1:=S5.out.rs.cell 2 (by simp)
  have q2:=S5.out.rs.free 2
  simp only [List.getElem_toArray,List.getElem_cons_zero,List.getElem_cons_succ] at q1
  go_upto_region 7 with (fail)
  have hg6:w5.grownBy (w5.setCell ⟨w.heap.size + 1,2,none⟩ (.slice qa y.params.length qc)) (some (w.heap.size + 1)):=grown_set ..
  have hb6:Below w.heap.size w (w5.setCell ⟨w.heap.size + 1,2,none⟩ (.slice qa y.params.length qc)):=S5.out.hb.grown hg6 S5.out.hb.size (fun q hq=>by cases hq;omega)
  have S6:Hid (LQ h (some ⟨b,off,none⟩) c g tb #[.string y.name,.bool y.stat,.slice qa y.params.length qc,.string y.result] w (w5.setCell ⟨w.heap.size + 1,2,none⟩ (.slice qa y.params.length qc))) :=
   ⟨hb6,S5.out.bt.grown hg6 (blk_apart S5.out.bt S5.out.rs (by decide)),by simpa using S5.out.rs.set 2 (.slice qa y.params.length qc),HC0.out.below hb6,S5.out.tg.grown hg6 (Ne.symm (blk_mapF S5.out.rs S5.out.tg)),Nat.lt_of_lt_of_le S5.out.sz hg6.size⟩
  have P6:Hid (StrsAt (w5.setCell ⟨w.heap.size + 1,2,none⟩ (.slice qa y.params.length qc)) qa y.params):=(owns_strs' (O5.out.kept hg6 (.inr (fun e=>owns_ne O5.out S5.out.rs (by decide) e.symm)))).2
  clear hg6 hb6 S5 O5 q1 q2
  generalize w5.setCell _ _=W6 at *
  have k0:∀ o:WB W6,o.u.cell? ⟨tb,0,none⟩=some (.slice (some ⟨b,off,none⟩) h.length c):=fun o=>(S6.out.below o.h).bt.cell 0 (by simp)
  have k1:∀ o:WB W6,o.u.cell? ⟨b,off + j * 4,none⟩=some (.string nm):=fun o=>cell_below (S6.out.below o.h).hb M0.out
  have k2:∀ o:WB W6,o.u.cell? ⟨w.heap.size + 1,0,none⟩=some (.string y.name):=fun o=>(S6.out.below o.h).rs.cell 0 (by simp)
  have k3:∀ o:WB W6,o.u.cell? ⟨w.heap.size + 1,1,none⟩=some (.bool y.stat):=fun o=>(S6.out.below o.h).rs.cell 1 (by simp)
  have k4:∀ o:WB W6,o.u.cell? ⟨w.heap.size + 1,2,none⟩=some (.slice qa y.params.length qc):=fun o=>(S6.out.below o.h).rs.cell 2 (by simp)
  have k5:∀ o:WB W6,o.u.cell? ⟨w.heap.size + 1,3,none⟩=some (.string y.result):=fun o=>(S6.out.below o.h).rs.cell 3 (by simp)
  have hne:Nonempty (WB W6):=⟨⟨W6,Below.refl _ _⟩⟩
  have hcur:Below W6.heap.size W6 W6.drew:=(Below.refl _ _).drew
  have hcur2:=below_same hcur S6.out.rs
  refine wp_region_Y (fun w'=>∃ o:WB W6,w' = o.u) (by kernel_rfl) ?_
  change wpAnyY _ _ _ _ _ _ _ _ W6.drew
  refine wpAnyY_take 0 rfl (by kernel_rfl) (fun _ _ _ _ h=>h) ⟨⟨_,hcur⟩,rfl⟩ (fun K hK=>?_);go_simp;refine hK _ ?_;clear hK K
  refine wpAnyY_take 1 rfl (by kernel_rfl) (fun _ _ _ _ h=>h) ⟨⟨_,hcur⟩,rfl⟩ (fun K hK=>?_);go_simp;refine hK _ ?_;clear hK K
  refine wpAnyY_take 2 rfl (by kernel_rfl) (fun _ _ _ _ h=>h) ⟨⟨_,hcur⟩,rfl⟩ (fun K hK=>?_);go_simp;refine hK _ ?_;clear hK K
  refine wpAnyY_take 3 rfl (by kernel_rfl) (fun _ _ _ _ h=>h) ⟨⟨_,hcur⟩,rfl⟩ (fun K hK=>?_);go_simp;refine hK _ ?_;clear hK K
  refine wpAnyY_take 4 rfl (by kernel_rfl) (fun _ _ _ _ h=>h) ⟨⟨_,hcur⟩,rfl⟩ (fun K hK=>?_);go_simp;refine hK _ ?_;clear hK K
  refine wpAnyY_take 5 rfl (by kernel_rfl) (fun _ _ _ _ h=>h) ⟨⟨_,hcur⟩,rfl⟩ (fun K hK=>?_);go_simp;refine hK _ ?_;clear hK K
  refine wpAnyY_take 6 rfl (by kernel_rfl) (fun _ _ _ _ h=>h) ⟨⟨_,hcur⟩,rfl⟩ (fun K hK=>?_);go_simp;refine hK _ ?_;clear hK K
  refine wpAnyY_take 7 rfl (by kernel_rfl) (fun _ _ _ _ h=>h) ⟨⟨_,hcur⟩,rfl⟩ (fun K hK=>?_);go_simp;refine hK _ ?_;clear hK K
  refine wpAnyY_one 8 rfl (by kernel_rfl) ?_
  go_wp2_with (refine store114 rfl _ _ rfl (w.heap.size + 1) _ _ _ _ _ _ rfl rfl _ (S6.out.below hcur).rs rfl ?_)
  refine ⟨⟨⟨_,hcur2⟩,rfl⟩,?_⟩
  refine wpAnyY_one 9 rfl (by kernel_rfl) ?_
  go_wp2
  refine ⟨⟨⟨_,hcur2⟩,rfl⟩,?_⟩
  refine wpAnyY_done (by kernel_rfl) ?_ _
  have S8:=Lib.hid (S6.out.below hcur2)
  have P8:=Lib.hid (P6.out.below hcur2)
  clear k0 k1 k2 k3 k4 k5
  go_wp2
  refine bodyPost_ret (v:=.tuple #[.string nm,.agg #[.string y.name,.bool y.stat,.slice qa y.params.length qc,.string y.result],.bool true]) (results_tct HRS _ _ (w.heap.size + 1) _ _ _ _ rfl rfl rfl S8.out.rs Tryz.underlying79 rfl (by kernel_rfl)) rfl ?_
  exact ⟨S8.out.hb,.inr ⟨nm,y,qa,qc,HN.out,rfl,P8.out⟩⟩
end Go.Proofs.YtkbmnfijeknenaaGreatDoor
namespace Go.Proofs.YtkbmnfijeknenaaGreatDoor
open Go.RowKit Go.Unit0 Go.AM

set_option maxRecDepth 100000 in
set_option maxHeartbeats 4000000 in
theorem dispatchP (u:Unt) (ha:Option Addr) (hc:Nat) (fa:Option Addr) (fc:Nat) (s t:Str) (w:World) (h:ClssAt w ha u.h) (f:FncsAt w fa u.fs) (hb:BndU u) :
 Calls Tryz.prog 28 #[unV u ha hc fa fc,.string s,.string t] w (Ret w (.int .i64 (dspP u.h u.fs s t))):=by
 have S0:=Lib.hid (UB.start (hc:=hc) (fc:=fc) h f)
 have HLK:Hid (∀ w1,ClssAt w1 ha u.h→Calls Tryz.prog 43 #[.agg #[.slice ha u.h.length hc],.string s,.string t] w1 (LookQ (lookP u.h s t) w1)):=fun w1 h1=>lookupP u.h s t ha hc w1 h1 hb.h.l hb.h.m hb.h.p
 have HFN:Hid (∀ (x:Str) (w1:World),FncsAt w1 fa u.fs→Calls Tryz.prog 49 #[unV u ha hc fa fc,.string x,.string t] w1 (Ret w1 (.int .i64 (fnI u.fs x t)))):=fun x w1 h1=>irFind u ha hc fa fc x t w1 h1 (by have:=hb.l;omega)
 have HD:Hid (dspP u.h u.fs s t=match lookP u.h s t with | some (x,g)=>if g.stat=true then -1 else fnI u.fs x t | none=>-1):=rfl
 clear h f hb
 unfold unV at *
 generalize dspP u.h u.fs s t=r at *
 generalize lookP u.h s t=R at *
 go_enter Tryz.func28,Tryz.ntmps28
 go_upto_region 1 with (fail)
 generalize w.alloc _=W at *
 obtain ⟨z0,z1,z2⟩:=S0.out.cells
 go_wp2_with fail
 refine (HLK.out _ S0.out.h).mono ?_
 rintro e w1 ⟨hb',hr⟩
 have S1:=Lib.hid (S0.out.below hb')
 clear S0 hb' z0 z1 z2 HLK
 rcases hr with ⟨rfl,rfl⟩ | ⟨x,g,pa,pc,rfl,rfl,_⟩
 ·have HE:Hid (r = -1):=HD.out
  clear HD
  go_wp2
  go_ret
  exact ⟨by rw [HE.out] <;> rfl,S1.out.hb.trans ((one_below ..).mono S1.out.hb.size)⟩
 ·have HE:Hid (r=if g.stat=true then -1 else fnI u.fs x t):=HD.out
  clear HD
  have BZ:Hid (Blk (w1.alloc (.cells #[.string g.name,.bool g.stat,.slice pa g.params.length pc,.string g.result] 79)) w1.heap.size #[.string g.name,.bool g.stat,.slice pa g.params.length pc,.string g.result] 79):=blk_new ..
  have S2:=Lib.hid (S1.out.below (one_below w1 (.cells #[.string g.name,.bool g.stat,.slice pa g.params.length pc,.string g.result] 79)))
  clear S1
  have y1:=BZ.out.cell 1 (by simp)
  simp only [List.getElem_toArray,List.getElem_cons_zero,List.getElem_cons_succ] at y1
  obtain ⟨z0,z1,z2⟩:=S2.out.cells
  generalize g.stat=st at *
  cases st
  case true =>
   rw [if_pos rfl] at HE
   go_wp2
   go_ret
   exact ⟨by rw [HE.out] <;> rfl,S2.out.hb⟩
  case false =>
   rw [if_neg (by simp)] at HE
   go_wp2_with (go_at_call 49;refine (HFN.out x _ S2.out.f).mono ?_;rintro e w3 ⟨rfl,hb3⟩)
   go_ret
   exact ⟨by rw [HE.out] <;> rfl,S2.out.hb.trans (hb3.mono S2.out.hb.size)⟩
end Go.Proofs.YtkbmnfijeknenaaGreatDoor
