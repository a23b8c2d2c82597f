/-
  Plain: numbers in decimal, texts of paths, and what Parse computes.
  Numbers in decimal.
  The reference's words.
  The reference's root; the program's parseRoot.
  The program's parseRoot.
-/
import Derived.Test.YtffcklfigpmlgaaGreatDoorQP
import Derived.Test.YtffcklfigpmlgaaGreatDoorVA
import Derived.Test.YtffcklfigpmlgaaGreatDoorShelf
import Derived.Lib.ConvBytes
namespace Go.Proofs.YtffcklfigpmlgaaGreatDoor
open Go.RowKit Go.Unit0

def digC (c:UInt8):Bool:=decide (48≤c.toNat) && decide (c.toNat≤57)
def numL (l:List UInt8):Nat:=l.foldl (fun n c=>10 * n + (c.toNat - 48)) 0
theorem numL_snoc (l:List UInt8) (c:UInt8):numL (l ++ [c])=10 * numL l + (c.toNat - 48):=by simp [numL]
def argW:List UInt8:=[97,114,103]
def varW:List UInt8:=[118,97,114]
def siteW:List UInt8:=[115,105,116,101]
def resW:List UInt8:=[114,101,115,117,108,116]
def kindOf (w:List UInt8):Int × List UInt8:=if w.take 3=argW then (1,w.drop 3) else if w.take 3=varW then (3,w.drop 3) else if w.take 4=siteW then (4,w.drop 4) else (0,[])
def numOk (d:List UInt8):Bool:=!d.isEmpty && decide (d.length≤9) && !(decide (1 < d.length) && d.head? == some 48) && d.all digC
def rootOf (w:List UInt8):Option (Int × Int):=if w=resW then some (2,0) else if numOk (kindOf w).2=true then some ((kindOf w).1,(numL (kindOf w).2:Int)) else none
theorem numOk_iff {d:List UInt8}:numOk d=true ↔ d ≠ []∧d.length≤9∧(1 < d.length→d.head? ≠ some 48)∧∀ c ∈ d,digC c=true:=by
 unfold numOk
 simp only [Bool.and_eq_true,Bool.not_eq_true',List.isEmpty_eq_false_iff,decide_eq_true_eq,Bool.and_eq_false_imp,beq_eq_false_iff_ne,List.all_eq_true]
 exact ⟨fun ⟨⟨⟨h1,h2⟩,h3⟩,h4⟩=>⟨h1,h2,h3,h4⟩,fun ⟨h1,h2,h3,h4⟩=>⟨⟨⟨h1,h2⟩,h3⟩,h4⟩⟩
theorem mkB_self (s:ByteArray):mkB s.data.toList=s:=WideShapes.bytes_inj (mkB_data _)
end Go.Proofs.YtffcklfigpmlgaaGreatDoor
namespace Go.Proofs.YtffcklfigpmlgaaGreatDoor
open Go.RowKit Go.Unit0

end Go.Proofs.YtffcklfigpmlgaaGreatDoor
namespace Go.Proofs.YtffcklfigpmlgaaGreatDoor
open Go.RowKit Go.Unit0

theorem mkB_get (l:List UInt8) (k:Nat) (_h:k < (mkB l).size) (h':k < l.length):(mkB l)[k]=l[k]:=by
 simp [ByteArray.getElem_eq_getElem_data,mkB]
end Go.Proofs.YtffcklfigpmlgaaGreatDoor
namespace Go.Proofs.YtffcklfigpmlgaaGreatDoor
open Go.RowKit Go.Unit0

def rootV (w:List UInt8):Value:=match rootOf w with
 | some kn=>.tuple #[.int .i64 kn.1,.int .i64 kn.2,.bool true]
 | none=>.tuple #[.int .i64 0,.int .i64 0,.bool false]
theorem numL_lt:∀ (k:Nat) (l:List UInt8),l.length=k→(∀ c ∈ l,digC c=true)→numL l < 10 ^ k:=by
 intro k
 induction k with
 | zero=>intro l h _;rw [List.length_eq_zero_iff.1 h];decide
 | succ k ih =>
   intro l h hd
   have hne:l ≠ []:=fun e=>by subst e;simp at h
   obtain ⟨m,c,rfl⟩:∃ m c,l=m ++ [c]:=⟨l.dropLast,l.getLast hne,(List.dropLast_concat_getLast hne).symm⟩
   have:=ih m (by simp at h;omega) (fun c hc=>hd c (by simp [hc]))
   have hc:=hd c (by simp)
   simp only [digC,Bool.and_eq_true,decide_eq_true_eq] at hc
   rw [numL_snoc,Nat.pow_succ];omega
theorem dig_cases (c:UInt8):(digC c=true∧decide ((c.toNat:Int) < 48)=false∧decide (57 < (c.toNat:Int))=false) ∨ (digC c=false∧decide ((c.toNat:Int) < 48)=true) ∨ (digC c=false∧decide ((c.toNat:Int) < 48)=false∧decide (57 < (c.toNat:Int))=true):=by
 unfold digC
 by_cases h1:c.toNat < 48
 ·exact .inr (.inl ⟨by rw [decide_eq_false (by omega)];rfl,by simp;omega⟩)
 ·by_cases h2:57 < c.toNat
  ·exact .inr (.inr ⟨by rw [decide_eq_false (p:=c.toNat≤57) (by omega)];simp,by simp;omega,by simp;omega⟩)
  ·exact .inl ⟨by rw [decide_eq_true (by omega),decide_eq_true (by omega)];rfl,by simp;omega,by simp;omega⟩
theorem dig_bad {D:List UInt8} {k:Nat} (h:k < D.length) (hd:digC D[k]=false):numOk D=false:=by
 rw [Bool.eq_false_iff];intro e
 have:=(numOk_iff.1 e).2.2.2 _ (List.getElem_mem h)
 rw [hd] at this;cases this
end Go.Proofs.YtffcklfigpmlgaaGreatDoor
namespace Go.Proofs.YtffcklfigpmlgaaGreatDoor
open Go.RowKit Go.Unit0

theorem pre_of (l a:List UInt8):Lib.hasPrefix l a=decide (l.take a.length=a):=by
 unfold Lib.hasPrefix
 rw [Bool.eq_iff_iff,decide_eq_true_iff,List.isPrefixOf_iff_prefix,List.prefix_iff_eq_take]
 exact ⟨fun h=>h.symm,fun h=>h.symm⟩
theorem root_of {l:List UInt8} (hres:¬ l=resW):rootV l=if numOk (kindOf l).2=true then .tuple #[.int .i64 (kindOf l).1,.int .i64 (numL (kindOf l).2:Nat),.bool true] else .tuple #[.int .i64 0,.int .i64 0,.bool false]:=by
 unfold rootV rootOf
 rw [if_neg hres]
 split
 ·rename_i h
  split at h
  ·cases h;rename_i h2;rw [if_pos h2]
  ·cases h
 ·rename_i h
  split at h
  ·cases h
  ·rename_i h2;rw [if_neg h2]
def stK (l:List UInt8):Nat→Int × List UInt8
 | 0=>(0,[])
 | 1=>if l.take 3=argW then (1,l.drop 3) else (0,[])
 | 2=>if l.take 3=argW then (1,l.drop 3) else if l.take 3=varW then (3,l.drop 3) else (0,[])
 | _=>kindOf l
def nameK:Nat→List UInt8
 | 0=>argW
 | 1=>varW
 | _=>siteW
theorem idx80_0:∀ w,(Instr.index 137 (.agg #[.string ⟨#[97,114,103]⟩,.string ⟨#[118,97,114]⟩,.string ⟨#[115,105,116,101]⟩]) (.int .i64 0)).run Tryz.prog w = .ok (.string (mkB (nameK 0))) w:=fun w=>by kernel_rfl
theorem idx80_1:∀ w,(Instr.index 137 (.agg #[.string ⟨#[97,114,103]⟩,.string ⟨#[118,97,114]⟩,.string ⟨#[115,105,116,101]⟩]) (.int .i64 1)).run Tryz.prog w = .ok (.string (mkB (nameK 1))) w:=fun w=>by kernel_rfl
theorem idx80_2:∀ w,(Instr.index 137 (.agg #[.string ⟨#[97,114,103]⟩,.string ⟨#[118,97,114]⟩,.string ⟨#[115,105,116,101]⟩]) (.int .i64 2)).run Tryz.prog w = .ok (.string (mkB (nameK 2))) w:=fun w=>by kernel_rfl

theorem bytesW_below (w:World) (e:TypeId) (s:ByteArray):Below w.heap.size w (Lib.bytesWorld w e s):=⟨rfl,rfl,rfl,by rw [Lib.bytesWorld_size];omega,fun k hk=>Lib.bytesWorld_at_old w e s k hk⟩
theorem bytesW_cell (w:World) (s:ByteArray) (j:Nat) (hj:j < s.size):(Lib.bytesWorld w 5 s).cell? ⟨w.heap.size,j,none⟩=some (.int .u8 (s[j].toNat:Int)):=by
 rw [Lib.bytesWorld_cell w 5 s j hj]
 have:s.data.toList.getD j 0=s[j]:=by
  have h':j < s.data.toList.length:=by simpa using hj
  rw [List.getD_eq_getElem?_getD,List.getElem?_eq_getElem h']
  simp [ByteArray.getElem_eq_getElem_data]
 rw [this]

set_option maxRecDepth 100000 in
set_option maxHeartbeats 8000000 in
theorem parseRoot33 (l:List UInt8) (w:World) (hl:l.length≤65536):Calls Tryz.prog 46 #[.string (mkB l)] w (Ret w (rootV l)):=by
 by_cases hres:l=resW
 ·have HF:Hid (rootV l = .tuple #[.int .i64 2,.int .i64 0,.bool true]):=by show _=_;rw [hres];rfl
  have t1:((mkB l).toList == [114,101,115,117,108,116])=true:=by rw [mkB_toList,hres];rfl
  clear hres
  generalize mkB l=s at *
  go_enter Tryz.func46,Tryz.ntmps46
  go_wp2
  go_ret3
  exact ⟨by rw [HF.out];rfl,Below.refl _ _⟩
 have t1:((mkB l).toList == [114,101,115,117,108,116])=false:=by rw [mkB_toList];simpa [resW] using hres
 have HRO:=Lib.hid (root_of hres)
 have hcut:∀ (k:Nat) (u:World),Calls Tryz.prog 79 #[.string (mkB l),.string (mkB (nameK k))] u fun e w'=>e = .returned (.tuple #[.string (mkB (Lib.trimPrefix l (nameK k))),.bool (decide (l.take (nameK k).length=nameK k))])∧w' = u:=fun k u=>by
  have:=Tryz.strings_CutPrefix (mkB l) (mkB (nameK k)) u
  rw [mkB_data,mkB_data,pre_of] at this
  exact this
 have HCUT:=Lib.hid hcut;clear hcut
 clear hres
 obtain ⟨s,hs⟩:∃ s,s=mkB l:=⟨_,rfl⟩
 rw [← hs] at t1 HCUT
 rw [← hs]
 clear hs
 go_enter Tryz.func46,Tryz.ntmps46
 go_wp2
 go_loop [2,5,15] (fun v u t=>∃ k:Nat,k≤3∧t = .int .i64 k∧v = .int .i64 (stK l k).1∧u = .string (mkB (stK l k).2)) (fun _ _ t=>3 - (intOf t).toNat)
 case atStart=>exact ⟨0,by omega,rfl,rfl,rfl⟩
 case round =>
  obtain ⟨k,hk,rfl,rfl,rfl⟩:=hrel
  by_cases hlt:k < 3
  ·have hk3:k=0 ∨ k=1 ∨ k=2:=by omega
   rcases hk3 with rfl | rfl | rfl
   ·have hix:=idx80_0
    have e0:((mkB (nameK 0)).toList == [97,114,103])=true:=by rw [mkB_toList];rfl
    have e1:((mkB (nameK 0)).toList == [118,97,114])=false:=by rw [mkB_toList];rfl
    by_cases hp:l.take (nameK 0).length=nameK 0
    ·have hp':l.take 3=argW:=hp
     have hd:=decide_eq_true hp
     have HTP:Hid (Lib.trimPrefix l (nameK 0)=l.drop 3):=by show _=_;unfold Lib.trimPrefix;rw [pre_of,hd];rfl
     have HST:Hid (stK l 1=(1,l.drop 3)):=by show (if l.take 3=argW then ((1:Int),l.drop 3) else (0,[]))=_;rw [if_pos hp']
     clear hp hp'
     go_wp2_with fail
     refine (HCUT.out 0 _).mono ?_
     rintro e w' ⟨rfl,rfl⟩
     go_wp2
     go_round
     case rel=>exact ⟨1,by omega,rfl,by rw [HST.out],by rw [HST.out,HTP.out]⟩
     case measure=>simp [intOf]
    ·have hp':¬ l.take 3=argW:=hp
     have hd:=decide_eq_false hp
     have HST:Hid (stK l 1=stK l 0):=by show (if l.take 3=argW then _ else _)=_;rw [if_neg hp'];rfl
     clear hp hp'
     go_wp2_with fail
     refine (HCUT.out 0 _).mono ?_
     rintro e w' ⟨rfl,rfl⟩
     go_wp2
     go_round
     case rel=>exact ⟨1,by omega,rfl,by rw [HST.out],by rw [HST.out]⟩
     case measure=>simp [intOf]
   ·have hix:=idx80_1
    have e0:((mkB (nameK 1)).toList == [97,114,103])=false:=by rw [mkB_toList];rfl
    have e1:((mkB (nameK 1)).toList == [118,97,114])=true:=by rw [mkB_toList];rfl
    by_cases hp:l.take (nameK 1).length=nameK 1
    ·have hp':l.take 3=varW:=hp
     have hd:=decide_eq_true hp
     have HTP:Hid (Lib.trimPrefix l (nameK 1)=l.drop 3):=by show _=_;unfold Lib.trimPrefix;rw [pre_of,hd];rfl
     have HST:Hid (stK l 2=(3,l.drop 3)):=by show (if l.take 3=argW then ((1:Int),l.drop 3) else if l.take 3=varW then (3,l.drop 3) else (0,[]))=_;rw [if_neg (by rw [hp'];decide),if_pos hp']
     clear hp hp'
     go_wp2_with fail
     refine (HCUT.out 1 _).mono ?_
     rintro e w' ⟨rfl,rfl⟩
     go_wp2
     go_round
     case rel=>exact ⟨2,by omega,rfl,by rw [HST.out],by rw [HST.out,HTP.out]⟩
     case measure=>simp [intOf]
    ·have hp':¬ l.take 3=varW:=hp
     have hd:=decide_eq_false hp
     have HST:Hid (stK l 2=stK l 1):=by show (if l.take 3=argW then _ else if l.take 3=varW then _ else _)=(if l.take 3=argW then _ else _);rw [if_neg hp']
     clear hp hp'
     go_wp2_with fail
     refine (HCUT.out 1 _).mono ?_
     rintro e w' ⟨rfl,rfl⟩
     go_wp2
     go_round
     case rel=>exact ⟨2,by omega,rfl,by rw [HST.out],by rw [HST.out]⟩
     case measure=>simp [intOf]
   ·have hix:=idx80_2
    have e0:((mkB (nameK 2)).toList == [97,114,103])=false:=by rw [mkB_toList];rfl
    have e1:((mkB (nameK 2)).toList == [118,97,114])=false:=by rw [mkB_toList];rfl
    by_cases hp:l.take (nameK 2).length=nameK 2
    ·have hp':l.take 4=siteW:=hp
     have hd:=decide_eq_true hp
     have hna:¬ l.take 3=argW:=fun h=>by
      have h5:=congrArg (List.take 3) hp'
      rw [List.take_take,show min 3 4=3 from rfl,h] at h5
      exact absurd h5 (by decide)
     have hnv:¬ l.take 3=varW:=fun h=>by
      have h5:=congrArg (List.take 3) hp'
      rw [List.take_take,show min 3 4=3 from rfl,h] at h5
      exact absurd h5 (by decide)
     have HTP:Hid (Lib.trimPrefix l (nameK 2)=l.drop 4):=by show _=_;unfold Lib.trimPrefix;rw [pre_of,hd];rfl
     have HST:Hid (stK l 3=(4,l.drop 4)):=by show kindOf l=_;unfold kindOf;rw [if_neg hna,if_neg hnv,if_pos hp']
     clear hp hp' hna hnv
     go_wp2_with fail
     refine (HCUT.out 2 _).mono ?_
     rintro e w' ⟨rfl,rfl⟩
     go_wp2
     go_round
     case rel=>exact ⟨3,by omega,rfl,by rw [HST.out],by rw [HST.out,HTP.out]⟩
     case measure=>simp [intOf]
    ·have hp':¬ l.take 4=siteW:=hp
     have hd:=decide_eq_false hp
     have HST:Hid (stK l 3=stK l 2):=by show (if l.take 3=argW then _ else if l.take 3=varW then _ else if l.take 4=siteW then _ else _)=(if l.take 3=argW then _ else if l.take 3=varW then _ else _);rw [if_neg hp']
     clear hp hp'
     go_wp2_with fail
     refine (HCUT.out 2 _).mono ?_
     rintro e w' ⟨rfl,rfl⟩
     go_wp2
     go_round
     case rel=>exact ⟨3,by omega,rfl,by rw [HST.out],by rw [HST.out]⟩
     case measure=>simp [intOf]
  ·obtain rfl:k=3:=by omega
   have HK3:Hid (stK l 3=kindOf l):=rfl
   rw [HK3.out]
   generalize kindOf l=KD at *
   obtain ⟨K,D⟩:=KD
   simp only at HRO ⊢
   by_cases hDne:D = []
   ·subst hDne
    have e1:(mkB []).toList = []:=mkB_toList []
    have e2:(mkB []).toList.isEmpty=true:=by rw [e1];rfl
    generalize mkB []=d at *
    go_wp2
    go_ret3
    exact ⟨by rw [HRO.out];rfl,Below.refl _ _⟩
   have hDl:D.length≤65536:=by
    have h1:(kindOf l).2.length≤l.length:=by
     unfold kindOf
     split
     ·simp
     split
     ·simp
     split
     ·simp
     ·simp
    have h2:=HK3.out
    have h3:(stK l 3).2.length≤l.length:=h1
    rw [h2] at h3
    simp only at h3
    omega
   have e1:¬ (mkB D).toList = []:=by rw [mkB_toList];exact hDne
   have e2:(mkB D).toList.isEmpty=false:=by simpa using e1
   obtain ⟨d,hd⟩:∃ d,d=mkB D:=⟨_,rfl⟩
   rw [← hd] at e1 e2 ⊢
   have HD0:=Lib.hid hd;clear hd
   have HNE:Hid (D ≠ []):=hDne
   have hdz:d.size=D.length:=by rw [HD0.out,mkB_size]
   have hget:∀ j (h:j < d.size) (h':j < D.length),d[j]=D[j]:=fun j h h'=>by have hd:=HD0.out;subst hd;exact mkB_get D j h h'
   have HG:=Lib.hid hget
   have HDZ:=Lib.hid hdz
   have hd1:1≤d.size:=by rw [hdz];exact List.length_pos_iff.2 hDne
   have hdl:d.size≤65536:=by rw [hdz];exact hDl
   have h0d:0 < d.size:=hd1
   clear hget hdz hDne hDl HD0
   by_cases h9:9 < d.size
   ·have e9:decide (9 < (d.size:Int))=true:=by simp;omega
    have HN:Hid (numOk D=false):=by
     show _=_
     rw [Bool.eq_false_iff];intro e
     have:=(numOk_iff.1 e).2.1
     rw [← HDZ.out] at this;omega
    clear h9
    go_wp2
    go_ret3
    exact ⟨by rw [HRO.out,HN.out];rfl,Below.refl _ _⟩
   have e9:decide (9 < (d.size:Int))=false:=by simp;omega
   by_cases h1:1 < d.size∧D.head? = some 48
   ·obtain ⟨h1,hh⟩:=h1
    have e1:decide (1 < (d.size:Int))=true:=by simp;omega
    have e0:((d[0]'h0d).toNat:Int)=48:=by
     rw [HG.out 0 (by omega) (by rw [← HDZ.out];omega)]
     cases D with
     | nil=>cases hh
     | cons c D=>simp at hh;subst hh;rfl
    have e0':(((d[0]'h0d).toNat:Int) == 48)=true:=by rw [e0];rfl
    have HN:Hid (numOk D=false):=by
     show _=_
     rw [Bool.eq_false_iff];intro e
     exact (numOk_iff.1 e).2.2.1 (by rw [← HDZ.out];omega) hh
    clear h9 e0 hh
    go_wp2
    go_ret3
    exact ⟨by rw [HRO.out,HN.out];rfl,Below.refl _ _⟩
   have HH:Hid (1 < D.length→D.head? ≠ some 48):=fun h hh=>h1 ⟨by rw [HDZ.out];exact h,hh⟩
   have HZ9:Hid (D.length≤9):=by show _≤_;rw [← HDZ.out];omega
   obtain ⟨q1,hq1⟩:∃ q,q=decide (1 < (d.size:Int)):=⟨_,rfl⟩
   have hlead:∃ q:Bool,(((d[0]'h0d).toNat:Int) == 48)=q∧(q1 && q)=false:=by
    refine ⟨_,rfl,?_⟩
    rw [hq1]
    by_cases h2:1 < d.size
    ·have:D.head? ≠ some 48:=HH.out (by rw [← HDZ.out];exact h2)
     have hc:d[0]'h0d ≠ 48:=by
      rw [HG.out 0 (by omega) (by rw [← HDZ.out];omega)]
      intro e
      cases D with
      | nil=>exact HNE.out rfl
      | cons c D=>simp at e;subst e;exact this rfl
     have:(((d[0]'h0d).toNat:Int) == 48)=false:=by
      rw [beq_eq_false_iff_ne];intro e
      exact hc (UInt8.toNat_inj.1 (by simp;omega))
     rw [this];simp
    ·have:decide (1 < (d.size:Int))=false:=by simp;omega
     rw [this];rfl
   obtain ⟨q,hq,hqq⟩:=hlead
   have hq1':=hq1.symm
   clear hq1 h1
   cases q1 <;> cases q <;> first | (exact absurd hqq (by decide)) | skip
   all_goals
    clear hqq
    have hconv:=Lib.run_convert_string_bytes (P:=Tryz.prog) w 9 138 5 d Tryz.underlying9 Tryz.underlying138 Tryz.underlying5
    have HBW:=Lib.hid (bytesW_below w 5 d)
    have HCW:=Lib.hid (bytesW_cell w d)
    generalize Lib.bytesWorld w 5 d=W at *
    go_wp2
    clear hq hq1' hconv
    go_loop [2,3,52] (fun r v u=>∃ k:Nat,k≤d.size∧r = .int .i64 K∧u = .int .i64 k∧v = .int .i64 (numL (D.take k):Nat)∧Hid (∀ c ∈ D.take k,digC c=true)) (fun _ _ u=>d.size - (intOf u).toNat)
    case atStart=>exact ⟨0,Nat.zero_le _,rfl,rfl,rfl,fun c hc=>by simp at hc⟩
    case round =>
     obtain ⟨k,hk,rfl,rfl,rfl,HI⟩:=hrel
     by_cases hlt:k < d.size
     ·have hlt2:k < D.length:=by rw [← HDZ.out];exact hlt
      have hcell:=HCW.out k hlt
      have hgk:=HG.out k hlt hlt2
      have HN:=Lib.hid (@dig_bad D k hlt2)
      have HT:=Lib.hid (List.take_succ_eq_append_getElem hlt2)
      have hnl:numL (D.take k) < 10 ^ 9:=Nat.lt_of_lt_of_le (numL_lt k _ (by rw [List.length_take];omega) HI.out) (Nat.pow_le_pow_right (by omega) (by omega))
      rw [← hgk] at HN HT
      clear hgk
      rcases dig_cases d[k] with ⟨hp,g1,g2⟩ | ⟨hp,g1⟩ | ⟨hp,g1,g2⟩
      ·have HP:=Lib.hid hp;clear hp
       have hc1:48≤(d[k].toNat:Int):=by simpa using g1
       have hc2:(d[k].toNat:Int)≤57:=by simpa using g2
       have HS:Hid (numL (D.take (k + 1))=10 * numL (D.take k) + (d[k].toNat - 48)):=by show _=_;rw [HT.out,numL_snoc]
       generalize numL (D.take k)=m at *
       go_wp2
       go_round
       case rel =>
        refine ⟨k + 1,by omega,rfl,by go_num,?_,?_⟩
        ·rw [HS.out];congr 1;omega
        ·intro c hc
         rw [HT.out] at hc
         rcases List.mem_append.1 hc with hc | hc
         ·exact HI.out c hc
         ·rw [List.mem_singleton.1 hc];exact HP.out
       case measure=>simp [intOf];omega
      ·have HNN:=Lib.hid (HN.out hp);clear hp
       go_wp2
       go_ret3
       exact ⟨by rw [HRO.out,HNN.out];rfl,HBW.out⟩
      ·have HNN:=Lib.hid (HN.out hp);clear hp
       go_wp2
       go_ret3
       exact ⟨by rw [HRO.out,HNN.out];rfl,HBW.out⟩
     ·have HKD:Hid (D.take k=D):=List.take_of_length_le (by rw [← HDZ.out];omega)
      have HN:Hid (numOk D=true):=numOk_iff.2 ⟨HNE.out,HZ9.out,HH.out,by have:=HI.out;rw [HKD.out] at this;exact this⟩
      have HNL:Hid (numL (D.take k)=numL D):=by show _=_;rw [HKD.out]
      go_wp2
      go_ret3
      exact ⟨by rw [HRO.out,HN.out,← HNL.out];rfl,HBW.out⟩
end Go.Proofs.YtffcklfigpmlgaaGreatDoor
