/-
  The program's identifiers (ported from seat r4): letters, digits, parts, keywords, Ident.
  Plain: texts split at a byte.
  Plain: access paths, their checks, texts and round trips.
  Check of paths, program and reference.
  A path of one's own: duplicate.
  Short; boxed paths; later worlds as a class.
-/
import Derived.Test.YtffcklfigpmlgaaGreatDoorVA
import Derived.Test.YtffcklfigpmlgaaGreatDoorGA
import Derived.Lib.SplitLaws
import Derived.WideShapes
import Derived.Test.YtffcklfigpmlgaaGreatDoorUA
import Derived.Lib.ItoaNum
import Derived.Laws.Tables
import Derived.Laws.CopyOwn
import Derived.Test.YtffcklfigpmlgaaGreatDoorVB
namespace Go.Proofs.YtffcklfigpmlgaaGreatDoor
open Go.RowKit Go.Unit0

set_option maxHeartbeats 400000 in
theorem letterP (c:Int) (w:World):Calls Tryz.prog 71 #[.int .u8 c] w (Same w (.bool (letterI c))):=by
 go_enter Tryz.func71,Tryz.ntmps71
 go_wp2
 all_goals go_ret
 all_goals refine ⟨ret_bool ?_,rfl⟩
 all_goals simp [letterI, *]
 all_goals omega
set_option maxHeartbeats 400000 in
theorem digitP (c:Int) (w:World):Calls Tryz.prog 128 #[.int .u8 c] w (Same w (.bool (digitI c))):=by
 go_enter Tryz.func128,Tryz.ntmps128
 go_wp2
 all_goals go_ret
 all_goals refine ⟨ret_bool ?_,rfl⟩
 all_goals simp [digitI, *]
 all_goals omega
set_option maxHeartbeats 400000 in
theorem partP (c:Int) (w:World):Calls Tryz.prog 73 #[.int .u8 c] w (Same w (.bool (partI c))):=by
 cases hl:letterI c <;> cases hd:digitI c
 all_goals
  go_enter Tryz.func73,Tryz.ntmps73
  go_wp2_with (first | (go_at_call 71;refine (letterP _ _).mono ?_;rintro e w' ⟨rfl,rfl⟩) | (go_at_call 128;refine (digitP _ _).mono ?_;rintro e w' ⟨rfl,rfl⟩))
  go_ret
  refine ⟨ret_bool ?_,rfl⟩
  simp [partI,hl,hd]
def KW (w:World):Prop:=∃ t fr,w.heap[0]? = some (.cells kwArr t fr)
theorem KW.below {w w':World} (h:KW w) (hb:Below w.heap.size w w'):KW w':=by
 obtain ⟨t,fr,h⟩:=h
 refine ⟨t,fr,?_⟩
 rw [hb.block 0 (Array.getElem?_eq_some_iff.1 h).1,h]
theorem idxKw:∀ k,k < 17→∀ w,(Instr.index 205 (.agg kwArr) (.int .i64 (k:Nat))).run Tryz.prog w = .ok (.string (kws.getD k ByteArray.empty)) w
 | 0,_,_=>by kernel_rfl
 | 1,_,_=>by kernel_rfl
 | 2,_,_=>by kernel_rfl
 | 3,_,_=>by kernel_rfl
 | 4,_,_=>by kernel_rfl
 | 5,_,_=>by kernel_rfl
 | 6,_,_=>by kernel_rfl
 | 7,_,_=>by kernel_rfl
 | 8,_,_=>by kernel_rfl
 | 9,_,_=>by kernel_rfl
 | 10,_,_=>by kernel_rfl
 | 11,_,_=>by kernel_rfl
 | 12,_,_=>by kernel_rfl
 | 13,_,_=>by kernel_rfl
 | 14,_,_=>by kernel_rfl
 | 15,_,_=>by kernel_rfl
 | 16,_,_=>by kernel_rfl
 | n + 17,h,_=>absurd h (by omega)
set_option maxHeartbeats 400000 in
theorem keywordP (s:ByteArray) (w:World) (hk:KW w):Calls Tryz.prog 74 #[.string s] w (Same w (.bool (kwB s))):=by
 obtain ⟨t,fr,hg⟩:=hk
 have HG:=Lib.hid hg;clear hg
 go_enter Tryz.func74,Tryz.ntmps74
 go_wp2_with (refine wpList_load_row rfl 205 _ rfl 0 rfl t _ fr _ HG.out Tryz.underlying205 rfl (by kernel_rfl) ?_)
 go_loop [6] (fun i=>∃ k:Nat,k≤17∧i = .int .i64 k∧Hid (kwTo s k=false)) (fun i=>17 - (intOf i).toNat)
 case atStart=>exact ⟨0,Nat.zero_le _,rfl,rfl⟩
 case round =>
  obtain ⟨k,hk,rfl,HI⟩:=hrel
  by_cases hlt:k < 17
  ·have hix:=idxKw k hlt
   have HS:=Lib.hid (kwTo_succ s k hlt)
   have HB:=Lib.hid (@kwB_of s k hlt)
   generalize kws.getD k ByteArray.empty=x at *
   by_cases hq:x.toList=s.toList
   ·have hq1:(s.toList == x.toList)=true:=by simp [hq]
    go_wp2
    go_ret
    exact ⟨ret_bool (HB.out hq).symm,rfl⟩
   ·have hq1:(s.toList == x.toList)=false:=by simp;exact fun e=>hq e.symm
    go_wp2
    go_round
    case rel =>
     refine ⟨k+1,by omega,by go_num,?_⟩
     have h1:=HS.out
     rw [HI.out] at h1
     show kwTo s (k + 1)=false
     rw [h1];simpa using hq
    case measure=>simp [intOf];omega
  ·go_wp2
   go_ret
   refine ⟨ret_bool ?_,rfl⟩
   obtain rfl:k=17:=by omega
   exact HI.out.symm
def SpanPost (s:ByteArray) (w:World) (e:Ending) (w':World):Prop:=w=w'∧∃ k:Nat,k≤s.size∧partTo s k∧(∀ h:k < s.size,partI s[k].toNat=false)∧e = .returned (.int .i64 k)
set_option maxHeartbeats 400000 in
theorem spanP (s:ByteArray) (w:World) (hs:s.size≤1000000):Calls Tryz.prog 72 #[.string s,.func (.func 73) #[] #[]] w (SpanPost s w):=by
 go_enter Tryz.func72,Tryz.ntmps72
 go_wp2
 go_loop [5] (fun i=>∃ k:Nat,k≤s.size∧i = .int .i64 k∧Hid (partTo s k)) (fun i=>s.size - (intOf i).toNat)
 case atStart=>exact ⟨0,Nat.zero_le _,rfl,fun j h hj=>absurd hj (by omega)⟩
 case round =>
  obtain ⟨k,hk,rfl,HI⟩:=hrel
  by_cases hlt:k < s.size
  ·cases hp:partI s[k].toNat
   ·go_wp2_with (go_at_call 73;refine (partP _ _).mono ?_;rintro e w' ⟨rfl,rfl⟩)
    go_ret
    exact ⟨rfl,k,hk,HI.out,fun _=>hp,rfl⟩
   ·go_wp2_with (go_at_call 73;refine (partP _ _).mono ?_;rintro e w' ⟨rfl,rfl⟩)
    go_round
    case rel =>
     refine ⟨k+1,by omega,by go_num,fun j h hj=>?_⟩
     by_cases e:j=k
     ·subst e;exact hp
     ·exact HI.out j h (by omega)
    case measure=>simp [intOf];omega
  ·go_wp2
   go_ret
   exact ⟨rfl,k,hk,HI.out,fun h=>absurd h hlt,rfl⟩
set_option maxHeartbeats 400000 in
set_option maxRecDepth 100000 in
theorem identP (s:ByteArray) (w:World) (hw:KW w):Calls Tryz.prog 40 #[.string s] w (Same w (.bool (identB s))):=by
 have HW:=Lib.hid hw;clear hw
 by_cases h0:s.size=0
 ·have H:=Lib.hid (ident_f1 h0)
  have e:=nil_of_size h0
  go_enter Tryz.func40,Tryz.ntmps40
  go_wp2
  go_ret
  exact ⟨ret_bool H.out.symm,rfl⟩
 have e:=ne_of_size h0
 have e2:s.toList.isEmpty=false:=by cases h:s.toList <;> simp_all
 by_cases h32:32 < s.size
 ·have H:=Lib.hid (ident_f2 h32)
  go_enter Tryz.func40,Tryz.ntmps40
  go_wp2
  go_ret
  exact ⟨ret_bool H.out.symm,rfl⟩
 have hp:0 < s.size:=by omega
 cases hl:letterI s[0].toNat
 ·have H:=Lib.hid (ident_f3 hp hl)
  go_enter Tryz.func40,Tryz.ntmps40
  go_wp2_with (go_at_call 71;refine (letterP _ _).mono ?_;rintro e w' ⟨rfl,rfl⟩)
  go_ret
  exact ⟨ret_bool H.out.symm,rfl⟩
 have HL:=Lib.hid hl
 go_enter Tryz.func40,Tryz.ntmps40
 go_wp2_with (first | (go_at_call 71;refine (letterP _ _).mono ?_;rintro e w' ⟨rfl,rfl⟩))
 refine (spanP _ _ (by omega)).mono ?_
 rintro e w' ⟨rfl,k,hk,hp1,hp2,rfl⟩
 have HP1:=Lib.hid hp1;clear hp1
 have HP2:=Lib.hid hp2;clear hp2
 by_cases hks:k=s.size
 ·have hb:((k:Int) == (s.size:Int))=true:=by simp [hks]
  have HK:=Lib.hid hks;clear hks
  cases hkw:kwB s
  ·go_wp2_with (first | (go_at_call 74;refine (keywordP _ _ HW.out).mono ?_;rintro e w' ⟨rfl,rfl⟩))
   go_ret
   exact ⟨ret_bool (ident_t hp (by omega) HL.out (HK.out ▸ HP1.out) hkw).symm,rfl⟩
  ·go_wp2_with (first | (go_at_call 74;refine (keywordP _ _ HW.out).mono ?_;rintro e w' ⟨rfl,rfl⟩))
   go_ret
   exact ⟨ret_bool (ident_f5 hkw).symm,rfl⟩
 ·have hb:((k:Int) == (s.size:Int))=false:=by simp;omega
  go_wp2_with (first | (go_at_call 74;refine (keywordP _ _ HW.out).mono ?_;rintro e w' ⟨rfl,rfl⟩))
  go_ret
  have hlt:k < s.size:=by omega
  exact ⟨ret_bool (ident_f4 hlt (HP2.out hlt)).symm,rfl⟩
end Go.Proofs.YtffcklfigpmlgaaGreatDoor
namespace Go.Proofs.YtffcklfigpmlgaaGreatDoor
open Go.RowKit Go.Unit0

theorem mkB_data (x:List UInt8):(mkB x).data.toList=x:=by simp [mkB]
theorem mkB_size (x:List UInt8):(mkB x).size=x.length:=by simp [mkB,ByteArray.size]
theorem mkB_toList (x:List UInt8):(mkB x).toList=x:=by rw [ByteArray.toList_eq,mkB_data]
end Go.Proofs.YtffcklfigpmlgaaGreatDoor
namespace Go.Proofs.YtffcklfigpmlgaaGreatDoor
open Go.RowKit Go.Unit0

structure Pth where
 root:Int
 n:Int
 fs:List ByteArray
 star:Bool
def pV (p:Pth) (a:Option Addr) (c:Nat):Value:=.agg #[.int .i64 p.root,.int .i64 p.n,.slice a p.fs.length c,.bool p.star]
def mostI (r:Int):Int:=if r=1 then 6 else if r=2 then 0 else if r=3 then 255 else if r=4 then 1023 else -1
def chkE (p:Pth):Int:=if mostI p.root < 0 then 12 else if p.n < 0 ∨ mostI p.root < p.n then 4 else if 2 < p.fs.length then 3 else if p.fs.all identB=true then 0 else 5
theorem chkE_ok {p:Pth}:chkE p=0 ↔ 0≤mostI p.root∧0≤p.n∧p.n≤mostI p.root∧p.fs.length≤2∧p.fs.all identB=true:=by
 unfold chkE
 by_cases h1:mostI p.root < 0
 ·rw [if_pos h1];constructor
  ·intro h;omega
  ·intro h;omega
 rw [if_neg h1]
 by_cases h2:p.n < 0 ∨ mostI p.root < p.n
 ·rw [if_pos h2];constructor
  ·intro h;omega
  ·intro h;omega
 rw [if_neg h2]
 by_cases h3:2 < p.fs.length
 ·rw [if_pos h3];constructor
  ·intro h;omega
  ·intro h;omega
 rw [if_neg h3]
 by_cases h4:p.fs.all identB=true
 ·rw [if_pos h4];exact ⟨fun _=>⟨by omega,by omega,by omega,by omega,h4⟩,fun _=>rfl⟩
 ·rw [if_neg h4];constructor
  ·intro h;omega
  ·intro h;exact absurd h.2.2.2.2 h4
-- the order
end Go.Proofs.YtffcklfigpmlgaaGreatDoor
namespace Go.Proofs.YtffcklfigpmlgaaGreatDoor
open Go.RowKit Go.Unit0

theorem KW.size {w:World} (h:KW w):0 < w.heap.size:=by obtain ⟨t,fr,h⟩:=h;exact (Array.getElem?_eq_some_iff.1 h).1

theorem root5 (r:Int):(r=1∧mostI r=6) ∨ (r=2∧mostI r=0) ∨ (r=3∧mostI r=255) ∨ (r=4∧mostI r=1023) ∨ (mostI r = -1∧r ≠ 1∧r ≠ 2∧r ≠ 3∧r ≠ 4):=by
 unfold mostI
 by_cases h1:r=1
 ·subst h1;simp
 by_cases h2:r=2
 ·subst h2;simp
 by_cases h3:r=3
 ·subst h3;simp
 by_cases h4:r=4
 ·subst h4;simp
 simp [h1,h2,h3,h4]
theorem all_take_succ {l:List ByteArray} {f:ByteArray→Bool} {k:Nat} (h:(l.take k).all f=true) (hk:k < l.length) (hf:f l[k]=true):(l.take (k + 1)).all f=true:=by
 rw [List.take_succ_eq_append_getElem hk,List.all_append,h];simp [hf]
theorem all_not {l:List ByteArray} {f:ByteArray→Bool} {k:Nat} (hk:k < l.length) (hf:f l[k]=false):l.all f=false:=by
 rw [List.all_eq_false];exact ⟨_,List.getElem_mem hk,by simp [hf]⟩

set_option maxRecDepth 100000 in
set_option maxHeartbeats 1000000 in
theorem check41p (p:Pth) (a:Option Addr) (c:Nat) (w:World) (hk:KW w) (hs:StrsAt w a p.fs):Calls Tryz.prog 17 #[pV p a c] w (Ret w (.int .i64 (chkE p))):=by
 unfold pV
 have HB0:=Lib.hid (one_below w (.cells #[.int .i64 p.root,.int .i64 p.n,.slice a p.fs.length c,.bool p.star] 37))
 have HK:=Lib.hid (hk.below HB0.out);clear hk
 have HS:=Lib.hid (hs.below HB0.out);clear hs
 by_cases hneg:mostI p.root < 0
 case pos =>
  have HF:Hid (chkE p=12):=by show _=_;unfold chkE;rw [if_pos hneg]
  rcases root5 p.root with ⟨hr,hm⟩ | ⟨hr,hm⟩ | ⟨hr,hm⟩ | ⟨hr,hm⟩ | ⟨hm,h1,h2,h3,h4⟩
  case inr.inr.inr.inr =>
   have t1:=ne_beq h1
   have t2:=ne_beq h2
   have t3:=ne_beq h3
   have t4:=ne_beq h4
   clear hm h1 h2 h3 h4 hneg
   go_enter Tryz.func17,Tryz.ntmps17
   go_wp2
   go_ret
   exact ⟨ret_int HF.out.symm,HB0.out⟩
  all_goals omega
 have HF:Hid (chkE p=if p.n < 0 ∨ mostI p.root < p.n then 4 else if 2 < p.fs.length then 3 else if p.fs.all identB=true then 0 else 5):=by show _=_;unfold chkE;rw [if_neg hneg]
 go_enter Tryz.func17,Tryz.ntmps17
 go_upto_block 0 with (fail)
 go_cut [3] (fun s wx=>s = .int .i64 (mostI p.root)∧wx=w.alloc (.cells #[.int .i64 p.root,.int .i64 p.n,.slice a p.fs.length c,.bool p.star] 37))
 case first =>
  rcases root5 p.root with ⟨hr,hm⟩ | ⟨hr,hm⟩ | ⟨hr,hm⟩ | ⟨hr,hm⟩ | ⟨hm,_⟩
  case inr.inr.inr.inr=>omega
  all_goals
   have HM:=Lib.hid hm
   have t1:(p.root == 1)=(p.root == 1):=rfl
   have t2:(p.root == 2)=(p.root == 2):=rfl
   have t3:(p.root == 3)=(p.root == 3):=rfl
   have t4:(p.root == 4)=(p.root == 4):=rfl
   conv at t1=>rhs;rw [hr]
   conv at t2=>rhs;rw [hr]
   conv at t3=>rhs;rw [hr]
   conv at t4=>rhs;rw [hr]
   simp only [Int.reduceBEq] at t1 t2 t3 t4
   clear hr hm hneg
   go_wp2
   go_meet
   exact ⟨by rw [HM.out],rfl⟩
 case rest =>
  obtain ⟨rfl,rfl⟩:=hcut
  generalize mostI p.root=m at *
  by_cases hn:p.n < 0
  ·have t1:decide (p.n < 0)=true:=decide_eq_true hn
   rw [if_pos (.inl hn)] at HF
   clear hn hneg
   go_wp2
   go_ret
   exact ⟨ret_int HF.out.symm,HB0.out⟩
  have t1:decide (p.n < 0)=false:=decide_eq_false hn
  by_cases hn2:m < p.n
  ·have t2:decide (m < p.n)=true:=decide_eq_true hn2
   rw [if_pos (.inr hn2)] at HF
   clear hn hneg hn2
   go_wp2
   go_ret
   exact ⟨ret_int HF.out.symm,HB0.out⟩
  have t2:decide (m < p.n)=false:=decide_eq_false hn2
  rw [if_neg (by omega)] at HF
  clear hn hneg hn2
  by_cases hl:2 < p.fs.length
  ·have d1:decide (2 < (p.fs.length:Int))=true:=by simp;omega
   rw [if_pos hl] at HF
   clear hl
   go_wp2
   go_ret
   exact ⟨ret_int HF.out.symm,HB0.out⟩
  have d1:decide (2 < (p.fs.length:Int))=false:=by simp;omega
  rw [if_neg hl] at HF
  go_wp2
  go_loop [32] (fun i=>∃ k:Nat,k≤p.fs.length∧i = .int .i64 k∧Hid ((p.fs.take k).all identB=true)) (fun i=>p.fs.length - (intOf i).toNat)
  case atStart=>exact ⟨0,Nat.zero_le _,rfl,by show _=_;simp⟩
  case round =>
   obtain ⟨k,hk,rfl,HI⟩:=hrel
   by_cases hlt:k < p.fs.length
   ·obtain ⟨b,off,rfl,hcell⟩:=HS.out k hlt
    have HT:=Lib.hid (@all_take_succ p.fs identB k HI.out hlt)
    have HN:=Lib.hid (@all_not p.fs identB k hlt)
    generalize p.fs[k]=x at *
    cases hi:identB x
    ·go_wp2_with (go_at_call 40;refine (identP _ _ HK.out).mono ?_;rintro e w' ⟨rfl,rfl⟩)
     go_ret
     exact ⟨ret_int (by rw [HF.out,HN.out hi];rfl),HB0.out⟩
    ·go_wp2_with (go_at_call 40;refine (identP _ _ HK.out).mono ?_;rintro e w' ⟨rfl,rfl⟩)
     go_round
     case rel=>exact ⟨k + 1,by omega,by go_num,HT.out hi⟩
     case measure=>simp [intOf];omega
   ·obtain rfl:k=p.fs.length:=by omega
    have HA:=HI.out
    rw [List.take_length] at HA
    have HA2:=Lib.hid HA;clear HA
    go_wp2
    go_ret
    exact ⟨ret_int (by rw [HF.out,HA2.out];rfl),HB0.out⟩

set_option maxRecDepth 100000 in
set_option maxHeartbeats 1000000 in
theorem check41r (p:Pth) (a:Option Addr) (c:Nat) (w:World) (hs:StrsAt w a p.fs):Calls Tryz.prog 31 #[pV p a c] w (Ret w (.int .i64 (chkE p))):=by
 unfold pV
 have HB0:=Lib.hid (one_below w (.cells #[.int .i64 p.root,.int .i64 p.n,.slice a p.fs.length c,.bool p.star] 37))
 have HS:=Lib.hid (hs.below HB0.out);clear hs
 have HC:Hid (Blk (w.alloc (.cells #[.int .i64 p.root,.int .i64 p.n,.slice a p.fs.length c,.bool p.star] 37)) w.heap.size #[.int .i64 p.root,.int .i64 p.n,.slice a p.fs.length c,.bool p.star] 37):=blk_new ..
 by_cases hneg:mostI p.root < 0
 case pos =>
  have HF:Hid (chkE p=12):=by show _=_;unfold chkE;rw [if_pos hneg]
  rcases root5 p.root with ⟨hr,hm⟩ | ⟨hr,hm⟩ | ⟨hr,hm⟩ | ⟨hr,hm⟩ | ⟨hm,h1,h2,h3,h4⟩
  case inr.inr.inr.inr =>
   have t1:=ne_beq h1
   have t2:=ne_beq h2
   have t3:=ne_beq h3
   have t4:=ne_beq h4
   clear hm h1 h2 h3 h4 hneg
   go_enter Tryz.func31,Tryz.ntmps31
   go_wp2
   go_ret
   exact ⟨ret_int HF.out.symm,HB0.out⟩
  all_goals omega
 have HF:Hid (chkE p=if p.n < 0 ∨ mostI p.root < p.n then 4 else if 2 < p.fs.length then 3 else if p.fs.all identB=true then 0 else 5):=by show _=_;unfold chkE;rw [if_neg hneg]
 go_enter Tryz.func31,Tryz.ntmps31
 go_upto_block 0 with (fail)
 go_cut [3] (fun s wx=>s = .int .i64 (mostI p.root)∧wx=w.alloc (.cells #[.int .i64 p.root,.int .i64 p.n,.slice a p.fs.length c,.bool p.star] 37))
 case first =>
  rcases root5 p.root with ⟨hr,hm⟩ | ⟨hr,hm⟩ | ⟨hr,hm⟩ | ⟨hr,hm⟩ | ⟨hm,_⟩
  case inr.inr.inr.inr=>omega
  all_goals
   have HM:=Lib.hid hm
   have t1:(p.root == 1)=(p.root == 1):=rfl
   have t2:(p.root == 2)=(p.root == 2):=rfl
   have t3:(p.root == 3)=(p.root == 3):=rfl
   have t4:(p.root == 4)=(p.root == 4):=rfl
   conv at t1=>rhs;rw [hr]
   conv at t2=>rhs;rw [hr]
   conv at t3=>rhs;rw [hr]
   conv at t4=>rhs;rw [hr]
   simp only [Int.reduceBEq] at t1 t2 t3 t4
   clear hr hm hneg
   go_wp2
   go_meet
   exact ⟨by rw [HM.out],rfl⟩
 case rest =>
  obtain ⟨rfl,rfl⟩:=hcut
  generalize mostI p.root=m at *
  by_cases hn:p.n < 0
  ·have t1:decide (p.n < 0)=true:=decide_eq_true hn
   rw [if_pos (.inl hn)] at HF
   clear hn hneg
   go_wp2
   go_ret
   exact ⟨ret_int HF.out.symm,HB0.out⟩
  have t1:decide (p.n < 0)=false:=decide_eq_false hn
  by_cases hn2:m < p.n
  ·have t2:decide (m < p.n)=true:=decide_eq_true hn2
   rw [if_pos (.inr hn2)] at HF
   clear hn hneg hn2
   go_wp2
   go_ret
   exact ⟨ret_int HF.out.symm,HB0.out⟩
  have t2:decide (m < p.n)=false:=decide_eq_false hn2
  rw [if_neg (by omega)] at HF
  clear hn hneg hn2
  by_cases hl:2 < p.fs.length
  ·have d1:decide (2 < (p.fs.length:Int))=true:=by simp;omega
   rw [if_pos hl] at HF
   clear hl
   go_wp2
   go_ret
   exact ⟨ret_int HF.out.symm,HB0.out⟩
  have d1:decide (2 < (p.fs.length:Int))=false:=by simp;omega
  rw [if_neg hl] at HF
  go_wp2
  go_loopw [4] (fun i wr=>∃ k:Nat,k≤p.fs.length∧i = .int .i64 k∧Hid ((p.fs.take k).all identB=true)∧Below w.heap.size w wr∧StrsAt wr a p.fs∧Blk wr w.heap.size #[.int .i64 p.root,.int .i64 p.n,.slice a p.fs.length c,.bool p.star] 37) (fun i _=>p.fs.length - (intOf i).toNat)
  case atStart=>exact ⟨0,Nat.zero_le _,rfl,by show _=_;simp,HB0.out,HS.out,HC.out⟩
  case round =>
   clear HB0 HS HC
   obtain ⟨k,hk,rfl,HI,hb,hs,hc⟩:=hrel
   have HB:=Lib.hid hb;clear hb
   have HS:=Lib.hid hs;clear hs
   have HC:=Lib.hid hc;clear hc
   have c2:wr.cell? ⟨w.heap.size,2,none⟩=some (.slice a p.fs.length c):=HC.out.cell 2 (by simp)
   by_cases hlt:k < p.fs.length
   ·obtain ⟨b,off,rfl,hcell⟩:=HS.out k hlt
    have HT:=Lib.hid (@all_take_succ p.fs identB k HI.out hlt)
    have HN:=Lib.hid (@all_not p.fs identB k hlt)
    generalize p.fs[k]=x at *
    go_wp2_with fail
    refine (ident201 _ _).mono ?_
    rintro e w2 ⟨rfl,hb⟩
    have HB2:=Lib.hid (HB.out.trans (hb.mono HB.out.size))
    have HS2:=Lib.hid (HS.out.below hb)
    have HC2:=Lib.hid (HC.out.below hb)
    clear hb c2 hcell HB HS HC
    cases hi:identB x
    ·go_wp2
     go_ret
     exact ⟨ret_int (by rw [HF.out,HN.out hi];rfl),HB2.out⟩
    ·go_wp2
     go_roundw
     case rel=>exact ⟨k + 1,by omega,by go_num,HT.out hi,HB2.out,HS2.out,HC2.out⟩
     case measure=>simp [intOf];omega
   ·obtain rfl:k=p.fs.length:=by omega
    have HA:=HI.out
    rw [List.take_length] at HA
    have HA2:=Lib.hid HA;clear HA
    go_wp2
    go_ret
    exact ⟨ret_int (by rw [HF.out,HA2.out];rfl),HB.out⟩
end Go.Proofs.YtffcklfigpmlgaaGreatDoor
namespace Go.Proofs.YtffcklfigpmlgaaGreatDoor
open Go.RowKit Go.Unit0

theorem Blk.four {wr:World} {g:Nat} {v0 v1 v2 v3:Value} (h:Blk wr g #[v0,v1,v2,v3] 37):wr.cell? ⟨g,0,none⟩=some v0∧wr.cell? ⟨g,1,none⟩=some v1∧wr.cell? ⟨g,2,none⟩=some v2∧wr.cell? ⟨g,3,none⟩=some v3 :=
 ⟨h.cell 0 (by simp),h.cell 1 (by simp),h.cell 2 (by simp),h.cell 3 (by simp)⟩
theorem store24 {ops:Array Oper} {rest:List Oper} {o:Oper} {a:Act} {w:World} {Q:Exit→Act→World→Prop} (hgd:o.guard=none) (x y:Operand) (ho:o.op = .store 37 x y)
 (g:Nat) (r n:Int) (b:Option Addr) (k d:Nat) (s:Bool) (hx:a.eval x = .pointer (some ⟨g,0,none⟩)) (hy:a.eval y = .agg #[.int .i64 r,.int .i64 n,.slice b k d,.bool s])
 (old:Array Value) (hg:Blk w g old 37) (hold:old.size=4)
 (h:wpList Tryz.prog ops Q rest (a.put o.dst undef) (w.setRow g #[.int .i64 r,.int .i64 n,.slice b k d,.bool s])):wpList Tryz.prog ops Q (o :: rest) a w :=
 wpList_store_row hgd 37 x y ho g _ hx hy 37 old hg (by kernel_rfl) hold (by simp [Value.oneCell']) h
theorem wload24 {ops:Array Oper} {rest:List Oper} {o:Oper} {a:Act} {w:World} {Q:Exit→Act→World→Prop} (hgd:o.guard=none) (x:Operand) (ho:o.op = .load 37 x)
 (g:Nat) (cs:Array Value) (hx:a.eval x = .pointer (some ⟨g,0,none⟩)) (hg:Blk w g cs 37) (hc:cs.size=4)
 (h:wpList Tryz.prog ops Q rest (a.put o.dst (.agg cs)) w):wpList Tryz.prog ops Q (o :: rest) a w :=
 wpList_load_row hgd 37 x ho g hx 37 cs (0,0) _ hg Tryz.underlying37 rfl (by rw [hc];kernel_rfl) h
theorem results_c1 {P:Program} {fn:Func} {p:Tmp} {ty:TypeId} (h:fn.results = #[.cell p ty]) (tmps:Array Value) (w:World) (g:Nat) (cs:Array Value) (d:TypeDesc)
 (hp:tmps.getD p undef = .pointer (some ⟨g,0,none⟩)) (hg:Blk w g cs ty)
 (hu:P.underlying ty=some d) (hd:(match d with | .struct _ | .array _ _=>true | _=>false)=true) (hi:(P.info? ty).map (·.size)=some cs.size) :
 (results fn tmps).run P w = .ok (.agg cs) w:=by
 have hp':tmps[p]?.getD undef = .pointer (some ⟨g,0,none⟩):=by simpa using hp
 simp [results,h,hp',asAddr,run_loadVar_row w g ty ty cs (0,0) d hg hu hd hi]
theorem make22 (n:Nat) (hn:n≤1000) (u:World):(Instr.makeSlice 35 (.int .i64 (n:Int)) (.int .i64 ((n:Int) + 1))).run Tryz.prog u = .ok (.slice (some ⟨u.heap.size,0,none⟩) n (n + 1)) (u.alloc (.cells (List.replicate (n + 1) (Value.string ⟨#[]⟩)).toArray 9)):=by
 obtain ⟨i0,hi,hz0,hz1,hz2⟩:=info_parts info9
 have h:=run_make (P:=Tryz.prog) u 35 9 i0 (.string ⟨#[]⟩) Tryz.underlying35 hi hz0 .i64 .i64 (n:Int) ((n:Int) + 1) (by omega) (by omega) (by rw [hz2];omega) (by omega)
 rw [h,hz1]
 have e0:((n:Int) + 1).toNat=n + 1:=by omega
 have e:madeCells (Value.string ⟨#[]⟩).cells (((n:Int) + 1).toNat * 1)=(List.replicate (n + 1) (Value.string ⟨#[]⟩)).toArray:=by
  apply Array.ext'
  have:=toList_madeCells_one (Value.string ⟨#[]⟩) (n + 1)
  simp only [Value.cells,e0,Nat.mul_one]
  exact this
 rw [e,e0];simp
end Go.Proofs.YtffcklfigpmlgaaGreatDoor
namespace Go.Proofs.YtffcklfigpmlgaaGreatDoor
open Go.RowKit Go.Unit0

def sizeOk (f:ByteArray):Bool:=decide (f.size≤100)
def shortB (p:Pth):Bool:=decide (p.fs.length≤10) && p.fs.all sizeOk
theorem short_f1 {p:Pth} (h:10 < p.fs.length):shortB p=false:=by
 unfold shortB
 rw [decide_eq_false (by omega)];rfl
theorem short_t {p:Pth} (h:p.fs.length≤10) (h2:p.fs.all sizeOk=true):shortB p=true:=by
 unfold shortB
 rw [decide_eq_true h,h2];rfl
theorem short_f2 {p:Pth} (h:p.fs.all sizeOk=false):shortB p=false:=by
 unfold shortB
 rw [h,Bool.and_false]

set_option maxRecDepth 100000 in
set_option maxHeartbeats 1000000 in
theorem short8 (p:Pth) (a:Option Addr) (c:Nat) (w:World) (hs:StrsAt w a p.fs):Calls Tryz.prog 6 #[pV p a c] w (Ret w (.bool (shortB p))):=by
 unfold pV
 have HB0:=Lib.hid (one_below w (.cells #[.int .i64 p.root,.int .i64 p.n,.slice a p.fs.length c,.bool p.star] 37))
 have HS:=Lib.hid (hs.below HB0.out);clear hs
 by_cases hl:10 < p.fs.length
 ·have HF:=Lib.hid (short_f1 hl)
  have d1:decide (10 < (p.fs.length:Int))=true:=by simp;omega
  clear hl
  go_enter Tryz.func6,Tryz.ntmps6
  go_wp2
  go_ret
  exact ⟨ret_bool HF.out.symm,HB0.out⟩
 have d1:decide (10 < (p.fs.length:Int))=false:=by simp;omega
 have hl10:p.fs.length≤10:=by omega
 have HL:=Lib.hid hl10
 clear hl
 go_enter Tryz.func6,Tryz.ntmps6
 go_wp2
 go_loop [3] (fun i=>∃ k:Nat,k≤p.fs.length∧i = .int .i64 k∧Hid ((p.fs.take k).all sizeOk=true)) (fun i=>p.fs.length - (intOf i).toNat)
 case atStart=>exact ⟨0,Nat.zero_le _,rfl,by show _=_;simp⟩
 case round =>
  obtain ⟨k,hk,rfl,HI⟩:=hrel
  by_cases hlt:k < p.fs.length
  ·obtain ⟨b,off,rfl,hcell⟩:=HS.out k hlt
   have HT:=Lib.hid (@all_take_succ p.fs sizeOk k HI.out hlt)
   have HN:=Lib.hid (@all_not p.fs sizeOk k hlt)
   generalize p.fs[k]=x at *
   by_cases hx:100 < x.size
   ·have d2:decide (100 < (x.size:Int))=true:=by simp;omega
    have HX:Hid (sizeOk x=false):=by show _=_;unfold sizeOk;rw [decide_eq_false_iff_not];omega
    clear hx
    go_wp2
    go_ret
    exact ⟨ret_bool (short_f2 (HN.out HX.out)).symm,HB0.out⟩
   ·have d2:decide (100 < (x.size:Int))=false:=by simp;omega
    have HX:Hid (sizeOk x=true):=by show _=_;unfold sizeOk;rw [decide_eq_true_eq];omega
    clear hx
    go_wp2
    go_round
    case rel=>exact ⟨k + 1,by omega,by go_num,HT.out HX.out⟩
    case measure=>simp [intOf];omega
  ·obtain rfl:k=p.fs.length:=by omega
   have HA:Hid (p.fs.all sizeOk=true):=by have h:=HI.out;rw [List.take_length] at h;exact h
   go_wp2
   go_ret
   exact ⟨ret_bool (short_t HL.out HA.out).symm,HB0.out⟩

end Go.Proofs.YtffcklfigpmlgaaGreatDoor
