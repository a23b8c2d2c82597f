/-
  Names (ported from seat r4): letters, digits, keywords, identifiers of the reference.
  Memory: blocks, rows of one's own (ported from seat r4), and what a unit is in memory.
  The reference's hierarchies: Find, in, chain, Supers, IsSub, Type.
  The reference's hierarchies: chain, Supers, IsSub, Type.
-/
import Derived.Test.YtffcklfigpmlgaaGreatDoorProg
import Derived.WalkKit
import Derived.WalkSpells
import Derived.WalkLawsBesides
import Derived.BigQuiet
import Derived.Lib.Hide
import Derived.Test.YtffcklfigpmlgaaGreatDoorUA
import Derived.Deep.DeepCutAuto
import Derived.Deep.QuietTactic
import Derived.StillTailTactics
import Derived.Deep.CutBlock
import Derived.Outline
import Derived.Laws.Tables
import Derived.Laws.CopyOwn
import Derived.Laws.AppendOwnNone
namespace Go.Proofs.YtffcklfigpmlgaaGreatDoor
open Go.RowKit


theorem ret_int {k:IntKind} {a b:Int} (h:a=b):Ending.returned (.int k a) = .returned (.int k b):=by rw [h]
theorem ret_bool {a b:Bool} (h:a=b):Ending.returned (.bool a) = .returned (.bool b):=by rw [h]

def Same (w:World) (v:Value) (e:Ending) (w':World):Prop:=e = .returned v∧w=w'
def Ret (w:World) (v:Value) (e:Ending) (w':World):Prop:=e = .returned v∧Below w.heap.size w w'

def letterI (c:Int):Bool:=(decide (97≤c) && decide (c≤122)) || (decide (65≤c) && decide (c≤90))
def digitI (c:Int):Bool:=decide (48≤c) && decide (c≤57)
def partI (c:Int):Bool:=letterI c || digitI c || c == 95

set_option maxHeartbeats 400000 in
theorem letter247 (c:Int) (w:World):Calls Tryz.prog 117 #[.int .u8 c] w (Same w (.bool (letterI c))):=by
 go_enter Tryz.func117,Tryz.ntmps117
 go_wp2
 all_goals go_ret
 all_goals refine ⟨ret_bool ?_,rfl⟩
 all_goals simp [letterI, *]
 all_goals omega
set_option maxHeartbeats 400000 in
theorem digit278 (c:Int) (w:World):Calls Tryz.prog 201 #[.int .u8 c] w (Same w (.bool (digitI c))):=by
 go_enter Tryz.func201,Tryz.ntmps201
 go_wp2
 all_goals go_ret
 all_goals refine ⟨ret_bool ?_,rfl⟩
 all_goals simp [digitI, *]
 all_goals omega
set_option maxHeartbeats 400000 in
theorem part249 (c:Int) (w:World):Calls Tryz.prog 119 #[.int .u8 c] w (Same w (.bool (partI c))):=by
 cases hl:letterI c <;> cases hd:digitI c
 all_goals
  go_enter Tryz.func119,Tryz.ntmps119
  go_wp2_with (first | (go_at_call 117;refine (letter247 _ _).mono ?_;rintro e w' ⟨rfl,rfl⟩) | (go_at_call 201;refine (digit278 _ _).mono ?_;rintro e w' ⟨rfl,rfl⟩))
  go_ret
  refine ⟨ret_bool ?_,rfl⟩
  simp [partI,hl,hd]



def kws:List ByteArray:=[⟨#[99,108,97,115,115]⟩,⟨#[101,120,116,101,110,100,115]⟩,⟨#[118,97,114]⟩,⟨#[100,101,102]⟩,⟨#[115,116,97,116,105,99]⟩,⟨#[105,102]⟩,⟨#[101,108,115,101]⟩,⟨#[119,104,105,108,101]⟩,⟨#[116,114,121]⟩,⟨#[99,97,116,99,104]⟩,⟨#[116,104,114,111,119]⟩,⟨#[114,101,116,117,114,110]⟩,⟨#[110,101,119]⟩,⟨#[110,117,108,108]⟩,⟨#[116,104,105,115]⟩,⟨#[105,110,112,117,116]⟩,⟨#[105,110,116]⟩]
def kwArr:Array Value:=(kws.map Value.string).toArray
def kwB (s:ByteArray):Bool:=kws.any fun k=>k.toList == s.toList
def kwTo (s:ByteArray) (k:Nat):Bool:=(kws.take k).any fun x=>x.toList == s.toList
theorem kwTo_succ (s:ByteArray) (k:Nat) (h:k < 17):kwTo s (k + 1)=(kwTo s k || (kws.getD k ByteArray.empty).toList == s.toList):=by
 have h':k < kws.length:=h
 unfold kwTo
 rw [List.take_succ_eq_append_getElem h',List.any_append]
 simp [h']
theorem kwB_of {s:ByteArray} {k:Nat} (h:k < 17) (e:(kws.getD k ByteArray.empty).toList=s.toList):kwB s=true:=by
 have h':k < kws.length:=h
 unfold kwB
 rw [List.any_eq_true]
 refine ⟨kws[k],List.getElem_mem h',?_⟩
 simp [h'] at e
 simp [e]

theorem kw_block (w:World) (e:TypeId):∀ j,j < 17→(w.alloc (.cells kwArr e)).cell? ⟨w.heap.size,j,none⟩=some (.string (kws.getD j ByteArray.empty)):=by
 intro j hj
 have h':j < kws.length:=hj
 rw [cell_of_row _ _ _ kwArr e (0,0) (heap_alloc_new w _)]
 simp [kwArr,h']

set_option maxHeartbeats 400000 in
theorem keyword248 (s:ByteArray) (w:World):Calls Tryz.prog 118 #[.string s] w (Ret w (.bool (kwB s))):=by
 go_enter Tryz.func118,Tryz.ntmps118
 go_wp2
 go_loopw [4] (fun i wr=>∃ k:Nat,k≤17∧i = .int .i64 k∧Hid (kwTo s k=false)∧Below w.heap.size w wr∧Hid (∀ j,j < 17→wr.cell? ⟨w.heap.size,j,none⟩=some (.string (kws.getD j ByteArray.empty)))) (fun i _=>17 - (intOf i).toNat)
 case atStart=>exact ⟨0,Nat.zero_le _,rfl,rfl,(Below.refl _ _).alloc (Nat.le_refl _) _,kw_block w 9⟩
 case round =>
  obtain ⟨k,hk,rfl,HI,HB0,HC⟩:=hrel
  by_cases hlt:k < 17
  ·have hcell:=HC.out k hlt
   have HS:=Lib.hid (kwTo_succ s k hlt)
   have HB:=Lib.hid (@kwB_of s k hlt)
   generalize kws.getD k ByteArray.empty=x at *
   by_cases hq:x.toList=s.toList
   ·have hq1:(x.toList == s.toList)=true:=by simp [hq]
    go_wp2
    go_ret
    exact ⟨ret_bool (HB.out hq).symm,HB0⟩
   ·have hq1:(x.toList == s.toList)=false:=by simpa using hq
    go_wp2
    go_roundw
    case rel =>
     refine ⟨k+1,by omega,by go_num,?_,HB0,HC⟩
     have h1:=HS.out
     rw [HI.out] at h1
     show kwTo s (k + 1)=false
     rw [h1];simpa using hq
    case measure=>simp [intOf];omega
  ·go_wp2
   go_ret
   refine ⟨ret_bool ?_,HB0⟩
   obtain rfl:k=17:=by omega
   exact HI.out.symm

def partTo (s:ByteArray) (k:Nat):Prop:=∀ j (h:j < s.size),j < k→partI s[j].toNat=true
def identB (s:ByteArray):Bool:=decide (0 < s.size) && decide (s.size≤32) && letterI (s.data[0]?.getD 0).toNat && s.data.toList.all (fun c=>partI c.toNat) && !kwB s
theorem ident_f1 {s:ByteArray} (h:s.size=0):identB s=false:=by simp [identB,h]
theorem ident_f2 {s:ByteArray} (h:32 < s.size):identB s=false:=by
 have:¬ s.size≤32:=by omega
 simp [identB,this]
theorem byte0 {s:ByteArray} (h:0 < s.size):s.data[0]?.getD 0=s[0]:=by
 have h':0 < s.data.size:=h
 rw [Array.getElem?_eq_getElem h'];rfl
theorem ident_f3 {s:ByteArray} (h:0 < s.size) (hl:letterI s[0].toNat=false):identB s=false:=by
 unfold identB
 rw [byte0 h,hl]
 simp
theorem ident_f4 {s:ByteArray} {k:Nat} (h:k < s.size) (hl:partI s[k].toNat=false):identB s=false:=by
 have:(s.data.toList.all fun c=>partI c.toNat)=false:=by
  rw [List.all_eq_false]
  exact ⟨s[k],by simp [ByteArray.getElem_eq_getElem_data],by simp [hl]⟩
 simp [identB,this]
theorem ident_f5 {s:ByteArray} (h:kwB s=true):identB s=false:=by simp [identB,h]
theorem ident_t {s:ByteArray} (h:0 < s.size) (h2:s.size≤32) (hl:letterI s[0].toNat=true) (hp:partTo s s.size) (hk:kwB s=false):identB s=true:=by
 have:(s.data.toList.all fun c=>partI c.toNat)=true:=by
  rw [List.all_eq_true]
  intro c hc
  obtain ⟨j,hj,rfl⟩:=List.getElem_of_mem hc
  have hj':j < s.size:=by simpa using hj
  have:=hp j hj' hj'
  simpa [ByteArray.getElem_eq_getElem_data] using this
 unfold identB
 rw [byte0 h,hl,this,hk]
 simp [h,h2]
theorem nil_of_size {s:ByteArray} (h:s.size=0):s.toList = []:=by
 rw [ByteArray.toList_eq]
 apply List.eq_nil_of_length_eq_zero
 simpa using h
theorem ne_of_size {s:ByteArray} (h:¬ s.size=0):¬ s.toList = []:=by
 rw [ByteArray.toList_eq]
 intro e
 exact h (by simpa using congrArg List.length e)

set_option maxHeartbeats 400000 in
theorem ident201 (s:ByteArray) (w:World):Calls Tryz.prog 62 #[.string s] w (Ret w (.bool (identB s))):=by
 by_cases h0:s.size=0
 ·have H:=Lib.hid (ident_f1 h0)
  have e:=nil_of_size h0
  go_enter Tryz.func62,Tryz.ntmps62
  go_wp2
  go_ret
  exact ⟨ret_bool H.out.symm,Below.refl _ _⟩
 have e:=ne_of_size h0
 have e2:s.toList.isEmpty=false:=by cases h:s.toList <;> simp_all
 by_cases h32:32 < s.size
 ·have H:=Lib.hid (ident_f2 h32)
  go_enter Tryz.func62,Tryz.ntmps62
  go_wp2
  go_ret
  exact ⟨ret_bool H.out.symm,Below.refl _ _⟩
 have hp:0 < s.size:=by omega
 cases hl:letterI s[0].toNat
 ·have H:=Lib.hid (ident_f3 hp hl)
  go_enter Tryz.func62,Tryz.ntmps62
  go_wp2_with (go_at_call 117;refine (letter247 _ _).mono ?_;rintro e w' ⟨rfl,rfl⟩)
  go_ret
  exact ⟨ret_bool H.out.symm,Below.refl _ _⟩
 have HL:=Lib.hid hl
 cases hkw:kwB s
 case true =>
  go_enter Tryz.func62,Tryz.ntmps62
  go_wp2_with (first | (go_at_call 117;refine (letter247 _ _).mono ?_;rintro e w' ⟨rfl,rfl⟩))
  refine (keyword248 _ _).mono ?_
  rintro e w' ⟨rfl,hb⟩
  have HB:=Lib.hid hb;clear hb
  go_wp2
  go_ret
  exact ⟨ret_bool (ident_f5 hkw).symm,HB.out⟩
 case false =>
  go_enter Tryz.func62,Tryz.ntmps62
  go_wp2_with (first | (go_at_call 117;refine (letter247 _ _).mono ?_;rintro e w' ⟨rfl,rfl⟩))
  refine (keyword248 _ _).mono ?_
  rintro e w' ⟨rfl,hb⟩
  have HB:=Lib.hid hb;clear hb
  go_wp2
  go_loop [3] (fun i=>∃ k:Nat,k≤s.size∧i = .int .i64 k∧Hid (partTo s k)) (fun i=>s.size - (intOf i).toNat)
  case atStart=>exact ⟨0,Nat.zero_le _,rfl,fun j h hj=>absurd hj (by omega)⟩
  case round =>
   obtain ⟨k,hk,rfl,HI⟩:=hrel
   by_cases hlt:k < s.size
   ·cases hp1:partI s[k].toNat
    ·go_wp2_with (go_at_call 119;refine (part249 _ _).mono ?_;rintro e w' ⟨rfl,rfl⟩)
     go_ret
     exact ⟨ret_bool (ident_f4 hlt hp1).symm,HB.out⟩
    ·go_wp2_with (go_at_call 119;refine (part249 _ _).mono ?_;rintro e w' ⟨rfl,rfl⟩)
     go_round
     case rel =>
      refine ⟨k+1,by omega,by go_num,fun j h hj=>?_⟩
      by_cases e:j=k
      ·subst e;exact hp1
      ·exact HI.out j h (by omega)
     case measure=>simp [intOf];omega
   ·go_wp2
    go_ret
    obtain rfl:k=s.size:=by omega
    exact ⟨ret_bool (ident_t hp (by omega) HL.out HI.out hkw).symm,HB.out⟩


end Go.Proofs.YtffcklfigpmlgaaGreatDoor
namespace Go.Proofs.YtffcklfigpmlgaaGreatDoor
open Go.RowKit Go.Unit0

open Go.RowKit

def StrsAt (w:World) (a:Option Addr) (l:List ByteArray):Prop :=
 ∀ k (h:k < l.length),∃ b off,a=some ⟨b,off,none⟩∧w.cell? ⟨b,off + k,none⟩=some (.string l[k])
theorem cell_below {w w':World} (hb:Below w.heap.size w w') {a:Addr} {v:Value} (h:w.cell? a=some v):w'.cell? a=some v:=by
 rw [hb.cell (World.block_lt_of_cell? w a h)];exact h
theorem StrsAt.below {w w':World} {a:Option Addr} {l:List ByteArray} (h:StrsAt w a l) (hb:Below w.heap.size w w'):StrsAt w' a l:=by
 intro k hk
 obtain ⟨b,off,ha,hc⟩:=h k hk
 exact ⟨b,off,ha,cell_below hb hc⟩
def Blk (W:World) (g:Nat) (cs:Array Value) (t:TypeId):Prop:=W.heap[g]? = some (.cells cs t (0,0))
theorem Blk.cell {W:World} {g:Nat} {cs:Array Value} {t:TypeId} (h:Blk W g cs t) (i:Nat) (hi:i < cs.size):W.cell? ⟨g,i,none⟩=some cs[i]:=by
 rw [cell_of_row _ _ _ _ _ _ h];simp [hi]
theorem Blk.free {W:World} {g:Nat} {cs:Array Value} {t:TypeId} (h:Blk W g cs t) (i:Nat):W.frozen? ⟨g,i,none⟩=false:=by
 unfold Blk at h;unfold World.frozen?;rw [h];simp
theorem Blk.lt {W:World} {g:Nat} {cs:Array Value} {t:TypeId} (h:Blk W g cs t):g < W.heap.size:=(Array.getElem?_eq_some_iff.1 h).1
theorem Blk.below {W W':World} {g:Nat} {cs:Array Value} {t:TypeId} (h:Blk W g cs t) (hb:Below W.heap.size W W'):Blk W' g cs t:=by
 unfold Blk;rw [hb.block g h.lt];exact h
theorem Blk.grown {W W':World} {g:Nat} {cs:Array Value} {t:TypeId} {row:Option Nat} (h:Blk W g cs t) (hg:W.grownBy W' row) (hne:some g ≠ row):Blk W' g cs t:=by
 unfold Blk;rw [hg.block g h.lt hne];exact h
theorem Blk.setRow {W:World} {g:Nat} {cs:Array Value} {t:TypeId} (h:Blk W g cs t) (cs':Array Value):Blk (W.setRow g cs') g cs' t:=setRow_heap W g cs cs' t (0,0) h
theorem Blk.setRow_ne {W:World} {g g':Nat} {cs:Array Value} {t:TypeId} (h:Blk W g cs t) (hne:g ≠ g') (cs':Array Value):Blk (W.setRow g' cs') g cs t:=by
 unfold Blk;rw [setRow_other W g' g cs' hne];exact h
theorem Blk.set {W:World} {g:Nat} {cs:Array Value} {t:TypeId} (h:Blk W g cs t) (i:Nat) (v:Value):Blk (W.setCell ⟨g,i,none⟩ v) g (cs.setIfInBounds i v) t:=by
 unfold Blk at *
 simp only [World.setCell,Array.getElem?_modify,if_true,h,Option.map_some,Option.isSome_none]
 congr 2
theorem Blk.other {W:World} {g:Nat} {cs:Array Value} {t:TypeId} (h:Blk W g cs t) {g':Nat} (hne:g' ≠ g) (i:Nat) (v:Value):Blk (W.setCell ⟨g',i,none⟩ v) g cs t:=by
 unfold Blk at *
 simp only [World.setCell,Array.getElem?_modify]
 rw [if_neg hne];exact h
theorem blk_new (w:World) (cs:Array Value) (t:TypeId):Blk (w.alloc (.cells cs t)) w.heap.size cs t:=heap_alloc_new w _
theorem blk_new2 (w:World) (cs:Array Value) (t:TypeId) (o1:Obj):Blk ((w.alloc o1).alloc (.cells cs t)) (w.heap.size + 1) cs t:=by
 have:=blk_new (w.alloc o1) cs t
 simpa using this
theorem one_below (w:World) (o1:Obj):Below w.heap.size w (w.alloc o1):=(Below.refl _ _).alloc (Nat.le_refl _) _
theorem two_below (w:World) (o1 o2:Obj):Below w.heap.size w ((w.alloc o1).alloc o2):=(one_below ..).alloc (by simp) _
theorem three_below (w:World) (o1 o2 o3:Obj):Below w.heap.size w (((w.alloc o1).alloc o2).alloc o3):=(two_below ..).alloc (by simp;omega) _
theorem below_drewN' {B:Nat} {a w:World} (h:Below B a w):∀ n,Below B a (w.drewN n)
 | 0=>h
 | n + 1=>by
   have:=below_drewN' h n
   exact ⟨this.os,this.tape,this.output,this.size,this.block⟩
theorem ne_beq {a b:Int} (h:a ≠ b):(a == b)=false:=by simpa using h
theorem addr_add (b off k:Nat):(⟨b,off,none⟩:Addr).add k=⟨b,off + k,none⟩:=by unfold Addr.add;split <;> simp_all
theorem owns_strs {w:World} {base:Nat} {v:Value} {l:List ByteArray} {n:Nat} (h:w.ownsRow base 9 1 v n (l.map Value.string)):n=l.length∧∃ a cap,v = .slice a n cap∧n≤cap∧StrsAt w a l:=by
 have hl:n=l.length:=by have:=h.1;simp at this;omega
 refine ⟨hl,?_⟩
 rcases h.2 with ⟨rfl,h0⟩ | ⟨g,cap,cur,rfl,hb,hh,hn,_,hsz,ht⟩
 ·exact ⟨none,0,by rw [h0],by omega,fun k hk=>by omega⟩
 ·refine ⟨_,_,rfl,hn,fun k hk=>⟨g,0,rfl,?_⟩⟩
  have c:=h.cells (g:=g) rfl k (.string l[k]) (by simp [hk])
  rw [addr_add] at c
  exact c
theorem info9:(Tryz.prog.info? 9).map (fun i=>(i.zero,i.size,i.bytes))=some (some (.string ⟨#[]⟩),1,16):=by kernel_rfl
open Go.RowKit

theorem owns_ne {w:World} {base:Nat} {e:TypeId} {s n:Nat} {v:Value} {xs:List Value} (h:w.ownsRow base e s v n xs) {g:Nat} {cs:Array Value} {t:TypeId} {fr:Nat × Nat} (hg:w.heap[g]? = some (.cells cs t fr)) (hne:t ≠ e):some g ≠ v.ownBlock:=by
 rcases h.2 with ⟨rfl,_⟩ | ⟨g',cap,cur,rfl,_,hh,_⟩
 ·simp [Value.ownBlock]
 ·simp only [Value.ownBlock,ne_eq,Option.some.injEq]
  rintro rfl
  rw [hg] at hh
  simp only [Option.some.injEq,Obj.cells.injEq] at hh
  exact hne hh.2.1
theorem grown_row (w:World) (g:Nat) (cs:Array Value):w.grownBy (w.setRow g cs) (some g) :=
 ⟨rfl,rfl,rfl,by simp,fun k _ hne=>setRow_other w g k cs (fun e=>hne (by rw [e]))⟩
theorem grown_set (w:World) (g i:Nat) (v:Value):w.grownBy (w.setCell ⟨g,i,none⟩ v) (some g):=by
 refine ⟨rfl,rfl,rfl,by simp [World.setCell],fun k hk hne=>?_⟩
 simp only [World.setCell,Array.getElem?_modify]
 rw [if_neg (fun e=>hne (by rw [e]))]
theorem app_str {ops:Array Oper} {rest:List Oper} {o:Oper} {a:Act} {Q:Exit→Act→World→Prop} {w:World} (hgd:o.guard=none) (s x:Operand)
 (ho:o.op = .call { callee:=.builtin .append,args:=#[s,x],argTypes:=#[35,35] })
 (base:Nat) (v:Value) (l:List ByteArray) (hs:a.eval s=v) (hown:w.ownsRow base 9 1 v l.length (l.map Value.string))
 (g:Nat) (y:ByteArray) (hx:a.eval x = .slice (some ⟨g,0,none⟩) 1 1) (hg:Blk w g #[.string y] 9)
 (hn:l.length≤1000000) (hbase:base≤w.heap.size)
 (h:∀ v' w',w'.ownsRow base 9 1 v' (l ++ [y]).length ((l ++ [y]).map Value.string)→w.grownBy w' v.ownBlock→wpList Tryz.prog ops Q rest (a.put o.dst v') w'):wpList Tryz.prog ops Q (o :: rest) a w:=by
 obtain ⟨i0,hi,hz0,hz1,hz2⟩:=info_parts info9
 refine wpList_append_own w hgd s x 35 ho base 9 i0 (.string ⟨#[]⟩) 1 16 Tryz.underlying35 hi hz0 hz1 hz2 rfl (by decide) v l.length (l.map Value.string) hs hown ⟨g,0,none⟩ 1 1 [.string y] hx rfl ?_ (by intro u hu;rw [List.mem_singleton.1 hu];rfl) (by unfold maxLen;omega) (by omega) hbase ?_
 ·intro j u hu
  rw [addr_add,Nat.zero_add,cell_of_row _ _ _ _ _ _ hg]
  simpa using hu
 ·intro v' w' h1 h2 _
  refine h v' w' ?_ h2
  rw [List.map_append,List.length_append]
  exact h1
def Fr (b:Option Addr) (n:Nat):Prop:=∀ g o,b=some ⟨g,o,none⟩→n≤g
theorem owns_strs' {w:World} {base n d:Nat} {b:Option Addr} {l:List ByteArray} (h:w.ownsRow base 9 1 (.slice b n d) n (l.map Value.string)):n≤d∧StrsAt w b l:=by
 obtain ⟨_,a,cap,he,h1,h2⟩:=owns_strs h
 cases he
 exact ⟨h1,h2⟩
theorem owns_fr {w:World} {base n d m:Nat} {b:Option Addr} {xs:List Value} (h:w.ownsRow base 9 1 (.slice b n d) n xs) (hm:m≤base):Fr b m:=by
 intro g o e
 subst e
 have:=(h.lt g rfl).1
 omega
theorem owns_below {w w':World} {base e s n:Nat} {v:Value} {xs:List Value} (h:w.ownsRow base e s v n xs) (hb:Below w.heap.size w w'):w'.ownsRow base e s v n xs :=
 h.kept ⟨hb.os,hb.tape,hb.output,hb.size,fun k hk _=>hb.block k hk⟩ (row:=none) (by cases hv:Value.ownBlock _ <;> simp)
open Go.RowKit

def FldsAt (w:World) (a:Option Addr) (l:List Fld):Prop :=
 ∀ k (h:k < l.length),∃ b off,a=some ⟨b,off,none⟩∧w.cell? ⟨b,off + k * 2,none⟩=some (.string l[k].name)∧w.cell? ⟨b,off + k * 2 + 1,none⟩=some (.string l[k].type)
theorem FldsAt.below {w w':World} {a:Option Addr} {l:List Fld} (h:FldsAt w a l) (hb:Below w.heap.size w w'):FldsAt w' a l:=by
 intro k hk
 obtain ⟨b,off,ha,h0,h1⟩:=h k hk
 exact ⟨b,off,ha,cell_below hb h0,cell_below hb h1⟩
def SgnsAt (w:World) (a:Option Addr) (l:List Sgn):Prop :=
 ∀ k (h:k < l.length),∃ b off pa pc,a=some ⟨b,off,none⟩∧w.cell? ⟨b,off + k * 4,none⟩=some (.string l[k].name)∧w.cell? ⟨b,off + k * 4 + 1,none⟩=some (.bool l[k].stat)∧w.cell? ⟨b,off + k * 4 + 2,none⟩=some (.slice pa l[k].params.length pc)∧w.cell? ⟨b,off + k * 4 + 3,none⟩=some (.string l[k].result)∧StrsAt w pa l[k].params
theorem SgnsAt.below {w w':World} {a:Option Addr} {l:List Sgn} (h:SgnsAt w a l) (hb:Below w.heap.size w w'):SgnsAt w' a l:=by
 intro k hk
 obtain ⟨b,off,pa,pc,ha,h0,h1,h2,h3,h4⟩:=h k hk
 exact ⟨b,off,pa,pc,ha,cell_below hb h0,cell_below hb h1,cell_below hb h2,cell_below hb h3,h4.below hb⟩
def ClssAt (w:World) (a:Option Addr) (l:List Cls):Prop :=
 ∀ k (h:k < l.length),∃ b off fa fc ma mc,a=some ⟨b,off,none⟩∧w.cell? ⟨b,off + k * 4,none⟩=some (.string l[k].name)∧w.cell? ⟨b,off + k * 4 + 1,none⟩=some (.string l[k].super)∧w.cell? ⟨b,off + k * 4 + 2,none⟩=some (.slice fa l[k].fields.length fc)∧w.cell? ⟨b,off + k * 4 + 3,none⟩=some (.slice ma l[k].methods.length mc)∧FldsAt w fa l[k].fields∧SgnsAt w ma l[k].methods
theorem ClssAt.below {w w':World} {a:Option Addr} {l:List Cls} (h:ClssAt w a l) (hb:Below w.heap.size w w'):ClssAt w' a l:=by
 intro k hk
 obtain ⟨b,off,fa,fc,ma,mc,ha,h0,h1,h2,h3,h4,h5⟩:=h k hk
 exact ⟨b,off,fa,fc,ma,mc,ha,cell_below hb h0,cell_below hb h1,cell_below hb h2,cell_below hb h3,h4.below hb,h5.below hb⟩
def SgnAt (w:World) (a:Option Addr) (h:List Cls) (g:Sgn) (pa:Option Addr):Prop :=
 ∃ i,∃ (hi:i < h.length),∃ q,∃ (hq:q < h[i].methods.length),∃ b off ma n mc b2 off2 pc,a=some ⟨b,off,none⟩∧w.cell? ⟨b,off + i * 4 + 3,none⟩=some (.slice ma n mc)∧ma=some ⟨b2,off2,none⟩∧w.cell? ⟨b2,off2 + q * 4 + 2,none⟩=some (.slice pa g.params.length pc)∧g=h[i].methods[q]
theorem SgnAt.strs {w W:World} {a:Option Addr} {h:List Cls} {g:Sgn} {pa:Option Addr} (k:SgnAt W a h g pa) (hb:Below w.heap.size w W) (hc:ClssAt w a h):StrsAt w pa g.params:=by
 obtain ⟨i,hi,q,hq,b,off,ma,n,mc,b2,off2,pc,rfl,h1,rfl,h2,rfl⟩:=k
 obtain ⟨b',off',fa',fc',ma',mc',he,-,-,-,m3,-,hs⟩:=hc i hi
 cases he
 have e1:=cell_below hb m3
 rw [h1] at e1
 simp only [Option.some.injEq,Value.slice.injEq] at e1
 obtain ⟨e1,-,-⟩:=e1
 subst e1
 obtain ⟨b',off',pa',pc',he,-,-,n2,-,hst⟩:=hs q hq
 cases he
 have e2:=cell_below hb n2
 rw [h2] at e2
 simp only [Option.some.injEq,Value.slice.injEq] at e2
 obtain ⟨rfl,-,-⟩:=e2
 exact hst
def SgsIn (w:World) (a:Option Addr) (j:Nat) (l:List Sgn) (ma:Option Addr):Prop :=
 SgnsAt w ma l∧∃ b off n mc,a=some ⟨b,off,none⟩∧w.cell? ⟨b,off + j * 4 + 3,none⟩=some (.slice ma n mc)
theorem SgsIn.at {w:World} {a:Option Addr} {h:List Cls} {j:Nat} {ma:Option Addr} (hj:j < h.length) (k:SgsIn w a j h[j].methods ma) {q:Nat} (hq:q < h[j].methods.length) {b off:Nat} {pa:Option Addr} {n pc:Nat} (e:ma=some ⟨b,off,none⟩) (hp:w.cell? ⟨b,off + q * 4 + 2,none⟩=some (.slice pa n pc)):SgnAt w a h h[j].methods[q] pa:=by
 obtain ⟨hs,b1,off1,n1,mc1,e1,h1⟩:=k
 subst e
 obtain ⟨b',off',pa',pc',he,-,-,n2,-⟩:=hs q hq
 cases he
 have e2:=n2
 rw [hp] at e2
 simp only [Option.some.injEq,Value.slice.injEq] at e2
 obtain ⟨rfl,rfl,rfl⟩:=e2
 exact ⟨j,hj,q,hq,b1,off1,_,n1,mc1,b,off,_,e1,h1,rfl,hp,rfl⟩
def IntsAt (w:World) (a:Option Addr) (l:List Int):Prop :=
 ∀ k (h:k < l.length),∃ b off,a=some ⟨b,off,none⟩∧w.cell? ⟨b,off + k,none⟩=some (.int .i64 l[k])
theorem IntsAt.below {w w':World} {a:Option Addr} {l:List Int} (h:IntsAt w a l) (hb:Below w.heap.size w w'):IntsAt w' a l:=by
 intro k hk
 obtain ⟨b,off,ha,h0⟩:=h k hk
 exact ⟨b,off,ha,cell_below hb h0⟩
def InssAt (w:World) (a:Option Addr) (l:List Ins):Prop :=
 ∀ k (h:k < l.length),∃ b off ga gc,a=some ⟨b,off,none⟩∧w.cell? ⟨b,off + k * 10,none⟩=some (.int .i64 l[k].op)∧w.cell? ⟨b,off + k * 10 + 1,none⟩=some (.int .i64 l[k].dst)∧w.cell? ⟨b,off + k * 10 + 2,none⟩=some (.int .i64 l[k].a)∧w.cell? ⟨b,off + k * 10 + 3,none⟩=some (.int .i64 l[k].b)∧w.cell? ⟨b,off + k * 10 + 4,none⟩=some (.int .i64 l[k].n)∧w.cell? ⟨b,off + k * 10 + 5,none⟩=some (.string l[k].cls)∧w.cell? ⟨b,off + k * 10 + 6,none⟩=some (.string l[k].name)∧w.cell? ⟨b,off + k * 10 + 7,none⟩=some (.slice ga l[k].args.length gc)∧w.cell? ⟨b,off + k * 10 + 8,none⟩=some (.int .i64 l[k].goto)∧w.cell? ⟨b,off + k * 10 + 9,none⟩=some (.int .i64 l[k].catch_)∧IntsAt w ga l[k].args
theorem InssAt.below {w w':World} {a:Option Addr} {l:List Ins} (h:InssAt w a l) (hb:Below w.heap.size w w'):InssAt w' a l:=by
 intro k hk
 obtain ⟨b,off,ga,gc,ha,h0,h1,h2,h3,h4,h5,h6,h7,h8,h9,h10⟩:=h k hk
 exact ⟨b,off,ga,gc,ha,cell_below hb h0,cell_below hb h1,cell_below hb h2,cell_below hb h3,cell_below hb h4,cell_below hb h5,cell_below hb h6,cell_below hb h7,cell_below hb h8,cell_below hb h9,h10.below hb⟩
def FncsAt (w:World) (a:Option Addr) (l:List Fnc):Prop :=
 ∀ k (h:k < l.length),∃ b off va vc ca cc,a=some ⟨b,off,none⟩∧w.cell? ⟨b,off + k * 7,none⟩=some (.string l[k].cls)∧w.cell? ⟨b,off + k * 7 + 1,none⟩=some (.string l[k].name)∧w.cell? ⟨b,off + k * 7 + 2,none⟩=some (.bool l[k].stat)∧w.cell? ⟨b,off + k * 7 + 3,none⟩=some (.int .i64 l[k].params)∧w.cell? ⟨b,off + k * 7 + 4,none⟩=some (.slice va l[k].vars.length vc)∧w.cell? ⟨b,off + k * 7 + 5,none⟩=some (.string l[k].result)∧w.cell? ⟨b,off + k * 7 + 6,none⟩=some (.slice ca l[k].code.length cc)∧FldsAt w va l[k].vars∧InssAt w ca l[k].code
theorem FncsAt.below {w w':World} {a:Option Addr} {l:List Fnc} (h:FncsAt w a l) (hb:Below w.heap.size w w'):FncsAt w' a l:=by
 intro k hk
 obtain ⟨b,off,va,vc,ca,cc,ha,h0,h1,h2,h3,h4,h5,h6,h7,h8⟩:=h k hk
 exact ⟨b,off,va,vc,ca,cc,ha,cell_below hb h0,cell_below hb h1,cell_below hb h2,cell_below hb h3,cell_below hb h4,cell_below hb h5,cell_below hb h6,h7.below hb,h8.below hb⟩
end Go.Proofs.YtffcklfigpmlgaaGreatDoor
namespace Go.Proofs.YtffcklfigpmlgaaGreatDoor
open Go.RowKit Go.Unit0

def hV (a:Option Addr) (h:List Cls) (c:Nat):Value:=.agg #[.slice a h.length c]
theorem find_hit {s:Str} {h:List Cls} {k:Nat} (hk:k < h.length) (e:(h[k].name.toList == s.toList)=true):findFrom s (h.drop k) k=k:=by
 rw [List.drop_eq_getElem_cons hk];show (if eqB _ _=true then (k:Int) else _)=_;rw [if_pos (show eqB _ _=true from e)]
theorem find_miss {s:Str} {h:List Cls} {k:Nat} (hk:k < h.length) (e:(h[k].name.toList == s.toList)=false):findFrom s (h.drop k) k=findFrom s (h.drop (k + 1)) (k + 1):=by
 rw [List.drop_eq_getElem_cons hk];show (if eqB _ _=true then (k:Int) else _)=_;rw [if_neg (by unfold eqB;simp [e])]
theorem find_end {s:Str} {h:List Cls} {k:Nat} (hk:h.length≤k):findFrom s (h.drop k) k = -1:=by
 rw [List.drop_of_length_le hk];rfl
set_option maxHeartbeats 1000000 in
theorem find184 (h:List Cls) (s:Str) (a:Option Addr) (c:Nat) (w:World) (hc:ClssAt w a h) (hl:h.length≤1000000) :
 Calls Tryz.prog 122 #[.agg #[.slice a h.length c],.string s] w (Ret w (.int .i64 (findI h s))):=by
 have HB:=Lib.hid (one_below w (.cells #[.slice a h.length c] 24))
 have HC:=Lib.hid (hc.below HB.out);clear hc
 go_enter Tryz.func122,Tryz.ntmps122
 go_wp2
 go_loop [5] (fun i=>∃ k:Nat,k≤h.length∧i = .int .i64 k∧Hid (findFrom s (h.drop k) k=findI h s)) (fun i=>h.length - (intOf i).toNat)
 case atStart=>exact ⟨0,Nat.zero_le _,rfl,rfl⟩
 case round =>
  obtain ⟨k,hk,rfl,HI⟩:=hrel
  by_cases hlt:k < h.length
  ·obtain ⟨b,off,fa,fc,ma,mc,rfl,m0,m1,m2,m3,_,_⟩:=HC.out k hlt
   have HT:=Lib.hid (@find_hit s h k hlt)
   have HM:=Lib.hid (@find_miss s h k hlt)
   generalize h[k]=x at *
   cases hq:(x.name.toList == s.toList)
   ·have HN:=Lib.hid (HM.out hq)
    go_wp2
    go_round
    case rel=>exact ⟨k+1,by omega,by go_num,by show _=_;rw [← HN.out];exact HI.out⟩
    case measure=>simp [intOf];omega
   ·have HN:=Lib.hid (HT.out hq)
    go_wp2
    go_ret
    exact ⟨ret_int (by rw [← HI.out,HN.out]),HB.out⟩
  ·have HN:=Lib.hid (@find_end s h k (by omega))
   go_wp2
   go_ret
   exact ⟨ret_int (by rw [← HI.out,HN.out]),HB.out⟩
theorem in_hit {s:Str} {l:List Str} {k:Nat} (hk:k < l.length) (e:(l[k].toList == s.toList)=true):inL (l.drop k) s=true:=by
 rw [List.drop_eq_getElem_cons hk];unfold inL eqB;rw [List.any_cons,e,Bool.true_or]
theorem in_miss {s:Str} {l:List Str} {k:Nat} (hk:k < l.length) (e:(l[k].toList == s.toList)=false):inL (l.drop k) s=inL (l.drop (k + 1)) s:=by
 rw [List.drop_eq_getElem_cons hk];unfold inL eqB;rw [List.any_cons,e,Bool.false_or]
theorem in_end {s:Str} {l:List Str} {k:Nat} (hk:l.length≤k):inL (l.drop k) s=false:=by
 rw [List.drop_of_length_le hk];rfl
set_option maxHeartbeats 1000000 in
theorem in131 (l:List Str) (s:Str) (a:Option Addr) (c:Nat) (w:World) (hc:StrsAt w a l) (hl:l.length≤1000000) :
 Calls Tryz.prog 292 #[.slice a l.length c,.string s] w (Same w (.bool (inL l s))):=by
 have HC:=Lib.hid hc;clear hc
 go_enter Tryz.func292,Tryz.ntmps292
 go_wp2
 go_loop [5] (fun i=>∃ k:Nat,k≤l.length∧i = .int .i64 k∧Hid (inL (l.drop k) s=inL l s)) (fun i=>l.length - (intOf i).toNat)
 case atStart=>exact ⟨0,Nat.zero_le _,rfl,rfl⟩
 case round =>
  obtain ⟨k,hk,rfl,HI⟩:=hrel
  by_cases hlt:k < l.length
  ·obtain ⟨b,off,rfl,m0⟩:=HC.out k hlt
   have HT:=Lib.hid (@in_hit s l k hlt)
   have HM:=Lib.hid (@in_miss s l k hlt)
   generalize l[k]=x at *
   cases hq:(x.toList == s.toList)
   ·have HN:=Lib.hid (HM.out hq)
    go_wp2
    go_round
    case rel=>exact ⟨k+1,by omega,by go_num,by show _=_;rw [← HN.out];exact HI.out⟩
    case measure=>simp [intOf];omega
   ·have HN:=Lib.hid (HT.out hq)
    go_wp2
    go_ret
    exact ⟨ret_bool (by rw [← HI.out,HN.out]),rfl⟩
  ·have HN:=Lib.hid (@in_end s l k (by omega))
   go_wp2
   go_ret
   exact ⟨ret_bool (by rw [← HI.out,HN.out]),rfl⟩
end Go.Proofs.YtffcklfigpmlgaaGreatDoor
namespace Go.Proofs.YtffcklfigpmlgaaGreatDoor
open Go.RowKit Go.Unit0

theorem owns_set1 {w:World} {base e s n:Nat} {v:Value} {xs:List Value} (h:w.ownsRow base e s v n xs) (o:Obj):(w.alloc o).ownsRow base e s v n xs:=owns_below h (one_below ..)
theorem owns_mono {w:World} {base m e s n:Nat} {v:Value} {xs:List Value} (h:w.ownsRow base e s v n xs) (hm:m≤base):w.ownsRow m e s v n xs:=by
 refine ⟨h.1,?_⟩
 rcases h.2 with h2 | ⟨g,cap,cur,e,hb,h3⟩
 ·exact .inl h2
 ·exact .inr ⟨g,cap,cur,e,Nat.le_trans hm hb,h3⟩
def slLen:Value→Nat
 | .slice _ n _=>n
 | _=>0
structure CRel (h:List Cls) (s0:Str) (a:Option Addr) (c:Nat) (w wr:World) (n:Nat) (s:Str) (out:List Str) (v:Value):Prop where
 hb:Below w.heap.size w wr
 bx:Blk wr w.heap.size #[.slice a h.length c] 24
 ow:wr.ownsRow w.heap.size 9 1 v out.length (out.map Value.string)
 ch:Chn h out
 ln:n + out.length=h.length + 1
 eq:chainF h n s out=chainP h s0
def ChainPost (h:List Cls) (s:Str) (w:World) (e:Ending) (w':World):Prop :=
 Below w.heap.size w w'∧∃ v,e = .returned (.tuple #[v,.bool (chainP h s).2])∧w'.ownsRow w.heap.size 9 1 v (supers h s).length ((supers h s).map Value.string)
set_option maxRecDepth 100000 in
set_option maxHeartbeats 4000000 in
theorem chain195 (h:List Cls) (s:Str) (a:Option Addr) (c:Nat) (w:World) (hc:ClssAt w a h) (hl:h.length≤100000) :
 Calls Tryz.prog 202 #[.agg #[.slice a h.length c],.string s] w (ChainPost h s w):=by
 have HB:=Lib.hid (one_below w (.cells #[.slice a h.length c] 24))
 have HX:Hid (Blk (w.alloc (.cells #[.slice a h.length c] 24)) w.heap.size #[.slice a h.length c] 24):=blk_new ..
 have HC0:=Lib.hid hc
 clear hc
 go_enter Tryz.func202,Tryz.ntmps202
 go_upto_region 2 with (fail)
 generalize hW:w.alloc (.cells #[.slice a h.length c] 24)=W at *
 clear hW
 have x0:=HX.out.cell 0 (by simp)
 go_wp2_with (go_at_call 122;refine (find184 h s a c _ (HC0.out.below HB.out) (by omega)).mono ?_;rintro e w1 ⟨rfl,hb1⟩)
 have REL:Hid (CRel h s a c w w1 (h.length + 1) s [] (.slice none 0 0)):=⟨HB.out.trans (hb1.mono HB.out.size),HX.out.below hb1,World.ownsRow_nil _ _ _ _,Chn.nil h,by simp,rfl⟩
 clear HB HX x0 hb1
 go_loopw [1,6,7] (fun i o k wr=>∃ n t out,∃ (oa:Option Addr) (oc:Nat),i = .string t∧o = .slice oa out.length oc∧k = .int .i64 (findI h t)∧Hid (CRel h s a c w wr n t out (.slice oa out.length oc))) (fun _ o _ _=>h.length + 1 - slLen o)
 case atStart=>exact ⟨_,_,[],none,0,rfl,rfl,rfl,REL.out⟩
 case round =>
  clear REL
  obtain ⟨n,t,out,oa,oc,rfl,rfl,rfl,R⟩:=hrel
  have hol:=R.out.ch.len
  obtain ⟨n,rfl⟩:∃ m,n=m + 1:=⟨n - 1,by have:=R.out.ln;omega⟩
  rcases find_spec h t with ⟨f1,f2⟩ | ⟨j,hj,f1,f2,_⟩
  ·have HF:Hid (chainP h s=(out,false)):=by show _=_;rw [← R.out.eq,chainF_none f1]
   rw [f2]
   clear f1 f2
   go_wp2
   refine bodyPost_ret (v:=.tuple #[.slice oa out.length oc,.bool false]) (by simp [results,Tryz.results202,go_sem]) rfl ?_
   exact ⟨R.out.hb,_,by rw [HF.out],by unfold supers;rw [HF.out];exact R.out.ow⟩
  rw [f1]
  have hjz:¬ ((j:Int) < 0):=by omega
  obtain ⟨ho1,ho2⟩:=owns_strs' R.out.ow
  have F2:=Lib.hid f2
  clear f1 f2
  go_wp2_with fail
  refine (in131 out t oa oc _ ho2 (by omega)).mono ?_
  rintro e w2 ⟨rfl,rfl⟩
  cases hi:inL out t
  case true =>
   have HF:Hid (chainP h s=(out,true)):=by show _=_;rw [← R.out.eq,chainF_in F2.out hi]
   go_wp2
   refine bodyPost_ret (v:=.tuple #[.slice oa out.length oc,.bool true]) (by simp [results,Tryz.results202,go_sem]) rfl ?_
   exact ⟨R.out.hb,_,by rw [HF.out],by unfold supers;rw [HF.out];exact R.out.ow⟩
  have HI:=Lib.hid hi
  have hbw:w.heap.size≤wr.heap.size:=R.out.hb.size
  have hoc:out.length≤1000000:=by omega
  have O1:=Lib.hid (owns_set1 R.out.ow (.cells #[.string t] 9))
  have B1:Hid (Blk (wr.alloc (.cells #[.string t] 9)) wr.heap.size #[.string t] 9):=blk_new ..
  go_upto_region 8 with (at_builtin;refine app_str rfl _ _ rfl w.heap.size _ out rfl O1.out wr.heap.size t rfl B1.out (by omega) (by simp;omega) ?_)
  intro v' w3 own3 grown3
  replace own3:w3.ownsRow w.heap.size 9 1 v' (out ++ [t]).length ((out ++ [t]).map Value.string):=by simpa using own3
  have hb3:Below w.heap.size w w3:=by
   refine (R.out.hb.trans ((one_below wr (.cells #[.string t] 9)).mono hbw)).grown grown3 (by simp;omega) ?_
   intro g hg
   exact (O1.out.lt g hg).1
  have HB3:=Lib.hid hb3
  have X3:=Lib.hid ((R.out.bx.below (one_below wr (.cells #[.string t] 9))).grown grown3 (owns_ne O1.out (R.out.bx.below (one_below wr (.cells #[.string t] 9))) (by decide)))
  have OWN3:=Lib.hid own3
  obtain ⟨-,oa',oc',rfl,-,-⟩:=owns_strs own3
  have hC:=HC0.out.below hb3
  obtain ⟨b,off,fa,fc,ma,mc,rfl,m0,m1,m2,m3,_,_⟩:=hC j hj
  have x0:=X3.out.cell 0 (by simp)
  have HCH:=Lib.hid (R.out.ch.snoc F2.out HI.out)
  have HLN:=R.out.ln
  have HEQ:=Lib.hid R.out.eq
  clear R O1 B1 grown3 hb3 own3 ho1 ho2 hC
  have HROOT:=Lib.hid (@chainF_root h n t out _ F2.out HI.out)
  have HUP:=Lib.hid (@chainF_up h n t out _ F2.out HI.out)
  generalize h[j]=x at *
  cases hr:(x.super.toList == ([]:List UInt8))
  case true =>
   have HF:Hid (chainP h s=(out ++ [t],false)):=by show _=_;rw [← HEQ.out,HROOT.out hr]
   go_wp2
   refine bodyPost_ret (v:=.tuple #[.slice oa' (out ++ [t]).length oc',.bool false]) (by simp [results,Tryz.results202,go_sem]) rfl ?_
   exact ⟨HB3.out,_,by rw [HF.out],by unfold supers;rw [HF.out];exact OWN3.out⟩
  have HF:Hid (chainF h n x.super (out ++ [t])=chainP h s):=by show _=_;rw [← HUP.out hr];exact HEQ.out
  have hol':=HCH.out.len
  rw [List.length_append,List.length_singleton] at hol'
  go_wp2_with fail
  refine (find184 h x.super _ c _ (HC0.out.below HB3.out) (by omega)).mono ?_
  rintro e w4 ⟨rfl,hb4⟩
  go_wp2
  go_roundw
  case rel=>exact ⟨n,x.super,out ++ [t],oa',oc',rfl,by simp,rfl,⟨HB3.out.trans (hb4.mono HB3.out.size),X3.out.below hb4,owns_below OWN3.out hb4,HCH.out,by simp;omega,HF.out⟩⟩
  case measure=>simp [slLen];omega
def StrsPost (l:List Str) (w:World) (e:Ending) (w':World):Prop :=
 Below w.heap.size w w'∧∃ a c,e = .returned (.slice a l.length c)∧w'.ownsRow w.heap.size 9 1 (.slice a l.length c) l.length (l.map Value.string)
set_option maxHeartbeats 1000000 in
theorem supers132 (h:List Cls) (s:Str) (a:Option Addr) (c:Nat) (w:World) (hc:ClssAt w a h) (hl:h.length≤100000) :
 Calls Tryz.prog 121 #[.agg #[.slice a h.length c],.string s] w (StrsPost (supers h s) w):=by
 have HB:=Lib.hid (one_below w (.cells #[.slice a h.length c] 24))
 have HX:Hid (Blk (w.alloc (.cells #[.slice a h.length c] 24)) w.heap.size #[.slice a h.length c] 24):=blk_new ..
 have HC:=Lib.hid (hc.below HB.out)
 clear hc
 go_enter Tryz.func121,Tryz.ntmps121
 go_upto_region 1 with (fail)
 generalize hW:w.alloc (.cells #[.slice a h.length c] 24)=W at *
 clear hW
 have x0:=HX.out.cell 0 (by simp)
 go_wp2_with fail
 refine (chain195 h s a c _ HC.out hl).mono ?_
 rintro e w1 ⟨hb1,v,rfl,hown⟩
 obtain ⟨-,oa,oc,rfl,-,-⟩:=owns_strs hown
 have OW:=Lib.hid hown
 clear hown x0
 have hbs:=HB.out.size
 go_wp2
 go_ret
 exact ⟨HB.out.trans (hb1.mono HB.out.size),_,_,rfl,owns_mono OW.out hbs⟩
set_option maxHeartbeats 1000000 in
theorem isSub73 (h:List Cls) (s t:Str) (a:Option Addr) (c:Nat) (w:World) (hc:ClssAt w a h) (hl:h.length≤100000) :
 Calls Tryz.prog 369 #[.agg #[.slice a h.length c],.string s,.string t] w (Ret w (.bool (isSub h s t))):=by
 have HB:=Lib.hid (one_below w (.cells #[.slice a h.length c] 24))
 have HX:Hid (Blk (w.alloc (.cells #[.slice a h.length c] 24)) w.heap.size #[.slice a h.length c] 24):=blk_new ..
 have HC:=Lib.hid (hc.below HB.out)
 clear hc
 go_enter Tryz.func369,Tryz.ntmps369
 go_upto_region 1 with (fail)
 generalize hW:w.alloc (.cells #[.slice a h.length c] 24)=W at *
 clear hW
 have x0:=HX.out.cell 0 (by simp)
 go_wp2_with fail
 refine (supers132 h s a c _ HC.out hl).mono ?_
 rintro e w1 ⟨hb1,oa,oc,rfl,hown⟩
 have OW:=Lib.hid (owns_strs' hown).2
 have hsl:=supers_len h s
 clear hown x0
 go_wp2_with fail
 refine (in131 (supers h s) t oa oc _ OW.out (by omega)).mono ?_
 rintro e w2 ⟨rfl,rfl⟩
 go_wp2
 go_ret
 exact ⟨rfl,HB.out.trans (hb1.mono HB.out.size)⟩
set_option maxHeartbeats 1000000 in
theorem isClass252 (h:List Cls) (s:Str) (a:Option Addr) (c:Nat) (w:World) (hc:ClssAt w a h) (hl:h.length≤100000) :
 Calls Tryz.prog 297 #[.agg #[.slice a h.length c],.string s] w (Ret w (.bool (decide (0≤findI h s)))):=by
 have HB:=Lib.hid (one_below w (.cells #[.slice a h.length c] 24))
 have HX:Hid (Blk (w.alloc (.cells #[.slice a h.length c] 24)) w.heap.size #[.slice a h.length c] 24):=blk_new ..
 have HC:=Lib.hid (hc.below HB.out)
 clear hc
 go_enter Tryz.func297,Tryz.ntmps297
 go_upto_region 1 with (fail)
 generalize hW:w.alloc (.cells #[.slice a h.length c] 24)=W at *
 clear hW
 have x0:=HX.out.cell 0 (by simp)
 go_wp2_with fail
 refine (find184 h s a c _ HC.out (by omega)).mono ?_
 rintro e w1 ⟨rfl,hb1⟩
 go_wp2
 go_ret
 exact ⟨rfl,HB.out.trans (hb1.mono HB.out.size)⟩
set_option maxHeartbeats 1000000 in
theorem type203 (h:List Cls) (s:Str) (a:Option Addr) (c:Nat) (w:World) (hc:ClssAt w a h) (hl:h.length≤100000) :
 Calls Tryz.prog 205 #[.agg #[.slice a h.length c],.string s] w (Ret w (.bool (typeB h s))):=by
 have HB:=Lib.hid (one_below w (.cells #[.slice a h.length c] 24))
 have HX:Hid (Blk (w.alloc (.cells #[.slice a h.length c] 24)) w.heap.size #[.slice a h.length c] 24):=blk_new ..
 have HC:=Lib.hid (hc.below HB.out)
 have HF:Hid (typeB h s=(s.toList == [105,110,116] || decide (0≤findI h s))):=by
  show _=_
  unfold typeB eqB intS
  rw [ByteArray.toList_eq ⟨#[105,110,116]⟩]
 clear hc
 go_enter Tryz.func205,Tryz.ntmps205
 go_upto_region 1 with (fail)
 generalize hW:w.alloc (.cells #[.slice a h.length c] 24)=W at *
 clear hW
 have x0:=HX.out.cell 0 (by simp)
 cases hq:(s.toList == ([105,110,116]:List UInt8))
 ·rw [hq] at HF
  go_wp2_with fail
  refine (find184 h s a c _ HC.out (by omega)).mono ?_
  rintro e w1 ⟨rfl,hb1⟩
  go_wp2
  go_ret
  exact ⟨ret_bool (by rw [HF.out];simp),HB.out.trans (hb1.mono HB.out.size)⟩
 ·rw [hq] at HF
  go_wp2
  go_ret
  exact ⟨ret_bool (by rw [HF.out];simp),HB.out⟩
end Go.Proofs.YtffcklfigpmlgaaGreatDoor
