/-
  Rows of call edges. (Printed by genrows.py.)
  Methods that are called, as keys of maps.
  Worlds in which nothing but one block has changed.
-/
import Derived.Test.YtkbmnfijeknenaaGreatDoorGA
import Derived.Test.YtkbmnfijeknenaaGreatDoorTD
import Derived.Test.YtkbmnfijeknenaaGreatDoorH0
namespace Go.Proofs.YtkbmnfijeknenaaGreatDoor
open Go.RowKit Go.Unit0 Go.AM

def encC (e:Cal):List Value:=[.int .i64 e.f,.int .i64 e.i,.int .i64 e.c]
def flatC (L:List Cal):List Value:=L.flatMap encC
theorem flatC_len (L:List Cal):(flatC L).length=L.length * 3:=by
 unfold flatC
 rw [List.length_flatMap]
 induction L with
 | nil=>rfl
 | cons x L ih=>rw [List.map_cons,List.sum_cons,ih,List.length_cons];simp [encC];omega
theorem flatC_get:∀ (L:List Cal) (j r:Nat) (hj:j < L.length),r < 3→(flatC L)[j * 3 + r]? = (encC L[j])[r]?
 | x :: L,0,r,_,hr=>by
   show (encC x ++ flatC L)[0 * 3 + r]? = _
   rw [List.getElem?_append_left (by simp [encC];omega)]
   simp
 | x :: L,j + 1,r,hj,hr=>by
   have ih:=flatC_get L j r (by simpa using hj) hr
   show (encC x ++ flatC L)[(j + 1) * 3 + r]? = _
   rw [List.getElem?_append_right (by simp [encC];omega)]
   have e:(j + 1) * 3 + r - (encC x).length=j * 3 + r:=by simp [encC];omega
   rw [e,ih]
   simp
theorem flatC_app (L:List Cal) (e:Cal):flatC (L ++ [e])=flatC L ++ encC e:=by
 unfold flatC
 rw [List.flatMap_append]
 simp
theorem infoC:(Tryz.prog.info? 51).map (fun i=>(i.zero,i.size,i.bytes))=some (some (.agg #[.int .i64 0,.int .i64 0,.int .i64 0]),3,24):=by kernel_rfl
theorem ownsC {w:World} {base:Nat} {v:Value} {l:List Cal} {n:Nat} (h:w.ownsRow base 51 3 v n (flatC l)):n=l.length∧∃ a cap,v = .slice a n cap∧n≤cap∧CalsAt w a l:=by
 have hl:n=l.length:=by have:=h.1;rw [flatC_len] at this;omega
 refine ⟨hl,?_⟩
 rcases h.2 with ⟨rfl,h0⟩ | ⟨g,cap,cur,rfl,hb,hh,hn,_,hsz,ht⟩
 ·exact ⟨none,0,by rw [h0],by omega,fun k hk=>by omega⟩
 ·refine ⟨_,_,rfl,hn,fun k hk=>⟨g,0,rfl,?_,?_,?_⟩⟩
  ·have c:=h.cells (g:=g) rfl (k * 3 + 0) (.int .i64 l[k].f) (by rw [flatC_get l k 0 hk (by omega)];rfl)
   rw [addr_add] at c
   exact c
  ·have c:=h.cells (g:=g) rfl (k * 3 + 1) (.int .i64 l[k].i) (by rw [flatC_get l k 1 hk (by omega)];rfl)
   rw [addr_add] at c
   exact c
  ·have c:=h.cells (g:=g) rfl (k * 3 + 2) (.int .i64 l[k].c) (by rw [flatC_get l k 2 hk (by omega)];rfl)
   rw [addr_add] at c
   exact c
theorem ownsC' {w:World} {base n d:Nat} {b:Option Addr} {l:List Cal} (h:w.ownsRow base 51 3 (.slice b n d) n (flatC l)):n≤d∧CalsAt w b l:=by
 obtain ⟨_,a,cap,he,h1,h2⟩:=ownsC h
 cases he
 exact ⟨h1,h2⟩
theorem appC {ops:Array Oper} {rest:List Oper} {o:Oper} {a:Act} {Q:Exit→Act→World→Prop} {w:World} (hgd:o.guard=none) (s x:Operand)
 (ho:o.op = .call { callee:=.builtin .append,args:=#[s,x],argTypes:=#[34,34] })
 (base:Nat) (v:Value) (l:List Cal) (hs:a.eval s=v) (hown:w.ownsRow base 51 3 v l.length (flatC l))
 (g:Nat) (y:Cal) (hx:a.eval x = .slice (some ⟨g,0,none⟩) 1 1) (hg:Blk w g #[.int .i64 y.f,.int .i64 y.i,.int .i64 y.c] 51)
 (hn:l.length≤1000000) (hbase:base≤w.heap.size)
 (h:∀ v' w',w'.ownsRow base 51 3 v' (l ++ [y]).length (flatC (l ++ [y]))→w.grownBy w' v.ownBlock→wpList Tryz.prog ops Q rest (a.put o.dst v') w'):wpList Tryz.prog ops Q (o :: rest) a w:=by
 obtain ⟨i0,hi,hz0,hz1,hz2⟩:=info_parts infoC
 refine wpList_append_own w hgd s x 34 ho base 51 i0 (.agg #[.int .i64 0,.int .i64 0,.int .i64 0]) 3 24 Tryz.underlying34 hi hz0 hz1 hz2 rfl (by decide) v l.length (flatC l) hs hown ⟨g,0,none⟩ 1 1 [.int .i64 y.f,.int .i64 y.i,.int .i64 y.c] hx rfl ?_ (by intro u hu;simp at hu;rcases hu with rfl | rfl | rfl <;> rfl) (by unfold maxLen;omega) (by omega) hbase ?_
 ·intro j u hu
  rw [addr_add,Nat.zero_add,cell_of_row _ _ _ _ _ _ hg]
  simpa using hu
 ·intro v' w' h1 h2 _
  refine h v' w' ?_ h2
  rw [flatC_app,List.length_append]
  exact h1
end Go.Proofs.YtkbmnfijeknenaaGreatDoor
namespace Go.Proofs.YtkbmnfijeknenaaGreatDoor
open Go.RowKit Go.Unit0 Go.AM

def encM (e:Str × Str):Value:=.agg #[.string e.1,.string e.2]
theorem keyM:MKey Tryz.prog 102 encM:=mkey_row (ks:=[.s,.s]) (by kernel_rfl) (fun e=>[KC.s e.1,KC.s e.2]) [some none,some none] (fun _=>rfl) (fun a b h=>by
 simp only [List.cons.injEq,KC.s.injEq,and_true] at h
 exact Prod.ext h.1 h.2) (fun _=>rfl) (fun _=>rfl)
theorem storeMeth {ops:Array Oper} {rest:List Oper} {o:Oper} {a:Act} {w:World} {Q:Exit→Act→World→Prop} (hgd:o.guard=none) (x y:Operand) (ho:o.op = .store 102 x y)
 (g:Nat) (s t:ByteArray) (hx:a.eval x = .pointer (some ⟨g,0,none⟩)) (hy:a.eval y = .agg #[.string s,.string t])
 (old:Array Value) (hg:Blk w g old 102) (hold:old.size=2)
 (h:wpList Tryz.prog ops Q rest (a.put o.dst undef) (w.setRow g #[.string s,.string t])):wpList Tryz.prog ops Q (o :: rest) a w :=
 wpList_store_row hgd 102 x y ho g _ hx hy 102 old hg (by kernel_rfl) hold (by simp [Value.oneCell']) h
end Go.Proofs.YtkbmnfijeknenaaGreatDoor
namespace Go.Proofs.YtkbmnfijeknenaaGreatDoor
open Go.RowKit Go.Unit0 Go.AM

theorem made_one (z:Value) (n:Nat):(madeCells #[z] n).toList=List.replicate n z:=by
 apply List.ext_getElem (by simp [madeCells])
 intro i h1 h2
 simp [madeCells,Nat.mod_one]
theorem grown_below {a b c:World} {row:Option Nat} (hg:a.grownBy b row) (hb:Below b.heap.size b c):a.grownBy c row :=
 ⟨hb.os.trans hg.os,hb.tape.trans hg.tape,hb.output.trans hg.output,Nat.le_trans hg.size hb.size,fun k hk hne=>(hb.block k (Nat.lt_of_lt_of_le hk hg.size)).trans (hg.block k hk hne)⟩
theorem grown_grown {a b c:World} {row row2:Option Nat} (hg:a.grownBy b row) (hh:b.grownBy c row2) (hr:∀ q,row2=some q→a.heap.size≤q ∨ row=some q):a.grownBy c row :=
 ⟨hh.os.trans hg.os,hh.tape.trans hg.tape,hh.output.trans hg.output,Nat.le_trans hg.size hh.size,fun k hk hne=>(hh.block k (Nat.lt_of_lt_of_le hk hg.size) (fun e=>by
   rcases hr k e.symm with h | h
   ·omega
   ·exact hne h.symm)).trans (hg.block k hk hne)⟩
theorem below_grown0 {a b:World} (hb:Below a.heap.size a b) (row:Option Nat):a.grownBy b row:=⟨hb.os,hb.tape,hb.output,hb.size,fun k hk _=>hb.block k hk⟩
structure GW (W:World) (row:Option Nat) where
 u:World
 h:W.grownBy u row
theorem setF_some (S:List Int) (k:Int):(setF S k).isSome=true ↔ k ∈ S:=by
 unfold setF
 split <;> simp_all
end Go.Proofs.YtkbmnfijeknenaaGreatDoor
