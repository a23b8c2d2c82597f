/-
  What stays where a later block has changed; ranges and maps; a row put back.
-/
import Derived.Test.YtkbmnfijeknenaaGreatDoorGA
import Derived.Test.YtkbmnfijeknenaaGreatDoorShelf
import Derived.Sort.OwnSortedInts
namespace Go.Proofs.YtkbmnfijeknenaaGreatDoor
open Go.RowKit Go.Unit0 Go.AM Go.Sort

theorem grownBy_put {w:World} {g n:Nat} {os:Array Obj} (d:Array Value):w.grownBy (grow (putRow id (Sort.ahead w n) g 0 d) os) (some g):=by
 refine ⟨rfl,rfl,rfl,by simp,fun k hk hne=>?_⟩
 rw [heap_grow_old _ _ (by simpa using hk)]
 have:g ≠ k:=fun e=>hne (by rw [e])
 simp [putRow,mapBlock,Sort.ahead,Array.getElem?_modify,this]
theorem heap_put {w:World} {g n:Nat} {os:Array Obj} {cur:Array Value} {e:TypeId} {fr:Nat × Nat} (d:Array Value) (hb:w.heap[g]? = some (.cells cur e fr)) :
 (grow (putRow id (Sort.ahead w n) g 0 d) os).heap[g]? = some (.cells (putCells id 0 d cur) e fr):=by
 have hg:g < w.heap.size:=(Array.getElem?_eq_some_iff.1 hb).1
 rw [heap_grow_old _ _ (by simpa using hg)]
 simp [putRow,mapBlock,Sort.ahead,Array.getElem?_modify,hb,onCells]
theorem take_put (cur:Array Value) (ts:List Value) (h:ts.length≤cur.size):(putCells id 0 ts.toArray cur).toList.take ts.length=ts:=by
 apply List.ext_getElem?
 intro j
 by_cases hj:j < ts.length
 ·rw [List.getElem?_take_of_lt hj,Array.getElem?_toList]
  simp [putCells,hj,show j < cur.size by omega]
 ·rw [List.getElem?_take_eq_none (by omega),List.getElem?_eq_none (by omega)]
theorem UB.grow {u:Unt} {ha:Option Addr} {hc:Nat} {fa:Option Addr} {fc:Nat} {w wr w':World} {row:Option Nat} (k:UB u ha hc fa fc w wr) (h0:ClssAt w ha u.h) (f0:FncsAt w fa u.fs) (hg:wr.grownBy w' row) (hrow:∀ q,row=some q→w.heap.size < q):UB u ha hc fa fc w w':=by
 have hb':=k.hb.grown hg k.hb.size (fun q hq=>Nat.le_of_lt (hrow q hq))
 exact ⟨hb',k.b1.grown hg (fun e=>by have:=hrow _ e.symm;omega),h0.below hb',f0.below hb'⟩
theorem blk_iter {κ:Type} [DecidableEq κ] {w:World} {b:Nat} {cs:Array Value} {t:TypeId} (h:Blk w b cs t) {r g m:Nat} {enc:κ→Value} {F:κ→Option Value} {left:List (κ × Value)} (hi:IterF w r g enc F m left):some b ≠ some r:=by
 obtain ⟨l,ar,c,since,c0,seen,h1,h2,h3,h4,h5,h6,h7,h8,_⟩:=hi.ex
 intro e
 cases e
 unfold Blk at h
 rw [h8] at h
 cases h
theorem owns_iter {κ:Type} [DecidableEq κ] {w:World} {base e s n:Nat} {v:Value} {xs:List Value} (h:w.ownsRow base e s v n xs) {r g m:Nat} {enc:κ→Value} {F:κ→Option Value} {left:List (κ × Value)} (hi:IterF w r g enc F m left):some r ≠ v.ownBlock:=by
 obtain ⟨l,ar,c,since,c0,seen,h1,h2,h3,h4,h5,h6,h7,h8,_⟩:=hi.ex
 rcases h.2 with ⟨rfl,_⟩ | ⟨g',cap,cur,rfl,_,hh,_⟩
 ·simp [Value.ownBlock]
 ·simp only [Value.ownBlock,ne_eq,Option.some.injEq]
  rintro rfl
  rw [h8] at hh
  cases hh
theorem perm_len {α β:Type} {done:List α} {left all:List (α × β)} (h:(done ++ left.map (·.1)).Perm (all.map (·.1))):done.length + left.length=all.length:=by
 have:=h.length_eq
 simpa using this
theorem perm_next {α β:Type} {done:List α} {left all:List (α × β)} {j:Nat} {p:α × β} (h:(done ++ left.map (·.1)).Perm (all.map (·.1))) (hj:left[j]? = some p):((done ++ [p.1]) ++ (left.eraseIdx j).map (·.1)).Perm (all.map (·.1)):=by
 have h1:(left.map (·.1)).Perm (p.1 :: (left.eraseIdx j).map (·.1)):=(perm_erase hj).map _
 have h2:=(List.Perm.append_left done h1).symm.trans h
 rw [List.append_assoc]
 exact h2
theorem cell_mapF {κ:Type} [DecidableEq κ] {w:World} {b o:Nat} {v:Value} (hc:w.cell? ⟨b,o,none⟩=some v) {g:Nat} {enc:κ→Value} {F:κ→Option Value} {n:Nat} (hm:MapF w g enc F n):some b ≠ some g:=by
 obtain ⟨l,ar,c,hg,_⟩:=hm.ex
 intro e
 cases e
 simp [World.cell?,hg] at hc
end Go.Proofs.YtkbmnfijeknenaaGreatDoor
