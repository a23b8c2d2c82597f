/-
  Strings of one's own, sorted and compacted by the library.
  The names of all fields, as the program finds them.
  The reference's add.
  The names of all fields, as the reference finds them.
-/
import Derived.Test.YtffcklfigpmlgaaGreatDoorGA
import Derived.Test.YtffcklfigpmlgaaGreatDoorShelf
import Derived.Sort.OwnSorted
import Derived.Test.YtffcklfigpmlgaaGreatDoorWF
import Derived.Test.YtffcklfigpmlgaaGreatDoorXA
namespace Go.Proofs.YtffcklfigpmlgaaGreatDoor
open Go.RowKit Go.Unit0 Go.Sort

theorem compB_len (l:List ByteArray):(compB l).length≤l.length:=by
 have:=Lib.compact_length_le (l.map bl)
 simpa [compB] using this
theorem sort_own (l:List ByteArray) (a:Option Addr) (c:Nat) (w0 w:World) (hb:Below w0.heap.size w0 w) (own:w.ownsRow w0.heap.size 9 1 (.slice a l.length c) l.length (l.map Value.string)) (hl:l.length≤1000000) :
 Calls Tryz.prog 105 #[.slice a l.length c] w (fun e w'=>e = .returned (.tuple #[])∧RowOut w0 w (sortB l) a c w'):=by
 have own0:=own
 obtain ⟨_,hown⟩:=own
 rcases hown with ⟨e,h0⟩ | ⟨g,cap,cur,e,hbase,hh,hn,hcap,hsz,ht⟩
 ·have hl0:l = []:=List.eq_nil_of_length_eq_zero h0
  subst hl0
  cases e
  have e0:sortB [] = []:=by simp [sortB]
  rw [e0]
  refine (Tryz.slices_Sort_string_none none 0 w).mono ?_
  rintro e w' ⟨rfl,rfl⟩
  exact ⟨rfl,hb,own0,fun _ _ _ h _=>h⟩
 ·cases e
  rw [strs_enc] at ht
  have hlen:(l.map bl).length=l.length:=List.length_map _
  have hH:=holds_of_block (ss:=l.map bl) hh (by rw [hlen,← ht,Nat.mul_one])
  have h:=Tryz.slices_Sort_string g 0 c (l.map bl) w hH (Array.getElem?_eq_some_iff.1 hh).1 (by omega)
  rw [hlen] at h
  refine h.mono ?_
  rintro e w' ⟨rfl,n,os,rfl⟩
  have hs:((l.map bl).mergeSort fun x y=>decide (x≤y)).length=(l.map bl).length:=by simp
  have ow:=ownsRow_sorted (n:=n) (os:=os) (ts:=(l.map bl).mergeSort fun x y=>decide (x≤y)) hs hbase hh (by omega) hcap hsz
  have hg:=grownBy_sorted (w:=w) (g:=g) (n:=n) (os:=os) ((l.map bl).mergeSort fun x y=>decide (x≤y)).toArray
  rw [enc_strs,hlen] at ow
  refine ⟨rfl,grow_below hb own0 hg,?_,fun g' cs t hB hne=>hB.grown hg (owns_ne own0 hB hne)⟩
  rw [sortB_len]
  exact ow
theorem compact_own (l:List ByteArray) (a:Option Addr) (c:Nat) (w0 w:World) (hb:Below w0.heap.size w0 w) (own:w.ownsRow w0.heap.size 9 1 (.slice a l.length c) l.length (l.map Value.string)) (hl:l.length≤1000000) :
 Calls Tryz.prog 106 #[.slice a l.length c] w (fun e w'=>e = .returned (.slice a (compB l).length c)∧RowOut w0 w (compB l) a c w'):=by
 have own0:=own
 obtain ⟨_,hown⟩:=own
 rcases hown with ⟨e,h0⟩ | ⟨g,cap,cur,e,hbase,hh,hn,hcap,hsz,ht⟩
 ·have hl0:l = []:=List.eq_nil_of_length_eq_zero h0
  subst hl0
  cases e
  have e0:compB [] = []:=by simp [compB,Lib.compact,Lib.compactUpTo]
  rw [e0]
  refine (Tryz.slices_Compact_string_empty none 0 w).mono ?_
  rintro e w' ⟨rfl,rfl⟩
  exact ⟨rfl,hb,own0,fun _ _ _ h _=>h⟩
 ·cases e
  rw [strs_enc] at ht
  have hlen:(l.map bl).length=l.length:=List.length_map _
  have hH:=holds_of_block (ss:=l.map bl) hh (by rw [hlen,← ht,Nat.mul_one])
  have h:=Tryz.slices_Compact_string g 0 c (l.map bl) w hH (by omega) (by omega)
  rw [hlen] at h
  refine h.mono ?_
  rintro e w' ⟨rfl,n,rfl⟩
  have hcl:(Lib.compact (l.map bl)).length≤l.length:=by rw [← hlen];exact Lib.compact_length_le _
  generalize hts:Lib.compact (l.map bl) ++ List.replicate (l.length - (Lib.compact (l.map bl)).length) []=ts
  have hs:ts.length=(l.map bl).length:=by rw [← hts,hlen];simp;omega
  have ow:=ownsRow_sorted (n:=n) (os:=#[]) (ts:=ts) hs hbase hh (by omega) hcap hsz
  have hg:=grownBy_sorted (w:=w) (g:=g) (n:=n) (os:=#[]) ts.toArray
  rw [grow_empty] at ow hg
  rw [hlen] at ow
  have ht2:ts.take (Lib.compact (l.map bl)).length=Lib.compact (l.map bl):=by rw [← hts];simp
  have ow2:=owns_take ow hcl (by simp)
  rw [← List.map_take,ht2,enc_strs] at ow2
  refine ⟨by simp [compB],grow_below hb own0 hg,?_,fun g' cs t hB hne=>hB.grown hg (owns_ne own0 hB hne)⟩
  have:(compB l).length=(Lib.compact (l.map bl)).length:=by simp [compB]
  rw [this]
  exact ow2
end Go.Proofs.YtffcklfigpmlgaaGreatDoor
namespace Go.Proofs.YtffcklfigpmlgaaGreatDoor
open Go.RowKit Go.Unit0

theorem storeField {ops:Array Oper} {rest:List Oper} {o:Oper} {a:Act} {w:World} {Q:Exit→Act→World→Prop} (hgd:o.guard=none) (hd:o.dst=none) (x y:Operand) (ho:o.op = .store 126 x y)
 (g:Nat) (s t:ByteArray) (hx:a.eval x = .pointer (some ⟨g,0,none⟩)) (hy:a.eval y = .agg #[.string s,.string t])
 (old:Array Value) (hg:Blk w g old 126) (hold:old.size=2)
 (h:wpList Tryz.prog ops Q rest a (w.setRow g #[.string s,.string t])):wpList Tryz.prog ops Q (o :: rest) a w :=
 wpList_store_row hgd 126 x y ho g _ hx hy 126 old hg (by kernel_rfl) hold (by simp [Value.oneCell']) (by rw [hd];exact h)
abbrev zFdC:Obj:=.cells #[.string ⟨#[]⟩,.string ⟨#[]⟩] 126
def fldNames (h:List Cls):List ByteArray:=h.flatMap (fun c=>c.fields.map (·.name))
theorem fldNames_snoc {h:List Cls} {k:Nat} (hk:k < h.length):fldNames (h.take (k + 1))=fldNames (h.take k) ++ h[k].fields.map (·.name):=by
 have e:h.take (k + 1)=h.take k ++ [h[k]]:=List.take_succ_eq_append_getElem hk
 unfold fldNames
 rw [e,List.flatMap_append];simp only [List.flatMap_cons,List.flatMap_nil,List.append_nil]
structure NW (u:Unt) (ha:Option Addr) (hc:Nat) (fa:Option Addr) (fc:Nat) (out:List ByteArray) (oa:Option Addr) (oc:Nat) (w wr:World):Prop where
 b:UB u ha hc fa fc w wr
 ow:wr.ownsRow w.heap.size 9 1 (.slice oa out.length oc) out.length (out.map Value.string)
section
variable {u:Unt} {ha:Option Addr} {hc:Nat} {fa:Option Addr} {fc:Nat} {out:List ByteArray} {oa:Option Addr} {oc:Nat} {w wr w':World}
theorem NW.below (k:NW u ha hc fa fc out oa oc w wr) (hb:Below wr.heap.size wr w'):NW u ha hc fa fc out oa oc w w':=⟨k.b.below hb,owns_below k.ow hb⟩
theorem NW.grow {out':List ByteArray} {oa':Option Addr} {oc':Nat} (h:ClssAt w ha u.h) (f:FncsAt w fa u.fs) (k:NW u ha hc fa fc out oa oc w wr) (own:w'.ownsRow w.heap.size 9 1 (.slice oa' out'.length oc') out'.length (out'.map Value.string)) (hg:wr.grownBy w' (Value.slice oa out.length oc).ownBlock):NW u ha hc fa fc out' oa' oc' w w' :=
 have hb:=grow_below k.b.hb k.ow hg
 ⟨⟨hb,k.b.b1.grown hg (owns_ne k.ow k.b.b1 (by decide)),h.below hb,f.below hb⟩,own⟩
end
set_option maxRecDepth 100000 in
set_option maxHeartbeats 4000000 in
theorem fields30 (u:Unt) (ha:Option Addr) (hc:Nat) (fa:Option Addr) (fc:Nat) (w:World) (h:ClssAt w ha u.h) (f:FncsAt w fa u.fs) (hl:u.h.length≤100) (hfl:∀ x ∈ u.h,x.fields.length≤1000) :
 Calls Tryz.prog 101 #[unV u ha hc fa fc] w (StrsPost (compB (sortB (fldNames u.h))) w):=by
 have S0:Hid (NW u ha hc fa fc [] none 0 w (w.alloc (unC u ha hc fa fc))):=⟨UB.start h f,World.ownsRow_nil _ _ _ _⟩
 have HM:Hid (ClssAt w ha u.h∧FncsAt w fa u.fs):=⟨h,f⟩
 have HFL:=Lib.hid hfl
 have HSN:Hid (∀ k (hk:k < u.h.length),fldNames (u.h.take (k + 1))=fldNames (u.h.take k) ++ u.h[k].fields.map (·.name)):=fun k hk=>fldNames_snoc hk
 clear h f hfl
 unfold unV
 go_enter Tryz.func101,Tryz.ntmps101
 go_upto_region 1 with (fail)
 generalize w.alloc _=W at *
 obtain ⟨z0,z1,z2⟩:=S0.out.b.cells
 go_wp2
 clear z0 z1 z2
 go_loopw [3,12] (fun v i wr=>∃ q out,∃ (oa:Option Addr) (oc:Nat),q≤u.h.length∧out.length≤q * 1000∧v = .slice oa out.length oc∧i = .int .i64 (q:Nat)∧Hid (out=fldNames (u.h.take q))∧Hid (NW u ha hc fa fc out oa oc w wr)) (fun _ i _=>u.h.length - (intOf i).toNat)
 case atStart=>exact ⟨0,[],none,0,Nat.zero_le _,Nat.zero_le _,rfl,rfl,(by show _=_;simp [fldNames]),S0.out⟩
 case round =>
  clear S0
  obtain ⟨q,out,oa,oc,hq,hol,rfl,rfl,HI,S⟩:=hrel
  by_cases hlt:q < u.h.length
  case neg =>
   have HF:Hid (out=fldNames u.h):=by show _=_;rw [HI.out,List.take_of_length_le (by omega)]
   have hol2:out.length≤1000000:=by omega
   clear HI HSN HFL
   go_wp2_with fail
   refine (sort_own out oa oc w _ S.out.b.hb S.out.ow hol2).mono ?_
   rintro e w1 ⟨rfl,R1⟩
   have R1:=Lib.hid R1
   clear S
   have hs:=sortB_len out
   go_wp2_with fail
   have e0:Value.slice oa out.length oc = .slice oa (sortB out).length oc:=by rw [hs]
   rw [e0]
   refine (compact_own (sortB out) oa oc w _ R1.out.hb R1.out.ow (by omega)).mono ?_
   rintro e w2 ⟨rfl,R2⟩
   have R2:=Lib.hid R2
   clear R1 e0 hs
   go_wp2
   go_ret
   exact ⟨R2.out.hb,oa,oc,by rw [← HF.out];rfl,by rw [← HF.out];exact R2.out.ow⟩
  obtain ⟨b,off,ffa,ffc,ma,mc,he,m0,m1,m2,m3,hfx,-⟩:=S.out.b.h q hlt
  subst he
  have hxl:=HFL.out _ (List.getElem_mem hlt)
  have HSQ:=Lib.hid (HSN.out q hlt)
  have HFX:Hid (FldsAt w ffa u.h[q].fields):=by
   obtain ⟨b',off',ffa',ffc',ma',mc',he,-,-,n2,-,hfx',-⟩:=HM.out.1 q hlt
   cases he
   have:=cell_below S.out.b.hb n2
   rw [m2] at this
   cases this
   exact hfx'
  generalize u.h[q]=x at *
  clear hfx
  have BZ:Hid (Blk (wr.alloc zClC) wr.heap.size _ 85):=blk_new ..
  have hsz:wr.heap.size≤wr.heap.size:=Nat.le_refl _
  go_upto_region 5 with (refine storeCls rfl rfl _ _ rfl wr.heap.size x ffa ffc ma mc rfl rfl _ BZ.out rfl ?_)
  have HB2:=Lib.hid (below_row (one_below wr zClC) hsz #[.string x.name,.string x.super,.slice ffa x.fields.length ffc,.slice ma x.methods.length mc])
  have B2:=Lib.hid (BZ.out.setRow #[.string x.name,.string x.super,.slice ffa x.fields.length ffc,.slice ma x.methods.length mc])
  have S2:=Lib.hid (S.out.below HB2.out)
  clear S BZ HB2 m0 m1 m2 m3 hsz
  generalize (wr.alloc zClC).setRow wr.heap.size _=W2 at *
  generalize wr.heap.size=n2 at *
  have y2:=B2.out.cell 2 (by simp)
  simp only [List.getElem_toArray,List.getElem_cons_zero,List.getElem_cons_succ] at y2
  go_wp2
  clear y2 B2
  go_loopw [3,19] (fun v i wr=>∃ k out',∃ (oa:Option Addr) (oc:Nat),k≤x.fields.length∧out'.length≤q * 1000 + k∧v = .slice oa out'.length oc∧i = .int .i64 (k:Nat)∧Hid (out' = out ++ (x.fields.take k).map (·.name))∧Hid (NW u (some ⟨b,off,none⟩) hc fa fc out' oa oc w wr)) (fun _ i _=>x.fields.length - (intOf i).toNat)
  case atStart=>exact ⟨0,out,oa,oc,Nat.zero_le _,by omega,rfl,rfl,(by show _=_;simp),S2.out⟩
  case round =>
   clear S2
   obtain ⟨k,out',oa',oc',hk,hol',rfl,rfl,HJ,S⟩:=hrel
   by_cases hkl:k < x.fields.length
   case neg =>
    have HN:Hid (out' = fldNames (u.h.take (q + 1))):=by show _=_;rw [HSQ.out,HJ.out,HI.out,show x.fields.take k=x.fields from List.take_of_length_le (by omega)]
    have hol2:out'.length≤(q + 1) * 1000:=by omega
    clear HJ
    go_wp2
    go_roundw
    case rel=>exact ⟨q + 1,out',oa',oc',by omega,hol2,rfl,by go_num,HN.out,S.out⟩
    case measure=>simp [intOf];omega
   have HFW:=Lib.hid (HFX.out.below S.out.b.hb)
   obtain ⟨b3,o3,he,p0,p1⟩:=HFW.out k hkl
   subst he
   have HJN:Hid (out' ++ [x.fields[k].name]=out ++ (x.fields.take (k + 1)).map (·.name)):=by
    show _=_
    rw [HJ.out,List.take_succ_eq_append_getElem hkl,List.map_append,List.append_assoc];rfl
   generalize x.fields[k].name=nm at *
   generalize x.fields[k].type=ty at *
   have BZ:Hid (Blk (wr.alloc zFdC) wr.heap.size _ 126):=blk_new ..
   have hsz:wr.heap.size≤wr.heap.size:=Nat.le_refl _
   go_upto_region 8 with (refine storeField rfl rfl _ _ rfl wr.heap.size nm ty rfl rfl _ BZ.out rfl ?_)
   have HB2:=Lib.hid (below_row (one_below wr zFdC) hsz #[.string nm,.string ty])
   have B2:=Lib.hid (BZ.out.setRow #[.string nm,.string ty])
   have S2:=Lib.hid (S.out.below HB2.out)
   clear S BZ HB2 HFW p0 p1 hsz
   generalize (wr.alloc zFdC).setRow wr.heap.size _=W3 at *
   generalize wr.heap.size=n3 at *
   have y0:=B2.out.cell 0 (by simp)
   simp only [List.getElem_toArray,List.getElem_cons_zero] at y0
   have O1:=Lib.hid (S2.out.below (one_below W3 (.cells #[.string nm] 9)))
   have B1:Hid (Blk (W3.alloc (.cells #[.string nm] 9)) W3.heap.size #[.string nm] 9):=blk_new ..
   have hbs:=S2.out.b.hb.size
   have hoc:out'.length≤1000000:=by omega
   go_wp2_with (at_builtin;refine app_str rfl _ _ rfl w.heap.size _ out' rfl O1.out.ow W3.heap.size nm rfl B1.out hoc (by simp;omega) ?_;intro v' w3 own3 grown3)
   obtain ⟨-,oa3,oc3,rfl,-,-⟩:=owns_strs own3
   have S3:=Lib.hid (NW.grow HM.out.1 HM.out.2 O1.out own3 grown3)
   clear O1 B1 own3 grown3 S2 B2 y0
   have hlen:(out' ++ [nm]).length=out'.length + 1:=by simp
   go_wp2
   go_roundw
   case rel=>exact ⟨k + 1,out' ++ [nm],oa3,oc3,by omega,by omega,rfl,by go_num,HJN.out,S3.out⟩
   case measure=>simp [intOf];omega
end Go.Proofs.YtffcklfigpmlgaaGreatDoor
namespace Go.Proofs.YtffcklfigpmlgaaGreatDoor
open Go.RowKit Go.Unit0

def AddPost (s:Str) (l:List Str) (w:World) (e:Ending) (w':World):Prop :=
 Below w.heap.size w w'∧∃ (r:List Str) (a:Option Addr) (c:Nat),e = .returned (.slice a r.length c)∧StrsAt w' a r∧r.map bl=addL (bl s) (l.map bl)
set_option maxRecDepth 100000 in
set_option maxHeartbeats 4000000 in
theorem add71 (l:List Str) (s:Str) (la:Option Addr) (lc:Nat) (w:World) (hs:StrsAt w la l) (hl:l.length≤100000) :
 Calls Tryz.prog 66 #[.slice la l.length lc,.string s] w (AddPost s l w):=by
 have HL:=Lib.hid hs
 clear hs
 go_enter Tryz.func66,Tryz.ntmps66
 go_wp2
 go_loopw [5,6,7] (fun v d i wr=>∃ k,∃ (out:List Str) (oa:Option Addr) (oc:Nat) (db:Bool),k≤l.length∧out.length≤k + 1∧v = .slice oa out.length oc∧d = .bool db∧i = .int .i64 (k:Nat)∧Hid (Below w.heap.size w wr)∧Hid (wr.ownsRow w.heap.size 9 1 (.slice oa out.length oc) out.length (out.map Value.string))∧Hid (db=((l.take k).map bl).any (fun y=>decide (bl s < y)))∧Hid (out.map bl=outL (bl s) ((l.take k).map bl))∧Hid (bl s ∉ (l.take k).map bl)) (fun _ _ i _=>l.length - (intOf i).toNat)
 case atStart=>exact ⟨0,[],none,0,false,Nat.zero_le _,by simp,rfl,rfl,rfl,Below.refl _ _,World.ownsRow_nil _ _ _ _,rfl,rfl,by show _ ∉ _;simp⟩
 case round =>
  obtain ⟨k,out,oa,oc,db,hk,hol,rfl,rfl,rfl,HB,HO,HD,HU,HN⟩:=hrel
  have hbs:=HB.out.size
  have O1:=fun t:Str=>Lib.hid (owns_set1 HO.out (.cells #[.string t] 9))
  have B1:∀ t:Str,Hid (Blk (wr.alloc (.cells #[.string t] 9)) wr.heap.size #[.string t] 9):=fun t=>blk_new ..
  have HB1:∀ t:Str,Hid (Below w.heap.size w (wr.alloc (.cells #[.string t] 9))):=fun t=>HB.out.trans ((one_below ..).mono hbs)
  by_cases hlt:k < l.length
  case neg =>
   obtain rfl:k=l.length:=by omega
   rw [List.take_length] at HD HU HN
   cases db
   case true =>
    have HF:Hid (out.map bl=addL (bl s) (l.map bl)):=by show _=_;rw [HU.out,outL_end_t HD.out.symm HN.out]
    have ho:=(owns_strs HO.out).2
    clear O1 B1 HB1
    go_wp2
    go_ret
    obtain ⟨a,c,he,-,hat⟩:=ho
    cases he
    exact ⟨HB.out,out,oa,oc,rfl,hat,HF.out⟩
   have HF:Hid ((out ++ [s]).map bl=addL (bl s) (l.map bl)):=by show _=_;rw [List.map_append,HU.out];exact outL_end_f HD.out.symm HN.out
   have O2:=O1 s
   have B2:=B1 s
   have HB2:=HB1 s
   clear O1 B1 HB1
   go_wp2_with (at_builtin;refine app_str rfl _ _ rfl w.heap.size _ out rfl O2.out wr.heap.size s rfl B2.out (by omega) (by simp;omega) ?_;intro v' w3 own3 grown3)
   have HB3:=Lib.hid (grow_below HB2.out O2.out grown3)
   obtain ⟨-,oa3,oc3,rfl,-,hat⟩:=owns_strs own3
   have HA:=Lib.hid hat
   clear own3 grown3 hat
   go_wp2
   go_ret
   exact ⟨HB3.out,out ++ [s],oa3,oc3,rfl,HA.out,HF.out⟩
  have HLK:=Lib.hid HL.out
  obtain ⟨b,off,he,c0⟩:=HL.out k hlt
  subst he
  have HC0:=Lib.hid c0
  replace c0:=cell_below HB.out c0
  have HT:=Lib.hid (take_bl hlt)
  have HME:Hid (bl l[k]=bl s→addL (bl s) (l.map bl)=l.map bl):=fun e=>by
   unfold addL
   rw [if_pos]
   rw [← e]
   exact List.mem_map_of_mem (List.getElem_mem hlt)
  generalize l[k]=x at *
  cases e1:(x.toList == s.toList)
  case true =>
   have HF:=Lib.hid (HME.out (eq_bl e1)).symm
   have HAT:=Lib.hid (HLK.out.below HB.out)
   clear O1 B1 HB1
   go_wp2
   go_ret
   exact ⟨HB.out,l,_,lc,rfl,HAT.out,HF.out⟩
  have HN2:Hid (bl s ∉ (l.take (k + 1)).map bl):=by
   show _ ∉ _
   rw [HT.out,List.mem_append,List.mem_singleton,not_or]
   exact ⟨HN.out,fun e=>ne_bl e1 e.symm⟩
  clear HME HLK HN
  cases db
  case true =>
   have HDN:Hid (true=((l.take (k + 1)).map bl).any (fun y=>decide (bl s < y))):=by show _=_;rw [HT.out,any_snoc,← HD.out];rfl
   have HUN:Hid ((out ++ [x]).map bl=outL (bl s) ((l.take (k + 1)).map bl)):=by show _=_;rw [HT.out,outL_t HD.out.symm,List.map_append,HU.out];rfl
   have O2:=O1 x
   have B2:=B1 x
   have HB2:=HB1 x
   have hlen:(out ++ [x]).length=out.length + 1:=by simp
   clear O1 B1 HB1 HU HD HT
   go_wp2_with (at_builtin;refine app_str rfl _ _ rfl w.heap.size _ out rfl O2.out wr.heap.size x rfl B2.out (by omega) (by simp;omega) ?_;intro v' w3 own3 grown3)
   have HB3:=Lib.hid (grow_below HB2.out O2.out grown3)
   obtain ⟨-,oa3,oc3,rfl,-,-⟩:=owns_strs own3
   have O3:=Lib.hid own3
   clear own3 grown3
   go_wp2
   go_roundw
   case rel=>exact ⟨k + 1,out ++ [x],oa3,oc3,true,by omega,by omega,rfl,rfl,by go_num,HB3.out,O3.out,HDN.out,HUN.out,HN2.out⟩
   case measure=>simp [intOf];omega
  cases e2:Op.bytesLess s.toList x.toList
  case false =>
   have HDN:Hid (false=((l.take (k + 1)).map bl).any (fun y=>decide (bl s < y))):=by show _=_;rw [HT.out,any_snoc,← HD.out,decide_eq_false (less_f e2)];rfl
   have HUN:Hid ((out ++ [x]).map bl=outL (bl s) ((l.take (k + 1)).map bl)):=by show _=_;rw [HT.out,outL_f HD.out.symm (less_f e2),List.map_append,HU.out];rfl
   have O2:=O1 x
   have B2:=B1 x
   have HB2:=HB1 x
   have hlen:(out ++ [x]).length=out.length + 1:=by simp
   clear O1 B1 HB1 HU HD HT
   go_wp2_with (at_builtin;refine app_str rfl _ _ rfl w.heap.size _ out rfl O2.out wr.heap.size x rfl B2.out (by omega) (by simp;omega) ?_;intro v' w3 own3 grown3)
   have HB3:=Lib.hid (grow_below HB2.out O2.out grown3)
   obtain ⟨-,oa3,oc3,rfl,-,-⟩:=owns_strs own3
   have O3:=Lib.hid own3
   clear own3 grown3
   go_wp2
   go_roundw
   case rel=>exact ⟨k + 1,out ++ [x],oa3,oc3,false,by omega,by omega,rfl,rfl,by go_num,HB3.out,O3.out,HDN.out,HUN.out,HN2.out⟩
   case measure=>simp [intOf];omega
  have HDN:Hid (true=((l.take (k + 1)).map bl).any (fun y=>decide (bl s < y))):=by show _=_;rw [HT.out,any_snoc,← HD.out,decide_eq_true (less_t e2)];rfl
  have HUN:Hid ((out ++ [s] ++ [x]).map bl=outL (bl s) ((l.take (k + 1)).map bl)):=by show _=_;rw [HT.out,outL_n HD.out.symm (less_t e2),List.map_append,List.map_append,HU.out];rfl
  have O2:=O1 s
  have B2:=B1 s
  have HB2:=HB1 s
  have hlen:(out ++ [s] ++ [x]).length=out.length + 2:=by simp
  have hlen1:(out ++ [s]).length=out.length + 1:=by simp
  have hol1:out.length≤k:=by
   have h1:=congrArg List.length HU.out
   have h2:outL (bl s) ((l.take k).map bl)=(l.take k).map bl:=by unfold outL;rw [if_neg (by rw [← HD.out];simp)]
   rw [h2] at h1
   simp at h1
   omega
  clear O1 B1 HB1 HU HD HT
  go_upto_region 10 with (at_builtin;refine app_str rfl _ _ rfl w.heap.size _ out rfl O2.out wr.heap.size s rfl B2.out (by omega) (by simp;omega) ?_;intro v' w3 own3 grown3)
  have HB3:=Lib.hid (grow_below HB2.out O2.out grown3)
  obtain ⟨-,oa3,oc3,rfl,-,-⟩:=owns_strs own3
  have HC:Hid (w3.cell? ⟨b,off + k,none⟩=some (.string x)):=cell_below HB3.out HC0.out
  have O3:=Lib.hid (owns_set1 own3 (.cells #[.string x] 9))
  have B3:Hid (Blk (w3.alloc (.cells #[.string x] 9)) w3.heap.size #[.string x] 9):=blk_new ..
  have hbs3:=HB3.out.size
  have HB4:Hid (Below w.heap.size w (w3.alloc (.cells #[.string x] 9))):=HB3.out.trans ((one_below ..).mono hbs3)
  clear own3 grown3 c0 O2 B2 HB2
  have c1:=HC.out
  go_wp2_with (at_builtin;refine app_str rfl _ _ rfl w.heap.size _ (out ++ [s]) rfl O3.out w3.heap.size x rfl B3.out (by omega) (by simp;omega) ?_;intro v' w5 own5 grown5)
  have HB5:=Lib.hid (grow_below HB4.out O3.out grown5)
  obtain ⟨-,oa5,oc5,rfl,-,-⟩:=owns_strs own5
  have O5:=Lib.hid own5
  clear own5 grown5
  go_wp2
  go_roundw
  case rel=>exact ⟨k + 1,out ++ [s] ++ [x],oa5,oc5,true,by omega,by omega,rfl,rfl,by go_num,HB5.out,O5.out,HDN.out,HUN.out,HN2.out⟩
  case measure=>simp [intOf];omega
end Go.Proofs.YtffcklfigpmlgaaGreatDoor
namespace Go.Proofs.YtffcklfigpmlgaaGreatDoor
open Go.RowKit Go.Unit0

def StrsB (l:List BL) (w:World) (e:Ending) (w':World):Prop :=
 Below w.heap.size w w'∧∃ (r:List Str) (a:Option Addr) (c:Nat),e = .returned (.slice a r.length c)∧StrsAt w' a r∧r.map bl=l
set_option maxRecDepth 100000 in
set_option maxHeartbeats 4000000 in
theorem fields31 (u:Unt) (ha:Option Addr) (hc:Nat) (fa:Option Addr) (fc:Nat) (w:World) (h:ClssAt w ha u.h) (f:FncsAt w fa u.fs) (hl:u.h.length≤50) (hfl:∀ x ∈ u.h,x.fields.length≤1000) :
 Calls Tryz.prog 37 #[unV u ha hc fa fc] w (StrsB (foldL ((fldNames u.h).map bl)) w):=by
 have S0:Hid (UB u ha hc fa fc w (w.alloc (unC u ha hc fa fc))):=UB.start h f
 have HM:Hid (ClssAt w ha u.h∧FncsAt w fa u.fs):=⟨h,f⟩
 have HFL:=Lib.hid hfl
 have HSN:Hid (∀ k (hk:k < u.h.length),fldNames (u.h.take (k + 1))=fldNames (u.h.take k) ++ u.h[k].fields.map (·.name)):=fun k hk=>fldNames_snoc hk
 clear h f hfl
 unfold unV
 go_enter Tryz.func37,Tryz.ntmps37
 go_wp2
 generalize w.alloc _=W at *
 go_loopw [3,4] (fun v i wr=>∃ (q:Nat) (out:List Str) (oa:Option Addr) (oc:Nat),q≤u.h.length∧out.length≤q * 1000∧v = .slice oa out.length oc∧i = .int .i64 (q:Nat)∧Hid (out.map bl=foldL ((fldNames (u.h.take q)).map bl))∧Hid (StrsAt wr oa out)∧Hid (UB u ha hc fa fc w wr)) (fun _ i _=>u.h.length - (intOf i).toNat)
 case atStart=>exact ⟨0,[],none,0,Nat.zero_le _,Nat.zero_le _,rfl,rfl,(by show _=_;simp [fldNames,foldL]),(fun k hk=>absurd hk (by simp)),S0.out⟩
 case round =>
  clear S0
  obtain ⟨q,out,oa,oc,hq,hol,rfl,rfl,HI,HA,S⟩:=hrel
  obtain ⟨z0,z1,z2⟩:=S.out.cells
  by_cases hlt:q < u.h.length
  case neg =>
   have HF:Hid (out.map bl=foldL ((fldNames u.h).map bl)):=by show _=_;rw [HI.out,show u.h.take q=u.h from List.take_of_length_le (by omega)]
   go_wp2
   go_ret
   exact ⟨S.out.hb,out,oa,oc,rfl,HA.out,HF.out⟩
  obtain ⟨b,off,ffa,ffc,ma,mc,he,m0,m1,m2,m3,hfx,-⟩:=S.out.h q hlt
  subst he
  have hxl:=HFL.out _ (List.getElem_mem hlt)
  have HSQ:=Lib.hid (HSN.out q hlt)
  have HFX:Hid (FldsAt w ffa u.h[q].fields):=by
   obtain ⟨b',off',ffa',ffc',ma',mc',he,-,-,n2,-,hfx',-⟩:=HM.out.1 q hlt
   cases he
   have:=cell_below S.out.hb n2
   rw [m2] at this
   cases this
   exact hfx'
  generalize u.h[q]=x at *
  clear hfx
  have BZ:Hid (Blk (wr.alloc zClC) wr.heap.size _ 85):=blk_new ..
  have hsz:wr.heap.size≤wr.heap.size:=Nat.le_refl _
  go_upto_region 6 with (refine storeCls rfl rfl _ _ rfl wr.heap.size x ffa ffc ma mc rfl rfl _ BZ.out rfl ?_)
  have HB2:=Lib.hid (below_row (one_below wr zClC) hsz #[.string x.name,.string x.super,.slice ffa x.fields.length ffc,.slice ma x.methods.length mc])
  have B2:=Lib.hid (BZ.out.setRow #[.string x.name,.string x.super,.slice ffa x.fields.length ffc,.slice ma x.methods.length mc])
  have S2:=Lib.hid (S.out.below HB2.out)
  have HA2:=Lib.hid (HA.out.below HB2.out)
  clear S HA BZ HB2 m0 m1 m2 m3 hsz z0 z1 z2
  generalize (wr.alloc zClC).setRow wr.heap.size _=W2 at *
  generalize wr.heap.size=n2 at *
  go_wp2
  go_loopw [3,6] (fun v i wr=>∃ (k:Nat) (out':List Str) (oa:Option Addr) (oc:Nat),k≤x.fields.length∧out'.length≤q * 1000 + k∧v = .slice oa out'.length oc∧i = .int .i64 (k:Nat)∧Hid (out'.map bl=foldL ((fldNames (u.h.take q) ++ (x.fields.take k).map (·.name)).map bl))∧Hid (StrsAt wr oa out')∧Hid (UB u (some ⟨b,off,none⟩) hc fa fc w wr)∧Hid (Blk wr n2 #[.string x.name,.string x.super,.slice ffa x.fields.length ffc,.slice ma x.methods.length mc] 85)) (fun _ i _=>x.fields.length - (intOf i).toNat)
  case atStart=>exact ⟨0,out,oa,oc,Nat.zero_le _,by omega,rfl,rfl,(by show _=_;simp only [List.take_zero,List.map_nil,List.append_nil];exact HI.out),HA2.out,S2.out,B2.out⟩
  case round =>
   clear S2 HA2 B2
   obtain ⟨k,out',oa',oc',hk,hol',rfl,rfl,HJ,HA,S,B⟩:=hrel
   have y2:=B.out.cell 2 (by simp)
   simp only [List.getElem_toArray,List.getElem_cons_zero,List.getElem_cons_succ] at y2
   by_cases hkl:k < x.fields.length
   case neg =>
    have HN:Hid (out'.map bl=foldL ((fldNames (u.h.take (q + 1))).map bl)):=by show _=_;rw [HSQ.out,HJ.out,show x.fields.take k=x.fields from List.take_of_length_le (by omega)]
    have hol2:out'.length≤(q + 1) * 1000:=by omega
    clear HJ
    go_wp2
    go_roundw
    case rel=>exact ⟨q + 1,out',oa',oc',by omega,hol2,rfl,by go_num,HN.out,HA.out,S.out⟩
    case measure=>simp [intOf];omega
   have HFW:=Lib.hid (HFX.out.below S.out.hb)
   obtain ⟨b3,o3,he,p0,p1⟩:=HFW.out k hkl
   subst he
   have HJN:Hid (∀ r:List Str,r.map bl=addL (bl x.fields[k].name) (out'.map bl)→r.map bl=foldL ((fldNames (u.h.take q) ++ (x.fields.take (k + 1)).map (·.name)).map bl)):=fun r hr=>by
    rw [hr,HJ.out,List.take_succ_eq_append_getElem hkl,List.map_append (f:=fun x:Fld=>x.name),← List.append_assoc,List.map_append (f:=bl) (l₁:=_ ++ _)]
    exact (foldL_snoc _ _).symm
   generalize x.fields[k].name=nm at *
   generalize x.fields[k].type=ty at *
   go_wp2_with fail
   refine (add71 out' nm oa' oc' _ HA.out (by omega)).mono ?_
   rintro e w3 ⟨hb3,r,ra,rc,rfl,hat,hr⟩
   have HN:=Lib.hid (HJN.out r hr)
   have hrl:r.length≤out'.length + 1:=by
    have h1:=congrArg List.length hr
    have h2:=addL_len (bl nm) (out'.map bl)
    rw [← h1] at h2
    simpa using h2
   have S3:=Lib.hid (S.out.below hb3)
   have B3:=Lib.hid (B.out.below hb3)
   have HA3:=Lib.hid hat
   clear S B HA hb3 hat hr y2 p0 p1 HFW HJN HJ
   go_wp2
   go_roundw
   case rel=>exact ⟨k + 1,r,ra,rc,by omega,by omega,rfl,by go_num,HN.out,HA3.out,S3.out,B3.out⟩
   case measure=>simp [intOf];omega
end Go.Proofs.YtffcklfigpmlgaaGreatDoor
