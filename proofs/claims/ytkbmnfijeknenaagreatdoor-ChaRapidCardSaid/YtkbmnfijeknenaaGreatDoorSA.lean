/-
  The reference's put: a name put into a list. (Printed by gens1.py.)
  The reference's subclasses and targets.
  The reference's Find, Can and IsCall.
  The reference's targets of a call.
-/
import Derived.Test.YtkbmnfijeknenaaGreatDoorVC
import Derived.Test.YtkbmnfijeknenaaGreatDoorHB
import Derived.Test.YtkbmnfijeknenaaGreatDoorHX
namespace Go.Proofs.YtkbmnfijeknenaaGreatDoor
open Go.RowKit Go.Unit0 Go.AM

set_option maxRecDepth 100000 in
theorem sliceHi (a:Option Addr) (n cap k:Nat) (h:k≤cap) (w:World):(Instr.slice 59 (.slice a n cap) none (some (.int .i64 (k:Int))) none).run Tryz.prog w = .ok (.slice a k cap) w:=by
 have hs:(sizeOf (Tryz.prog.elem 59)).run Tryz.prog w = .ok 1 w:=by kernel_rfl
 rw [run_slice_h w 59 a n cap Tryz.underlying59 .i64 (k:Int) (by omega) (by omega),hs]
 have e:a.map (fun x=>x.add 0)=a:=by
  cases a with
  | none=>rfl
  | some x=>simp [Addr.add]
 simp [Result.andThen,sliced,e]
theorem strsAt_take {w:World} {a:Option Addr} {l:List ByteArray} (h:StrsAt w a l) (n:Nat):StrsAt w a (l.take n):=by
 intro k hk
 have hk':k < l.length:=by simp at hk;omega
 obtain ⟨b,off,ha,hc⟩:=h k hk'
 exact ⟨b,off,ha,by rw [hc];simp⟩
set_option maxRecDepth 100000 in
set_option maxHeartbeats 8000000 in
theorem putR (l:List Str) (s:Str) (la:Option Addr) (lc:Nat) (w:World) (hs:StrsAt w la l) (hc:l.length≤lc) (hl:l.length≤100000) :
 Calls Tryz.prog 163 #[.slice la l.length lc,.string s] w (StrsSet (fun x=>x=s ∨ x ∈ l) (l.length + 1) w):=by
 have HL:=Lib.hid hs
 clear hs
 go_enter Tryz.func163,Tryz.ntmps163
 go_upto_block 0 with (fail)
 go_cut [5] (fun v wx=>∃ k:Nat,k≤l.length∧v = .int .i64 k∧Hid (w=wx))
 case first =>
  go_wp2
  go_loop [5] (fun v=>∃ k:Nat,k≤l.length∧v = .int .i64 k) (fun v=>l.length - (intOf v).toNat)
  case atStart=>exact ⟨0,Nat.zero_le _,rfl⟩
  case round =>
   obtain ⟨k,hk,rfl⟩:=hrel
   by_cases hlt:k < l.length
   case neg =>
    go_wp2
    go_meet
    exact ⟨k,hk,rfl,rfl⟩
   case pos =>
    obtain ⟨b,off,he,c0⟩:=HL.out k hlt
    subst he
    generalize l[k]=x at *
    cases e2:Op.bytesLess x.toList s.toList
    ·go_wp2
     go_meet
     exact ⟨k,hk,rfl,rfl⟩
    ·go_wp2
     go_round
     case rel=>exact ⟨k + 1,by omega,by go_num⟩
     case measure=>simp [intOf];omega
 case rest =>
  obtain ⟨k,hk,rfl,HW⟩:=hcut
  obtain rfl:=HW.out
  clear HW
  by_cases hf:∃ hlt:k < l.length,(l[k].toList == s.toList)=true
  case pos =>
   obtain ⟨hlt,e1⟩:=hf
   obtain ⟨b,off,he,c0⟩:=HL.out k hlt
   subst he
   have HM:Hid (∀ x,x ∈ l ↔ x=s ∨ x ∈ l):=fun x=>⟨.inr,fun e=>by
    rcases e with e | e
    ·rw [e,← eqB_iff.1 e1];exact List.getElem_mem hlt
    ·exact e⟩
   generalize l[k]=x at *
   go_wp2
   go_ret
   exact ⟨Below.refl _ _,l,_,lc,rfl,Nat.le_succ _,hc,HM.out,HL.out⟩
  case neg =>
   go_upto_region 4 with (fail)
   go_cut [31] (fun v wx=>v = .bool false∧Hid (w=wx))
   case first =>
    by_cases hlt:k < l.length
    ·have e1:(l[k].toList == s.toList)=false:=by
      cases hb:(l[k].toList == s.toList) with
      | false=>rfl
      | true=>exact absurd ⟨hlt,hb⟩ hf
     clear hf
     obtain ⟨b,off,he,c0⟩:=HL.out k hlt
     subst he
     generalize l[k]=x at *
     go_wp2
     go_meet
     exact ⟨rfl,rfl⟩
    ·clear hf
     go_wp2
     go_meet
     exact ⟨rfl,rfl⟩
   case rest =>
    obtain ⟨rfl,HW⟩:=hcut
    obtain rfl:=HW.out
    clear HW hf
    obtain ⟨m1,m2,hl12,hk1⟩:∃ m1 m2:List Str,l=m1 ++ m2∧k=m1.length:=⟨l.take k,l.drop k,(List.take_append_drop k l).symm,by simp;omega⟩
    subst hk1
    have HLN:Hid (l.length=m1.length + m2.length):=by show _=_;rw [hl12,List.length_append]
    have hm1:m1.length≤1000000:=by have:=HLN.out;omega
    have hm2:m2.length≤1000000:=by have:=HLN.out;omega
    have HMEM:Hid (∀ x,x ∈ m1 ++ [s] ++ m2 ↔ x=s ∨ x ∈ l):=fun x=>by
     rw [hl12]
     simp only [List.mem_append,List.mem_singleton]
     constructor
     ·rintro ((h | h) | h) <;> simp [h]
     ·rintro (h | h | h) <;> simp [h]
    have HA1:Hid (StrsAt w la m1):=by
     have:=strsAt_take HL.out m1.length
     rw [hl12,List.take_left'  rfl] at this
     exact this
    obtain ⟨a2,hsl,hdr⟩:=slice59l la l.length lc m1.length hk hc
    have HA2:Hid (StrsAt w a2 m2):=by
     have:=hdr w l rfl HL.out
     rw [hl12,List.drop_left' rfl] at this
     exact this
    have hd:l.length - m1.length=m2.length:=by have:=HLN.out;omega
    rw [hd] at hsl
    have hs1:=sliceHi la l.length lc m1.length (by omega)
    clear hdr hd hl12
    go_upto_region 6 with (fail)
    have hneW:Nonempty (WB w):=⟨⟨w,Below.refl _ _⟩⟩
    have h0:Below w.heap.size w w.drew:=(Below.refl _ _).drew
    refine wp_region_Y (fun w'=>∃ o:WB w,w' = o.u) (by kernel_rfl) ?_
    change wpAnyY _ _ _ _ _ _ _ _ w.drew
    generalize w.drew=W0 at *
    refine wpAnyY_take 1 rfl (by kernel_rfl) (fun _ _ _ _ h=>h) ⟨⟨_,h0⟩,rfl⟩ (fun K hK=>?_);go_simp;refine hK _ ?_;clear hK K
    refine wpAnyY_take 2 rfl (by kernel_rfl) (fun _ _ _ _ h=>h) ⟨⟨_,h0⟩,rfl⟩ (fun K hK=>?_);go_simp;refine hK _ ?_;clear hK K
    refine wpAnyY_take 3 rfl (by kernel_rfl) (fun _ _ _ _ h=>h) ⟨⟨_,h0⟩,rfl⟩ (fun K hK=>?_);go_simp;refine hK _ ?_;clear hK K
    refine wpAnyY_take 5 rfl (by kernel_rfl) (fun _ _ _ _ h=>h) ⟨⟨_,h0⟩,rfl⟩ (fun K hK=>?_);go_simp;refine hK _ ?_;clear hK K
    refine wpAnyY_take 8 rfl (by kernel_rfl) (fun _ _ _ _ h=>h) ⟨⟨_,h0⟩,rfl⟩ (fun K hK=>?_);go_simp;refine hK _ ?_;clear hK K
    refine wpAnyY_take 9 rfl (by kernel_rfl) (fun _ _ _ _ h=>h) ⟨⟨_,h0⟩,rfl⟩ (fun K hK=>?_);go_simp;refine hK _ ?_;clear hK K
    refine wpAnyY_take 10 rfl (by kernel_rfl) (fun _ _ _ _ h=>h) ⟨⟨_,h0⟩,rfl⟩ (fun K hK=>?_);go_simp;refine hK _ ?_;clear hK K
    clear hsl hs1
    refine wpAnyY_two 0 6 rfl rfl (by kernel_rfl) ?_ ?_
    ·go_wp2
     have h1:Below w.heap.size w (W0.alloc (.cells #[] 9)):=h0.trans ((one_below ..).mono h0.size)
     have OA:Hid ((W0.alloc (.cells #[] 9)).ownsRow w.heap.size 9 1 (.slice (some ⟨W0.heap.size,0,none⟩) 0 0) ([]:List ByteArray).length (([]:List ByteArray).map Value.string)):=⟨rfl,.inr ⟨W0.heap.size,0,_,rfl,h0.size,blk_new ..,Nat.le_refl _,Nat.zero_le _,rfl,rfl⟩⟩
     refine ⟨⟨⟨_,h1⟩,rfl⟩,?_⟩
     generalize W0.alloc _=W1 at *
     generalize W0.heap.size=gA at *
     refine wpAnyY_two 4 6 rfl rfl (by kernel_rfl) ?_ ?_
     ·have AT:=HA1.out.below h1
      refine app_strs rfl _ _ rfl w.heap.size _ [] rfl OA.out la lc m1 rfl AT (by simp) hm1 h1.size ?_
      intro v2 W2 own2 hg2
      rw [List.nil_append] at own2
      have h2:Below w.heap.size w W2:=h1.grown hg2 h1.size (fun q hq=>(OA.out.lt q hq).1)
      obtain ⟨-,oa2,oc2,rfl,-,-⟩:=owns_strs own2
      replace OA:=Lib.hid own2
      clear own2 hg2 AT
      go_wp2
      refine ⟨⟨⟨_,h2⟩,rfl⟩,?_⟩
      refine wpAnyY_one 6 rfl (by kernel_rfl) ?_
      go_wp2
      have h3:Below w.heap.size w (W2.alloc (.cells #[.string s] 9)):=h2.trans ((one_below ..).mono h2.size)
      have BS:Hid (Blk (W2.alloc (.cells #[.string s] 9)) W2.heap.size #[.string s] 9):=blk_new ..
      replace OA:=Lib.hid (owns_below OA.out (one_below W2 (.cells #[.string s] 9)))
      refine ⟨⟨⟨_,h3⟩,rfl⟩,?_⟩
      generalize W2.alloc _=W3 at *
      generalize W2.heap.size=gS at *
      refine wpAnyY_one 7 rfl (by kernel_rfl) ?_
      refine app_str rfl _ _ rfl w.heap.size _ m1 rfl OA.out gS s rfl BS.out hm1 h3.size ?_
      intro v4 W4 own4 hg4
      have h4:Below w.heap.size w W4:=h3.grown hg4 h3.size (fun q hq=>(OA.out.lt q hq).1)
      obtain ⟨-,oa4,oc4,rfl,-,-⟩:=owns_strs own4
      replace OA:=Lib.hid own4
      clear own4 hg4
      go_wp2
      refine ⟨⟨⟨_,h4⟩,rfl⟩,?_⟩
      refine wpAnyY_one 11 rfl (by kernel_rfl) ?_
      have AT:=HA2.out.below h4
      have hm3:(m1 ++ [s]).length≤1000000:=by have:=HLN.out;simp;omega
      refine app_strs rfl _ _ rfl w.heap.size _ (m1 ++ [s]) rfl OA.out a2 (lc - m1.length) m2 rfl AT hm3 hm2 h4.size ?_
      intro v5 W5 own5 hg5
      have h5:Below w.heap.size w W5:=h4.grown hg5 h4.size (fun q hq=>(OA.out.lt q hq).1)
      obtain ⟨-,oa5,oc5,rfl,-,-⟩:=owns_strs own5
      have OK:=Lib.hid (owns_strs' own5)
      clear own5 hg5 AT
      go_wp2
      refine ⟨⟨⟨_,h5⟩,rfl⟩,?_⟩
      refine wpAnyY_one 12 rfl (by kernel_rfl) ?_
      go_wp2
      refine ⟨⟨⟨_,h5⟩,rfl⟩,?_⟩
      refine wpAnyY_done (by kernel_rfl) ?_ _
      go_wp2
      go_ret
      exact ⟨h5,m1 ++ [s] ++ m2,_,_,(by rw [show (m1 ++ [s] ++ m2).length=m1.length + (m2.length + 1) by simp] <;> rfl),by rw [List.length_append,List.length_append];have:=HLN.out;simp;omega,OK.out.1,HMEM.out,OK.out.2⟩
     ·go_wp2
      have h6:Below w.heap.size w (W1.alloc (.cells #[.string s] 9)):=h1.trans ((one_below ..).mono h1.size)
      have BS:Hid (Blk (W1.alloc (.cells #[.string s] 9)) W1.heap.size #[.string s] 9):=blk_new ..
      have hne:W1.heap.size ≠ gA:=Nat.ne_of_gt (OA.out.lt gA rfl).2
      replace OA:=Lib.hid (owns_below OA.out (one_below W1 (.cells #[.string s] 9)))
      refine ⟨⟨⟨_,h6⟩,rfl⟩,?_⟩
      generalize W1.alloc _=W6 at *
      generalize W1.heap.size=gS at *
      refine wpAnyY_one 4 rfl (by kernel_rfl) ?_
      have AT:=HA1.out.below h6
      refine app_strs rfl _ _ rfl w.heap.size _ [] rfl OA.out la lc m1 rfl AT (by simp) hm1 h6.size ?_
      intro v7 W7 own7 hg7
      rw [List.nil_append] at own7
      have h7:Below w.heap.size w W7:=h6.grown hg7 h6.size (fun q hq=>(OA.out.lt q hq).1)
      replace BS:=Lib.hid (BS.out.grown hg7 (fun e=>hne (Option.some.inj (show some gS=some gA from e))))
      obtain ⟨-,oa7,oc7,rfl,-,-⟩:=owns_strs own7
      replace OA:=Lib.hid own7
      clear own7 hg7 AT
      go_wp2
      refine ⟨⟨⟨_,h7⟩,rfl⟩,?_⟩
      refine wpAnyY_one 7 rfl (by kernel_rfl) ?_
      refine app_str rfl _ _ rfl w.heap.size _ m1 rfl OA.out gS s rfl BS.out hm1 h7.size ?_
      intro v8 W8 own8 hg8
      have h8:Below w.heap.size w W8:=h7.grown hg8 h7.size (fun q hq=>(OA.out.lt q hq).1)
      obtain ⟨-,oa8,oc8,rfl,-,-⟩:=owns_strs own8
      replace OA:=Lib.hid own8
      clear own8 hg8
      go_wp2
      refine ⟨⟨⟨_,h8⟩,rfl⟩,?_⟩
      refine wpAnyY_one 11 rfl (by kernel_rfl) ?_
      have AT:=HA2.out.below h8
      have hm3:(m1 ++ [s]).length≤1000000:=by have:=HLN.out;simp;omega
      refine app_strs rfl _ _ rfl w.heap.size _ (m1 ++ [s]) rfl OA.out a2 (lc - m1.length) m2 rfl AT hm3 hm2 h8.size ?_
      intro v9 W9 own9 hg9
      have h9:Below w.heap.size w W9:=h8.grown hg9 h8.size (fun q hq=>(OA.out.lt q hq).1)
      obtain ⟨-,oa9,oc9,rfl,-,-⟩:=owns_strs own9
      have OK:=Lib.hid (owns_strs' own9)
      clear own9 hg9 AT
      go_wp2
      refine ⟨⟨⟨_,h9⟩,rfl⟩,?_⟩
      refine wpAnyY_one 12 rfl (by kernel_rfl) ?_
      go_wp2
      refine ⟨⟨⟨_,h9⟩,rfl⟩,?_⟩
      refine wpAnyY_done (by kernel_rfl) ?_ _
      go_wp2
      go_ret
      exact ⟨h9,m1 ++ [s] ++ m2,_,_,(by rw [show (m1 ++ [s] ++ m2).length=m1.length + (m2.length + 1) by simp] <;> rfl),by rw [List.length_append,List.length_append];have:=HLN.out;simp;omega,OK.out.1,HMEM.out,OK.out.2⟩
    ·go_wp2
     have h10:Below w.heap.size w (W0.alloc (.cells #[.string s] 9)):=h0.trans ((one_below ..).mono h0.size)
     have BS:Hid (Blk (W0.alloc (.cells #[.string s] 9)) W0.heap.size #[.string s] 9):=blk_new ..
     refine ⟨⟨⟨_,h10⟩,rfl⟩,?_⟩
     generalize W0.alloc _=W10 at *
     generalize W0.heap.size=gS at *
     refine wpAnyY_one 0 rfl (by kernel_rfl) ?_
     go_wp2
     have h11:Below w.heap.size w (W10.alloc (.cells #[] 9)):=h10.trans ((one_below ..).mono h10.size)
     have OA:Hid ((W10.alloc (.cells #[] 9)).ownsRow w.heap.size 9 1 (.slice (some ⟨W10.heap.size,0,none⟩) 0 0) ([]:List ByteArray).length (([]:List ByteArray).map Value.string)):=⟨rfl,.inr ⟨W10.heap.size,0,_,rfl,h10.size,blk_new ..,Nat.le_refl _,Nat.zero_le _,rfl,rfl⟩⟩
     have hne:gS ≠ W10.heap.size:=Nat.ne_of_lt BS.out.lt
     replace BS:=Lib.hid (BS.out.below (one_below W10 (.cells #[] 9)))
     refine ⟨⟨⟨_,h11⟩,rfl⟩,?_⟩
     generalize W10.alloc _=W11 at *
     generalize W10.heap.size=gA at *
     refine wpAnyY_one 4 rfl (by kernel_rfl) ?_
     have AT:=HA1.out.below h11
     refine app_strs rfl _ _ rfl w.heap.size _ [] rfl OA.out la lc m1 rfl AT (by simp) hm1 h11.size ?_
     intro v12 W12 own12 hg12
     rw [List.nil_append] at own12
     have h12:Below w.heap.size w W12:=h11.grown hg12 h11.size (fun q hq=>(OA.out.lt q hq).1)
     replace BS:=Lib.hid (BS.out.grown hg12 (fun e=>hne (Option.some.inj (show some gS=some gA from e))))
     obtain ⟨-,oa12,oc12,rfl,-,-⟩:=owns_strs own12
     replace OA:=Lib.hid own12
     clear own12 hg12 AT
     go_wp2
     refine ⟨⟨⟨_,h12⟩,rfl⟩,?_⟩
     refine wpAnyY_one 7 rfl (by kernel_rfl) ?_
     refine app_str rfl _ _ rfl w.heap.size _ m1 rfl OA.out gS s rfl BS.out hm1 h12.size ?_
     intro v13 W13 own13 hg13
     have h13:Below w.heap.size w W13:=h12.grown hg13 h12.size (fun q hq=>(OA.out.lt q hq).1)
     obtain ⟨-,oa13,oc13,rfl,-,-⟩:=owns_strs own13
     replace OA:=Lib.hid own13
     clear own13 hg13
     go_wp2
     refine ⟨⟨⟨_,h13⟩,rfl⟩,?_⟩
     refine wpAnyY_one 11 rfl (by kernel_rfl) ?_
     have AT:=HA2.out.below h13
     have hm3:(m1 ++ [s]).length≤1000000:=by have:=HLN.out;simp;omega
     refine app_strs rfl _ _ rfl w.heap.size _ (m1 ++ [s]) rfl OA.out a2 (lc - m1.length) m2 rfl AT hm3 hm2 h13.size ?_
     intro v14 W14 own14 hg14
     have h14:Below w.heap.size w W14:=h13.grown hg14 h13.size (fun q hq=>(OA.out.lt q hq).1)
     obtain ⟨-,oa14,oc14,rfl,-,-⟩:=owns_strs own14
     have OK:=Lib.hid (owns_strs' own14)
     clear own14 hg14 AT
     go_wp2
     refine ⟨⟨⟨_,h14⟩,rfl⟩,?_⟩
     refine wpAnyY_one 12 rfl (by kernel_rfl) ?_
     go_wp2
     refine ⟨⟨⟨_,h14⟩,rfl⟩,?_⟩
     refine wpAnyY_done (by kernel_rfl) ?_ _
     go_wp2
     go_ret
     exact ⟨h14,m1 ++ [s] ++ m2,_,_,(by rw [show (m1 ++ [s] ++ m2).length=m1.length + (m2.length + 1) by simp] <;> rfl),by rw [List.length_append,List.length_append];have:=HLN.out;simp;omega,OK.out.1,HMEM.out,OK.out.2⟩
end Go.Proofs.YtkbmnfijeknenaaGreatDoor
namespace Go.Proofs.YtkbmnfijeknenaaGreatDoor
open Go.RowKit Go.Unit0 Go.AM

def subNK (h:List Cls) (c:Str) (n:Nat) (x:Str):Prop:=∃ (k:Nat) (hk:k < h.length),k < n∧h[k].name=x∧isSub h x c=true
theorem subNK_all (h:List Cls) (c:Str) (x:Str):subNK h c h.length x ↔ subNS h c x:=by
 constructor
 ·rintro ⟨k,hk,_,e,hs⟩;exact ⟨h[k],List.getElem_mem hk,e,hs⟩
 ·rintro ⟨d,hd,e,hs⟩
  obtain ⟨k,hk,rfl⟩:=List.getElem_of_mem hd
  exact ⟨k,hk,hk,e,hs⟩
theorem subNK_t {h:List Cls} {c:Str} {n:Nat} (hn:n < h.length) (e:isSub h h[n].name c=true) (x:Str):subNK h c (n + 1) x ↔ x=h[n].name ∨ subNK h c n x:=by
 constructor
 ·rintro ⟨k,hk,hkn,e1,e2⟩
  by_cases hkn':k < n
  ·exact .inr ⟨k,hk,hkn',e1,e2⟩
  ·obtain rfl:k=n:=by omega
   exact .inl e1.symm
 ·rintro (rfl | ⟨k,hk,hkn,e1,e2⟩)
  ·exact ⟨n,hn,by omega,rfl,e⟩
  ·exact ⟨k,hk,by omega,e1,e2⟩
theorem subNK_f {h:List Cls} {c:Str} {n:Nat} (hn:n < h.length) (e:isSub h h[n].name c=false) (x:Str):subNK h c (n + 1) x ↔ subNK h c n x:=by
 constructor
 ·rintro ⟨k,hk,hkn,e1,e2⟩
  by_cases hkn':k < n
  ·exact ⟨k,hk,hkn',e1,e2⟩
  ·obtain rfl:k=n:=by omega
   rw [e1] at e
   rw [e] at e2
   cases e2
 ·rintro ⟨k,hk,hkn,e1,e2⟩
  exact ⟨k,hk,by omega,e1,e2⟩
theorem mem_and {α:Type} {l r:List α} {P Q:α→Prop} {y:α} (h1:∀ x,x ∈ r ↔ x=y ∨ x ∈ l) (h2:∀ x,x ∈ l ↔ P x) (h3:∀ x,Q x ↔ x=y ∨ P x) (x:α):x ∈ r ↔ Q x:=by
 rw [h1,h2,h3]
set_option maxRecDepth 100000 in
set_option maxHeartbeats 8000000 in
theorem subsR (h:List Cls) (s:Str) (a:Option Addr) (c:Nat) (w:World) (hc:ClssAt w a h) (hl:h.length≤10000) :
 Calls Tryz.prog 161 #[.agg #[.slice a h.length c],.string s] w (StrsSet (subNS h s) h.length w):=by
 have S0:Hid (HX h a c w (w.alloc (.cells #[.slice a h.length c] 24))):=⟨one_below ..,blk_new ..,hc.below (one_below ..)⟩
 have HIS:Hid (∀ (x:Str) (w1:World),ClssAt w1 a h→Calls Tryz.prog 109 #[.agg #[.slice a h.length c],.string x,.string s] w1 (Ret w1 (.bool (isSub h x s)))):=fun x w1 h1=>isSub73 h x s a c w1 h1 (by omega)
 have HAL:=Lib.hid (subNK_all h s)
 have HK0:Hid (∀ x,x ∈ ([]:List Str) ↔ subNK h s 0 x):=fun x=>⟨fun h=>(by cases h),fun ⟨k,hk,h0,_⟩=>absurd h0 (by omega)⟩
 clear hc
 generalize subNS h s=P at *
 go_enter Tryz.func161,Tryz.ntmps161
 go_upto_region 1 with (fail)
 generalize w.alloc _=W at *
 go_wp2
 go_loopw [5,6] (fun v i wr=>∃ (k:Nat) (out:List Str) (oa:Option Addr) (oc:Nat),k≤h.length∧out.length≤k∧out.length≤oc∧v = .slice oa out.length oc∧i = .int .i64 k∧Hid (∀ x,x ∈ out ↔ subNK h s k x)∧Hid (StrsAt wr oa out)∧Hid (HX h a c w wr)) (fun _ i _=>h.length - (intOf i).toNat)
 case atStart=>exact ⟨0,[],none,0,Nat.zero_le _,Nat.zero_le _,Nat.zero_le _,rfl,rfl,HK0.out,(fun k hk=>absurd hk (by simp)),S0.out⟩
 case round =>
  clear S0 HK0
  obtain ⟨k,out,oa,oc,hk,hol,hoc,rfl,rfl,HM,HA,S⟩:=hrel
  have x0:=S.out.b1.cell 0 (by simp)
  simp only [List.getElem_toArray,List.getElem_cons_zero] at x0
  by_cases hlt:k < h.length
  case neg =>
   have HE:Hid (∀ x,x ∈ out ↔ P x):=fun x=>by rw [HM.out,show k=h.length by omega];exact HAL.out x
   have hoh:out.length≤h.length:=by omega
   go_wp2
   go_ret
   exact ⟨S.out.hb,out,oa,oc,rfl,hoh,hoc,HE.out,HA.out⟩
  obtain ⟨b,off,fa,fc,ma,mc,he,m0,m1,m2,m3,_,_⟩:=S.out.hc k hlt
  subst he
  have HT:=Lib.hid (@subNK_t h s k hlt)
  have HF:=Lib.hid (@subNK_f h s k hlt)
  have HI:=Lib.hid (HIS.out h[k].name)
  clear m1 m2 m3
  generalize isSub h h[k].name s=bb at *
  generalize h[k].name=nm at *
  have hne:Nonempty (WB wr):=⟨⟨wr,Below.refl _ _⟩⟩
  have k0:∀ o:WB wr,o.u.cell? ⟨w.heap.size,0,none⟩=some (.slice (some ⟨b,off,none⟩) h.length c):=fun o=>cell_below o.h x0
  have k1:∀ o:WB wr,o.u.cell? ⟨b,off + k * 4,none⟩=some (.string nm):=fun o=>cell_below o.h m0
  go_upto_region 5 with (fail)
  clear x0 m0
  refine wp_region_WB wr (by kernel_rfl) ?_
  repeat (go_big_quiet_step ((rename_i o;exact (HI.out _ (S.out.below o.h).hc).mono (fun _ _ h=>Ret.inB h))))
  refine wpQuiet_nil ?_
  intro _ hw'
  obtain ⟨o,rfl⟩:=hw'
  have S2:=Lib.hid (S.out.below o.h)
  have HA2:=Lib.hid (HA.out.below o.h)
  have x0:=k0 o
  have m0:=k1 o
  clear k0 k1 S HA hne HI
  generalize o.u=W2 at *
  cases bb
  case false =>
   have HN:Hid (∀ x,x ∈ out ↔ subNK h s (k + 1) x):=fun x=>by rw [HM.out,HF.out rfl]
   clear HT HF HM
   go_wp2
   go_roundw
   case rel=>exact ⟨k + 1,out,oa,oc,by omega,by omega,hoc,rfl,by go_num,HN.out,HA2.out,S2.out⟩
   case measure=>simp [intOf];omega
  case true =>
   have HQ:=Lib.hid (HT.out rfl)
   clear HT HF
   go_wp2_with (go_at_call 163;refine (putR out nm oa oc _ HA2.out hoc (by omega)).mono ?_;rintro e w3 ⟨hb3,r,ra,rc,rfl,hrl,hrc,hmem,hat⟩)
   have HN:Hid (∀ x,x ∈ r ↔ subNK h s (k + 1) x):=mem_and hmem HM.out HQ.out
   have S3:=Lib.hid (S2.out.below hb3)
   have HA3:=Lib.hid hat
   clear hmem hat hb3 S2 HA2 HM HQ x0 m0
   go_roundw
   case rel=>exact ⟨k + 1,r,ra,rc,by omega,by omega,hrc,rfl,by go_num,HN.out,HA3.out,S3.out⟩
   case measure=>simp [intOf];omega
def LookW (r:Option (Str × Sgn)) (w:World) (e:Ending) (w':World):Prop:=Below w.heap.size w w'∧∃ (x s1 s2:Str) (b1 b:Bool) (pa:Option Addr) (n pc:Nat),
 e = .returned (.tuple #[.string x,.agg #[.string s1,.bool b1,.slice pa n pc,.string s2],.bool b])∧((b=false∧r=none) ∨ (b=true∧∃ g,r=some (x,g)))
theorem lookupRW (h:List Cls) (s m:Str) (a:Option Addr) (c:Nat) (w:World) (hc:ClssAt w a h) (hl:h.length≤100000) (hm:∀ x ∈ h,x.methods.length≤100000) :
 Calls Tryz.prog 162 #[.agg #[.slice a h.length c],.string s,.string m] w (LookW (lookP h s m) w) :=
 (lookup110 h s m a c w hc hl hm).mono fun e w' ⟨hb,hr⟩=>⟨hb,by
   rcases hr with ⟨h1,rfl⟩ | ⟨x,g,pa,pc,h1,rfl,_⟩
   ·exact ⟨⟨#[]⟩,⟨#[]⟩,⟨#[]⟩,false,false,none,0,0,rfl,.inl ⟨rfl,h1⟩⟩
   ·exact ⟨x,g.name,g.result,g.stat,true,pa,_,pc,rfl,.inr ⟨rfl,g,h1⟩⟩⟩
def lookNS (h:List Cls) (t:Str) (l:List Str) (x:Str):Prop:=∃ s ∈ l,∃ g,lookP h s t=some (x,g)
theorem lookNS_all {h:List Cls} {c t:Str} {l:List Str} (hl:∀ x,x ∈ l ↔ subNS h c x) (x:Str):lookNS h t l x ↔ tgtNS h c t x:=by
 constructor
 ·rintro ⟨s,hs,g,hg⟩;exact ⟨s,(hl s).1 hs,g,hg⟩
 ·rintro ⟨s,hs,g,hg⟩;exact ⟨s,(hl s).2 hs,g,hg⟩
theorem lookNS_t {h:List Cls} {t s y:Str} {l:List Str} {g:Sgn} (e:lookP h s t=some (y,g)) (x:Str):lookNS h t (l ++ [s]) x ↔ x=y ∨ lookNS h t l x:=by
 constructor
 ·rintro ⟨z,hz,g',hg⟩
  rcases List.mem_append.1 hz with hz | hz
  ·exact .inr ⟨z,hz,g',hg⟩
  ·rw [List.mem_singleton.1 hz,e] at hg
   cases hg
   exact .inl rfl
 ·rintro (rfl | ⟨z,hz,g',hg⟩)
  ·exact ⟨s,by simp,g,e⟩
  ·exact ⟨z,by simp [hz],g',hg⟩
theorem lookNS_f {h:List Cls} {t s:Str} {l:List Str} (e:lookP h s t=none) (x:Str):lookNS h t (l ++ [s]) x ↔ lookNS h t l x:=by
 constructor
 ·rintro ⟨z,hz,g',hg⟩
  rcases List.mem_append.1 hz with hz | hz
  ·exact ⟨z,hz,g',hg⟩
  ·rw [List.mem_singleton.1 hz,e] at hg
   cases hg
 ·rintro ⟨z,hz,g',hg⟩
  exact ⟨z,by simp [hz],g',hg⟩
set_option maxRecDepth 100000 in
set_option maxHeartbeats 8000000 in
theorem targetsR (h:List Cls) (s t:Str) (a:Option Addr) (c:Nat) (w:World) (hc:ClssAt w a h) (hl:h.length≤10000) (hm:∀ x ∈ h,x.methods.length≤100000) :
 Calls Tryz.prog 102 #[.agg #[.slice a h.length c],.string s,.string t] w (StrsSet (tgtNS h s t) h.length w):=by
 have S0:Hid (HX h a c w (w.alloc (.cells #[.slice a h.length c] 24))):=⟨one_below ..,blk_new ..,hc.below (one_below ..)⟩
 have HSB:Hid (∀ (w1:World),ClssAt w1 a h→Calls Tryz.prog 161 #[.agg #[.slice a h.length c],.string s] w1 (StrsSet (subNS h s) h.length w1)):=fun w1 h1=>subsR h s a c w1 h1 hl
 have HLK:Hid (∀ (x:Str) (w1:World),ClssAt w1 a h→Calls Tryz.prog 162 #[.agg #[.slice a h.length c],.string x,.string t] w1 (LookW (lookP h x t) w1)):=fun x w1 h1=>lookupRW h x t a c w1 h1 (by omega) hm
 have HAL:Hid (∀ (l:List Str),(∀ x,x ∈ l ↔ subNS h s x)→∀ x,lookNS h t l x ↔ tgtNS h s t x):=fun l k=>lookNS_all k
 clear hc hm
 generalize tgtNS h s t=P at *
 generalize subNS h s=PS at *
 go_enter Tryz.func102,Tryz.ntmps102
 go_upto_region 2 with (fail)
 generalize w.alloc _=W at *
 have x0:=S0.out.b1.cell 0 (by simp)
 simp only [List.getElem_toArray,List.getElem_cons_zero] at x0
 go_upto_region 3 with (go_at_call 161;refine (HSB.out _ S0.out.hc).mono ?_;rintro e w1 ⟨hb1,l,la,lc,rfl,hll,hlc,hmem,hat⟩)
 have S1:=Lib.hid (S0.out.below hb1)
 have HL:=Lib.hid hat
 have HALL:=Lib.hid (HAL.out _ hmem)
 clear S0 x0 hb1 hat hmem HAL HSB hlc
 generalize w1=W1 at *
 go_wp2
 go_loopw [7,9] (fun v i wr=>∃ (k:Nat) (out:List Str) (oa:Option Addr) (oc:Nat),k≤l.length∧out.length≤k∧out.length≤oc∧v = .slice oa out.length oc∧i = .int .i64 k∧Hid (∀ x,x ∈ out ↔ lookNS h t (l.take k) x)∧Hid (StrsAt wr oa out)∧Hid (StrsAt wr la l)∧Hid (HX h a c w wr)) (fun _ i _=>l.length - (intOf i).toNat)
 case atStart=>exact ⟨0,[],none,0,Nat.zero_le _,Nat.zero_le _,Nat.zero_le _,rfl,rfl,(fun x=>by simp [lookNS]),(fun k hk=>absurd hk (by simp)),HL.out,S1.out⟩
 case round =>
  clear S1 HL
  obtain ⟨k,out,oa,oc,hk,hol,hoc,rfl,rfl,HM,HA,HL,S⟩:=hrel
  have x0:=S.out.b1.cell 0 (by simp)
  simp only [List.getElem_toArray,List.getElem_cons_zero] at x0
  by_cases hlt:k < l.length
  case neg =>
   have HE:Hid (∀ x,x ∈ out ↔ P x):=fun x=>by rw [HM.out,List.take_of_length_le (by omega)];exact HALL.out x
   have hoh:out.length≤h.length:=by omega
   go_wp2
   go_ret
   exact ⟨S.out.hb,out,oa,oc,rfl,hoh,hoc,HE.out,HA.out⟩
  have HLC:=Lib.hid HL.out
  obtain ⟨b,off,he,c0⟩:=HL.out k hlt
  subst he
  have HT:Hid (l.take (k + 1)=l.take k ++ [l[k]]):=List.take_succ_eq_append_getElem hlt
  have HQT:=Lib.hid (fun (y:Str) (g:Sgn)=>@lookNS_t h t l[k] y (l.take k) g)
  have HQF:=Lib.hid (@lookNS_f h t l[k] (l.take k))
  rw [← HT.out] at HQT HQF
  have HI:=Lib.hid (HLK.out l[k])
  generalize lookP h l[k] t=R at *
  generalize l[k]=nm at *
  go_upto_region 6 with (fail)
  go_cut [10,12] (fun v u wx=>∃ (x:Str) (bb:Bool),v = .string x∧u = .bool bb∧Hid ((bb=false∧R=none) ∨ (bb=true∧∃ g,R=some (x,g)))∧Hid (Below wr.heap.size wr wx))
  case first =>
   have hne:Nonempty (WB wr):=⟨⟨wr,Below.refl _ _⟩⟩
   have k0:∀ o:WB wr,o.u.cell? ⟨w.heap.size,0,none⟩=some (.slice a h.length c):=fun o=>cell_below o.h x0
   have k1:∀ o:WB wr,o.u.cell? ⟨b,off + k,none⟩=some (.string nm):=fun o=>cell_below o.h c0
   clear x0 c0
   have h0:Below wr.heap.size wr wr.drew:=(Below.refl _ _).drew
   refine wp_region_Y (fun w'=>∃ o:WB wr,w' = o.u) (by kernel_rfl) ?_
   change wpAnyY _ _ _ _ _ _ _ _ wr.drew
   generalize wr.drew=V0 at *
   refine wpAnyY_take 0 rfl (by kernel_rfl) (fun _ _ _ _ h=>h) ⟨⟨_,h0⟩,rfl⟩ (fun K hK=>?_);go_simp;refine hK _ ?_;clear hK K
   refine wpAnyY_take 1 rfl (by kernel_rfl) (fun _ _ _ _ h=>h) ⟨⟨_,h0⟩,rfl⟩ (fun K hK=>?_);go_simp;refine hK _ ?_;clear hK K
   refine wpAnyY_take 2 rfl (by kernel_rfl) (fun _ _ _ _ h=>h) ⟨⟨_,h0⟩,rfl⟩ (fun K hK=>?_);go_simp;refine hK _ ?_;clear hK K
   refine wpAnyY_take 3 rfl (by kernel_rfl) (fun _ _ _ _ h=>h) ⟨⟨_,h0⟩,rfl⟩ (fun K hK=>?_);go_simp;refine hK _ ?_;clear hK K
   refine wpAnyY_take 4 rfl (by kernel_rfl) (fun _ _ _ _ h=>h) ⟨⟨_,h0⟩,rfl⟩ (fun K hK=>?_);go_simp;refine hK _ ?_;clear hK K
   refine wpAnyY_take 5 rfl (by kernel_rfl) (fun _ _ _ _ h=>h) ⟨⟨_,h0⟩,rfl⟩ (fun K hK=>?_);go_simp;refine hK _ ?_;clear hK K
   refine wpAnyY_two 6 11 rfl rfl (by kernel_rfl) ?_ ?_
   ·go_wp2_with fail
    refine (HI.out _ (S.out.hc.below h0)).mono ?_
    rintro e w2 ⟨hb2,x,s1,s2,b1,bb,pa,n,pc,rfl,hr⟩
    have h2:Below wr.heap.size wr w2:=h0.trans (hb2.mono h0.size)
    have HR:=Lib.hid hr
    clear hr hb2
    go_wp2
    refine ⟨⟨⟨_,h2⟩,rfl⟩,?_⟩
    refine wpAnyY_take 7 rfl (by kernel_rfl) (fun _ _ _ _ h=>h) ⟨⟨_,h2⟩,rfl⟩ (fun K hK=>?_);go_simp;refine hK _ ?_;clear hK K
    refine wpAnyY_take 8 rfl (by kernel_rfl) (fun _ _ _ _ h=>h) ⟨⟨_,h2⟩,rfl⟩ (fun K hK=>?_);go_simp;refine hK _ ?_;clear hK K
    refine wpAnyY_take 9 rfl (by kernel_rfl) (fun _ _ _ _ h=>h) ⟨⟨_,h2⟩,rfl⟩ (fun K hK=>?_);go_simp;refine hK _ ?_;clear hK K
    refine wpAnyY_take 10 rfl (by kernel_rfl) (fun _ _ _ _ h=>h) ⟨⟨_,h2⟩,rfl⟩ (fun K hK=>?_);go_simp;refine hK _ ?_;clear hK K
    have h3:Below wr.heap.size wr (w2.alloc (.cells #[.string ⟨#[]⟩,.bool false,.slice none 0 0,.string ⟨#[]⟩] 79)):=h2.trans ((one_below ..).mono h2.size)
    have B3:Hid (Blk (w2.alloc (.cells #[.string ⟨#[]⟩,.bool false,.slice none 0 0,.string ⟨#[]⟩] 79)) w2.heap.size #[.string ⟨#[]⟩,.bool false,.slice none 0 0,.string ⟨#[]⟩] 79):=blk_new ..
    have h4:=below_setRow h3 h2.size #[.string s1,.bool b1,.slice pa n pc,.string s2]
    refine wpAnyY_one 11 rfl (by kernel_rfl) ?_
    go_wp2
    refine ⟨⟨⟨_,h3⟩,rfl⟩,?_⟩
    refine wpAnyY_take 12 rfl (by kernel_rfl) (fun _ _ _ _ h=>h) ⟨⟨_,h3⟩,rfl⟩ (fun K hK=>?_);go_simp;refine hK _ ?_;clear hK K
    refine wpAnyY_one 13 rfl (by kernel_rfl) ?_
    go_wp2_with (refine store114 rfl _ _ rfl w2.heap.size _ _ _ _ _ _ rfl rfl _ B3.out rfl ?_)
    refine ⟨⟨⟨_,h4⟩,rfl⟩,?_⟩
    refine wpAnyY_one 14 rfl (by kernel_rfl) ?_
    go_wp2
    refine ⟨⟨⟨_,h4⟩,rfl⟩,?_⟩
    refine wpAnyY_done (by kernel_rfl) ?_ _
    go_wp2
    go_meet
    exact ⟨x,bb,rfl,rfl,HR.out,h4⟩
   ·go_wp2
    have h2:Below wr.heap.size wr (V0.alloc (.cells #[.string ⟨#[]⟩,.bool false,.slice none 0 0,.string ⟨#[]⟩] 79)):=h0.trans ((one_below ..).mono h0.size)
    have B2:Hid (Blk (V0.alloc (.cells #[.string ⟨#[]⟩,.bool false,.slice none 0 0,.string ⟨#[]⟩] 79)) V0.heap.size #[.string ⟨#[]⟩,.bool false,.slice none 0 0,.string ⟨#[]⟩] 79):=blk_new ..
    refine ⟨⟨⟨_,h2⟩,rfl⟩,?_⟩
    refine wpAnyY_one 6 rfl (by kernel_rfl) ?_
    go_wp2_with fail
    refine (HI.out _ (S.out.hc.below h2)).mono ?_
    rintro e w2 ⟨hb2,x,s1,s2,b1,bb,pa,n,pc,rfl,hr⟩
    have h3:Below wr.heap.size wr w2:=h2.trans (hb2.mono h2.size)
    have B3:=Lib.hid (B2.out.below hb2)
    have HR:=Lib.hid hr
    clear hr hb2 B2
    have h4:=below_setRow h3 h0.size #[.string s1,.bool b1,.slice pa n pc,.string s2]
    go_wp2
    refine ⟨⟨⟨_,h3⟩,rfl⟩,?_⟩
    refine wpAnyY_take 7 rfl (by kernel_rfl) (fun _ _ _ _ h=>h) ⟨⟨_,h3⟩,rfl⟩ (fun K hK=>?_);go_simp;refine hK _ ?_;clear hK K
    refine wpAnyY_take 8 rfl (by kernel_rfl) (fun _ _ _ _ h=>h) ⟨⟨_,h3⟩,rfl⟩ (fun K hK=>?_);go_simp;refine hK _ ?_;clear hK K
    refine wpAnyY_take 9 rfl (by kernel_rfl) (fun _ _ _ _ h=>h) ⟨⟨_,h3⟩,rfl⟩ (fun K hK=>?_);go_simp;refine hK _ ?_;clear hK K
    refine wpAnyY_take 10 rfl (by kernel_rfl) (fun _ _ _ _ h=>h) ⟨⟨_,h3⟩,rfl⟩ (fun K hK=>?_);go_simp;refine hK _ ?_;clear hK K
    refine wpAnyY_take 12 rfl (by kernel_rfl) (fun _ _ _ _ h=>h) ⟨⟨_,h3⟩,rfl⟩ (fun K hK=>?_);go_simp;refine hK _ ?_;clear hK K
    refine wpAnyY_one 13 rfl (by kernel_rfl) ?_
    go_wp2_with (refine store114 rfl _ _ rfl V0.heap.size _ _ _ _ _ _ rfl rfl _ B3.out rfl ?_)
    refine ⟨⟨⟨_,h4⟩,rfl⟩,?_⟩
    refine wpAnyY_one 14 rfl (by kernel_rfl) ?_
    go_wp2
    refine ⟨⟨⟨_,h4⟩,rfl⟩,?_⟩
    refine wpAnyY_done (by kernel_rfl) ?_ _
    go_wp2
    go_meet
    exact ⟨x,bb,rfl,rfl,HR.out,h4⟩
  case rest =>
   obtain ⟨x,bb,rfl,rfl,HR,hbx⟩:=hcut
   have S2:=Lib.hid (S.out.below hbx.out)
   have HA2:=Lib.hid (HA.out.below hbx.out)
   have HL2:=Lib.hid (HLC.out.below hbx.out)
   clear hbx S HA HL HLC x0 c0 HI
   cases bb
   case false =>
    have HN:Hid (∀ x,x ∈ out ↔ lookNS h t (l.take (k + 1)) x):=fun y=>by
     rcases HR.out with ⟨_,e⟩ | ⟨e,_⟩
     ·rw [HM.out,HQF.out e]
     ·cases e
    clear HR HQT HQF HM
    go_wp2
    go_roundw
    case rel=>exact ⟨k + 1,out,oa,oc,by omega,by omega,hoc,rfl,by go_num,HN.out,HA2.out,HL2.out,S2.out⟩
    case measure=>simp [intOf];omega
   case true =>
    have HQ:Hid (∀ y,lookNS h t (l.take (k + 1)) y ↔ y=x ∨ lookNS h t (l.take k) y):=by
     rcases HR.out with ⟨e,_⟩ | ⟨_,g,e⟩
     ·cases e
     ·exact HQT.out x g e
    clear HR HQT HQF
    go_wp2_with (go_at_call 163;refine (putR out x oa oc _ HA2.out hoc (by omega)).mono ?_;rintro e w3 ⟨hb3,r,ra,rc,rfl,hrl,hrc,hmem,hat⟩)
    have HN:Hid (∀ x,x ∈ r ↔ lookNS h t (l.take (k + 1)) x):=mem_and hmem HM.out HQ.out
    have S3:=Lib.hid (S2.out.below hb3)
    have HA3:=Lib.hid hat
    have HL3:=Lib.hid (HL2.out.below hb3)
    clear hmem hat hb3 S2 HA2 HL2 HM HQ
    go_roundw
    case rel=>exact ⟨k + 1,r,ra,rc,by omega,by omega,hrc,rfl,by go_num,HN.out,HA3.out,HL3.out,S3.out⟩
    case measure=>simp [intOf];omega
end Go.Proofs.YtkbmnfijeknenaaGreatDoor
namespace Go.Proofs.YtkbmnfijeknenaaGreatDoor
open Go.RowKit Go.Unit0 Go.AM

theorem fn_step {s t:Str} {l:List Fnc} {k:Nat} (hk:k < l.length):fnFrom s t (l.drop k) k=if isFn s t l[k]=true then (k:Int) else fnFrom s t (l.drop (k + 1)) (k + 1):=by
 by_cases e:isFn s t l[k]=true
 ·rw [if_pos e,fn_hit hk e]
 ·rw [if_neg e,fn_miss hk (by simpa using e)]
set_option maxHeartbeats 4000000 in
theorem findR12 (u:Unt) (ha:Option Addr) (hc:Nat) (fa:Option Addr) (fc:Nat) (s t:Str) (w:World) (h:ClssAt w ha u.h) (f:FncsAt w fa u.fs) (hn:u.fs.length≤1000000) :
 Calls Tryz.prog 160 #[unV u ha hc fa fc,.string s,.string t] w (Ret w (.int .i64 (fnI u.fs s t))):=by
 have S0:=Lib.hid (UB.start (hc:=hc) (fc:=fc) h f)
 clear h f
 unfold unV
 go_enter Tryz.func160,Tryz.ntmps160
 go_upto_region 1 with (fail)
 generalize w.alloc _=W at *
 have HB:=Lib.hid S0.out.hb
 obtain ⟨z0,z1,z2⟩:=S0.out.cells
 go_wp2
 go_loop [7] (fun i=>∃ k:Nat,k≤u.fs.length∧i = .int .i64 k∧Hid (fnFrom s t (u.fs.drop k) k=fnI u.fs s t)) (fun i=>u.fs.length - (intOf i).toNat)
 case atStart=>exact ⟨0,Nat.zero_le _,rfl,rfl⟩
 case round =>
  obtain ⟨k,hk,rfl,HI⟩:=hrel
  by_cases hlt:k < u.fs.length
  case neg =>
   have HN:=Lib.hid (@fn_end s t u.fs k (by omega))
   go_wp2
   go_ret
   exact ⟨ret_int (by rw [← HI.out,HN.out]),HB.out⟩
  case pos =>
   obtain ⟨b,off,va,vc,ca,cc,he,m0,m1,m2,m3,m4,m5,m6,_,_⟩:=S0.out.f k hlt
   subst he
   have HS:=Lib.hid (@fn_step s t u.fs k hlt)
   have HD:Hid (isFn s t u.fs[k]=((u.fs[k].cls.toList == s.toList) && (u.fs[k].name.toList == t.toList))):=rfl
   clear m2 m3 m4 m5 m6
   generalize isFn s t u.fs[k]=q at *
   generalize u.fs[k].cls=xc at *
   generalize u.fs[k].name=xn at *
   cases h1:(xc.toList == s.toList)
   ·rw [h1,Bool.false_and] at HD
    have HN:Hid (fnFrom s t (u.fs.drop (k + 1)) (k + 1)=fnI u.fs s t):=by show _=_;rw [← HI.out,HS.out,if_neg (by rw [HD.out];simp)]
    clear HS HD
    go_wp2
    go_round
    case rel=>exact ⟨k + 1,by omega,by go_num,HN.out⟩
    case measure=>simp [intOf];omega
   ·rw [h1,Bool.true_and] at HD
    cases h2:(xn.toList == t.toList)
    ·rw [h2] at HD
     have HN:Hid (fnFrom s t (u.fs.drop (k + 1)) (k + 1)=fnI u.fs s t):=by show _=_;rw [← HI.out,HS.out,if_neg (by rw [HD.out];simp)]
     clear HS HD
     go_wp2
     go_round
     case rel=>exact ⟨k + 1,by omega,by go_num,HN.out⟩
     case measure=>simp [intOf];omega
    ·rw [h2] at HD
     have HN:Hid (fnI u.fs s t=(k:Int)):=by show _=_;rw [← HI.out,HS.out,if_pos HD.out]
     clear HS HD
     go_wp2
     go_ret
     exact ⟨ret_int HN.out.symm,HB.out⟩
set_option maxHeartbeats 1000000 in
theorem findR13 (u:Unt) (ha:Option Addr) (hc:Nat) (fa:Option Addr) (fc:Nat) (s t:Str) (w:World) (h:ClssAt w ha u.h) (f:FncsAt w fa u.fs) (hn:u.fs.length≤1000000) :
 Calls Tryz.prog 101 #[unV u ha hc fa fc,.string s,.string t] w (Ret w (.int .i64 (fnI u.fs s t))):=by
 have S0:=Lib.hid (UB.start (hc:=hc) (fc:=fc) h f)
 have HK:Hid (∀ w1,ClssAt w1 ha u.h→FncsAt w1 fa u.fs→Calls Tryz.prog 160 #[unV u ha hc fa fc,.string s,.string t] w1 (Ret w1 (.int .i64 (fnI u.fs s t)))):=fun w1 h1 h2=>findR12 u ha hc fa fc s t w1 h1 h2 hn
 clear h f
 unfold unV at *
 go_enter Tryz.func101,Tryz.ntmps101
 go_upto_region 1 with (fail)
 generalize w.alloc _=W at *
 obtain ⟨z0,z1,z2⟩:=S0.out.cells
 go_wp2_with fail
 refine (HK.out _ S0.out.h S0.out.f).mono ?_
 rintro e w2 ⟨rfl,hb⟩
 go_wp2
 go_ret
 exact ⟨rfl,S0.out.hb.trans (hb.mono S0.out.hb.size)⟩
structure UI (u:Unt) (ha:Option Addr) (hc:Nat) (fa:Option Addr) (fc:Nat) (x:Ins) (ga:Option Addr) (gc:Nat) (w wr:World):Prop where
 ub:UB u ha hc fa fc w wr
 ib:Blk wr (w.heap.size + 1) #[.int .i64 x.op,.int .i64 x.dst,.int .i64 x.a,.int .i64 x.b,.int .i64 x.n,.string x.cls,.string x.name,.slice ga x.args.length gc,.int .i64 x.goto,.int .i64 x.catch_] 57
theorem UI.below {u:Unt} {ha:Option Addr} {hc:Nat} {fa:Option Addr} {fc:Nat} {x:Ins} {ga:Option Addr} {gc:Nat} {w wr w':World} (k:UI u ha hc fa fc x ga gc w wr) (hb:Below wr.heap.size wr w'):UI u ha hc fa fc x ga gc w w':=⟨k.ub.below hb,k.ib.below hb⟩
open Classical in
noncomputable def decB (P:Prop):Bool:=decide P
open Classical in
theorem decB_t {P:Prop} (h:P):decB P=true:=decide_eq_true h
open Classical in
theorem decB_f {P:Prop} (h:¬ P):decB P=false:=decide_eq_false h
open Classical in
theorem decB_iff {P:Prop}:decB P=true ↔ P:=decide_eq_true_iff
theorem decB_eq {P:Prop} {b:Bool} (h:b=true ↔ P):b=decB P:=by
 cases b with
 | true=>exact (decB_t (h.1 rfl)).symm
 | false=>exact (decB_f (fun hp=>Bool.false_ne_true (h.2 hp))).symm
set_option maxRecDepth 100000 in
set_option maxHeartbeats 8000000 in
theorem canR (u:Unt) (ha:Option Addr) (hc:Nat) (fa:Option Addr) (fc:Nat) (x:Ins) (ga:Option Addr) (gc:Nat) (g:Int) (w:World) (h:ClssAt w ha u.h) (f:FncsAt w fa u.fs) (hb:BndU u) (hl:u.h.length≤10000) (hx:x.op=9 ∨ x.op=10) :
 Calls Tryz.prog 53 #[unV u ha hc fa fc,inV x ga gc,.int .i64 g] w (Ret w (.bool (decB (callS u.h u.fs x g)))):=by
 have S0:Hid (UI u ha hc fa fc x ga gc w ((w.alloc (unC u ha hc fa fc)).alloc (.cells #[.int .i64 x.op,.int .i64 x.dst,.int .i64 x.a,.int .i64 x.b,.int .i64 x.n,.string x.cls,.string x.name,.slice ga x.args.length gc,.int .i64 x.goto,.int .i64 x.catch_] 57))) :=
  ⟨(UB.start (hc:=hc) (fc:=fc) h f).below (one_below ..),blk_new2 ..⟩
 have HFN:Hid (∀ (y t:Str) (w1:World),ClssAt w1 ha u.h→FncsAt w1 fa u.fs→Calls Tryz.prog 101 #[unV u ha hc fa fc,.string y,.string t] w1 (Ret w1 (.int .i64 (fnI u.fs y t)))):=fun y t w1 h1 h2=>findR13 u ha hc fa fc y t w1 h1 h2 (by have:=hb.l;omega)
 have HTG:Hid (∀ (y t:Str) (w1:World),ClssAt w1 ha u.h→Calls Tryz.prog 102 #[.agg #[.slice ha u.h.length hc],.string y,.string t] w1 (StrsSet (tgtNS u.h y t) u.h.length w1)):=fun y t w1 h1=>targetsR u.h y t ha hc w1 h1 hl hb.h.m
 have HC:Hid (∀ P:Prop,P=callS u.h u.fs x g→decB (callS u.h u.fs x g)=decB P):=fun P e=>by rw [e]
 have HCS:Hid (callS u.h u.fs x g ↔ (x.op=10∧g=fnI u.fs x.cls x.name) ∨ (x.op=9∧∃ y,tgtNS u.h x.cls x.name y∧g=fnI u.fs y x.name)):=Iff.rfl
 clear h f hb HC
 generalize callS u.h u.fs x g=PC at *
 unfold unV inV at *
 go_enter Tryz.func53,Tryz.ntmps53
 go_upto_region 1 with (fail)
 generalize (w.alloc _).alloc _=W at *
 obtain ⟨z0,z1,z2⟩:=S0.out.ub.cells
 have y0:=S0.out.ib.cell 0 (by simp)
 have y5:=S0.out.ib.cell 5 (by simp)
 have y6:=S0.out.ib.cell 6 (by simp)
 simp only [List.getElem_toArray,List.getElem_cons_zero,List.getElem_cons_succ] at y0 y5 y6
 rcases hx with hx | hx
 case inr =>
  have t1:(x.op == 10)=true:=by simp [hx]
  have HB:Hid ((fnI u.fs x.cls x.name == g)=decB PC):=decB_eq (by
   rw [HCS.out,hx,beq_iff_eq]
   constructor
   ·intro e;exact .inl ⟨rfl,e.symm⟩
   ·rintro (⟨_,e⟩ | ⟨e,_⟩)
    ·exact e.symm
    ·exact absurd e (by decide))
  clear hx HCS
  go_wp2_with fail
  refine (HFN.out _ _ _ S0.out.ub.h S0.out.ub.f).mono ?_
  rintro e w2 ⟨rfl,hb2⟩
  go_wp2
  go_ret
  exact ⟨ret_bool HB.out,S0.out.ub.hb.trans (hb2.mono S0.out.ub.hb.size)⟩
 case inl =>
  have t1:(x.op == 10)=false:=by simp [hx]
  have HCS2:Hid (PC ↔ ∃ y,tgtNS u.h x.cls x.name y∧g=fnI u.fs y x.name):=by
   show _ ↔ _
   rw [HCS.out,hx]
   constructor
   ·rintro (⟨e,_⟩ | ⟨_,e⟩)
    ·exact absurd e (by decide)
    ·exact e
   ·intro e;exact .inr ⟨rfl,e⟩
  clear hx HCS
  go_upto_region 4 with (go_at_call 102;refine (HTG.out _ _ _ S0.out.ub.h).mono ?_;rintro e w2 ⟨hb2,l,la,lc,rfl,hll,hlc,hmem,hat⟩)
  have S1:=Lib.hid (S0.out.below hb2)
  have HL:=Lib.hid hat
  have HCL:Hid (PC ↔ ∃ y ∈ l,fnI u.fs y x.name=g):=by
   show _ ↔ _
   rw [HCS2.out]
   constructor
   ·rintro ⟨y,hy,e⟩;exact ⟨y,(hmem y).2 hy,e.symm⟩
   ·rintro ⟨y,hy,e⟩;exact ⟨y,(hmem y).1 hy,e.symm⟩
  clear S0 hb2 hat hmem HTG HCS2 z0 z1 z2 y0 y5 y6 hlc
  go_wp2
  go_loopw [8] (fun i wr=>∃ k:Nat,k≤l.length∧i = .int .i64 k∧Hid (∀ y ∈ l.take k,fnI u.fs y x.name ≠ g)∧Hid (StrsAt wr la l)∧Hid (UI u ha hc fa fc x ga gc w wr)) (fun i _=>l.length - (intOf i).toNat)
  case atStart=>exact ⟨0,Nat.zero_le _,rfl,(fun y hy=>by simp at hy),HL.out,S1.out⟩
  case round =>
   clear S1 HL
   obtain ⟨k,hk,rfl,HN,HL,S⟩:=hrel
   by_cases hlt:k < l.length
   case neg =>
    have HB:Hid (false=decB PC):=(decB_f (fun hp=>by
     obtain ⟨y,hy,e⟩:=HCL.out.1 hp
     exact HN.out y (by rw [List.take_of_length_le (by omega)];exact hy) e)).symm
    go_wp2
    go_ret
    exact ⟨ret_bool HB.out,S.out.ub.hb⟩
   case pos =>
    have HLC:=Lib.hid HL.out
    obtain ⟨b,off,he,c0⟩:=HL.out k hlt
    subst he
    have HTK:Hid (l.take (k + 1)=l.take k ++ [l[k]]):=List.take_succ_eq_append_getElem hlt
    have HME:Hid (fnI u.fs l[k] x.name=g→PC):=fun e=>HCL.out.2 ⟨_,List.getElem_mem hlt,e⟩
    have HF:=Lib.hid (HFN.out l[k] x.name)
    generalize l[k]=nm at *
    obtain ⟨z0,z1,z2⟩:=S.out.ub.cells
    have y6:=S.out.ib.cell 6 (by simp)
    simp only [List.getElem_toArray,List.getElem_cons_zero,List.getElem_cons_succ] at y6
    have hne:Nonempty (WB wr):=⟨⟨wr,Below.refl _ _⟩⟩
    have k0:∀ o:WB wr,o.u.cell? ⟨w.heap.size,0,none⟩=some (.slice ha u.h.length hc):=fun o=>cell_below o.h z0
    have k1:∀ o:WB wr,o.u.cell? ⟨w.heap.size,1,none⟩=some (.slice fa u.fs.length fc):=fun o=>cell_below o.h z1
    have k2:∀ o:WB wr,o.u.cell? ⟨w.heap.size,2,none⟩=some (.int .i64 u.main):=fun o=>cell_below o.h z2
    have k3:∀ o:WB wr,o.u.cell? ⟨w.heap.size + 1,6,none⟩=some (.string x.name):=fun o=>cell_below o.h y6
    have k4:∀ o:WB wr,o.u.cell? ⟨b,off + k,none⟩=some (.string nm):=fun o=>cell_below o.h c0
    go_upto_region 7 with (fail)
    clear z0 z1 z2 y6 c0
    refine wp_region_WB wr (by kernel_rfl) ?_
    repeat (go_big_quiet_step ((rename_i o;exact (HF.out _ (S.out.below o.h).ub.h (S.out.below o.h).ub.f).mono (fun _ _ h=>Ret.inB h))))
    refine wpQuiet_nil ?_
    intro _ hw'
    obtain ⟨o,rfl⟩:=hw'
    have S2:=Lib.hid (S.out.below o.h)
    have HL2:=Lib.hid (HLC.out.below o.h)
    clear k0 k1 k2 k3 k4 S HL HLC hne HF
    generalize o.u=W2 at *
    by_cases hg:fnI u.fs nm x.name=g
    ·have t2:(fnI u.fs nm x.name == g)=true:=by simp [hg]
     have HB:Hid (true=decB PC):=(decB_t (HME.out hg)).symm
     clear hg
     go_wp2
     go_ret
     exact ⟨ret_bool HB.out,S2.out.ub.hb⟩
    ·have t2:(fnI u.fs nm x.name == g)=false:=by simp [hg]
     have HN2:Hid (∀ y ∈ l.take (k + 1),fnI u.fs y x.name ≠ g):=fun y hy=>by
      rw [HTK.out] at hy
      rcases List.mem_append.1 hy with hy | hy
      ·exact HN.out y hy
      ·rw [List.mem_singleton.1 hy];exact hg
     clear hg
     go_wp2
     go_roundw
     case rel=>exact ⟨k + 1,by omega,by go_num,HN2.out,HL2.out,S2.out⟩
     case measure=>simp [intOf];omega
set_option maxHeartbeats 1000000 in
theorem isCallR (x:Ins) (ga:Option Addr) (gc:Nat) (w:World) :
 Calls Tryz.prog 52 #[inV x ga gc] w (Ret w (.bool (x.op == 9 || x.op == 10))):=by
 have HB:=Lib.hid (one_below w (.cells #[.int .i64 x.op,.int .i64 x.dst,.int .i64 x.a,.int .i64 x.b,.int .i64 x.n,.string x.cls,.string x.name,.slice ga x.args.length gc,.int .i64 x.goto,.int .i64 x.catch_] 57))
 unfold inV
 go_enter Tryz.func52,Tryz.ntmps52
 cases h1:(x.op == 9)
 ·go_wp2
  go_ret
  exact ⟨ret_bool (by simp),HB.out⟩
 ·go_wp2
  go_ret
  exact ⟨ret_bool (by simp),HB.out⟩
end Go.Proofs.YtkbmnfijeknenaaGreatDoor
namespace Go.Proofs.YtkbmnfijeknenaaGreatDoor
open Go.RowKit Go.Unit0 Go.AM

set_option maxRecDepth 100000 in
set_option maxHeartbeats 8000000 in
theorem refTargets (u:Unt) (ha:Option Addr) (hc:Nat) (fa:Option Addr) (fc:Nat) (f i:Int) (w:World) (h:ClssAt w ha u.h) (hf:FncsAt w fa u.fs) (hb:BndU u) (hl:u.h.length≤10000) :
 Calls Tryz.prog 15 #[unV u ha hc fa fc,.int .i64 f,.int .i64 i] w (SetPost (trgS u f i) w):=by
 have S0:=Lib.hid (UB.start (hc:=hc) (fc:=fc) h hf)
 have HCA:Hid (∀ (x:Ins) (ga:Option Addr) (gc:Nat) (g:Int) (w1:World),(x.op=9 ∨ x.op=10)→ClssAt w1 ha u.h→FncsAt w1 fa u.fs→Calls Tryz.prog 53 #[unV u ha hc fa fc,inV x ga gc,.int .i64 g] w1 (Ret w1 (.bool (decB (callS u.h u.fs x g))))):=fun x ga gc g w1 hx h1 h2=>canR u ha hc fa fc x ga gc g w1 h1 h2 hb hl hx
 have hfl:=hb.l
 clear h hf hb
 unfold unV at *
 go_enter Tryz.func15,Tryz.ntmps15
 go_upto_region 1 with (fail)
 generalize w.alloc _=W at *
 obtain ⟨z0,z1,z2⟩:=S0.out.cells
 by_cases g1:f < 0
 case pos =>
  have HN:Hid (∀ x,¬ trgS u f i x):=trgS_out (fun j k hj hk e=>by have:=e.1;omega)
  have t1:=decide_eq_true g1
  clear g1
  go_wp2
  go_ret
  exact ⟨S0.out.hb,[],none,0,rfl,.nil,fun x=>⟨fun h=>(by cases h),fun k=>absurd k (HN.out x)⟩,World.ownsRow_nil _ _ _ _⟩
 have t1:=decide_eq_false g1
 by_cases g2:(u.fs.length:Int)≤f
 case pos =>
  have HN:Hid (∀ x,¬ trgS u f i x):=trgS_out (fun j k hj hk e=>by have:=e.1;omega)
  have t2:=decide_eq_true g2
  clear g1 g2
  go_wp2
  go_ret
  exact ⟨S0.out.hb,[],none,0,rfl,.nil,fun x=>⟨fun h=>(by cases h),fun k=>absurd k (HN.out x)⟩,World.ownsRow_nil _ _ _ _⟩
 have t2:=decide_eq_false g2
 obtain ⟨j,rfl⟩:∃ j:Nat,f=j:=⟨f.toNat,by omega⟩
 have hj:j < u.fs.length:=by omega
 by_cases g3:i < 0
 case pos =>
  have HN:Hid (∀ x,¬ trgS u (j:Int) i x):=trgS_out (fun j k hj hk e=>by have:=e.2;omega)
  have t3:=decide_eq_true g3
  clear g1 g2 g3
  go_wp2
  go_ret
  exact ⟨S0.out.hb,[],none,0,rfl,.nil,fun x=>⟨fun h=>(by cases h),fun k=>absurd k (HN.out x)⟩,World.ownsRow_nil _ _ _ _⟩
 have t3:=decide_eq_false g3
 obtain ⟨b,off,va,vc,ca,cc,he,-,-,-,-,-,-,m6,-,hcode⟩:=S0.out.f j hj
 subst he
 by_cases g4:(u.fs[j].code.length:Int)≤i
 case pos =>
  have HN:Hid (∀ x,¬ trgS u (j:Int) i x):=trgS_out (fun j' k hj' hk e=>by
   have e1:j=j':=by have:=e.1;omega
   subst e1
   have:=e.2
   omega)
  have t4:=decide_eq_true g4
  clear g1 g2 g3 g4 hcode
  generalize u.fs[j].code.length=cl at *
  go_wp2
  go_ret
  exact ⟨S0.out.hb,[],none,0,rfl,.nil,fun x=>⟨fun h=>(by cases h),fun k=>absurd k (HN.out x)⟩,World.ownsRow_nil _ _ _ _⟩
 have t4:=decide_eq_false g4
 obtain ⟨k,rfl⟩:∃ k:Nat,i=k:=⟨i.toNat,by omega⟩
 have hk:k < u.fs[j].code.length:=by omega
 clear g1 g2 g3 g4
 have HTA:=Lib.hid (trgS_at hj hk)
 obtain ⟨b2,off2,ga,gc,he,m0,m1,m2,m3,m4,m5,m6b,m7,m8,m9,-⟩:=hcode k hk
 subst he
 generalize u.fs[j].code[k]=x at *
 generalize u.fs[j].code.length=cl at *
 have HIC:Hid (∀ w1,Calls Tryz.prog 52 #[.agg #[.int .i64 x.op,.int .i64 x.dst,.int .i64 x.a,.int .i64 x.b,.int .i64 x.n,.string x.cls,.string x.name,.slice ga x.args.length gc,.int .i64 x.goto,.int .i64 x.catch_]] w1 (Ret w1 (.bool (x.op == 9 || x.op == 10)))):=fun w1=>isCallR x ga gc w1
 by_cases hx:x.op=9 ∨ x.op=10
 case neg =>
  have HN:Hid (∀ z,¬ trgS u (j:Int) (k:Int) z):=fun z hz=>by
   rcases ((HTA.out z).1 hz).2 with ⟨e,_⟩ | ⟨e,_⟩
   ·exact hx (.inr e)
   ·exact hx (.inl e)
  have e1:(x.op == 9 || x.op == 10)=false:=by
   simp only [Bool.or_eq_false_iff,beq_eq_false_iff_ne]
   exact ⟨fun e=>hx (.inl e),fun e=>hx (.inr e)⟩
  rw [e1] at HIC
  clear HTA hx e1
  go_wp2_with (go_at_call 52;refine (HIC.out _).mono ?_;rintro e w3 ⟨rfl,hb3⟩)
  go_ret
  exact ⟨S0.out.hb.trans (hb3.mono S0.out.hb.size),[],none,0,rfl,.nil,fun x=>⟨fun h=>(by cases h),fun k=>absurd k (HN.out x)⟩,World.ownsRow_nil _ _ _ _⟩
 case pos =>
  have e1:(x.op == 9 || x.op == 10)=true:=by
   simp only [Bool.or_eq_true,beq_iff_eq]
   exact hx
  rw [e1] at HIC
  have HX:=Lib.hid hx
  clear hx e1
  have d1:decide (u.fs.length≤j)=false:=decide_eq_false (by omega)
  have d2:decide (cl≤k)=false:=decide_eq_false (by omega)
  go_upto_region 4 with (go_at_call 52;refine (HIC.out _).mono ?_;rintro e w3 ⟨rfl,hb3⟩)
  have S1:=Lib.hid (S0.out.below hb3)
  replace m0:=cell_below hb3 m0
  replace m1:=cell_below hb3 m1
  replace m2:=cell_below hb3 m2
  replace m3:=cell_below hb3 m3
  replace m4:=cell_below hb3 m4
  replace m5:=cell_below hb3 m5
  replace m6b:=cell_below hb3 m6b
  replace m7:=cell_below hb3 m7
  replace m8:=cell_below hb3 m8
  replace m9:=cell_below hb3 m9
  replace m6:=cell_below hb3 m6
  have MC:=Lib.hid (And.intro m0 (And.intro m1 (And.intro m2 (And.intro m3 (And.intro m4 (And.intro m5 (And.intro m6b (And.intro m7 (And.intro m8 (And.intro m9 m6))))))))))
  clear hb3 S0 z0 z1 z2 t1 t2 t3 t4 HIC m0 m1 m2 m3 m4 m5 m6 m6b m7 m8 m9
  generalize w3=W3 at *
  have HCX:=Lib.hid (fun g w1=>HCA.out x ga gc g w1 HX.out)
  unfold inV at HCX
  generalize hP:callS u.h u.fs x=P at *
  have HB3:=Lib.hid S1.out.hb
  go_wp2
  go_loopw [7,8] (fun v i wr=>∃ (q:Nat) (out:List Int) (oa:Option Addr) (oc:Nat),q≤u.fs.length∧out.length≤q∧v = .slice oa out.length oc∧i = .int .i64 q∧Hid (out.Pairwise (· < ·))∧Hid (∀ z,z ∈ out ↔ 0≤z∧z < (q:Int)∧P z)∧Hid (wr.ownsRow W3.heap.size 3 1 (.slice oa out.length oc) out.length (out.map intV))∧Hid (Below W3.heap.size W3 wr)) (fun _ i _=>u.fs.length - (intOf i).toNat)
  case atStart=>exact ⟨0,[],none,0,Nat.zero_le _,Nat.zero_le _,rfl,rfl,.nil,(fun z=>⟨fun h=>(by cases h),fun h=>absurd h.2.1 (by have:=h.1;omega)⟩),World.ownsRow_nil _ _ _ _,Below.refl _ _⟩
  case round =>
   obtain ⟨q,out,oa,oc,hq,hol,rfl,rfl,HPW,HI,OW,HB⟩:=hrel
   obtain ⟨z0,z1,z2⟩:=(S1.out.below HB.out).cells
   by_cases hlt:q < u.fs.length
   case neg =>
    have HS:Hid (∀ z,z ∈ out ↔ trgS u (j:Int) (k:Int) z):=fun z=>by
     rw [HI.out,HTA.out]
     constructor
     ·rintro ⟨h0,_,hp⟩;exact ⟨h0,hp⟩
     ·rintro ⟨h0,hp⟩
      refine ⟨h0,?_,hp⟩
      rw [← hP] at hp
      have:=callS_lt hp
      omega
    go_wp2
    go_ret
    exact ⟨HB3.out.trans (HB.out.mono HB3.out.size),out,oa,oc,rfl,HPW.out,HS.out,owns_mono OW.out HB3.out.size⟩
   obtain ⟨m0,m1,m2,m3,m4,m5,m6b,m7,m8,m9,m6⟩:=MC.out
   replace m0:=cell_below HB.out m0
   replace m1:=cell_below HB.out m1
   replace m2:=cell_below HB.out m2
   replace m3:=cell_below HB.out m3
   replace m4:=cell_below HB.out m4
   replace m5:=cell_below HB.out m5
   replace m6b:=cell_below HB.out m6b
   replace m7:=cell_below HB.out m7
   replace m8:=cell_below HB.out m8
   replace m9:=cell_below HB.out m9
   replace m6:=cell_below HB.out m6
   have hne:Nonempty (WB wr):=⟨⟨wr,Below.refl _ _⟩⟩
   have k0:∀ o:WB wr,o.u.cell? ⟨w.heap.size,0,none⟩=some (.slice ha u.h.length hc):=fun o=>cell_below o.h z0
   have k1:∀ o:WB wr,o.u.cell? ⟨w.heap.size,1,none⟩=some (.slice (some ⟨b,off,none⟩) u.fs.length fc):=fun o=>cell_below o.h z1
   have k2:∀ o:WB wr,o.u.cell? ⟨w.heap.size,2,none⟩=some (.int .i64 u.main):=fun o=>cell_below o.h z2
   have k3:∀ o:WB wr,o.u.cell? ⟨b,off + j * 7 + 6,none⟩=some (.slice (some ⟨b2,off2,none⟩) cl cc):=fun o=>cell_below o.h m6
   have n0:∀ o:WB wr,o.u.cell? ⟨b2,off2 + k * 10,none⟩=some (.int .i64 x.op):=fun o=>cell_below o.h m0
   have n1:∀ o:WB wr,o.u.cell? ⟨b2,off2 + k * 10 + 1,none⟩=some (.int .i64 x.dst):=fun o=>cell_below o.h m1
   have n2:∀ o:WB wr,o.u.cell? ⟨b2,off2 + k * 10 + 2,none⟩=some (.int .i64 x.a):=fun o=>cell_below o.h m2
   have n3:∀ o:WB wr,o.u.cell? ⟨b2,off2 + k * 10 + 3,none⟩=some (.int .i64 x.b):=fun o=>cell_below o.h m3
   have n4:∀ o:WB wr,o.u.cell? ⟨b2,off2 + k * 10 + 4,none⟩=some (.int .i64 x.n):=fun o=>cell_below o.h m4
   have n5:∀ o:WB wr,o.u.cell? ⟨b2,off2 + k * 10 + 5,none⟩=some (.string x.cls):=fun o=>cell_below o.h m5
   have n6:∀ o:WB wr,o.u.cell? ⟨b2,off2 + k * 10 + 6,none⟩=some (.string x.name):=fun o=>cell_below o.h m6b
   have n7:∀ o:WB wr,o.u.cell? ⟨b2,off2 + k * 10 + 7,none⟩=some (.slice ga x.args.length gc):=fun o=>cell_below o.h m7
   have n8:∀ o:WB wr,o.u.cell? ⟨b2,off2 + k * 10 + 8,none⟩=some (.int .i64 x.goto):=fun o=>cell_below o.h m8
   have n9:∀ o:WB wr,o.u.cell? ⟨b2,off2 + k * 10 + 9,none⟩=some (.int .i64 x.catch_):=fun o=>cell_below o.h m9
   have HCQ:=Lib.hid (HCX.out (q:Int))
   have SR:=Lib.hid (S1.out.below HB.out)
   clear m0 m1 m2 m3 m4 m5 m6 m6b m7 m8 m9 z0 z1 z2
   have HQT:Hid (P (q:Int)→∀ z,z ∈ out ++ [(q:Int)] ↔ 0≤z∧z < ((q + 1:Nat):Int)∧P z):=fun hp z=>by
    rw [List.mem_append,List.mem_singleton,HI.out]
    constructor
    ·rintro (⟨h0,h1,h2⟩ | rfl)
     ·exact ⟨h0,by omega,h2⟩
     ·exact ⟨by omega,by omega,hp⟩
    ·rintro ⟨h0,h1,h2⟩
     by_cases e:z < (q:Int)
     ·exact .inl ⟨h0,e,h2⟩
     ·exact .inr (by omega)
   have HQF:Hid (¬ P (q:Int)→∀ z,z ∈ out ↔ 0≤z∧z < ((q + 1:Nat):Int)∧P z):=fun hp z=>by
    rw [HI.out]
    constructor
    ·rintro ⟨h0,h1,h2⟩;exact ⟨h0,by omega,h2⟩
    ·rintro ⟨h0,h1,h2⟩
     refine ⟨h0,?_,h2⟩
     by_cases e:z=(q:Int)
     ·rw [e] at h2;exact absurd h2 hp
     ·omega
   have HPN:Hid ((out ++ [(q:Int)]).Pairwise (· < ·)):=by
    show List.Pairwise _ _
    rw [List.pairwise_append]
    refine ⟨HPW.out,by simp,fun a ha b hb=>?_⟩
    rw [List.mem_singleton.1 hb]
    exact ((HI.out a).1 ha).2.1
   have HDB:Hid (decB (P (q:Int))=true→P (q:Int)):=decB_iff.1
   have HDN:Hid (decB (P (q:Int))=false→¬ P (q:Int)):=fun e hp=>by rw [decB_t hp] at e;cases e
   clear HI
   generalize decB (P (q:Int))=bb at *
   obtain ⟨z0,z1,z2⟩:=SR.out.cells
   go_upto_region 7 with (fail)
   clear z0 z1 z2
   refine wp_region_WB wr (by kernel_rfl) ?_
   repeat (go_big_quiet_step ((rename_i o;exact (HCQ.out _ (SR.out.below o.h).h (SR.out.below o.h).f).mono (fun _ _ h=>Ret.inB h))))
   refine wpQuiet_nil ?_
   intro _ hw'
   obtain ⟨o,rfl⟩:=hw'
   have HB2:=Lib.hid (HB.out.trans (o.h.mono HB.out.size))
   have OW2:=Lib.hid (owns_below OW.out o.h)
   clear k0 k1 k2 k3 n0 n1 n2 n3 n4 n5 n6 n7 n8 n9 HCQ SR HB OW hne
   generalize o.u=W4 at *
   cases bb
   case false =>
    have HN:=Lib.hid (HQF.out (HDN.out rfl))
    clear HQT HQF HDB HDN HPN
    go_wp2
    go_roundw
    case rel=>exact ⟨q + 1,out,oa,oc,by omega,by omega,rfl,by go_num,HPW.out,HN.out,OW2.out,HB2.out⟩
    case measure=>simp [intOf];omega
   case true =>
    have HN:=Lib.hid (HQT.out (HDB.out rfl))
    clear HQT HQF HDB HDN HPW
    have O1:=Lib.hid (owns_below OW2.out (one_below W4 (.cells #[.int .i64 q] 3)))
    have hb1:Below W3.heap.size W3 (W4.alloc (.cells #[.int .i64 q] 3)):=HB2.out.trans ((one_below ..).mono HB2.out.size)
    have hbs:=hb1.size
    have hoc:out.length≤1000000:=by omega
    go_wp2_with (at_builtin;refine app_ints rfl _ _ rfl W3.heap.size _ out rfl O1.out _ 1 [(q:Int)] rfl (ints_new _ _) hoc (by simp) hbs ?_;intro v7 W7 own7 hg7;obtain ⟨-,oa7,oc7,rfl,-,-⟩:=owns_ints own7)
    have HB7:=Lib.hid (hb1.grown hg7 hbs (fun q hq=>(O1.out.lt q hq).1))
    have OW7:=Lib.hid own7
    clear hb1 hbs hg7 own7 O1
    go_roundw
    case rel=>exact ⟨q + 1,out ++ [(q:Int)],oa7,oc7,by omega,by simp;omega,(by first | rfl | simp),by go_num,HPN.out,HN.out,OW7.out,HB7.out⟩
    case measure=>simp [intOf];omega
end Go.Proofs.YtkbmnfijeknenaaGreatDoor
