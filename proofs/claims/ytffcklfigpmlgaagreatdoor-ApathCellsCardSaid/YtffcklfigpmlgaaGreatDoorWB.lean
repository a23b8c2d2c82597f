/-
  The reference's unused: it returns.
-/
import Derived.Test.YtffcklfigpmlgaaGreatDoorWA
import Derived.Test.YtffcklfigpmlgaaGreatDoorRG
namespace Go.Proofs.YtffcklfigpmlgaaGreatDoor
open Go.RowKit Go.Unit0

def RU (x:Ins) (ga:Option Addr) (gc:Nat) (g:Nat) (w:World) (s:Nat) (a:Act) (w':World):Prop :=
 a.defers = []∧a.tmps.size=77∧a.tmps[1]? = some (.pointer (some ⟨g,0,none⟩))∧a.tmps[3]? = some (.int .i64 x.op)∧(∃ b,a.tmps[s]? = some (.bool b))∧IW x ga gc g w w'
set_option maxRecDepth 100000 in
set_option maxHeartbeats 8000000 in
theorem unused288 (x:Ins) (ga:Option Addr) (gc:Nat) (w:World) (hi:IntsAt w ga x.args):Calls Tryz.prog 207 #[inV x ga gc] w (BPost (fun _=>True) w):=by
 have S0:=Lib.hid (IW.start (gc:=gc) hi)
 clear hi
 unfold inV
 have H0:=Lib.hid (fun w1=>has250 x.op 100 w1)
 generalize hasP x.op 100=d0 at *
 have H1:=Lib.hid (fun w1=>has250 x.op 97 w1)
 generalize hasP x.op 97=d1 at *
 have H2:=Lib.hid (fun w1=>has250 x.op 98 w1)
 generalize hasP x.op 98=d2 at *
 have H3:=Lib.hid (fun w1=>has250 x.op 110 w1)
 generalize hasP x.op 110=d3 at *
 have H4:=Lib.hid (fun w1=>has250 x.op 99 w1)
 generalize hasP x.op 99=d4 at *
 have H5:=Lib.hid (fun w1=>has250 x.op 109 w1)
 generalize hasP x.op 109=d5 at *
 have H6:=Lib.hid (fun w1=>has250 x.op 108 w1)
 generalize hasP x.op 108=d6 at *
 have H7:=Lib.hid (fun w1=>has250 x.op 103 w1)
 generalize hasP x.op 103=d7 at *
 go_enter Tryz.func207,Tryz.ntmps207
 go_upto_region 2 with (fail)
 refine wp_region_part 7 (RU x ga gc w.heap.size w 12) ?_ ?_
 ·intro Q' hQ0
  have hQ':=Lib.hid hQ0
  clear hQ0
  show wpList _ _ _ [_,_,_,_,_,_,_] _ _
  go_wp2_with fail
  refine (H0.out _).mono ?_
  rintro e w' ⟨rfl,hb'⟩
  have S:=Lib.hid (S0.out.below hb')
  have xc:=S.out.b1.cell 1 (by simp)
  clear hb' S0
  cases d0
  all_goals
   go_wp2
   exact hQ'.out _ _ ⟨rfl,rfl,rfl,rfl,⟨_,rfl⟩,S.out⟩
 clear S0
 rintro ⟨T,ds⟩ w1 ⟨hds,hsz,h1,h3,⟨b,hb⟩,hI⟩
 simp only at hds
 subst hds
 have S1:=Lib.hid hI
 clear hI
 obtain ⟨l⟩:=T
 revert h1 h3 hb
 have hsz:l.length=77:=hsz
 apply elim_vals 77 hsz
 clear hsz
 intro s0 s1 s2 s3 s4 s5 s6 s7 s8 s9 s10 s11 s12 s13 s14 s15 s16 s17 s18 s19 s20 s21 s22 s23 s24 s25 s26 s27 s28 s29 s30 s31 s32 s33 s34 s35 s36 s37 s38 s39 s40 s41 s42 s43 s44 s45 s46 s47 s48 s49 s50 s51 s52 s53 s54 s55 s56 s57 s58 s59 s60 s61 s62 s63 s64 s65 s66 s67 s68 s69 s70 s71 s72 s73 s74 s75 s76 h1 h3 hb
 simp only [List.getElem?_toArray,List.getElem?_cons_succ,List.getElem?_cons_zero,Option.some.injEq] at h1 h3 hb
 subst h1 h3 hb
 refine wpList_part 9 (RU x ga gc w.heap.size w 21) ?_ ?_
 ·intro Q' hQ0
  have hQ':=Lib.hid hQ0
  clear hQ0
  show wpList _ _ _ [_,_,_,_,_,_,_,_,_] _ _
  have hu:undef=Value.tuple #[]:=rfl
  cases b
  ·go_wp2
   exact hQ'.out _ _ ⟨rfl,rfl,rfl,rfl,⟨_,rfl⟩,S1.out⟩
  go_wp2_with fail
  refine (H1.out _).mono ?_
  rintro e w' ⟨rfl,hb'⟩
  have S:=Lib.hid (S1.out.below hb')
  have xc:=S.out.b1.cell 2 (by simp)
  clear hb' S1
  cases d1
  all_goals
   go_wp2
   exact hQ'.out _ _ ⟨rfl,rfl,rfl,rfl,⟨_,rfl⟩,S.out⟩
 clear S1
 rintro ⟨T,ds⟩ w1 ⟨hds,hsz,h1,h3,⟨b,hb⟩,hI⟩
 simp only at hds
 subst hds
 have S1:=Lib.hid hI
 clear hI
 obtain ⟨l⟩:=T
 revert h1 h3 hb
 have hsz:l.length=77:=hsz
 apply elim_vals 77 hsz
 clear hsz
 intro s0 s1 s2 s3 s4 s5 s6 s7 s8 s9 s10 s11 s12 s13 s14 s15 s16 s17 s18 s19 s20 s21 s22 s23 s24 s25 s26 s27 s28 s29 s30 s31 s32 s33 s34 s35 s36 s37 s38 s39 s40 s41 s42 s43 s44 s45 s46 s47 s48 s49 s50 s51 s52 s53 s54 s55 s56 s57 s58 s59 s60 s61 s62 s63 s64 s65 s66 s67 s68 s69 s70 s71 s72 s73 s74 s75 s76 h1 h3 hb
 simp only [List.getElem?_toArray,List.getElem?_cons_succ,List.getElem?_cons_zero,Option.some.injEq] at h1 h3 hb
 subst h1 h3 hb
 refine wpList_part 9 (RU x ga gc w.heap.size w 30) ?_ ?_
 ·intro Q' hQ0
  have hQ':=Lib.hid hQ0
  clear hQ0
  show wpList _ _ _ [_,_,_,_,_,_,_,_,_] _ _
  have hu:undef=Value.tuple #[]:=rfl
  cases b
  ·go_wp2
   exact hQ'.out _ _ ⟨rfl,rfl,rfl,rfl,⟨_,rfl⟩,S1.out⟩
  go_wp2_with fail
  refine (H2.out _).mono ?_
  rintro e w' ⟨rfl,hb'⟩
  have S:=Lib.hid (S1.out.below hb')
  have xc:=S.out.b1.cell 3 (by simp)
  clear hb' S1
  cases d2
  all_goals
   go_wp2
   exact hQ'.out _ _ ⟨rfl,rfl,rfl,rfl,⟨_,rfl⟩,S.out⟩
 clear S1
 rintro ⟨T,ds⟩ w1 ⟨hds,hsz,h1,h3,⟨b,hb⟩,hI⟩
 simp only at hds
 subst hds
 have S1:=Lib.hid hI
 clear hI
 obtain ⟨l⟩:=T
 revert h1 h3 hb
 have hsz:l.length=77:=hsz
 apply elim_vals 77 hsz
 clear hsz
 intro s0 s1 s2 s3 s4 s5 s6 s7 s8 s9 s10 s11 s12 s13 s14 s15 s16 s17 s18 s19 s20 s21 s22 s23 s24 s25 s26 s27 s28 s29 s30 s31 s32 s33 s34 s35 s36 s37 s38 s39 s40 s41 s42 s43 s44 s45 s46 s47 s48 s49 s50 s51 s52 s53 s54 s55 s56 s57 s58 s59 s60 s61 s62 s63 s64 s65 s66 s67 s68 s69 s70 s71 s72 s73 s74 s75 s76 h1 h3 hb
 simp only [List.getElem?_toArray,List.getElem?_cons_succ,List.getElem?_cons_zero,Option.some.injEq] at h1 h3 hb
 subst h1 h3 hb
 refine wpList_part 9 (RU x ga gc w.heap.size w 39) ?_ ?_
 ·intro Q' hQ0
  have hQ':=Lib.hid hQ0
  clear hQ0
  show wpList _ _ _ [_,_,_,_,_,_,_,_,_] _ _
  have hu:undef=Value.tuple #[]:=rfl
  cases b
  ·go_wp2
   exact hQ'.out _ _ ⟨rfl,rfl,rfl,rfl,⟨_,rfl⟩,S1.out⟩
  go_wp2_with fail
  refine (H3.out _).mono ?_
  rintro e w' ⟨rfl,hb'⟩
  have S:=Lib.hid (S1.out.below hb')
  have xc:=S.out.b1.cell 4 (by simp)
  clear hb' S1
  cases d3
  all_goals
   go_wp2
   exact hQ'.out _ _ ⟨rfl,rfl,rfl,rfl,⟨_,rfl⟩,S.out⟩
 clear S1
 rintro ⟨T,ds⟩ w1 ⟨hds,hsz,h1,h3,⟨b,hb⟩,hI⟩
 simp only at hds
 subst hds
 have S1:=Lib.hid hI
 clear hI
 obtain ⟨l⟩:=T
 revert h1 h3 hb
 have hsz:l.length=77:=hsz
 apply elim_vals 77 hsz
 clear hsz
 intro s0 s1 s2 s3 s4 s5 s6 s7 s8 s9 s10 s11 s12 s13 s14 s15 s16 s17 s18 s19 s20 s21 s22 s23 s24 s25 s26 s27 s28 s29 s30 s31 s32 s33 s34 s35 s36 s37 s38 s39 s40 s41 s42 s43 s44 s45 s46 s47 s48 s49 s50 s51 s52 s53 s54 s55 s56 s57 s58 s59 s60 s61 s62 s63 s64 s65 s66 s67 s68 s69 s70 s71 s72 s73 s74 s75 s76 h1 h3 hb
 simp only [List.getElem?_toArray,List.getElem?_cons_succ,List.getElem?_cons_zero,Option.some.injEq] at h1 h3 hb
 subst h1 h3 hb
 refine wpList_part 9 (RU x ga gc w.heap.size w 48) ?_ ?_
 ·intro Q' hQ0
  have hQ':=Lib.hid hQ0
  clear hQ0
  show wpList _ _ _ [_,_,_,_,_,_,_,_,_] _ _
  have hu:undef=Value.tuple #[]:=rfl
  cases b
  ·go_wp2
   exact hQ'.out _ _ ⟨rfl,rfl,rfl,rfl,⟨_,rfl⟩,S1.out⟩
  go_wp2_with fail
  refine (H4.out _).mono ?_
  rintro e w' ⟨rfl,hb'⟩
  have S:=Lib.hid (S1.out.below hb')
  have xc:=S.out.b1.cell 5 (by simp)
  clear hb' S1
  cases d4
  all_goals
   go_wp2
   exact hQ'.out _ _ ⟨rfl,rfl,rfl,rfl,⟨_,rfl⟩,S.out⟩
 clear S1
 rintro ⟨T,ds⟩ w1 ⟨hds,hsz,h1,h3,⟨b,hb⟩,hI⟩
 simp only at hds
 subst hds
 have S1:=Lib.hid hI
 clear hI
 obtain ⟨l⟩:=T
 revert h1 h3 hb
 have hsz:l.length=77:=hsz
 apply elim_vals 77 hsz
 clear hsz
 intro s0 s1 s2 s3 s4 s5 s6 s7 s8 s9 s10 s11 s12 s13 s14 s15 s16 s17 s18 s19 s20 s21 s22 s23 s24 s25 s26 s27 s28 s29 s30 s31 s32 s33 s34 s35 s36 s37 s38 s39 s40 s41 s42 s43 s44 s45 s46 s47 s48 s49 s50 s51 s52 s53 s54 s55 s56 s57 s58 s59 s60 s61 s62 s63 s64 s65 s66 s67 s68 s69 s70 s71 s72 s73 s74 s75 s76 h1 h3 hb
 simp only [List.getElem?_toArray,List.getElem?_cons_succ,List.getElem?_cons_zero,Option.some.injEq] at h1 h3 hb
 subst h1 h3 hb
 refine wpList_part 9 (RU x ga gc w.heap.size w 57) ?_ ?_
 ·intro Q' hQ0
  have hQ':=Lib.hid hQ0
  clear hQ0
  show wpList _ _ _ [_,_,_,_,_,_,_,_,_] _ _
  have hu:undef=Value.tuple #[]:=rfl
  cases b
  ·go_wp2
   exact hQ'.out _ _ ⟨rfl,rfl,rfl,rfl,⟨_,rfl⟩,S1.out⟩
  go_wp2_with fail
  refine (H5.out _).mono ?_
  rintro e w' ⟨rfl,hb'⟩
  have S:=Lib.hid (S1.out.below hb')
  have xc:=S.out.b1.cell 6 (by simp)
  clear hb' S1
  cases d5
  all_goals
   go_wp2
   exact hQ'.out _ _ ⟨rfl,rfl,rfl,rfl,⟨_,rfl⟩,S.out⟩
 clear S1
 rintro ⟨T,ds⟩ w1 ⟨hds,hsz,h1,h3,⟨b,hb⟩,hI⟩
 simp only at hds
 subst hds
 have S1:=Lib.hid hI
 clear hI
 obtain ⟨l⟩:=T
 revert h1 h3 hb
 have hsz:l.length=77:=hsz
 apply elim_vals 77 hsz
 clear hsz
 intro s0 s1 s2 s3 s4 s5 s6 s7 s8 s9 s10 s11 s12 s13 s14 s15 s16 s17 s18 s19 s20 s21 s22 s23 s24 s25 s26 s27 s28 s29 s30 s31 s32 s33 s34 s35 s36 s37 s38 s39 s40 s41 s42 s43 s44 s45 s46 s47 s48 s49 s50 s51 s52 s53 s54 s55 s56 s57 s58 s59 s60 s61 s62 s63 s64 s65 s66 s67 s68 s69 s70 s71 s72 s73 s74 s75 s76 h1 h3 hb
 simp only [List.getElem?_toArray,List.getElem?_cons_succ,List.getElem?_cons_zero,Option.some.injEq] at h1 h3 hb
 subst h1 h3 hb
 refine wpList_part 10 (RU x ga gc w.heap.size w 67) ?_ ?_
 ·intro Q' hQ0
  have hQ':=Lib.hid hQ0
  clear hQ0
  show wpList _ _ _ [_,_,_,_,_,_,_,_,_,_] _ _
  have hu:undef=Value.tuple #[]:=rfl
  cases b
  ·go_wp2
   exact hQ'.out _ _ ⟨rfl,rfl,rfl,rfl,⟨_,rfl⟩,S1.out⟩
  go_wp2_with fail
  refine (H6.out _).mono ?_
  rintro e w' ⟨rfl,hb'⟩
  have S:=Lib.hid (S1.out.below hb')
  have xc:=S.out.b1.cell 7 (by simp)
  clear hb' S1
  cases d6
  all_goals
   go_wp2
   exact hQ'.out _ _ ⟨rfl,rfl,rfl,rfl,⟨_,rfl⟩,S.out⟩
 clear S1
 rintro ⟨T,ds⟩ w1 ⟨hds,hsz,h1,h3,⟨b,hb⟩,hI⟩
 simp only at hds
 subst hds
 have S1:=Lib.hid hI
 clear hI
 obtain ⟨l⟩:=T
 revert h1 h3 hb
 have hsz:l.length=77:=hsz
 apply elim_vals 77 hsz
 clear hsz
 intro s0 s1 s2 s3 s4 s5 s6 s7 s8 s9 s10 s11 s12 s13 s14 s15 s16 s17 s18 s19 s20 s21 s22 s23 s24 s25 s26 s27 s28 s29 s30 s31 s32 s33 s34 s35 s36 s37 s38 s39 s40 s41 s42 s43 s44 s45 s46 s47 s48 s49 s50 s51 s52 s53 s54 s55 s56 s57 s58 s59 s60 s61 s62 s63 s64 s65 s66 s67 s68 s69 s70 s71 s72 s73 s74 s75 s76 h1 h3 hb
 simp only [List.getElem?_toArray,List.getElem?_cons_succ,List.getElem?_cons_zero,Option.some.injEq] at h1 h3 hb
 subst h1 h3 hb
 show wpList _ _ _ [_,_,_,_,_,_,_,_,_,_] _ _
 have hu:undef=Value.tuple #[]:=rfl
 cases b
 ·go_wp2
  go_ret
  exact ⟨S1.out.hb,_,rfl,trivial⟩
 go_wp2_with fail
 refine (H7.out _).mono ?_
 rintro e w' ⟨rfl,hb'⟩
 have S:=Lib.hid (S1.out.below hb')
 have xc:=S.out.b1.cell 8 (by simp)
 clear hb' S1
 cases d7
 all_goals
  go_wp2
  (go_ret;exact ⟨S.out.hb,_,rfl,trivial⟩)
end Go.Proofs.YtffcklfigpmlgaaGreatDoor
