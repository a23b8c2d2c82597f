/-
  The program's unusedZero. (Printed by gi19.py.)
-/
import Derived.Test.YtjnbddedmbhiaaaGreatDoorPk19
namespace Go.ak
def lX(x:Ins):Bool:=((((((((aW x.op 100||(x.dst==0))&&(aW x.op 97||(x.a==0)))&&(aW x.op 98||(x.b==0)))&&((aW x.op 110||aW x.op 111)||(x.n==0)))&&(aW x.op 99||(x.cls.toList==[])))&&(aW x.op 109||(x.name.toList==[])))&&(aW x.op 42||((x.args.length:Int)==0)))&&(aW x.op 103||(x.goto==0)))
end Go.ak
namespace Go.Proofs.YtjnbddedmbhiaaaGreatDoor
open Go.RowKit Go.ak

def RZ(g:Nat)(W:World)(s:Nat)(v:Bool)(a:Act)(w':World):Prop :=
 a.defers=[]/\a.tmps.size=87/\a.tmps[1]? = some (.pointer (some ⟨g,0,none⟩))/\a.tmps[s]? = some (.bool v)/\W=w'
set_option maxRecDepth 100000 in
set_option maxHeartbeats 16000000 in
theorem Re(x:Ins)(ga:Option Addr)(gc:Nat)(w:World)(hi:aM w ga x.args)(hf:FM w):Calls Tryz.prog 68 #[bN x ga gc] w (aj w (.bool (lX x))):=by
 have S0:=Lib.hid (IW.start (gc:=gc) hi)
 have F0:=Lib.hid (hf.below (av w (nR x ga gc)))
 clear hi hf
 unfold bN
 unfold lX
 have H0:Hid (∀w1,FM w1->Calls Tryz.prog 122 #[.int .i64 x.op,.int .u8 100] w1 (Same w1 (.bool (aW x.op 100)))):=fun w1 h1=>fJ x.op 100 w1 h1
 generalize aW x.op 100=d0 at *
 have H1:Hid (∀w1,FM w1->Calls Tryz.prog 122 #[.int .i64 x.op,.int .u8 97] w1 (Same w1 (.bool (aW x.op 97)))):=fun w1 h1=>fJ x.op 97 w1 h1
 generalize aW x.op 97=d1 at *
 have H2:Hid (∀w1,FM w1->Calls Tryz.prog 122 #[.int .i64 x.op,.int .u8 98] w1 (Same w1 (.bool (aW x.op 98)))):=fun w1 h1=>fJ x.op 98 w1 h1
 generalize aW x.op 98=d2 at *
 have H3:Hid (∀w1,FM w1->Calls Tryz.prog 122 #[.int .i64 x.op,.int .u8 110] w1 (Same w1 (.bool (aW x.op 110)))):=fun w1 h1=>fJ x.op 110 w1 h1
 generalize aW x.op 110=d3 at *
 have H4:Hid (∀w1,FM w1->Calls Tryz.prog 122 #[.int .i64 x.op,.int .u8 99] w1 (Same w1 (.bool (aW x.op 99)))):=fun w1 h1=>fJ x.op 99 w1 h1
 generalize aW x.op 99=d4 at *
 have H5:Hid (∀w1,FM w1->Calls Tryz.prog 122 #[.int .i64 x.op,.int .u8 109] w1 (Same w1 (.bool (aW x.op 109)))):=fun w1 h1=>fJ x.op 109 w1 h1
 generalize aW x.op 109=d5 at *
 have H6:Hid (∀w1,FM w1->Calls Tryz.prog 122 #[.int .i64 x.op,.int .u8 42] w1 (Same w1 (.bool (aW x.op 42)))):=fun w1 h1=>fJ x.op 42 w1 h1
 generalize aW x.op 42=d6 at *
 have H7:Hid (∀w1,FM w1->Calls Tryz.prog 122 #[.int .i64 x.op,.int .u8 103] w1 (Same w1 (.bool (aW x.op 103)))):=fun w1 h1=>fJ x.op 103 w1 h1
 generalize aW x.op 103=d7 at *
 have H8:Hid (∀w1,FM w1->Calls Tryz.prog 122 #[.int .i64 x.op,.int .u8 111] w1 (Same w1 (.bool (aW x.op 111)))):=fun w1 h1=>fJ x.op 111 w1 h1
 generalize aW x.op 111=d8 at *
 go_enter Tryz.func68,Tryz.ntmps68
 go_upto_region 1 with (fail)
 generalize w.alloc _=W at *
 have y0:=S0.out.b1.cell 0 (by simp)
 have y1:=S0.out.b1.cell 1 (by simp)
 have y2:=S0.out.b1.cell 2 (by simp)
 have y3:=S0.out.b1.cell 3 (by simp)
 have y4:=S0.out.b1.cell 4 (by simp)
 have y5:=S0.out.b1.cell 5 (by simp)
 have y6:=S0.out.b1.cell 6 (by simp)
 have y7:=S0.out.b1.cell 7 (by simp)
 have y8:=S0.out.b1.cell 8 (by simp)
 refine QR 9 (RZ w.heap.size W 11 (d0||(x.dst==0))) ?_ ?_
 ·intro Q' hQ0
  have hQ':=Lib.hid hQ0
  clear hQ0
  show wpList _ _ _ [_,_,_,_,_,_,_,_,_] _ _
  have hu:undef=Value.tuple #[]:=rfl
  generalize hz:(x.dst==0)=z at *
  cases d0<;>cases z
  all_goals
   go_wp2_with (go_at_call 122;(with_reducible refine(H0.out _ F0.out).mono ?_);rintro e w2 ⟨rfl,rfl⟩)
   exact hQ'.out _ _ ⟨rfl,rfl,rfl,rfl,rfl⟩
 rintro⟨T,ds⟩ w1 ⟨hds,hsz,h1,hb,hW⟩
 simp only at hds
 subst hds hW
 obtain⟨l⟩:=T
 revert h1 hb
 have hsz:l.length=87:=hsz
 apply rQ 87 hsz
 clear hsz
 intro s0 s1 s2 s3 s4 s5 s6 s7 s8 s9 s10 s11 s12 s13 s14 s15 s16 s17 s18 s19 s20 s21 s22 s23 s24 s25 s26 s27 s28 s29 s30 s31 s32 s33 s34 s35 s36 s37 s38 s39 s40 s41 s42 s43 s44 s45 s46 s47 s48 s49 s50 s51 s52 s53 s54 s55 s56 s57 s58 s59 s60 s61 s62 s63 s64 s65 s66 s67 s68 s69 s70 s71 s72 s73 s74 s75 s76 s77 s78 s79 s80 s81 s82 s83 s84 s85 s86 h1 hb
 simp only[List.getElem?_toArray,List.getElem?_cons_succ,List.getElem?_cons_zero,Option.some.injEq]at h1 hb
 subst h1 hb
 refine uQ 10 (RZ w.heap.size W 21 ((d0||(x.dst==0))&&(d1||(x.a==0)))) ?_ ?_
 ·intro Q' hQ0
  have hQ':=Lib.hid hQ0
  clear hQ0
  show wpList _ _ _ [_,_,_,_,_,_,_,_,_,_] _ _
  have hu:undef=Value.tuple #[]:=rfl
  generalize (d0||(x.dst==0))=b at *
  generalize hz:(x.a==0)=z at *
  cases b<;>cases d1<;>cases z
  all_goals
   go_wp2_with (go_at_call 122;(with_reducible refine(H1.out _ F0.out).mono ?_);rintro e w2 ⟨rfl,rfl⟩)
   exact hQ'.out _ _ ⟨rfl,rfl,rfl,rfl,rfl⟩
 rintro⟨T,ds⟩ w1 ⟨hds,hsz,h1,hb,hW⟩
 simp only at hds
 subst hds hW
 obtain⟨l⟩:=T
 revert h1 hb
 have hsz:l.length=87:=hsz
 apply rQ 87 hsz
 clear hsz
 intro s0 s1 s2 s3 s4 s5 s6 s7 s8 s9 s10 s11 s12 s13 s14 s15 s16 s17 s18 s19 s20 s21 s22 s23 s24 s25 s26 s27 s28 s29 s30 s31 s32 s33 s34 s35 s36 s37 s38 s39 s40 s41 s42 s43 s44 s45 s46 s47 s48 s49 s50 s51 s52 s53 s54 s55 s56 s57 s58 s59 s60 s61 s62 s63 s64 s65 s66 s67 s68 s69 s70 s71 s72 s73 s74 s75 s76 s77 s78 s79 s80 s81 s82 s83 s84 s85 s86 h1 hb
 simp only[List.getElem?_toArray,List.getElem?_cons_succ,List.getElem?_cons_zero,Option.some.injEq]at h1 hb
 subst h1 hb
 refine uQ 10 (RZ w.heap.size W 31 (((d0||(x.dst==0))&&(d1||(x.a==0)))&&(d2||(x.b==0)))) ?_ ?_
 ·intro Q' hQ0
  have hQ':=Lib.hid hQ0
  clear hQ0
  show wpList _ _ _ [_,_,_,_,_,_,_,_,_,_] _ _
  have hu:undef=Value.tuple #[]:=rfl
  generalize ((d0||(x.dst==0))&&(d1||(x.a==0)))=b at *
  generalize hz:(x.b==0)=z at *
  cases b<;>cases d2<;>cases z
  all_goals
   go_wp2_with (go_at_call 122;(with_reducible refine(H2.out _ F0.out).mono ?_);rintro e w2 ⟨rfl,rfl⟩)
   exact hQ'.out _ _ ⟨rfl,rfl,rfl,rfl,rfl⟩
 rintro⟨T,ds⟩ w1 ⟨hds,hsz,h1,hb,hW⟩
 simp only at hds
 subst hds hW
 obtain⟨l⟩:=T
 revert h1 hb
 have hsz:l.length=87:=hsz
 apply rQ 87 hsz
 clear hsz
 intro s0 s1 s2 s3 s4 s5 s6 s7 s8 s9 s10 s11 s12 s13 s14 s15 s16 s17 s18 s19 s20 s21 s22 s23 s24 s25 s26 s27 s28 s29 s30 s31 s32 s33 s34 s35 s36 s37 s38 s39 s40 s41 s42 s43 s44 s45 s46 s47 s48 s49 s50 s51 s52 s53 s54 s55 s56 s57 s58 s59 s60 s61 s62 s63 s64 s65 s66 s67 s68 s69 s70 s71 s72 s73 s74 s75 s76 s77 s78 s79 s80 s81 s82 s83 s84 s85 s86 h1 hb
 simp only[List.getElem?_toArray,List.getElem?_cons_succ,List.getElem?_cons_zero,Option.some.injEq]at h1 hb
 subst h1 hb
 refine uQ 15 (RZ w.heap.size W 46 ((((d0||(x.dst==0))&&(d1||(x.a==0)))&&(d2||(x.b==0)))&&((d3||d8)||(x.n==0)))) ?_ ?_
 ·intro Q' hQ0
  have hQ':=Lib.hid hQ0
  clear hQ0
  show wpList _ _ _ [_,_,_,_,_,_,_,_,_,_,_,_,_,_,_] _ _
  have hu:undef=Value.tuple #[]:=rfl
  generalize (((d0||(x.dst==0))&&(d1||(x.a==0)))&&(d2||(x.b==0)))=b at *
  generalize hz:(x.n==0)=z at *
  cases b<;>cases d3<;>cases d8<;>cases z
  all_goals
   go_wp2_with (first | (go_at_call 122;(with_reducible refine(H3.out _ F0.out).mono ?_);rintro e w2 ⟨rfl,rfl⟩) | (go_at_call 122;(with_reducible refine(H8.out _ F0.out).mono ?_);rintro e w2 ⟨rfl,rfl⟩))
   exact hQ'.out _ _ ⟨rfl,rfl,rfl,rfl,rfl⟩
 rintro⟨T,ds⟩ w1 ⟨hds,hsz,h1,hb,hW⟩
 simp only at hds
 subst hds hW
 obtain⟨l⟩:=T
 revert h1 hb
 have hsz:l.length=87:=hsz
 apply rQ 87 hsz
 clear hsz
 intro s0 s1 s2 s3 s4 s5 s6 s7 s8 s9 s10 s11 s12 s13 s14 s15 s16 s17 s18 s19 s20 s21 s22 s23 s24 s25 s26 s27 s28 s29 s30 s31 s32 s33 s34 s35 s36 s37 s38 s39 s40 s41 s42 s43 s44 s45 s46 s47 s48 s49 s50 s51 s52 s53 s54 s55 s56 s57 s58 s59 s60 s61 s62 s63 s64 s65 s66 s67 s68 s69 s70 s71 s72 s73 s74 s75 s76 s77 s78 s79 s80 s81 s82 s83 s84 s85 s86 h1 hb
 simp only[List.getElem?_toArray,List.getElem?_cons_succ,List.getElem?_cons_zero,Option.some.injEq]at h1 hb
 subst h1 hb
 refine uQ 10 (RZ w.heap.size W 56 (((((d0||(x.dst==0))&&(d1||(x.a==0)))&&(d2||(x.b==0)))&&((d3||d8)||(x.n==0)))&&(d4||(x.cls.toList==[])))) ?_ ?_
 ·intro Q' hQ0
  have hQ':=Lib.hid hQ0
  clear hQ0
  show wpList _ _ _ [_,_,_,_,_,_,_,_,_,_] _ _
  have hu:undef=Value.tuple #[]:=rfl
  generalize ((((d0||(x.dst==0))&&(d1||(x.a==0)))&&(d2||(x.b==0)))&&((d3||d8)||(x.n==0)))=b at *
  generalize hz:(x.cls.toList==[])=z at *
  cases b<;>cases d4<;>cases z
  all_goals
   go_wp2_with (go_at_call 122;(with_reducible refine(H4.out _ F0.out).mono ?_);rintro e w2 ⟨rfl,rfl⟩)
   exact hQ'.out _ _ ⟨rfl,rfl,rfl,rfl,rfl⟩
 rintro⟨T,ds⟩ w1 ⟨hds,hsz,h1,hb,hW⟩
 simp only at hds
 subst hds hW
 obtain⟨l⟩:=T
 revert h1 hb
 have hsz:l.length=87:=hsz
 apply rQ 87 hsz
 clear hsz
 intro s0 s1 s2 s3 s4 s5 s6 s7 s8 s9 s10 s11 s12 s13 s14 s15 s16 s17 s18 s19 s20 s21 s22 s23 s24 s25 s26 s27 s28 s29 s30 s31 s32 s33 s34 s35 s36 s37 s38 s39 s40 s41 s42 s43 s44 s45 s46 s47 s48 s49 s50 s51 s52 s53 s54 s55 s56 s57 s58 s59 s60 s61 s62 s63 s64 s65 s66 s67 s68 s69 s70 s71 s72 s73 s74 s75 s76 s77 s78 s79 s80 s81 s82 s83 s84 s85 s86 h1 hb
 simp only[List.getElem?_toArray,List.getElem?_cons_succ,List.getElem?_cons_zero,Option.some.injEq]at h1 hb
 subst h1 hb
 refine uQ 10 (RZ w.heap.size W 66 ((((((d0||(x.dst==0))&&(d1||(x.a==0)))&&(d2||(x.b==0)))&&((d3||d8)||(x.n==0)))&&(d4||(x.cls.toList==[])))&&(d5||(x.name.toList==[])))) ?_ ?_
 ·intro Q' hQ0
  have hQ':=Lib.hid hQ0
  clear hQ0
  show wpList _ _ _ [_,_,_,_,_,_,_,_,_,_] _ _
  have hu:undef=Value.tuple #[]:=rfl
  generalize (((((d0||(x.dst==0))&&(d1||(x.a==0)))&&(d2||(x.b==0)))&&((d3||d8)||(x.n==0)))&&(d4||(x.cls.toList==[])))=b at *
  generalize hz:(x.name.toList==[])=z at *
  cases b<;>cases d5<;>cases z
  all_goals
   go_wp2_with (go_at_call 122;(with_reducible refine(H5.out _ F0.out).mono ?_);rintro e w2 ⟨rfl,rfl⟩)
   exact hQ'.out _ _ ⟨rfl,rfl,rfl,rfl,rfl⟩
 rintro⟨T,ds⟩ w1 ⟨hds,hsz,h1,hb,hW⟩
 simp only at hds
 subst hds hW
 obtain⟨l⟩:=T
 revert h1 hb
 have hsz:l.length=87:=hsz
 apply rQ 87 hsz
 clear hsz
 intro s0 s1 s2 s3 s4 s5 s6 s7 s8 s9 s10 s11 s12 s13 s14 s15 s16 s17 s18 s19 s20 s21 s22 s23 s24 s25 s26 s27 s28 s29 s30 s31 s32 s33 s34 s35 s36 s37 s38 s39 s40 s41 s42 s43 s44 s45 s46 s47 s48 s49 s50 s51 s52 s53 s54 s55 s56 s57 s58 s59 s60 s61 s62 s63 s64 s65 s66 s67 s68 s69 s70 s71 s72 s73 s74 s75 s76 s77 s78 s79 s80 s81 s82 s83 s84 s85 s86 h1 hb
 simp only[List.getElem?_toArray,List.getElem?_cons_succ,List.getElem?_cons_zero,Option.some.injEq]at h1 hb
 subst h1 hb
 refine uQ 11 (RZ w.heap.size W 77 (((((((d0||(x.dst==0))&&(d1||(x.a==0)))&&(d2||(x.b==0)))&&((d3||d8)||(x.n==0)))&&(d4||(x.cls.toList==[])))&&(d5||(x.name.toList==[])))&&(d6||((x.args.length:Int)==0)))) ?_ ?_
 ·intro Q' hQ0
  have hQ':=Lib.hid hQ0
  clear hQ0
  show wpList _ _ _ [_,_,_,_,_,_,_,_,_,_,_] _ _
  have hu:undef=Value.tuple #[]:=rfl
  generalize ((((((d0||(x.dst==0))&&(d1||(x.a==0)))&&(d2||(x.b==0)))&&((d3||d8)||(x.n==0)))&&(d4||(x.cls.toList==[])))&&(d5||(x.name.toList==[])))=b at *
  generalize hz:((x.args.length:Int)==0)=z at *
  cases b<;>cases d6<;>cases z
  all_goals
   go_wp2_with (go_at_call 122;(with_reducible refine(H6.out _ F0.out).mono ?_);rintro e w2 ⟨rfl,rfl⟩)
   exact hQ'.out _ _ ⟨rfl,rfl,rfl,rfl,rfl⟩
 rintro⟨T,ds⟩ w1 ⟨hds,hsz,h1,hb,hW⟩
 simp only at hds
 subst hds hW
 obtain⟨l⟩:=T
 revert h1 hb
 have hsz:l.length=87:=hsz
 apply rQ 87 hsz
 clear hsz
 intro s0 s1 s2 s3 s4 s5 s6 s7 s8 s9 s10 s11 s12 s13 s14 s15 s16 s17 s18 s19 s20 s21 s22 s23 s24 s25 s26 s27 s28 s29 s30 s31 s32 s33 s34 s35 s36 s37 s38 s39 s40 s41 s42 s43 s44 s45 s46 s47 s48 s49 s50 s51 s52 s53 s54 s55 s56 s57 s58 s59 s60 s61 s62 s63 s64 s65 s66 s67 s68 s69 s70 s71 s72 s73 s74 s75 s76 s77 s78 s79 s80 s81 s82 s83 s84 s85 s86 h1 hb
 simp only[List.getElem?_toArray,List.getElem?_cons_succ,List.getElem?_cons_zero,Option.some.injEq]at h1 hb
 subst h1 hb
 show wpList _ _ _ [_,_,_,_,_,_,_,_,_,_] _ _
 have hu:undef=Value.tuple #[]:=rfl
 generalize (((((((d0||(x.dst==0))&&(d1||(x.a==0)))&&(d2||(x.b==0)))&&((d3||d8)||(x.n==0)))&&(d4||(x.cls.toList==[])))&&(d5||(x.name.toList==[])))&&(d6||((x.args.length:Int)==0)))=b at *
 generalize hz:(x.goto==0)=z at *
 cases b<;>cases d7<;>cases z
 all_goals
  go_wp2_with (go_at_call 122;(with_reducible refine(H7.out _ F0.out).mono ?_);rintro e w2 ⟨rfl,rfl⟩)
  (go_ret;exact⟨rfl,S0.out.hb⟩)
end Go.Proofs.YtjnbddedmbhiaaaGreatDoor
namespace Go.ak
def dZ(f:aA)(v:Int):Bool:=decide (0<=v)&&decide (v<f.vars.length)
end Go.ak
namespace Go.Proofs.YtjnbddedmbhiaaaGreatDoor
open Go.RowKit Go.ak

set_option maxHeartbeats 1000000 in
theorem Ug(f:aA)(v:Int)(va:Option Addr)(vc:Nat)(g:Nat)(w:World)(hg:w.cell? ⟨g,4,none⟩=some (.slice va f.vars.length vc)) :
 Calls Tryz.prog 123 #[.int .i64 v,.pointer (some ⟨g,0,none⟩)] w (Same w (.bool (dZ f v))):=by
 by_cases h1:0<=v<;>by_cases h2:v<f.vars.length
 all_goals
  go_enter Tryz.func123,Tryz.ntmps123
  go_wp2
  go_ret
  refine⟨ed ?_,rfl⟩
  simp[dZ,h1,h2]
end Go.Proofs.YtjnbddedmbhiaaaGreatDoor
