/-
  The program's known, uses, natural, variableName, typed.
-/
import Derived.Test.YtjnbddedmbhiaaaGreatDoorPk01
import Derived.KernelRfl
import Derived.Shelf.LaysM
import Derived.Shelf.Strings.Prefix
import Derived.Orders
import Derived.Deep.Quiet
import Derived.Tactics
namespace Go.ak
def vX:List Str:=[⟨#[]⟩,⟨#[100,110]⟩,⟨#[100]⟩,⟨#[100,97]⟩,⟨#[100,97,111,98]⟩,⟨#[100]⟩,⟨#[100,99]⟩,⟨#[100,97,109]⟩,⟨#[97,109,98]⟩,⟨#[100,97,99,109,42]⟩,⟨#[100,99,109,42]⟩,⟨#[97,103]⟩,⟨#[103]⟩,⟨#[97]⟩,⟨#[97]⟩,⟨#[100,99]⟩,⟨#[100,97,110]⟩]
def aW(o c:Int):Bool:=ig o&&decide (0<=Go.Lib.indexByte (vX.getD o.toNat ⟨#[]⟩).data.toList c.toNat.toUInt8)
theorem Li{o:Int}(h:ig o=false)(c:Int):aW o c=false:=by unfold aW;rw[h];rfl
theorem Yv{o:Int}(h:ig o=false)(c:Int):bS o c=false:=by unfold bS;rw[h];rfl
theorem Q8:∀k:Nat,k<17->(aW k 100=bS k 100/\aW k 97=bS k 97/\aW k 98=bS k 98/\aW k 99=bS k 99/\aW k 109=bS k 109/\aW k 103=bS k 103/\aW k 42=bS k 108/\(aW k 110||aW k 111)=bS k 110)
 |0,_=>by simp only[bH];exact⟨by kernel_rfl,by kernel_rfl,by kernel_rfl,by kernel_rfl,by kernel_rfl,by kernel_rfl,by kernel_rfl,by kernel_rfl⟩
 |1,_=>by simp only[bH];exact⟨by kernel_rfl,by kernel_rfl,by kernel_rfl,by kernel_rfl,by kernel_rfl,by kernel_rfl,by kernel_rfl,by kernel_rfl⟩
 |2,_=>by simp only[bH];exact⟨by kernel_rfl,by kernel_rfl,by kernel_rfl,by kernel_rfl,by kernel_rfl,by kernel_rfl,by kernel_rfl,by kernel_rfl⟩
 |3,_=>by simp only[bH];exact⟨by kernel_rfl,by kernel_rfl,by kernel_rfl,by kernel_rfl,by kernel_rfl,by kernel_rfl,by kernel_rfl,by kernel_rfl⟩
 |4,_=>by simp only[bH];exact⟨by kernel_rfl,by kernel_rfl,by kernel_rfl,by kernel_rfl,by kernel_rfl,by kernel_rfl,by kernel_rfl,by kernel_rfl⟩
 |5,_=>by simp only[bH];exact⟨by kernel_rfl,by kernel_rfl,by kernel_rfl,by kernel_rfl,by kernel_rfl,by kernel_rfl,by kernel_rfl,by kernel_rfl⟩
 |6,_=>by simp only[bH];exact⟨by kernel_rfl,by kernel_rfl,by kernel_rfl,by kernel_rfl,by kernel_rfl,by kernel_rfl,by kernel_rfl,by kernel_rfl⟩
 |7,_=>by simp only[bH];exact⟨by kernel_rfl,by kernel_rfl,by kernel_rfl,by kernel_rfl,by kernel_rfl,by kernel_rfl,by kernel_rfl,by kernel_rfl⟩
 |8,_=>by simp only[bH];exact⟨by kernel_rfl,by kernel_rfl,by kernel_rfl,by kernel_rfl,by kernel_rfl,by kernel_rfl,by kernel_rfl,by kernel_rfl⟩
 |9,_=>by simp only[bH];exact⟨by kernel_rfl,by kernel_rfl,by kernel_rfl,by kernel_rfl,by kernel_rfl,by kernel_rfl,by kernel_rfl,by kernel_rfl⟩
 |10,_=>by simp only[bH];exact⟨by kernel_rfl,by kernel_rfl,by kernel_rfl,by kernel_rfl,by kernel_rfl,by kernel_rfl,by kernel_rfl,by kernel_rfl⟩
 |11,_=>by simp only[bH];exact⟨by kernel_rfl,by kernel_rfl,by kernel_rfl,by kernel_rfl,by kernel_rfl,by kernel_rfl,by kernel_rfl,by kernel_rfl⟩
 |12,_=>by simp only[bH];exact⟨by kernel_rfl,by kernel_rfl,by kernel_rfl,by kernel_rfl,by kernel_rfl,by kernel_rfl,by kernel_rfl,by kernel_rfl⟩
 |13,_=>by simp only[bH];exact⟨by kernel_rfl,by kernel_rfl,by kernel_rfl,by kernel_rfl,by kernel_rfl,by kernel_rfl,by kernel_rfl,by kernel_rfl⟩
 |14,_=>by simp only[bH];exact⟨by kernel_rfl,by kernel_rfl,by kernel_rfl,by kernel_rfl,by kernel_rfl,by kernel_rfl,by kernel_rfl,by kernel_rfl⟩
 |15,_=>by simp only[bH];exact⟨by kernel_rfl,by kernel_rfl,by kernel_rfl,by kernel_rfl,by kernel_rfl,by kernel_rfl,by kernel_rfl,by kernel_rfl⟩
 |16,_=>by simp only[bH];exact⟨by kernel_rfl,by kernel_rfl,by kernel_rfl,by kernel_rfl,by kernel_rfl,by kernel_rfl,by kernel_rfl,by kernel_rfl⟩
 |n+17,h=>absurd h (by omega)
theorem Jq(o:Int):aW o 100=bS o 100/\aW o 97=bS o 97/\aW o 98=bS o 98/\aW o 99=bS o 99/\aW o 109=bS o 109/\aW o 103=bS o 103/\aW o 42=bS o 108/\(aW o 110||aW o 111)=bS o 110:=by
 cases h:ig o with
 |false=>simp only[Li h,Yv h];simp
 |true =>
  obtain⟨k,hk,rfl⟩:=Ao.1 h
  exact Q8 k hk
end Go.ak
namespace Go.Proofs.YtjnbddedmbhiaaaGreatDoor
open Go.RowKit Go.ak

set_option maxHeartbeats 400000 in
theorem Fy(o:Int)(w:World):Calls Tryz.prog 67 #[.int .i64 o] w (Same w (.bool (ig o))):=by
 by_cases h1:0<=o<;>by_cases h2:o<17
 all_goals
  go_enter Tryz.func67,Tryz.ntmps67
  go_wp2
  go_ret
  refine⟨ed ?_,rfl⟩
  simp[ig,h1,h2]
def Oj:Array Value:=(vX.map Value.string).toArray
def FM(w:World):Prop:=∃t fr,w.heap[0]? = some (.cells Oj t fr)
theorem FM.below{w w':World}(h:FM w)(hb:Below w.heap.size w w'):FM w':=by
 obtain⟨t,fr,h⟩:=h
 refine⟨t,fr,?_⟩
 rw[hb.block 0 (Array.getElem?_eq_some_iff.1 h).1,h]
theorem YV{w:World}(h:FM w){k:Nat}(hk:k<17):w.cell? ⟨0,k,none⟩=some (.string (vX.getD k ⟨#[]⟩)):=by
 obtain⟨t,fr,h⟩:=h
 rw[cell_of_row _ _ _ _ _ _ h]
 have:k<vX.length:=hk
 simp[Oj,this]
set_option maxHeartbeats 1000000 in
theorem fJ(o c:Int)(w:World)(hw:FM w):Calls Tryz.prog 122 #[.int .i64 o,.int .u8 c] w (Same w (.bool (aW o c))):=by
 cases h:ig o with
 |false =>
  have HK:Hid (Calls Tryz.prog 67 #[.int .i64 o] w (Same w (.bool false))):=by have:=Fy o w;rwa [h]at this
  rw[Li h]
  clear h hw
  go_enter Tryz.func122,Tryz.ntmps122
  go_wp2_with (go_at_call 67;refine HK.out.mono ?_;rintro e w' ⟨rfl,rfl⟩)
  go_ret
  exact⟨rfl,rfl⟩
 |true =>
  have HK:Hid (Calls Tryz.prog 67 #[.int .i64 o] w (Same w (.bool true))):=by have:=Fy o w;rwa [h]at this
  have HU:Hid (decide (0<=Go.Lib.indexByte (vX.getD o.toNat ⟨#[]⟩).data.toList c.toNat.toUInt8)=aW o c):=by show _=_;unfold aW;rw[h];rfl
  obtain⟨k,hk,rfl⟩:=Ao.1 h
  have c0:=YV hw hk
  rw[Int.toNat_natCast]at HU
  generalize aW (k:Int) c=R at *
  generalize vX.getD k ⟨#[]⟩=x at *
  have HI:=Lib.hid (fun w1=>Tryz.strings_IndexByte x c w1)
  clear h hw
  generalize Go.Lib.indexByte x.data.toList c.toNat.toUInt8=n at *
  go_enter Tryz.func122,Tryz.ntmps122
  go_wp2_with (first
   |(go_at_call 67;refine HK.out.mono ?_;rintro e w' ⟨rfl,rfl⟩)
   |(go_at_call 182;refine(HI.out _).mono ?_;rintro e w' ⟨rfl,rfl⟩))
  go_ret
  exact⟨ed HU.out,rfl⟩
theorem kP(b:Bool)(w:World):Calls Tryz.prog 125 #[.bool b] w (Same w (.int .i64 (if b=true then 0 else 8))):=by
 cases b
 all_goals
  go_enter Tryz.func125,Tryz.ntmps125
  go_wp2
  go_ret
  exact⟨rfl,rfl⟩
end Go.Proofs.YtjnbddedmbhiaaaGreatDoor
namespace Go.Proofs
open Go.Shelf
def Tryz.Xo:Go.Shelf.Ren:=⟨fun | 99=>117 | 206=>177 | n=>n,fun | 9=>9 | 4=>4 | 3=>3 | n=>n,fun | n=>n⟩
theorem Tryz.Xp:Go.Proofs.Lays.n99 Tryz.prog Tryz.Xo:={
 mixed:=by kernel_rfl
 f99:=Tryz.func117.trans (congrArg some (by kernel_rfl))
 f206:=Tryz.func177.trans (congrArg some (by kernel_rfl))
 t3:=Tryz.underlying3
 a3:=Tryz.isAgg3
 z3:=Tryz.sizeOf3
 v3:=Tryz.zeroValue3
 t4:=Tryz.underlying4
 a4:=Tryz.isAgg4
 z4:=Tryz.sizeOf4
 v4:=Tryz.zeroValue4
 t9:=Tryz.underlying9
 a9:=Tryz.isAgg9
 z9:=Tryz.sizeOf9
 v9:=Tryz.zeroValue9 }
open Go.RowKit Go.Lib in
theorem Tryz.Yu(s p:ByteArray)(w:World) :
 Calls Tryz.prog 117 #[.string s,.string p] w fun e w'=>e = .returned (.bool (Lib.hasPrefix s.data.toList p.data.toList))/\w' = w:=Any.strings_HasPrefix Tryz.Xp s p w
end Go.Proofs
namespace Go.Proofs.YtjnbddedmbhiaaaGreatDoor
open Go.RowKit Go.ak

def hV(a:Option Addr)(h:List ae)(c:Nat):Value:=.agg #[.slice a h.length c]
theorem rf{w:World}{base m e s n:Nat}{v:Value}{xs:List Value}(h:w.ownsRow base e s v n xs)(hm:m<=base):w.ownsRow m e s v n xs:=by
 refine⟨h.1,?_⟩
 rcases h.2 with h2 | ⟨g,cap,cur,e,hb,h3⟩
 ·exact .inl h2
 ·exact .inr ⟨g,cap,cur,e,Nat.le_trans hm hb,h3⟩
def Kg:Value->Nat
 | .slice _ n _=>n
 |_=>0
structure fo(h:List ae)(s0:Str)(a:Option Addr)(c:Nat)(w wr:World)(n:Nat)(s:Str)(out:List Str)(v:Value):Prop where
 hb:Below w.heap.size w wr
 bx:ah wr w.heap.size #[.slice a h.length c] 24
 ow:wr.ownsRow w.heap.size 9 1 v out.length (out.map Value.string)
 ch:mX h out
 ln:n+out.length=h.length+1
 eq:jT h n s out=Ca h s0
def zA(l:List Str)(w:World)(e:Ending)(w':World):Prop :=
 Below w.heap.size w w'/\∃a c,e = .returned (.slice a l.length c)/\w'.ownsRow w.heap.size 9 1 (.slice a l.length c) l.length (l.map Value.string)
end Go.Proofs.YtjnbddedmbhiaaaGreatDoor
namespace Go
section
variable {P:Program}{ops:Array Oper}{md:Region.Mode}{C:World->Prop}{Q:Exit->Act->World->Prop}

def lK(P:Program)(ops:Array Oper)(C:World->Prop)(o:Oper)(v:Value)(a:Act):Prop :=
 (Region.wanted o (yielded ops a.tmps)=true/\∀w,C w->(execOp a.eval o).run P w = .ok (.value v) w) ∨
 (Region.wanted o (yielded ops a.tmps)=false/\v=undef)
theorem lK.of_same{o:Oper}{v:Value}{a a':Act}(hy:lK P ops C o v a)(he:execOp a'.eval o=execOp a.eval o)
 (hw:Region.wanted o (yielded ops a'.tmps)=Region.wanted o (yielded ops a.tmps)):lK P ops C o v a':=by
 unfold lK at *
 rw[he,hw]
 exact hy
theorem lK.wpOp{i:Nat}{o:Oper}{v:Value}{a:Act}(hi:ops[i]? = some o)(hy:lK P ops C o v a)
 {K:Act->World->Prop} {w:World} (hc:C w) (h:K (a.put o.dst v) w):wpOp P ops Q i K a w:=by
 unfold Go.wpOp
 simp only[hi]
 rcases hy with ⟨hw,hv⟩ | ⟨hw,rfl⟩
 ·simp only[hw,if_true,Oper.wp,hv w hc,Oper.upon];exact .inl h
 ·simp only[hw,Bool.false_eq_true,if_false];exact h
theorem IG{j:Nat}{oi oj:Oper}{v:Value}(hj:ops[j]? = some oj)(hap:oi.apart ops oj=true)
 (hsi:∀cs b,oi.op ≠ .select cs b) (hsj:∀cs b,oj.op ≠ .select cs b)
 (hQ:∀c a w,Q (.panic c) (a.put oi.dst v) w->Q (.panic c) a w) {K:Act->World->Prop} {a:Act} {w:World}
 (hy:lK P ops C oi v a) (h:wpOp P ops Q j K (a.put oi.dst v) w) :
 wpOp P ops Q j (fun a' w'=>lK P ops C oi v a'/\K (a'.put oi.dst v) w') a w:=by
 obtain⟨h1,h2,h3⟩:=Oper.apart_spec hap
 have keep:∀(a:Act),lK P ops C oi v a->∀u,lK P ops C oi v (a.put oj.dst u):=fun a hy u =>
  hy.of_same (execOp_put oi hsi a oj.dst u h3) (wanted_put oi a oj.dst u h3)
 have keepD:∀d,lK P ops C oi v { a with defers:=d::a.defers }:=fun d=>hy.of_same rfl rfl
 unfold wpOp at *
 simp only[hj]at *
 rw[wanted_put oj a oi.dst v h1]at h
 split
 ·rename_i hw
  simp only[hw,if_true]at h
  rcases h with h | ⟨hasks,hlets⟩
  case inr=>exact .inr ⟨by unfold Oper.asks at *;rw[execOp_put oj hsj a oi.dst v h1]at hasks;exact hasks,hlets⟩
  refine .inl ?_
  unfold Oper.wp at *
  rw[execOp_put oj hsj a oi.dst v h1]at h
  generalize (execOp a.eval oj).run P w=r at *
  cases r with
  |ok n w' =>
   cases n<;>simp only[Oper.upon]at h ⊢
   case value u=>exact⟨keep a hy u,by rw[<-Act.put_comm a v u h2];exact h⟩
   case skip=>exact⟨keep a hy _,by rw[<-Act.put_comm a v undef h2];exact h⟩
   case defer d =>
    refine⟨keep _ (keepD d) _,?_⟩
    rw[<-Act.put_comm _ v undef h2,<-Act.put_defers]
    exact h
   case enter f args =>
    refine Calls.mono h fun e w'' he=>?_
    cases e with
    |returned u=>exact⟨keep a hy u,by rw[<-Act.put_comm a v u h2];exact he⟩
    |panicked c=>exact hQ _ _ _ he
    |outgrown=>exact he
   case row row args=>exact Rows.mono h fun u w'' he=>⟨keep a hy u,by rw[<-Act.put_comm a v u h2];exact he⟩
  |halt x w' =>
   cases x<;>simp only[Oper.upon]at h ⊢
   case panic u=>exact hQ _ _ _ h
 ·rename_i hw
  simp only[hw]at h
  exact⟨keep a hy _,by rw[<-Act.put_comm a v undef h2];exact h⟩
def Oper.xE(w:World)(v:Value):Result Next->Prop
 | .ok (.value u) w'=>w' = w/\u=v
 |_=>False
def Oper.zV(P:Program)(o:Oper)(a:Act)(w:World)(v:Value):Prop:=Oper.xE w v ((execOp a.eval o).run P w)
def Oper.zU(P:Program)(o:Oper)(a:Act)(C:World->Prop)(next:Act->Prop):Prop:=∃v,(∀w,C w->o.zV P a w v)/\next (a.put o.dst v)
attribute [go_sem] Oper.zU Oper.zV Oper.xE
theorem Oper.Dx{o:Oper}{a:Act}{w:World}{v:Value}(h:o.zV P a w v):(execOp a.eval o).run P w = .ok (.value v) w:=by
 unfold Oper.zV at h
 cases hr:(execOp a.eval o).run P w with
 |ok n w' =>
  rw[hr]at h
  cases n with
  |value u=>simp only[Oper.xE]at h;rw[h.1,h.2]
  |_=>simp only[Oper.xE]at h
 |halt x w'=>rw[hr]at h;simp only[Oper.xE]at h

end
end Go
namespace Go
section
variable {P:Program}{ops:Array Oper}{md:Region.Mode}{C:World->Prop}{Q:Exit->Act->World->Prop}

def bO(P:Program)(md:Region.Mode)(ops:Array Oper)(C:World->Prop)(Q:Exit->Act->World->Prop):Nat->Array Bool->Act->World->Prop
 |0,listed,a,w=>Region.ready md ops listed=[]/\Q .normal a w
 |fuel+1,listed,a,w =>
  (Region.ready md ops listed=[]->Q .normal a w) /\
  ∀i∈Region.ready md ops listed,wpOp P ops Q i (fun a' w'=>C w'/\bO P md ops C Q fuel (listed.setIfInBounds i true) a' w') a w
theorem IJ:∀(fuel:Nat) (listed:Array Bool) (a:Act) (w:World),bO P md ops C Q fuel listed a w->wpAny P md ops Q fuel listed a w
 |0,_,_,_,h=>h
 |fuel+1,_,_,_,h=>⟨h.1,fun i hi=>wpOp_mono (fun a' w' hh=>IJ fuel _ a' w' hh.2) (h.2 i hi)⟩

def mR(P:Program)(ops:Array Oper)(C:World->Prop)(o:Oper)(v:Value)(a:Act):Prop :=
 (Region.wanted o (yielded ops a.tmps)=true/\∀w,C w->((execOp a.eval o).run P w = .ok (.value v) w∨∃f args,(execOp a.eval o).run P w = .ok (.enter f args) w/\Calls P f args w (fun e w'=>e = .returned v/\w=w'))) ∨
 (Region.wanted o (yielded ops a.tmps)=false/\v=undef)
theorem mR.of_same{o:Oper}{v:Value}{a a':Act}(hy:mR P ops C o v a)(he:execOp a'.eval o=execOp a.eval o)
 (hw:Region.wanted o (yielded ops a'.tmps)=Region.wanted o (yielded ops a.tmps)):mR P ops C o v a':=by
 unfold mR at *
 rw[he,hw]
 exact hy
theorem mR.wpOp{i:Nat}{o:Oper}{v:Value}{a:Act}(hi:ops[i]? = some o)(hy:mR P ops C o v a)
 {K:Act->World->Prop} {w:World} (hc:C w) (h:K (a.put o.dst v) w):wpOp P ops Q i K a w:=by
 unfold Go.wpOp
 simp only[hi]
 rcases hy with ⟨hw,hv⟩ | ⟨hw,rfl⟩
 ·rcases hv w hc with hr | ⟨f,args,hr,hcall⟩
  ·simp only[hw,if_true,Oper.wp,hr,Oper.upon];exact .inl h
  ·simp only[hw,if_true,Oper.wp,hr,Oper.upon]
   refine .inl (hcall.mono ?_)
   rintro e w' ⟨rfl,rfl⟩
   exact h
 ·simp only[hw,Bool.false_eq_true,if_false];exact h
theorem QV{j:Nat}{oi oj:Oper}{v:Value}(hj:ops[j]? = some oj)(hap:oi.apart ops oj=true)
 (hsi:∀cs b,oi.op ≠ .select cs b) (hsj:∀cs b,oj.op ≠ .select cs b)
 (hQ:∀c a w,Q (.panic c) (a.put oi.dst v) w->Q (.panic c) a w) {K:Act->World->Prop} {a:Act} {w:World}
 (hy:mR P ops C oi v a) (h:wpOp P ops Q j K (a.put oi.dst v) w) :
 wpOp P ops Q j (fun a' w'=>mR P ops C oi v a'/\K (a'.put oi.dst v) w') a w:=by
 obtain⟨h1,h2,h3⟩:=Oper.apart_spec hap
 have keep:∀(a:Act),mR P ops C oi v a->∀u,mR P ops C oi v (a.put oj.dst u):=fun a hy u =>
  hy.of_same (execOp_put oi hsi a oj.dst u h3) (wanted_put oi a oj.dst u h3)
 have keepD:∀d,mR P ops C oi v { a with defers:=d::a.defers }:=fun d=>hy.of_same rfl rfl
 unfold wpOp at *
 simp only[hj]at *
 rw[wanted_put oj a oi.dst v h1]at h
 split
 ·rename_i hw
  simp only[hw,if_true]at h
  rcases h with h | ⟨hasks,hlets⟩
  case inr=>exact .inr ⟨by unfold Oper.asks at *;rw[execOp_put oj hsj a oi.dst v h1]at hasks;exact hasks,hlets⟩
  refine .inl ?_
  unfold Oper.wp at *
  rw[execOp_put oj hsj a oi.dst v h1]at h
  generalize (execOp a.eval oj).run P w=r at *
  cases r with
  |ok n w' =>
   cases n<;>simp only[Oper.upon]at h ⊢
   case value u=>exact⟨keep a hy u,by rw[<-Act.put_comm a v u h2];exact h⟩
   case skip=>exact⟨keep a hy _,by rw[<-Act.put_comm a v undef h2];exact h⟩
   case defer d =>
    refine⟨keep _ (keepD d) _,?_⟩
    rw[<-Act.put_comm _ v undef h2,<-Act.put_defers]
    exact h
   case enter f args =>
    refine Calls.mono h fun e w'' he=>?_
    cases e with
    |returned u=>exact⟨keep a hy u,by rw[<-Act.put_comm a v u h2];exact he⟩
    |panicked c=>exact hQ _ _ _ he
    |outgrown=>exact he
   case row row args=>exact Rows.mono h fun u w'' he=>⟨keep a hy u,by rw[<-Act.put_comm a v u h2];exact he⟩
  |halt x w' =>
   cases x<;>simp only[Oper.upon]at h ⊢
   case panic u=>exact hQ _ _ _ h
 ·rename_i hw
  simp only[hw]at h
  exact⟨keep a hy _,by rw[<-Act.put_comm a v undef h2];exact h⟩
theorem Da{i:Nat}{oi:Oper}{v:Value}(hi:ops[i]? = some oi)(hsel:∀(j:Nat) (o:Oper) cs b,ops[j]? = some o->o.op ≠ .select cs b)
 (hQ:∀c a w,Q (.panic c) (a.put oi.dst v) w->Q (.panic c) a w) :
 ∀(fuel:Nat) (listed:Array Bool) (a:Act) (w:World),C w ->
  (∀j oj,ops[j]? = some oj->j≠i->listed.getD j true=false->(∀e∈oj.after,Region.binds md e=true->e.on≠i)->oi.apart ops oj=true) ->
  i∈Region.ready md ops listed->mR P ops C oi v a ->
  bO P md ops C Q fuel (listed.setIfInBounds i true) (a.put oi.dst v) w->bO P md ops C Q (fuel+1) listed a w:=by
 intro fuel
 induction fuel with
 |zero =>
  intro listed a w hc _ hr hy H
  refine⟨fun h=>(by rw[h]at hr;cases hr),fun j hj=>?_⟩
  by_cases hji:j=i
  ·subst hji;exact hy.wpOp hi hc ⟨hc,H⟩
  ·have:=ready_mono hj hji
   rw[H.1]at this
   cases this
 |succ fuel ih =>
  intro listed a w hc hfree hr hy H
  refine⟨fun h=>(by rw[h]at hr;cases hr),fun j hj=>?_⟩
  by_cases hji:j=i
  ·subst hji;exact hy.wpOp hi hc ⟨hc,H⟩
  ·have h1:=H.2 j (ready_mono hj hji)
   obtain⟨hjun,oj,hoj,hall⟩:=mem_ready.1 hj
   have hnot:∀e∈oj.after,Region.binds md e=true->e.on≠i:=fun e he hb heq=>by
    have h1:=hall e he hb
    have h0:=(mem_ready.1 hr).1
    rw[heq]at h1
    rcases Nat.lt_or_ge i listed.size with h' | h'
    ·simp[h']at h0 h1;rw[h0]at h1;cases h1
    ·simp[Array.getElem?_eq_none h']at h1
   have h2:=QV hoj (hfree j oj hoj hji hjun hnot) (fun cs b=>hsel i oi cs b hi) (fun cs b=>hsel j oj cs b hoj) hQ hy h1
   have hfree':∀k ok,ops[k]? = some ok->k≠i->(listed.setIfInBounds j true).getD k true=false ->
    (∀e∈ok.after,Region.binds md e=true->e.on≠i)->oi.apart ops ok=true:=fun k ok hk hki hun hno=>by
    refine hfree k ok hk hki ?_ hno
    by_cases hjk:j=k
    ·subst hjk;exact hjun
    ·rw[getD_set_ne true hjk]at hun;exact hun
   refine wpOp_mono (fun a' w' h3=>⟨h3.2.1,ih (listed.setIfInBounds j true) a' w' h3.2.1 hfree' (ready_mono hr (Ne.symm hji)) h3.1 ?_⟩) h2
   rw[Array.setIfInBounds_comm _ _ hji]
   exact h3.2.2

theorem af(i:Nat){o:Oper}{fuel:Nat}{listed:Array Bool}{a:Act}{w:World}(ho:ops[i]? = some o)
 (hB:(Region.noSelect ops&&(Region.ready md ops listed).contains i&&Region.free md ops listed i)=true)
 (hQ:∀v c a w,Q (.panic c) (a.put o.dst v) w->Q (.panic c) a w) (hc:C w)
 (h:∀K:Act->Prop,(∀a',bO P md ops C Q fuel (listed.setIfInBounds i true) a' w->K a')->if Region.wanted o (yielded ops a.tmps)then o.zU P a C K else K (a.put o.dst undef)) :
 bO P md ops C Q (fuel+1) listed a w:=by
 simp only[Bool.and_eq_true]at hB
 obtain⟨⟨hs,hr⟩,hf⟩:=hB
 have h':=h (fun a'=>bO P md ops C Q fuel (listed.setIfInBounds i true) a' w) (fun _ x=>x)
 by_cases hw:Region.wanted o (yielded ops a.tmps)=true
 ·rw[if_pos hw]at h'
  obtain⟨v,hv,hK⟩:=h'
  exact Da ho (Region.noSelect_spec hs) (hQ v) fuel listed a w hc (Region.free_spec ho hf) (by simpa using hr) (.inl ⟨hw,fun w' hw'=>.inl (Oper.Dx (hv w' hw'))⟩) hK
 ·rw[if_neg hw]at h'
  exact Da ho (Region.noSelect_spec hs) (hQ undef) fuel listed a w hc (Region.free_spec ho hf) (by simpa using hr) (.inr ⟨by simpa using hw,rfl⟩) h'
def Oper.wJ(w:World)(R:FuncId->Array Value->Prop):Result Next->Prop
 | .ok (.enter f args) w'=>w' = w/\R f args
 |_=>False
attribute [go_sem] Oper.wJ
theorem aP(k:Nat){o:Oper}{fuel:Nat}{listed:Array Bool}{a:Act}{w:World}(ho:ops[k]? = some o)(hr:(Region.ready md ops listed==[k])=true)
 (h:wpList P ops (Exit.then (fun a' w'=>C w'/\bO P md ops C Q fuel (listed.setIfInBounds k true) a' w') Q) [o] a w):bO P md ops C Q (fuel+1) listed a w:=by
 have hr':Region.ready md ops listed=[k]:=by simpa using hr
 refine⟨fun h0=>(by rw[hr']at h0;cases h0),fun i hi=>?_⟩
 rw[hr']at hi
 obtain rfl:i=k:=by simpa using hi
 unfold wpOp
 simp only[ho]
 simp only[wpList]at h
 split
 ·rename_i hw
  simp only[hw,if_true]at h
  rcases h with h | ⟨hasks,hlets⟩
  ·refine .inl ?_
   unfold Oper.wp at *
   generalize (execOp a.eval o).run P w=r at *
   cases r with
   |ok n w' =>
    cases n<;>simp only[Oper.upon]at h ⊢
    case enter f args=>exact Calls.mono h (fun e w'' he=>by cases e<;>exact he)
    all_goals exact h
   |halt x w'=>cases x<;>simp only[Oper.upon]at h ⊢<;>exact h
  ·exact .inr ⟨hasks,hlets⟩
 ·rename_i hw
  simp only[hw]at h
  exact h
theorem zL{k:Nat}{o:Oper}{K:Act->World->Prop}{a:Act}{w:World}(ho:ops[k]? = some o)(h:wpList P ops (Exit.then K Q) [o] a w):wpOp P ops Q k K a w:=by
 unfold wpOp
 simp only[ho]
 simp only[wpList]at h
 split
 ·rename_i hw
  simp only[hw,if_true]at h
  rcases h with h | ⟨hasks,hlets⟩
  ·refine .inl ?_
   unfold Oper.wp at *
   generalize (execOp a.eval o).run P w=r at *
   cases r with
   |ok n w' =>
    cases n<;>simp only[Oper.upon]at h ⊢
    case enter f args=>exact Calls.mono h (fun e w'' he=>by cases e<;>exact he)
    all_goals exact h
   |halt x w'=>cases x<;>simp only[Oper.upon]at h ⊢<;>exact h
  ·exact .inr ⟨hasks,hlets⟩
 ·rename_i hw
  simp only[hw]at h
  exact h
theorem IP(k l:Nat){o o':Oper}{fuel:Nat}{listed:Array Bool}{a:Act}{w:World}(ho:ops[k]? = some o)(ho':ops[l]? = some o')(hr:(Region.ready md ops listed==[k,l])=true)
 (h:wpList P ops (Exit.then (fun a' w'=>C w'/\bO P md ops C Q fuel (listed.setIfInBounds k true) a' w') Q) [o] a w)
 (h':wpList P ops (Exit.then (fun a' w'=>C w'/\bO P md ops C Q fuel (listed.setIfInBounds l true) a' w') Q) [o'] a w):bO P md ops C Q (fuel+1) listed a w:=by
 have hr':Region.ready md ops listed=[k,l]:=by simpa using hr
 refine⟨fun h0=>(by rw[hr']at h0;cases h0),fun i hi=>?_⟩
 rw[hr']at hi
 have hi:i=k∨i=l:=by simpa using hi
 rcases hi with rfl | rfl
 ·exact zL ho h
 ·exact zL ho' h'
theorem dh{listed:Array Bool}{a:Act}{w:World}(hr:(Region.ready md ops listed).isEmpty=true)(h:Q .normal a w)(fuel:Nat):bO P md ops C Q fuel listed a w:=by
 have hr':Region.ready md ops listed=[]:=by simpa using hr
 cases fuel with
 |zero=>exact⟨hr',h⟩
 |succ n=>exact⟨fun _=>h,by rw[hr'];simp⟩
theorem dC{id:Nat}{a:Act}{w:World}{l:List Oper}(C:World->Prop)(hm:P.follows .mixedOrders=true)
 (h:bO P .any l.toArray C Q l.length (Array.replicate l.length false) a { w with drawn:=w.drawn+1 }):(Code.region id l.toArray true).wp P Q a w :=
 wp_region_any hm (by simpa using IJ _ _ _ _ h)
end
end Go
namespace Go.Proofs.YtjnbddedmbhiaaaGreatDoor
open Go.RowKit Go.ak

structure WB(W:World) where
 u:World
 h:Below W.heap.size W u
theorem WB.step{W:World}(o:WB W){w':World}(h:Below o.u.heap.size o.u w'):∃o':WB W,w' = o'.u:=⟨⟨w',o.h.trans (h.mono o.h.size)⟩,rfl⟩
theorem Dv{ops:Array Oper}{rest:List Oper}{o:Oper}{a:Act}{w:World}{Q:Exit->Act->World->Prop}(hgd:o.guard=none)(x y:Operand)(ho:o.op = .store 48 x y)
 (g:Nat) (s1 s2:ByteArray) (b:Bool) (pa:Option Addr) (n pc:Nat) (hx:a.eval x = .pointer (some ⟨g,0,none⟩)) (hy:a.eval y = .agg #[.string s1,.bool b,.slice pa n pc,.string s2])
 (old:Array Value) (hg:ah w g old 48) (hold:old.size=4)
 (h:wpList Tryz.prog ops Q rest (a.put o.dst undef) (w.setRow g #[.string s1,.bool b,.slice pa n pc,.string s2])):wpList Tryz.prog ops Q (o::rest) a w :=
 wpList_store_row hgd 48 x y ho g _ hx hy 48 old hg (by kernel_rfl) hold (by simp[Value.oneCell']) h
theorem Dw{ops:Array Oper}{rest:List Oper}{o:Oper}{a:Act}{w:World}{Q:Exit->Act->World->Prop}(hgd:o.guard=none)(x y:Operand)(ho:o.op = .store 45 x y)
 (g:Nat) (s1 s2:ByteArray) (fa:Option Addr) (n fc:Nat) (ma:Option Addr) (k mc:Nat) (hx:a.eval x = .pointer (some ⟨g,0,none⟩)) (hy:a.eval y = .agg #[.string s1,.string s2,.slice fa n fc,.slice ma k mc])
 (old:Array Value) (hg:ah w g old 45) (hold:old.size=4)
 (h:wpList Tryz.prog ops Q rest (a.put o.dst undef) (w.setRow g #[.string s1,.string s2,.slice fa n fc,.slice ma k mc])):wpList Tryz.prog ops Q (o::rest) a w :=
 wpList_store_row hgd 45 x y ho g _ hx hy 45 old hg (by kernel_rfl) hold (by simp[Value.oneCell']) h
theorem KI{P:Program}{fn:Func}{t p u:Tmp}{ty:TypeId}(h:fn.results=#[.tmp t,.cell p ty,.tmp u])(tmps:Array Value)(w:World)(g:Nat)(cs:Array Value)(d:TypeDesc)(v1 v2:Value)
 (h1:tmps.getD t undef=v1) (hp:tmps.getD p undef = .pointer (some ⟨g,0,none⟩)) (h2:tmps.getD u undef=v2) (hg:ah w g cs ty)
 (hu:P.underlying ty=some d) (hd:(match d with | .struct _ | .array _ _=>true | _=>false)=true) (hi:(P.info? ty).map (·.size)=some cs.size) :
 (results fn tmps).run P w = .ok (.tuple #[v1,.agg cs,v2]) w:=by
 have hp':tmps[p]?.getD undef = .pointer (some ⟨g,0,none⟩):=by simpa using hp
 have h1':tmps[t]?.getD undef=v1:=by simpa using h1
 have h2':tmps[u]?.getD undef=v2:=by simpa using h2
 simp[results,h,hp',h1',h2',asAddr,run_loadVar_row w g ty ty cs (0,0) d hg hu hd hi]
theorem bP{w wr:World}{g:Nat}(h:Below w.heap.size w wr)(hg:w.heap.size<=g)(cs:Array Value):Below w.heap.size w (wr.setRow g cs):=below_setRow h hg cs

def Ik(r:Option (Str × bQ))(w:World)(e:Ending)(w':World):Prop:=Below w.heap.size w w' /\
 ((r=none/\e = .returned (.tuple #[.string ⟨#[]⟩,.string ⟨#[]⟩,.bool false])) ∨
  ∃x g,r=some (x,g)/\e = .returned (.tuple #[.string x,.string g.type,.bool true]))

theorem bJ{id:Nat}{Q:Exit->Act->World->Prop}{a:Act}{l:List Oper}(W:World)(hB:Region.lexB .any l.toArray=true)
 (h:wpQuiet Tryz.prog l.toArray (fun w'=>∃o:WB W,w' = o.u) (fun a'=>∀w',(∃o:WB W,w' = o.u)->Q .normal a' w') l a):(Code.region id l.toArray true).wp Tryz.prog Q a W :=
 wp_region_quiet (C:=fun w'=>∃o:WB W,w' = o.u) (by kernel_rfl) hB ⟨⟨_,(Below.refl _ W).drew⟩,rfl⟩ (by simpa using h)
theorem aj.bu{W:World}{o:WB W}{v:Value}{e:Ending}{w':World}(h:aj o.u v e w'):e = .returned v/\∃o':WB W,w' = o'.u:=⟨h.1,o.step h.2⟩
theorem Same.bu{W:World}{o:WB W}{v:Value}{e:Ending}{w':World}(h:Same o.u v e w'):e = .returned v/\∃o':WB W,w' = o'.u:=⟨h.1,o,h.2.symm⟩
def fF(g:aH)(pa:Option Addr)(pc:Nat):Value:=.agg #[.string g.name,.bool g.stat,.slice pa g.params.length pc,.string g.result]
structure SW(g k:aH)(pa:Option Addr)(pc:Nat)(qa:Option Addr)(qc:Nat)(w wr:World):Prop where
 hb:Below w.heap.size w wr
 b1:ah wr w.heap.size #[.string g.name,.bool g.stat,.slice pa g.params.length pc,.string g.result] 48
 b2:ah wr (w.heap.size+1) #[.string k.name,.bool k.stat,.slice qa k.params.length qc,.string k.result] 48
 sp:bF wr pa g.params
 sq:bF wr qa k.params
structure HW(h:List ae)(g:aH)(a:Option Addr)(c:Nat)(pa:Option Addr)(pc:Nat)(w wr:World):Prop where
 hb:Below w.heap.size w wr
 b1:ah wr w.heap.size #[.slice a h.length c] 24
 b2:ah wr (w.heap.size+1) #[.string g.name,.bool g.stat,.slice pa g.params.length pc,.string g.result] 48
 hc:ay wr a h
 sp:bF wr pa g.params
end Go.Proofs.YtjnbddedmbhiaaaGreatDoor
