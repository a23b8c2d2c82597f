/-
  Plain: the program's chains of indices are the reference's chains of names.
-/
import Derived.Test.YtjnbddedmbhiaaaGreatDoorPk13
import Derived.Sort.OwnSorted
import Derived.Lib.SlicesCompact
import Derived.Sort.Walk0
namespace Go.Proofs.YtjnbddedmbhiaaaGreatDoor
open Go.RowKit Go.ak Go.AM

def cu(h:List ae)(i:Int):Prop:=∃(j:Nat) (hj:j<h.length),i=(j:Int)/\aI h h[j].name=(j:Int)
theorem cu.nat{h:List ae}{i:Int}(k:cu h i):∃j:Nat,j<h.length/\i=(j:Int):=by
 obtain⟨j,hj,e,_⟩:=k
 exact⟨j,hj,e⟩
theorem cu.ge{h:List ae}{i:Int}(k:cu h i):0<=i:=by
 obtain⟨j,hj,e,_⟩:=k
 omega
theorem Bn{h:List ae}{s:Str}(k:0<=aI h s):cu h (aI h s):=by
 rcases find_spec h s with ⟨_,f2⟩ | ⟨j,hj,f1,_,f3⟩
 ·omega
 ·exact⟨j,hj,f1,by rw[f3];exact f1⟩
theorem jP{h:List ae}{j:Nat}(hj:j<h.length):nameAt h (j:Int)=h[j].name:=by
 unfold nameAt
 rw[Int.toNat_natCast,List.getElem?_eq_getElem hj]
theorem Dn{h:List ae}{j:Nat}(hj:j<h.length):eH h (j:Int)=eY h h[j]:=by
 unfold eH
 rw[Int.toNat_natCast,List.getElem?_eq_getElem hj]
theorem Gi{h:List ae}{s:Str}(k:0<=aI h s):nameAt h (aI h s)=s:=by
 rcases find_spec h s with ⟨_,f2⟩ | ⟨j,hj,f1,_,f3⟩
 ·omega
 ·rw[f1,jP hj,f3]
theorem cu.find{h:List ae}{i:Int}(k:cu h i):aI h (nameAt h i)=i:=by
 obtain⟨j,hj,rfl,e⟩:=k
 rw[jP hj,e]
theorem Si{h:List ae}{x:ae}(k:0<=eY h x):cu h (eY h x):=by
 unfold eY at *
 by_cases e:(x.aO.toList==([]:List UInt8))=true
 ·rw[if_pos e]at k;omega
 ·rw[if_neg e]at *;exact Bn k
theorem Dq{h:List ae}{i:Int}(k:0<=eH h i):cu h (eH h i):=by
 unfold eH at *
 cases e:h[i.toNat]? with
 |none=>rw[e]at k;exact absurd k (show ¬ (0:Int) <= -1 by decide)
 |some x=>rw[e]at k;exact Si k
theorem GV{h:List ae}(n:Nat){i:Int}{l:List Int}(k:¬ 0<=i):jg h n i l=(l,i):=by
 cases n with
 |zero=>rfl
 |succ n=>exact qC (fun e=>k e.1)
theorem PX{h:List ae}:∀(n:Nat) (i:Int) (l:List Int),(0<=i->cu h i)->(∀x∈l,cu h x)->∀x∈(jg h n i l).1,cu h x
 |0,_,_,_,k2=>k2
 |n+1,i,l,k1,k2=>by
  by_cases hq:0<=i/\i∉l
  ·rw[uz hq.1 hq.2]
   refine PX n _ _ (fun e=>Dq e) (fun x hx=>?_)
   rcases List.mem_append.1 hx with hx | hx
   ·exact k2 x hx
   ·rw[List.mem_singleton.1 hx];exact k1 hq.1
  ·rw[qC hq];exact k2
theorem Ce{h:List ae}{i:Int}(k:0<=i->cu h i):∀x∈(bW h i).1,cu h x:=PX _ _ _ k (fun _ h=>by cases h)
theorem PR{h:List ae}:∀(n:Nat) (s:Str) (l:List Int),(∀x∈l,cu h x)->(jT h n s (l.map (nameAt h))).1=(jg h n (aI h s) l).1.map (nameAt h)
 |0,_,_,_=>rfl
 |n+1,s,l,k=>by
  rcases find_spec h s with ⟨f1,f2⟩ | ⟨j,hj,f1,f2,f3⟩
  ·rw[y0y f1,f2,qC (by omega)]
  ·have hin:fT (l.map (nameAt h)) s=true↔(j:Int)∈l:=by
    rw[FY,List.mem_map]
    constructor
    ·rintro⟨x,hx,e⟩
     have:=(k x hx).find
     rw[e,f1]at this
     rw[this];exact hx
    ·intro hx
     exact⟨_,hx,by rw[jP hj,f3]⟩
   have hfj:cu h (j:Int):=⟨j,hj,rfl,by rw[f3];exact f1⟩
   rw[f1]
   by_cases hi:(j:Int)∈l
   ·rw[y0z f2 (hin.2 hi),qC (fun e=>e.2 hi)]
   ·have hi2:fT (l.map (nameAt h)) s=false:=by
     cases hb:fT (l.map (nameAt h)) s with
     |false=>rfl
     |true=>exact absurd (hin.1 hb) hi
    have hap:l.map (nameAt h)++[s]=(l++[(j:Int)]).map (nameAt h):=by rw[List.map_append,List.map_singleton,jP hj,f3]
    have hall:∀x∈l++[(j:Int)],cu h x:=fun x hx=>by
     rcases List.mem_append.1 hx with hx | hx
     ·exact k x hx
     ·rw[List.mem_singleton.1 hx];exact hfj
    rw[uz (by omega) hi,Dn hj]
    cases hr:(h[j].aO.toList==([]:List UInt8))
    ·have e:eY h h[j]=aI h h[j].aO:=by unfold eY;rw[if_neg (by simp[hr])]
     rw[y0w f2 hi2 hr,e,hap]
     exact PR n _ _ hall
    ·have e:eY h h[j] = -1:=by unfold eY;rw[if_pos hr]
     rw[y0x f2 hi2 hr,e,GV n (by omega),hap]
theorem zR(h:List ae)(s:Str):lY h s=jo h s:=(PR (h:=h) (h.length+1) s [] (fun _ h=>by cases h)).symm
theorem GU{h:List ae}{i:Int}(k:cu h i):(bW h i).1.map (nameAt h)=jo h (nameAt h i):=by
 rw[<-zR];unfold lY;rw[k.find]
-- up the chain
inductive Up(h:List ae):Int->Int->Prop
 |refl {i:Int}:0<=i->Up h i i
 |step {i x:Int}:0<=i->Up h (eH h i) x->Up h i x
theorem Up.ge{h:List ae}{i x:Int}(k:Up h i x):0<=i:=by cases k<;>assumption
theorem Q9{h:List ae}{i x:Int}(hi:0<=i):Up h i x↔x=i∨Up h (eH h i) x:=by
 constructor
 ·intro k
  cases k with
  |refl _=>exact .inl rfl
  |step _ k=>exact .inr k
 ·rintro(rfl | k)
  ·exact .refl hi
  ·exact .step hi k
theorem Ra{h:List ae}{l:List Int}(hc:∀y∈l,eH h y∈l∨eH h y<0){i x:Int}(k:Up h i x):i∈l->x∈l:=by
 induction k with
 |refl _=>exact fun h=>h
 |step _ k ih =>
  intro hi
  rcases hc _ hi with e | e
  ·exact ih e
  ·exact absurd k.ge (by omega)
theorem PV{h:List ae}:∀(n:Nat) (i:Int) (l:List Int),(i = -1∨∃j:Nat,j<h.length/\i=j)->l.Nodup->(∀x∈l,∃j:Nat,j<h.length/\x=j)->n+l.length=h.length+1 ->
 (∀y∈l,eH h y=i∨eH h y∈l∨eH h y<0)->∀x,x∈(jg h n i l).1↔x∈l∨Up h i x
 |0,i,l,_,h2,h3,h4,_,x=>by
  have:=rD _ _ h2 h3
  omega
 |n+1,i,l,h1,h2,h3,h4,h5,x=>by
  by_cases hq:0<=i/\i∉l
  ·rw[uz hq.1 hq.2,PV n (eH h i) (l++[i]) (Dp i) ?_ ?_ (by simp;omega) ?_ x,Q9 hq.1,List.mem_append,List.mem_singleton,or_assoc]
   ·rw[List.nodup_append]
    exact⟨h2,by simp,fun x hx y hy e=>by rw[List.mem_singleton.1 hy]at e;exact hq.2 (e▸hx)⟩
   ·intro x hx
    rcases List.mem_append.1 hx with hx | hx
    ·exact h3 x hx
    ·rw[List.mem_singleton.1 hx]
     rcases h1 with rfl | h1
     ·have:=hq.1;omega
     ·exact h1
   ·intro y hy
    rcases List.mem_append.1 hy with hy | hy
    ·rcases h5 y hy with e | e | e
     ·exact .inr (.inl (by rw[e];simp))
     ·exact .inr (.inl (List.mem_append_left _ e))
     ·exact .inr (.inr e)
    ·rw[List.mem_singleton.1 hy];exact .inl rfl
  ·rw[qC hq]
   constructor
   ·exact .inl
   ·rintro(e | e)
    ·exact e
    ·have hi:=e.ge
     have him:i∈l:=Decidable.byContradiction fun hn=>hq ⟨hi,hn⟩
     refine Ra (fun y hy=>?_) e him
     rcases h5 y hy with e | e | e
     ·exact .inl (by rw[e];exact him)
     ·exact .inl e
     ·exact .inr e
theorem Cb{h:List ae}{i:Int}(hi:i = -1∨∃j:Nat,j<h.length/\i=j)(x:Int):x∈(bW h i).1↔Up h i x:=by
 unfold bW
 rw[PV _ _ _ hi List.nodup_nil (fun _ h=>by cases h) (by simp) (fun _ h=>by cases h) x]
 simp
def Qy(h:List ae)(r x:Int):Prop:=cu h x/\Up h x r
theorem Up.mem{h:List ae}{i x:Int}(k:Up h i x)(hi:cu h i):cu h x:=by
 induction k with
 |refl _=>exact hi
 |step _ k ih=>exact ih (Dq k.ge)
theorem FI{h:List ae}{i:Int}(k:cu h i)(c:Str):vS h (nameAt h i) c=true↔Up h i (aI h c):=by
 unfold vS
 rw[FY,<-GU k,List.mem_map]
 have hi:i = -1∨∃j:Nat,j<h.length/\i=j:=.inr k.nat
 constructor
 ·rintro⟨x,hx,e⟩
  have hf:=Ce (fun _=>k) x hx
  have:=hf.find
  rw[e]at this
  rw[this]
  exact(Cb hi x).1 hx
 ·intro e
  have hf:=e.mem k
  exact⟨_,(Cb hi _).2 e,Gi hf.ge⟩
def fU(n:Nat)(p:Nat->Bool):List Int:=((List.range n).filter p).map (fun i:Nat=>(i:Int))
theorem NR{n:Nat}{p:Nat->Bool}(h:p n=true):fU (n+1) p=fU n p++[(n:Int)]:=by
 unfold fU;rw[List.range_succ,List.filter_append,List.map_append];simp[h]
theorem F4{n:Nat}{p:Nat->Bool}(h:p n=false):fU (n+1) p=fU n p:=by
 unfold fU;rw[List.range_succ,List.filter_append,List.map_append];simp[h]
theorem A7(n:Nat)(p:Nat->Bool):(fU n p).length<=n:=by
 unfold fU;rw[List.length_map]
 exact Nat.le_trans (List.length_filter_le _ _) (by simp)
theorem NU{n:Nat}{p:Nat->Bool}{x:Int}:x∈fU n p↔∃i:Nat,i<n/\p i=true/\x=(i:Int):=by
 unfold fU
 simp only[List.mem_map,List.mem_filter,List.mem_range]
 constructor
 ·rintro⟨i,⟨h1,h2⟩,rfl⟩;exact⟨i,h1,h2,rfl⟩
 ·rintro⟨i,h1,h2,rfl⟩;exact⟨i,⟨h1,h2⟩,rfl⟩
end Go.Proofs.YtjnbddedmbhiaaaGreatDoor
namespace Go.Proofs.YtjnbddedmbhiaaaGreatDoor
open Go.RowKit Go.ak

def ja(s t:Str)(x:aA):Bool:=(x.cls.toList==s.toList)&&(x.name.toList==t.toList)
def ko(s t:Str):List aA->Nat->Int
 |[],_=>-1
 |x::l,k=>if ja s t x=true then(k:Int)else ko s t l (k+1)
def dM(l:List aA)(s t:Str):Int:=ko s t l 0
theorem YR{s t:Str}{l:List aA}{k:Nat}(hk:k<l.length)(e:ja s t l[k]=true):ko s t (l.drop k) k=k:=by
 rw[List.drop_eq_getElem_cons hk];show(if ja _ _ _=true then(k:Int)else _)=_;rw[if_pos e]
theorem YQ{s t:Str}{l:List aA}{k:Nat}(hk:k<l.length)(e:ja s t l[k]=false):ko s t (l.drop k) k=ko s t (l.drop (k+1)) (k+1):=by
 rw[List.drop_eq_getElem_cons hk];show(if ja _ _ _=true then(k:Int)else _)=_;rw[if_neg (by simp[e])]
theorem YS{s t:Str}{l:List aA}{k:Nat}(hk:l.length<=k):ko s t (l.drop k) k = -1:=by
 rw[List.drop_of_length_le hk];rfl
set_option maxHeartbeats 1000000 in
theorem Zh(s t:Str)(x:aA)(va:Option Addr)(vc:Nat)(ca:Option Addr)(cc:Nat)(p q:Addr)(w:World)(hp:w.cell? p=some (.string s))(hq:w.cell? q=some (.string t)) :
 Calls Tryz.prog 73 #[eQ x va vc ca cc,.pointer (some p),.pointer (some q)] w (aj w (.bool (ja s t x))):=by
 have HB:=Lib.hid (av w (.cells #[.string x.cls,.string x.name,.bool x.stat,.int .i64 x.params,.slice va x.vars.length vc,.string x.result,.slice ca x.code.length cc] 51))
 have hp':=cell_below HB.out hp
 have hq':=cell_below HB.out hq
 have HD:Hid (ja s t x=((x.cls.toList==s.toList)&&(x.name.toList==t.toList))):=rfl
 unfold eQ
 generalize ja s t x=r at *
 go_enter Tryz.func73,Tryz.ntmps73
 cases h1:(x.cls.toList==s.toList)
 ·rw[h1]at HD
  go_wp2
  go_ret
  exact⟨ed (by rw[HD.out];rfl),HB.out⟩
 ·rw[h1]at HD
  go_wp2
  go_ret
  exact⟨ed (by rw[HD.out];simp),HB.out⟩
set_option maxHeartbeats 2000000 in
theorem X9(l:List aA)(s t:Str)(a:Option Addr)(c:Nat)(p q:Addr)(w:World)(hl:bR w a l)(hn:l.length<=1000000)(hp:w.cell? p=some (.string s))(hq:w.cell? q=some (.string t)) :
 Calls Tryz.prog 72 #[.slice a l.length c,.func (.func 73) #[] #[.pointer (some p),.pointer (some q)]] w (aj w (.int .i64 (dM l s t))):=by
 have HL:=Lib.hid hl;clear hl
 have HP:=Lib.hid hp;clear hp
 have HQ:=Lib.hid hq;clear hq
 go_enter Tryz.func72,Tryz.ntmps72
 go_wp2
 go_loopw[8] (fun i wr=>∃k:Nat,k<=l.length/\i = .int .i64 k/\Hid (ko s t (l.drop k) k=dM l s t)/\Hid (Below w.heap.size w wr)) (fun i _=>l.length-(intOf i).toNat)
 case atStart=>exact⟨0,Nat.zero_le _,rfl,rfl,Below.refl _ _⟩
 case round =>
  obtain⟨k,hk,rfl,HI,HB⟩:=hrel
  by_cases hlt:k<l.length
  ·obtain⟨b,off,va,vc,ca,cc,rfl,m0,m1,m2,m3,m4,m5,m6,_,_⟩:=HL.out.below HB.out k hlt
   have HT:=Lib.hid (@YR s t l k hlt)
   have HM:=Lib.hid (@YQ s t l k hlt)
   have HC:Hid (∀x:aA,Calls Tryz.prog 73 #[eQ x va vc ca cc,.pointer (some p),.pointer (some q)] wr (aj wr (.bool (ja s t x)))):=fun x=>Zh s t x va vc ca cc p q wr (cell_below HB.out HP.out) (cell_below HB.out HQ.out)
   unfold eQ at HC
   generalize l[k]=x at *
   have HD:=Lib.hid (HC.out x)
   clear HC
   cases hq:ja s t x
   ·rw[hq]at HD
    have HN:=Lib.hid (HM.out hq)
    clear HM HT
    go_wp2_with (go_at_call 73;refine HD.out.mono ?_;rintro e w1 ⟨rfl,hb1⟩)
    go_roundw
    case rel=>exact⟨k+1,by omega,by go_num,by show _=_;rw[<-HN.out];exact HI.out,HB.out.trans (hb1.mono HB.out.size)⟩
    case measure=>simp[intOf];omega
   ·rw[hq]at HD
    have HN:=Lib.hid (HT.out hq)
    clear HM HT
    go_wp2_with (go_at_call 73;refine HD.out.mono ?_;rintro e w1 ⟨rfl,hb1⟩)
    go_ret
    exact⟨eO (by rw[<-HI.out,HN.out]),HB.out.trans (hb1.mono HB.out.size)⟩
  ·have HN:=Lib.hid (@YS s t l k (by omega))
   go_wp2
   go_ret
   exact⟨eO (by rw[<-HI.out,HN.out]),HB.out⟩
set_option maxHeartbeats 1000000 in
theorem FO(u:aQ)(ha:Option Addr)(hc:Nat)(fa:Option Addr)(fc:Nat)(s t:Str)(w:World)(hl:bR w fa u.fs)(hn:u.fs.length<=1000000) :
 Calls Tryz.prog 34 #[.agg #[.slice ha u.h.length hc,.slice fa u.fs.length fc,.int .i64 u.main],.string s,.string t] w (aj w (.int .i64 (dM u.fs s t))):=by
 have HB:=Lib.hid (xB w (.cells #[.slice ha u.h.length hc,.slice fa u.fs.length fc,.int .i64 u.main] 27) (.cells #[.string s] 9) (.cells #[.string t] 9))
 have HX:Hid (∀W,W=((w.alloc (.cells #[.slice ha u.h.length hc,.slice fa u.fs.length fc,.int .i64 u.main] 27)).alloc (.cells #[.string s] 9)).alloc (.cells #[.string t] 9)->W.cell? ⟨w.heap.size+1,0,none⟩=some (.string s)/\W.cell? ⟨w.heap.size+2,0,none⟩=some (.string t)):=by
  rintro _ rfl
  have h2:=gH (w.alloc (.cells #[.slice ha u.h.length hc,.slice fa u.fs.length fc,.int .i64 u.main] 27)) #[.string t] 9 (.cells #[.string s] 9)
  have h1:=(aL (w.alloc (.cells #[.slice ha u.h.length hc,.slice fa u.fs.length fc,.int .i64 u.main] 27)) #[.string s] 9).below (av _ (.cells #[.string t] 9))
  have e1:=h1.cell 0 (by simp)
  have e2:=h2.cell 0 (by simp)
  simpa using And.intro e1 e2
 have HL:=Lib.hid hl;clear hl
 go_enter Tryz.func34,Tryz.ntmps34
 go_wp2_with (go_at_call 72;refine(X9 u.fs s t fa fc _ _ _ (HL.out.below HB.out) hn (HX.out _ rfl).1 (HX.out _ rfl).2).mono ?_;rintro e w1 ⟨rfl,hb1⟩)
 go_ret
 exact⟨rfl,HB.out.trans (hb1.mono HB.out.size)⟩
end Go.Proofs.YtjnbddedmbhiaaaGreatDoor
namespace Go.Proofs.YtjnbddedmbhiaaaGreatDoor
open Go.RowKit Go.ak Go.Sort

def bl(b:ByteArray):List UInt8:=b.data.toList
def rE(l:List UInt8):ByteArray:=⟨l.toArray⟩
theorem AA(b:ByteArray):rE (bl b)=b:=by cases b;rfl
theorem Hl(l:List UInt8):bl (rE l)=l:=rfl
theorem Zy(l:List UInt8):encStr l = .string (rE l):=rfl
theorem JS(l:List ByteArray):l.map Value.string=(l.map bl).map encStr:=by
 rw[List.map_map]
 refine List.map_congr_left fun b _=>?_
 show Value.string b=encStr (bl b)
 rw[Zy,AA]
theorem O4(l:List (List UInt8)):l.map encStr=(l.map rE).map Value.string:=by
 rw[List.map_map];rfl
def cZ(l:List ByteArray):List ByteArray:=((l.map bl).mergeSort fun x y=>decide (x<=y)).map rE
def dH(l:List ByteArray):List ByteArray:=(Lib.compact (l.map bl)).map rE
theorem xH(l:List ByteArray):(cZ l).length=l.length:=by simp[cZ]
structure QB(w0 w:World)(l:List ByteArray)(a:Option Addr)(c:Nat)(w':World):Prop where
 hb:Below w0.heap.size w0 w'
 ow:w'.ownsRow w0.heap.size 9 1 (.slice a l.length c) l.length (l.map Value.string)
 fr:∀g cs t,ah w g cs t->t≠9->ah w' g cs t
theorem UI{w:World}{base e n m c:Nat}{a:Option Addr}{xs:List Value}(h:w.ownsRow base e 1 (.slice a n c) n xs)(hm:m<=n)(ha:a≠none):w.ownsRow base e 1 (.slice a m c) m (xs.take m):=by
 obtain⟨h1,h2⟩:=h
 refine⟨by rw[List.length_take];omega,?_⟩
 rcases h2 with ⟨e1,h0⟩ | ⟨g,cap,cur,e1,hbase,hh,hn,hcap,hsz,ht⟩
 ·cases e1;exact absurd rfl ha
 ·cases e1
  refine .inr ⟨g,c,cur,rfl,hbase,hh,by omega,hcap,hsz,?_⟩
  rw[<-ht,List.take_take]
  congr 1
  omega
end Go.Proofs.YtjnbddedmbhiaaaGreatDoor
namespace Go.ak
abbrev BL:=List UInt8
theorem Co{a b c:BL}(h1:a<b)(h2:b<c):a<c:=List.lt_trans h1 h2
theorem Cq{a b:BL}(h:¬ a<b):b<=a:=List.not_lt.1 h
theorem Cr{a b:BL}(h:a<=b)(hne:a≠b):a<b:=by
 by_cases h1:a<b
 ·exact h1
 ·exact absurd (List.le_antisymm h (Cq h1)) hne
theorem y1v{a b c:BL}(h1:a<=b)(h2:b<=c):a<=c:=List.le_trans h1 h2
theorem y1u{a b c:BL}(h1:a<=b)(h2:b<c):a<c:=by
 by_cases e:a=b
 ·rw[e];exact h2
 ·exact Co (Cr h1 e) h2
theorem Pk(d:Array BL)(hd:∀i j,i<j->j<d.size->d[i]! <= d[j]!):∀m,m<=d.size->(Lib.compactUpTo d m).Pairwise (· < ·)/\(∀x,x∈Lib.compactUpTo d m↔∃j,j<m/\d[j]! = x)
 |0,_=>⟨by simp[Lib.compactUpTo],fun x=>by simp[Lib.compactUpTo]⟩
 |m+1,hm=>by
  obtain⟨h1,h2⟩:=Pk d hd m (by omega)
  rw[Lib.compactUpTo_succ]
  cases hk:Lib.keeps d m with
  |true =>
   rw[if_pos rfl]
   have hlt:∀x∈Lib.compactUpTo d m,x<d[m]!:=fun x hx=>by
    obtain⟨j,hj,rfl⟩:=(h2 x).1 hx
    have hk':m=0∨d[m]! ≠ d[m-1]!:=by simpa[Lib.keeps]using hk
    rcases hk' with e | e
    ·omega
    ·have h3:d[j]! <= d[m-1]!:=by
      by_cases e3:j=m-1
      ·rw[e3];exact List.le_refl _
      ·exact hd j (m-1) (by omega) (by omega)
     exact y1u h3 (Cr (hd (m-1) m (by omega) (by omega)) (Ne.symm e))
   refine⟨?_,fun x=>?_⟩
   ·rw[List.pairwise_append]
    exact⟨h1,by simp,fun a ha b hb=>by rw[List.mem_singleton.1 hb];exact hlt a ha⟩
   ·rw[List.mem_append,h2,List.mem_singleton]
    constructor
    ·rintro(⟨j,hj,e⟩ | e)
     ·exact⟨j,by omega,e⟩
     ·exact⟨m,by omega,e.symm⟩
    ·rintro⟨j,hj,e⟩
     by_cases e2:j<m
     ·exact .inl ⟨j,e2,e⟩
     ·obtain rfl:j=m:=by omega
      exact .inr e.symm
  |false =>
   rw[if_neg (by simp),List.append_nil]
   refine⟨h1,fun x=>?_⟩
   rw[h2]
   have hk':m≠0/\d[m]! = d[m-1]!:=by simpa[Lib.keeps]using hk
   constructor
   ·rintro⟨j,hj,e⟩;exact⟨j,by omega,e⟩
   ·rintro⟨j,hj,e⟩
    by_cases e2:j<m
    ·exact⟨j,e2,e⟩
    ·obtain rfl:j=m:=by omega
     exact⟨j-1,by omega,by rw[<-hk'.2];exact e⟩
def jH(l:List BL):List BL:=l.mergeSort fun x y=>decide (x<=y)
theorem Kb(l:List BL):(jH l).Pairwise (· <= ·):=by
 have h:=List.pairwise_mergeSort (le:=fun(x y:BL)=>decide (x<=y)) (fun a b c h1 h2=>by simp at *;exact y1v h1 h2) (fun a b=>by
  simp only[Bool.or_eq_true,decide_eq_true_eq];exact List.le_total a b) l
 exact h.imp fun h=>by simpa using h
theorem Ph(l:List BL):(Lib.compact (jH l)).Pairwise (· < ·)/\∀x,x∈Lib.compact (jH l)↔x∈l:=by
 have hp:=Kb l
 have hd:∀i j,i<j->j<(jH l).toArray.size->(jH l).toArray[i]! <= (jH l).toArray[j]!:=fun i j hij hj=>by
  have hj':j<(jH l).length:=by simpa using hj
  rw[getElem!_pos _ i (by simp;omega),getElem!_pos _ j (by simpa using hj)]
  simpa using List.pairwise_iff_getElem.1 hp i j (by omega) hj' hij
 obtain⟨h1,h2⟩:=Pk (jH l).toArray hd (jH l).length (by simp)
 refine⟨h1,fun x=>?_⟩
 have hm:x∈jH l↔x∈l:=(List.mergeSort_perm l _).mem_iff
 rw[<-hm]
 refine(h2 x).trans ?_
 constructor
 ·rintro⟨j,hj,rfl⟩
  rw[getElem!_pos _ j (by simpa using hj)];simp
 ·intro hx
  obtain⟨j,hj,rfl⟩:=List.getElem_of_mem hx
  exact⟨j,hj,by rw[getElem!_pos _ j (by simpa using hj)];simp⟩
def cO(s:BL):List BL->List BL
 |[]=>[s]
 |x::l=>if s<x then s::x::l else x::cO s l
end Go.ak
