/-
  The program's hierarchies: table.lookup.
  The program's hierarchies: table.lookup.
  slices.Contains of strings.
  The program's hierarchies: Supers and IsSub, plain part.
-/
import Derived.Test.YtkbmnfijeknenaaGreatDoorTB
import Derived.Test.YtkbmnfijeknenaaGreatDoorVA
namespace Go.Proofs.YtkbmnfijeknenaaGreatDoor
open Go.RowKit Go.Unit0 Go.AM

def lkL (h:List Cls) (t:Str):List Int→Int × Int
 | []=>(-1,-1)
 | i :: l=>match h[i.toNat]? with
   | some x=>if 0≤mthI x.methods t then (i,mthI x.methods t) else lkL h t l
   | none=>(-1,-1)
theorem lkL_hit {h:List Cls} {t:Str} {l:List Int} {q k:Nat} (hq:q < l.length) (hk:k < h.length) (e:l[q]=(k:Int)) (hm:0≤mthI h[k].methods t):lkL h t (l.drop q)=((k:Int),mthI h[k].methods t):=by
 rw [List.drop_eq_getElem_cons hq,e]
 show (match h[((k:Int)).toNat]? with | some x=>_ | none=>_)=_
 simp [hk,hm]
theorem lkL_miss {h:List Cls} {t:Str} {l:List Int} {q k:Nat} (hq:q < l.length) (hk:k < h.length) (e:l[q]=(k:Int)) (hm:¬ 0≤mthI h[k].methods t):lkL h t (l.drop q)=lkL h t (l.drop (q + 1)):=by
 rw [List.drop_eq_getElem_cons hq,e]
 show (match h[((k:Int)).toNat]? with | some x=>_ | none=>_)=_
 simp [hk,hm]
theorem lkL_end {h:List Cls} {t:Str} {l:List Int} {q:Nat} (hq:l.length≤q):lkL h t (l.drop q)=(-1,-1):=by
 rw [List.drop_of_length_le hq];rfl
def lkP (h:List Cls) (i:Int) (t:Str):Int × Int:=lkL h t (chI h i).1
theorem chIF_in {h:List Cls}:∀ (n:Nat) (i:Int) (l:List Int),(i = -1 ∨ ∃ j:Nat,j < h.length∧i=j)→l.Nodup→(∀ x ∈ l,∃ j:Nat,j < h.length∧x=j)→(chIF h n i l).1.Nodup∧∀ x ∈ (chIF h n i l).1,∃ j:Nat,j < h.length∧x=j
 | 0,i,l,_,h2,h3=>⟨h2,h3⟩
 | n + 1,i,l,h1,h2,h3=>by
   by_cases hq:0≤i∧i ∉ l
   ·rw [chIF_go hq.1 hq.2]
    refine chIF_in n _ _ (supAt_in i) ?_ ?_
    ·rw [List.nodup_append]
     exact ⟨h2,by simp,fun x hx y hy e=>by rw [List.mem_singleton.1 hy] at e;exact hq.2 (e ▸ hx)⟩
    ·intro x hx
     rcases List.mem_append.1 hx with hx | hx
     ·exact h3 x hx
     ·rw [List.mem_singleton.1 hx]
      rcases h1 with rfl | h1
      ·have:=hq.1;omega
      ·exact h1
   ·rw [chIF_stop hq];exact ⟨h2,h3⟩
theorem chI_in {h:List Cls} {i:Int} (hi:i = -1 ∨ ∃ j:Nat,j < h.length∧i=j):(chI h i).1.Nodup∧∀ x ∈ (chI h i).1,∃ j:Nat,j < h.length∧x=j :=
 chIF_in _ _ _ hi List.nodup_nil (by simp)
theorem chI_len {h:List Cls} {i:Int} (hi:i = -1 ∨ ∃ j:Nat,j < h.length∧i=j):(chI h i).1.length≤h.length:=nodup_len _ _ (chI_in hi).1 (chI_in hi).2
end Go.Proofs.YtkbmnfijeknenaaGreatDoor
namespace Go.Proofs.YtkbmnfijeknenaaGreatDoor
open Go.RowKit Go.Unit0 Go.AM

set_option maxHeartbeats 4000000 in
theorem tlookup (h:List Cls) (t:Str) (a:Option Addr) (c g:Nat) (i:Int) (hi:i = -1 ∨ ∃ j:Nat,j < h.length∧i=j) (w:World) (hc:ClssAt w a h) (hl:h.length≤100000) (hm:∀ x ∈ h,x.methods.length≤100000) (hg:TabAt w g h) :
 Calls Tryz.prog 85 #[.agg #[.slice a h.length c,.map (some g)],.int .i64 i,.string t] w (Ret w (.tuple #[.int .i64 (lkP h i t).1,.int .i64 (lkP h i t).2])):=by
 have S:=Lib.hid (TB.start (c:=c) hc hg)
 have HK:Hid (∀ (w1:World),ClssAt w1 a h→TabAt w1 g h→Calls Tryz.prog 131 #[.agg #[.slice a h.length c,.map (some g)],.int .i64 i] w1 (ChPost h i w1)):=fun w1 h1 h2=>tchain h a c g _ hi w1 h1 hl h2
 have HIN:=Lib.hid (chI_in hi).2
 have hlen:=chI_len hi
 have HP:Hid (lkP h i t=lkL h t (chI h i).1):=rfl
 clear hc hg hi
 unfold ChPost at HK
 generalize lkP h i t=p at *
 generalize (chI h i).1=r at *
 generalize (chI h i).2=z at *
 go_enter Tryz.func85,Tryz.ntmps85
 go_upto_region 1 with (fail)
 generalize w.alloc _=W at *
 obtain ⟨z0,z1⟩:=S.out.now (Below.refl _ _)
 go_wp2_with (go_at_call 131;refine (HK.out _ S.out.hc S.out.tg).mono ?_;rintro e w1 ⟨hb1,oa,oc,rfl,own⟩)
 obtain ⟨-,_,_,he,-,hat⟩:=owns_ints own
 cases he
 have S1:=Lib.hid (S.out.below hb1)
 have HA:=Lib.hid hat
 clear own hat hb1 S HK z0 z1
 go_loopw [21] (fun v wr=>∃ q:Nat,q≤r.length∧v = .int .i64 q∧Hid (lkL h t (r.drop q)=p)∧Hid (TB h a c g w wr)∧Hid (IntsAt wr oa r)) (fun v _=>r.length - (intOf v).toNat)
 case atStart=>exact ⟨0,Nat.zero_le _,rfl,by show _=_;rw [HP.out];rfl,S1.out,HA.out⟩
 case round =>
  clear S1 HA
  obtain ⟨q,hq,rfl,HI,S,HA⟩:=hrel
  by_cases hlt:q < r.length
  case neg =>
   have HN:=Lib.hid (@lkL_end h t r q (by omega))
   go_wp2
   refine bodyPost_ret (v:=.tuple #[.int .i64 (-1),.int .i64 (-1)]) (by simp [results,Tryz.results85,go_sem]) rfl ?_
   exact ⟨by rw [← HI.out,HN.out],S.out.hb⟩
  case pos =>
   obtain ⟨b1,o1,he,p1⟩:=HA.out q hlt
   subst he
   obtain ⟨k,hk,ek⟩:=HIN.out _ (List.getElem_mem hlt)
   have HH:=Lib.hid (@lkL_hit h t r q k hlt hk ek)
   have HM:=Lib.hid (@lkL_miss h t r q k hlt hk ek)
   rw [ek] at p1
   obtain ⟨z0,z1⟩:=S.out.now (Below.refl _ _)
   obtain ⟨b,off,fa,fc,ma,mc,he,m0,m1,m2,m3,_,hms⟩:=S.out.hc k hk
   subst he
   have HMI:=Lib.hid (methodIn h[k] fa fc ma mc t wr hms (by have:=hm _ (List.getElem_mem hk);omega))
   generalize h[k]=x at *
   clear HIN ek
   by_cases hz:0≤mthI x.methods t
   case pos =>
    have HN:=Lib.hid (HH.out hz)
    generalize mthI x.methods t=y at *
    clear HH HM
    go_wp2_with (go_at_call 132;refine HMI.out.mono ?_;rintro e w2 ⟨rfl,hb2⟩)
    refine bodyPost_ret (v:=.tuple #[.int .i64 k,.int .i64 y]) (by simp [results,Tryz.results85,go_sem]) rfl ?_
    exact ⟨by rw [← HI.out,HN.out],(S.out.below hb2).hb⟩
   case neg =>
    have HN:=Lib.hid (HM.out hz)
    generalize mthI x.methods t=y at *
    clear HH HM
    go_wp2_with (go_at_call 132;refine HMI.out.mono ?_;rintro e w2 ⟨rfl,hb2⟩)
    go_roundw
    case rel=>exact ⟨q + 1,by omega,by go_num,by show _=_;rw [← HN.out];exact HI.out,S.out.below hb2,HA.out.below hb2⟩
    case measure=>simp [intOf];omega
end Go.Proofs.YtkbmnfijeknenaaGreatDoor
namespace Go.Proofs.YtkbmnfijeknenaaGreatDoor
open Go.RowKit Go.Unit0

def ixFrom (s:Str):List Str→Nat→Int
 | [],_=>-1
 | x :: l,k=>if (x.toList == s.toList)=true then (k:Int) else ixFrom s l (k + 1)
theorem ix_hit {s:Str} {l:List Str} {k:Nat} (hk:k < l.length) (e:(l[k].toList == s.toList)=true):ixFrom s (l.drop k) k=k:=by
 rw [List.drop_eq_getElem_cons hk];show (if _ then (k:Int) else _)=_;rw [if_pos e]
theorem ix_miss {s:Str} {l:List Str} {k:Nat} (hk:k < l.length) (e:(l[k].toList == s.toList)=false):ixFrom s (l.drop k) k=ixFrom s (l.drop (k + 1)) (k + 1):=by
 rw [List.drop_eq_getElem_cons hk];show (if _ then (k:Int) else _)=_;rw [if_neg (by simp [e])]
theorem ix_end {s:Str} {l:List Str} {k:Nat} (hk:l.length≤k):ixFrom s (l.drop k) k = -1:=by
 rw [List.drop_of_length_le hk];rfl
theorem ix_in (s:Str):∀ (l:List Str) (k:Nat),decide (0≤ixFrom s l k)=inL l s
 | [],k=>rfl
 | x :: l,k=>by
   show decide (0≤(if (x.toList == s.toList)=true then (k:Int) else ixFrom s l (k + 1)))=_
   unfold inL eqB
   rw [List.any_cons]
   cases hq:(x.toList == s.toList)
   ·rw [if_neg (by simp),ix_in s l (k + 1)];rfl
   ·rw [if_pos rfl];simp
set_option maxHeartbeats 1000000 in
theorem indexStr (l:List Str) (s:Str) (a:Option Addr) (c:Nat) (w:World) (hc:StrsAt w a l) (hl:l.length≤1000000) :
 Calls Tryz.prog 281 #[.slice a l.length c,.string s] w (Same w (.int .i64 (ixFrom s l 0))):=by
 have HC:=Lib.hid hc;clear hc
 go_enter Tryz.func281,Tryz.ntmps281
 go_wp2
 go_loop [8] (fun i=>∃ k:Nat,k≤l.length∧i = .int .i64 k∧Hid (ixFrom s (l.drop k) k=ixFrom s l 0)) (fun i=>l.length - (intOf i).toNat)
 case atStart=>exact ⟨0,Nat.zero_le _,rfl,rfl⟩
 case round =>
  obtain ⟨k,hk,rfl,HI⟩:=hrel
  by_cases hlt:k < l.length
  ·obtain ⟨b,off,rfl,m0⟩:=HC.out k hlt
   have HT:=Lib.hid (@ix_hit s l k hlt)
   have HM:=Lib.hid (@ix_miss s l k hlt)
   generalize l[k]=x at *
   cases hq:(x.toList == s.toList)
   ·have HN:=Lib.hid (HM.out hq)
    have hq2:(s.toList == x.toList)=false:=by rw [← hq];exact Bool.beq_comm
    go_wp2
    go_round
    case rel=>exact ⟨k+1,by omega,by go_num,by show _=_;rw [← HN.out];exact HI.out⟩
    case measure=>simp [intOf];omega
   ·have HN:=Lib.hid (HT.out hq)
    have hq2:(s.toList == x.toList)=true:=by rw [← hq];exact Bool.beq_comm
    go_wp2
    go_ret
    exact ⟨ret_int (by rw [← HI.out,HN.out]),rfl⟩
  ·have HN:=Lib.hid (@ix_end s l k (by omega))
   go_wp2
   go_ret
   exact ⟨ret_int (by rw [← HI.out,HN.out]),rfl⟩
set_option maxHeartbeats 1000000 in
theorem containsStr (l:List Str) (s:Str) (a:Option Addr) (c:Nat) (w:World) (hc:StrsAt w a l) (hl:l.length≤1000000) :
 Calls Tryz.prog 203 #[.slice a l.length c,.string s] w (Same w (.bool (inL l s))):=by
 rw [← ix_in s l 0]
 generalize hi:ixFrom s l 0=i
 have HK:=Lib.hid (indexStr l s a c w hc hl)
 rw [hi] at HK
 go_enter Tryz.func203,Tryz.ntmps203
 go_wp2_with (go_at_call 281;refine HK.out.mono ?_;rintro e w1 ⟨rfl,rfl⟩)
 go_ret
 exact ⟨rfl,rfl⟩
end Go.Proofs.YtkbmnfijeknenaaGreatDoor
namespace Go.Proofs.YtkbmnfijeknenaaGreatDoor
open Go.RowKit Go.Unit0 Go.AM

def nameAt (h:List Cls) (i:Int):Str:=match h[i.toNat]? with
 | some x=>x.name
 | none=>⟨#[]⟩
def supP (h:List Cls) (s:Str):List Str:=(chI h (findI h s)).1.map (nameAt h)
def subP (h:List Cls) (s t:Str):Bool:=inL (supP h s) t
theorem supP_len (h:List Cls) (s:Str):(supP h s).length≤h.length:=by
 unfold supP
 rw [List.length_map]
 exact chI_len (findI_in h s)
end Go.Proofs.YtkbmnfijeknenaaGreatDoor
