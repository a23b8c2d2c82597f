/-
  Is a number in a list that has it?
-/
import Derived.Test.YtkbmnfijeknenaaGreatDoorVA
namespace Go.Proofs.YtkbmnfijeknenaaGreatDoor
open Go.RowKit Go.Unit0

set_option maxHeartbeats 1000000 in
theorem hasT20 (l:List Int) (x:Int) (la:Option Addr) (lc:Nat) (w:World) (h:IntsAt w la l) (hx:x ∈ l) (hl:l.length≤1000000) :
 Calls Tryz.prog 25 #[.slice la l.length lc,.int .i64 x] w (Same w (.bool true)):=by
 have HL:=Lib.hid h
 have HX:=Lib.hid hx
 clear h hx
 go_enter Tryz.func25,Tryz.ntmps25
 go_wp2
 go_loop [8] (fun i=>∃ k:Nat,k≤l.length∧i = .int .i64 k∧Hid (x ∉ l.take k)) (fun i=>l.length - (intOf i).toNat)
 case atStart=>exact ⟨0,Nat.zero_le _,rfl,by show _ ∉ _;simp⟩
 case round =>
  obtain ⟨k,hk,rfl,HN⟩:=hrel
  by_cases hlt:k < l.length
  case neg =>
   have:=HN.out
   rw [List.take_of_length_le (by omega)] at this
   exact absurd HX.out this
  obtain ⟨b,off,he,c0⟩:=HL.out k hlt
  subst he
  have HT:Hid (l.take (k + 1)=l.take k ++ [l[k]]):=List.take_succ_eq_append_getElem hlt
  generalize l[k]=y at *
  by_cases hy:y=x
  ·have t1:(y == x)=true:=by simp [hy]
   clear hy
   go_wp2
   go_ret
   exact ⟨rfl,rfl⟩
  ·have t1:(y == x)=false:=by simp [hy]
   have HN2:Hid (x ∉ l.take (k + 1)):=by
    show _ ∉ _
    rw [HT.out,List.mem_append,List.mem_singleton,not_or]
    exact ⟨HN.out,fun e=>hy e.symm⟩
   clear hy
   go_wp2
   go_round
   case rel=>exact ⟨k + 1,by omega,by go_num,HN2.out⟩
   case measure=>simp [intOf];omega
end Go.Proofs.YtkbmnfijeknenaaGreatDoor
