/-
  The reference's Natural and names: they return.
  The reference's fits.
  The reference's checkFunc.
-/
import Derived.Test.YtffcklfigpmlgaaGreatDoorWD
import Derived.IntWalk
namespace Go.Proofs.YtffcklfigpmlgaaGreatDoor
open Go.RowKit Go.Unit0

set_option maxHeartbeats 2000000 in
theorem natural285 (s:ByteArray) (w:World) (hs:s.size≤100000):Calls Tryz.prog 204 #[.string s] w (BPost (fun _=>True) w):=by
 go_enter Tryz.func204,Tryz.ntmps204
 go_wp2
 go_loop [3] (fun i=>∃ k:Nat,k≤s.size∧i = .int .i64 k) (fun i=>s.size - (intOf i).toNat)
 case atStart=>exact ⟨0,Nat.zero_le _,rfl⟩
 case round =>
  obtain ⟨k,hk,rfl⟩:=hrel
  by_cases hlt:k < s.size
  case pos =>
   cases h1:decide ((s[k].toNat:Int) < 48) <;> cases h2:decide ((57:Int) < (s[k].toNat:Int))
   all_goals
    go_wp2
    first
    | (go_ret;exact ⟨Below.refl _ _,_,rfl,trivial⟩)
    | (go_round
       case rel=>exact ⟨k + 1,by omega,by go_num⟩
       case measure=>simp [intOf];omega)
  by_cases h1:s.size=1
  ·have t1:((s.size:Int) == 1)=true:=by simp;omega
   clear h1
   go_wp2
   go_ret
   exact ⟨Below.refl _ _,_,rfl,trivial⟩
  have t1:((s.size:Int) == 1)=false:=by simp;omega
  by_cases h2:1 < s.size
  ·have t2:decide (1 < (s.size:Int))=true:=by simp;omega
   clear h1
   have h0:0 < s.size:=by omega
   cases h3:((s[0].toNat:Int) == 48)
   all_goals
    go_wp2
    go_ret
    exact ⟨Below.refl _ _,_,rfl,trivial⟩
  have t2:decide (1 < (s.size:Int))=false:=by simp;omega
  clear h1 h2
  go_wp2
  go_ret
  exact ⟨Below.refl _ _,_,rfl,trivial⟩
structure HF (h:List Cls) (a:Option Addr) (c:Nat) (f:Fnc) (va:Option Addr) (vc:Nat) (ca:Option Addr) (cc:Nat) (w wr:World):Prop where
 bh:Blk wr w.heap.size #[.slice a h.length c] 24
 hc:ClssAt wr a h
 f:FW f va vc ca cc (w.heap.size + 1) w wr
section
variable {h:List Cls} {a:Option Addr} {c:Nat} {f:Fnc} {va:Option Addr} {vc:Nat} {ca:Option Addr} {cc:Nat} {w wr w':World}
theorem HF.below (k:HF h a c f va vc ca cc w wr) (hb:Below wr.heap.size wr w'):HF h a c f va vc ca cc w w':=⟨k.bh.below hb,k.hc.below hb,k.f.below hb⟩
theorem HF.start (hc:ClssAt w a h) (hv:FldsAt w va f.vars) (hi:InssAt w ca f.code):HF h a c f va vc ca cc w ((w.alloc (hiC h a c)).alloc (fnC f va vc ca cc)):=by
 have hb:=two_below w (hiC h a c) (fnC f va vc ca cc)
 have h1:Blk (w.alloc (hiC h a c)) w.heap.size #[.slice a h.length c] 24:=blk_new ..
 exact ⟨h1.below (one_below ..),hc.below hb,⟨hb,blk_new2 ..,hv.below hb,hi.below hb⟩⟩
end
set_option maxRecDepth 100000 in
set_option maxHeartbeats 4000000 in
theorem names209 (h:List Cls) (a:Option Addr) (c:Nat) (f:Fnc) (va:Option Addr) (vc:Nat) (ca:Option Addr) (cc:Nat) (w:World) (hc:ClssAt w a h) (hv:FldsAt w va f.vars) (hi:InssAt w ca f.code) (hb:Bnd h) (hnv:f.vars.length≤100000) :
 Calls Tryz.prog 126 #[.agg #[.slice a h.length c],fnV f va vc ca cc] w (IPost (fun _=>True) w):=by
 have S0:=Lib.hid (HF.start (c:=c) (vc:=vc) (cc:=cc) hc hv hi)
 have HBN:=Lib.hid hb
 clear hc hv hi hb
 unfold fnV
 go_enter Tryz.func126,Tryz.ntmps126
 go_wp2
 generalize (w.alloc _).alloc _=W at *
 go_loopw [5] (fun i wr=>∃ k:Nat,k≤f.vars.length∧i = .int .i64 k∧Hid (HF h a c f va vc ca cc w wr)) (fun i _=>f.vars.length - (intOf i).toNat)
 case atStart=>exact ⟨0,Nat.zero_le _,rfl,S0.out⟩
 case round =>
  clear S0
  obtain ⟨k,hk,rfl,S⟩:=hrel
  have y4:=S.out.f.b1.cell 4 (by simp)
  by_cases hlt:k < f.vars.length
  case neg =>
   go_wp2
   go_ret
   exact ⟨S.out.f.hb,_,rfl,trivial⟩
  obtain ⟨b,off,rfl,m0,m1⟩:=S.out.f.hv k hlt
  generalize f.vars[k].name=nm at *
  generalize f.vars[k].type=ty at *
  have hne:Nonempty (WB wr):=⟨⟨wr,Below.refl _ _⟩⟩
  have k0:∀ o:WB wr,o.u.cell? ⟨w.heap.size + 1,4,none⟩=some (.slice (some ⟨b,off,none⟩) f.vars.length vc):=fun o=>cell_below o.h y4
  have k1:∀ o:WB wr,o.u.cell? ⟨b,off + k * 2,none⟩=some (.string nm):=fun o=>cell_below o.h m0
  have k2:∀ o:WB wr,o.u.cell? ⟨b,off + k * 2 + 1,none⟩=some (.string ty):=fun o=>cell_below o.h m1
  go_upto_region 4 with (fail)
  clear y4 m0 m1
  refine wp_region_WB wr (by kernel_rfl) ?_
  repeat (go_big_quiet_step (fail))
  refine wpQuiet_nil ?_
  intro _ hw'
  obtain ⟨o,rfl⟩:=hw'
  have S1:=Lib.hid (S.out.below o.h)
  clear k0 k1 k2 S
  generalize o.u=w1 at *
  clear o hne
  go_upto_region 5 with (fail)
  have y2:=S1.out.f.b1.cell 2 (by simp)
  go_cut [8] (fun v wx=>∃ q,v = .bool q∧w1=wx)
  case first =>
   obtain ⟨st,hst⟩:∃ st,f.stat=st:=⟨_,rfl⟩
   rw [hst] at y2
   clear hst
   cases e1:((k:Int) == 0) <;> cases st <;> cases e2:(nm.toList == ([116,104,105,115]:List UInt8))
   all_goals
    go_wp2
    go_meet
    exact ⟨_,rfl,rfl⟩
  case rest =>
   obtain ⟨this,rfl,rfl⟩:=hcut
   clear y2
   go_upto_region 6 with (fail)
   go_cut [66] (fun v wx=>∃ q,v = .bool q∧Hid (HF h a c f (some ⟨b,off,none⟩) vc ca cc w wx))
   case first =>
    cases this
    case true =>
     go_wp2
     go_meet
     exact ⟨_,rfl,S1.out⟩
    go_wp2_with fail
    refine (ident201 nm _).mono ?_
    rintro e w' ⟨rfl,hb'⟩
    have S2:=Lib.hid (S1.out.below hb')
    clear S1 hb'
    generalize identB nm=d at *
    cases d
    case true =>
     go_wp2
     go_meet
     exact ⟨_,rfl,S2.out⟩
    by_cases h2:nm.size < 2
    ·have t1:decide ((nm.size:Int) < 2)=true:=by simp;omega
     clear h2
     go_wp2
     go_meet
     exact ⟨_,rfl,S2.out⟩
    have t1:decide ((nm.size:Int) < 2)=false:=by simp;omega
    by_cases h3:32 < nm.size
    ·have t2:decide ((32:Int) < (nm.size:Int))=true:=by simp;omega
     clear h2 h3
     go_wp2
     go_meet
     exact ⟨_,rfl,S2.out⟩
    have t2:decide ((32:Int) < (nm.size:Int))=false:=by simp;omega
    have h0:0 < nm.size:=by omega
    have h32:nm.size≤32:=by omega
    clear h2 h3
    go_wp2_with fail
    all_goals first
    | (go_meet
       exact ⟨_,rfl,S2.out⟩)
    | (refine (natural285 _ _ (by simp;omega)).mono ?_
       rintro e w' ⟨hb',d,rfl,-⟩
       have S3:=Lib.hid (S2.out.below hb')
       clear S2 hb'
       cases d
       all_goals
        go_wp2
        go_meet
        exact ⟨_,rfl,S3.out⟩)
   case rest =>
    obtain ⟨q,rfl,S2⟩:=hcut
    clear S1
    cases q
    case true =>
     go_wp2
     go_ret
     exact ⟨S2.out.f.hb,_,rfl,trivial⟩
    go_upto_region 8 with (fail)
    go_cut [74] (fun v wx=>∃ q,v = .bool q∧Hid (HF h a c f (some ⟨b,off,none⟩) vc ca cc w wx))
    case first =>
     have z0:=S2.out.bh.cell 0 (by simp)
     cases e1:(ty.toList == ([110,117,108,108]:List UInt8))
     case true =>
      go_wp2
      go_meet
      exact ⟨_,rfl,S2.out⟩
     go_wp2_with fail
     refine (type203 h ty _ c _ S2.out.hc HBN.out.l).mono ?_
     rintro e w' ⟨rfl,hb'⟩
     have S3:=Lib.hid (S2.out.below hb')
     go_wp2
     go_meet
     exact ⟨_,rfl,S3.out⟩
    case rest =>
     obtain ⟨q,rfl,S3⟩:=hcut
     clear S2
     cases q
     case true =>
      go_wp2
      go_ret
      exact ⟨S3.out.f.hb,_,rfl,trivial⟩
     go_wp2
     go_roundw
     case rel=>exact ⟨k + 1,by omega,by go_num,S3.out⟩
     case measure=>simp [intOf];omega
end Go.Proofs.YtffcklfigpmlgaaGreatDoor
namespace Go.Proofs.YtffcklfigpmlgaaGreatDoor
open Go.RowKit Go.Unit0

structure FitsOk (f:Fnc) (cls:Str) (g:Sgn):Prop where
 c:(f.cls.toList == cls.toList)=true
 n:(f.name.toList == g.name.toList)=true
 s:f.stat=g.stat
structure FG (f:Fnc) (va:Option Addr) (vc:Nat) (ca:Option Addr) (cc:Nat) (g:Sgn) (pa:Option Addr) (pc:Nat) (w wr:World):Prop where
 f:FW f va vc ca cc w.heap.size w wr
 s:Blk wr (w.heap.size + 1) #[.string g.name,.bool g.stat,.slice pa g.params.length pc,.string g.result] 87
 p:StrsAt wr pa g.params
abbrev sgC (g:Sgn) (pa:Option Addr) (pc:Nat):Obj:=.cells #[.string g.name,.bool g.stat,.slice pa g.params.length pc,.string g.result] 87
section
variable {f:Fnc} {va:Option Addr} {vc:Nat} {ca:Option Addr} {cc:Nat} {g:Sgn} {pa:Option Addr} {pc:Nat} {w wr w':World}
theorem FG.below (k:FG f va vc ca cc g pa pc w wr) (hb:Below wr.heap.size wr w'):FG f va vc ca cc g pa pc w w':=⟨k.f.below hb,k.s.below hb,k.p.below hb⟩
theorem FG.start (hv:FldsAt w va f.vars) (hi:InssAt w ca f.code) (hp:StrsAt w pa g.params):FG f va vc ca cc g pa pc w ((w.alloc (fnC f va vc ca cc)).alloc (sgC g pa pc)):=by
 have hb:=two_below w (fnC f va vc ca cc) (sgC g pa pc)
 have h1:Blk (w.alloc (fnC f va vc ca cc)) w.heap.size #[.string f.cls,.string f.name,.bool f.stat,.int .i64 f.params,.slice va f.vars.length vc,.string f.result,.slice ca f.code.length cc] 90:=blk_new ..
 exact ⟨⟨hb,h1.below (one_below ..),hv.below hb,hi.below hb⟩,blk_new2 ..,hp.below hb⟩
end
set_option maxRecDepth 100000 in
set_option maxHeartbeats 4000000 in
theorem fits208t (f:Fnc) (va:Option Addr) (vc:Nat) (ca:Option Addr) (cc:Nat) (cls gn gr:Str) (gp:List Str) (pa:Option Addr) (pc:Nat) (w:World) (hv:FldsAt w va f.vars) (hi:InssAt w ca f.code) (hp:StrsAt w pa gp) (hnv:f.vars.length≤100000) (_hnp:gp.length≤100000) :
 Calls Tryz.prog 125 #[fnV f va vc ca cc,.string cls,.agg #[.string gn,.bool true,.slice pa gp.length pc,.string gr]] w (BPost (fun b=>b=true→FitsOk f cls ⟨gn,true,gp,gr⟩) w):=by
 have S0:=Lib.hid (FG.start (g:=⟨gn,true,gp,gr⟩) (vc:=vc) (cc:=cc) (pc:=pc) hv hi hp)
 have HK:Hid (∀ h1 h2 h3,FitsOk f cls ⟨gn,true,gp,gr⟩):=fun h1 h2 h3=>⟨h1,h2,h3⟩
 clear hv hi hp
 unfold fnV
 simp only at HK
 generalize FitsOk f cls ⟨gn,true,gp,gr⟩=R at *
 go_enter Tryz.func125,Tryz.ntmps125
 go_upto_region 1 with (fail)
 generalize (w.alloc _).alloc _=W at *
 go_cut [33] (fun v wx=>∃ b,v = .bool b∧W=wx∧Hid (b=false→R))
 case first =>
  obtain ⟨y0,y1,y2,y3,y4,y5,y6⟩:=S0.out.f.cells
  have s0:=S0.out.s.cell 0 (by simp)
  have s1:=S0.out.s.cell 1 (by simp)
  have s3:=S0.out.s.cell 3 (by simp)
  simp only [List.getElem_toArray,List.getElem_cons_zero,List.getElem_cons_succ] at s0 s1 s3
  obtain ⟨st,hst⟩:∃ st,f.stat=st:=⟨_,rfl⟩
  rw [hst] at y2 HK
  clear hst
  cases e1:(f.cls.toList == cls.toList)
  case false =>
   go_wp2
   go_meet
   exact ⟨_,rfl,rfl,fun e=>by cases e⟩
  cases e2:(f.name.toList == gn.toList)
  case false =>
   go_wp2
   go_meet
   exact ⟨_,rfl,rfl,fun e=>by cases e⟩
  have HK2:=Lib.hid (HK.out e1 e2)
  clear HK
  cases st <;> cases e3:(f.result.toList == gr.toList)
  all_goals
   go_wp2
   go_meet
   exact ⟨_,rfl,rfl,fun e=>by first | exact HK2.out rfl | exact HK2.out trivial | cases e⟩
 case rest =>
  obtain ⟨b,rfl,rfl,HR⟩:=hcut
  clear HK
  cases b
  case true =>
   go_wp2
   go_ret
   exact ⟨S0.out.f.hb,_,rfl,fun e=>by cases e⟩
  replace HR:=Lib.hid (HR.out rfl)
  have s1:=S0.out.s.cell 1 (by simp)
  have s2:=S0.out.s.cell 2 (by simp)
  simp only [List.getElem_toArray,List.getElem_cons_zero,List.getElem_cons_succ] at s1 s2
  go_upto_region 6 with (fail)
  obtain ⟨-,-,-,y3,y4,-,-⟩:=S0.out.f.cells
  by_cases h1:f.params=(gp.length:Int)
  case neg =>
   have t1:(f.params != (gp.length:Int))=true:=by simpa using h1
   clear h1
   go_wp2
   go_ret
   exact ⟨S0.out.f.hb,_,rfl,fun e=>by cases e⟩
  have t1:(f.params != (gp.length:Int))=false:=by simp [h1]
  clear h1
  by_cases h2:f.vars.length < gp.length + 0
  case pos =>
   have t2:decide (f.vars.length < gp.length)=true:=by simp;omega
   clear h2
   go_wp2
   go_ret
   exact ⟨S0.out.f.hb,_,rfl,fun e=>by cases e⟩
  have t2:decide (f.vars.length < gp.length)=false:=by simp;omega
  have hge:gp.length + 0≤f.vars.length:=by omega
  clear h2
  go_upto_region 8 with (fail)
  clear t1 t2 y3
  go_cut [72] (fun v wx=>∃ b,v = .bool b∧W=wx)
  case first =>
   go_wp2
   go_meet
   exact ⟨_,rfl,rfl⟩
  case rest =>
   obtain ⟨b,rfl,rfl⟩:=hcut
   clear y4
   cases b
   case true =>
    go_wp2
    go_ret
    exact ⟨S0.out.f.hb,_,rfl,fun e=>by cases e⟩
   go_wp2
   clear s1 s2
   go_loopw [8] (fun i wr=>∃ k:Nat,k≤gp.length∧i = .int .i64 k∧Hid (FG f va vc ca cc ⟨gn,true,gp,gr⟩ pa pc w wr)) (fun i _=>gp.length - (intOf i).toNat)
   case atStart=>exact ⟨0,Nat.zero_le _,rfl,S0.out⟩
   case round =>
    clear S0
    obtain ⟨k,hk,rfl,S⟩:=hrel
    have s2:=S.out.s.cell 2 (by simp)
    simp only [List.getElem_toArray,List.getElem_cons_zero,List.getElem_cons_succ] at s2
    by_cases hlt:k < gp.length
    case neg =>
     go_wp2
     go_ret
     exact ⟨S.out.f.hb,_,rfl,fun _=>HR.out⟩
    have hkv:k < f.vars.length:=by omega
    obtain ⟨b1,o1,rfl,-,m1⟩:=S.out.f.hv (k) hkv
    obtain ⟨b2,o2,rfl,m2⟩:=S.out.p k hlt
    simp only at m2
    have y4:=S.out.f.b1.cell 4 (by simp)
    simp only [List.getElem_toArray,List.getElem_cons_zero,List.getElem_cons_succ] at y4
    generalize f.vars[k].type=ty at *
    generalize gp[k]=gk at *
    have hne:Nonempty (WB wr):=⟨⟨wr,Below.refl _ _⟩⟩
    have k0:∀ o:WB wr,o.u.cell? ⟨w.heap.size,4,none⟩=some (.slice (some ⟨b1,o1,none⟩) f.vars.length vc):=fun o=>cell_below o.h y4
    have k1:∀ o:WB wr,o.u.cell? ⟨w.heap.size + 1,2,none⟩=some (.slice (some ⟨b2,o2,none⟩) gp.length pc):=fun o=>cell_below o.h s2
    have k2:∀ o:WB wr,o.u.cell? ⟨b1,o1 + (k) * 2 + 1,none⟩=some (.string ty):=fun o=>cell_below o.h m1
    have k3:∀ o:WB wr,o.u.cell? ⟨b2,o2 + k,none⟩=some (.string gk):=fun o=>cell_below o.h m2
    go_upto_region 13 with (fail)
    clear y4 s2 m1 m2
    have q1:IntKind.i64.wrap ((gp.length:Int) - gp.length)=0:=by rw [Int.sub_self];rfl
    have q2:IntKind.i64.wrap (0 + (k:Int))=k:=by rw [Int.zero_add];exact IntWalk.i64_in _ (by omega)
    cases e1:(ty.toList == gk.toList)
    all_goals
     refine wp_region_WB wr (by kernel_rfl) ?_
     repeat (go_big_quiet_step (fail))
     refine wpQuiet_nil ?_
     intro _ hw'
     obtain ⟨o,rfl⟩:=hw'
     have S1:=Lib.hid (S.out.below o.h)
     clear k0 k1 k2 k3 S
     go_wp2
     first
     | (go_ret;exact ⟨S1.out.f.hb,_,rfl,fun e=>by cases e⟩)
     | (go_roundw
        case rel=>exact ⟨k + 1,by omega,by go_num,S1.out⟩
        case measure=>simp [intOf];omega)
set_option maxRecDepth 100000 in
set_option maxHeartbeats 4000000 in
theorem fits208f (f:Fnc) (va:Option Addr) (vc:Nat) (ca:Option Addr) (cc:Nat) (cls gn gr:Str) (gp:List Str) (pa:Option Addr) (pc:Nat) (w:World) (hv:FldsAt w va f.vars) (hi:InssAt w ca f.code) (hp:StrsAt w pa gp) (hnv:f.vars.length≤100000) (hnp:gp.length≤100000) :
 Calls Tryz.prog 125 #[fnV f va vc ca cc,.string cls,.agg #[.string gn,.bool false,.slice pa gp.length pc,.string gr]] w (BPost (fun b=>b=true→FitsOk f cls ⟨gn,false,gp,gr⟩) w):=by
 have S0:=Lib.hid (FG.start (g:=⟨gn,false,gp,gr⟩) (vc:=vc) (cc:=cc) (pc:=pc) hv hi hp)
 have HK:Hid (∀ h1 h2 h3,FitsOk f cls ⟨gn,false,gp,gr⟩):=fun h1 h2 h3=>⟨h1,h2,h3⟩
 clear hv hi hp
 unfold fnV
 simp only at HK
 generalize FitsOk f cls ⟨gn,false,gp,gr⟩=R at *
 go_enter Tryz.func125,Tryz.ntmps125
 go_upto_region 1 with (fail)
 generalize (w.alloc _).alloc _=W at *
 go_cut [33] (fun v wx=>∃ b,v = .bool b∧W=wx∧Hid (b=false→R))
 case first =>
  obtain ⟨y0,y1,y2,y3,y4,y5,y6⟩:=S0.out.f.cells
  have s0:=S0.out.s.cell 0 (by simp)
  have s1:=S0.out.s.cell 1 (by simp)
  have s3:=S0.out.s.cell 3 (by simp)
  simp only [List.getElem_toArray,List.getElem_cons_zero,List.getElem_cons_succ] at s0 s1 s3
  obtain ⟨st,hst⟩:∃ st,f.stat=st:=⟨_,rfl⟩
  rw [hst] at y2 HK
  clear hst
  cases e1:(f.cls.toList == cls.toList)
  case false =>
   go_wp2
   go_meet
   exact ⟨_,rfl,rfl,fun e=>by cases e⟩
  cases e2:(f.name.toList == gn.toList)
  case false =>
   go_wp2
   go_meet
   exact ⟨_,rfl,rfl,fun e=>by cases e⟩
  have HK2:=Lib.hid (HK.out e1 e2)
  clear HK
  cases st <;> cases e3:(f.result.toList == gr.toList)
  all_goals
   go_wp2
   go_meet
   exact ⟨_,rfl,rfl,fun e=>by first | exact HK2.out rfl | exact HK2.out trivial | cases e⟩
 case rest =>
  obtain ⟨b,rfl,rfl,HR⟩:=hcut
  clear HK
  cases b
  case true =>
   go_wp2
   go_ret
   exact ⟨S0.out.f.hb,_,rfl,fun e=>by cases e⟩
  replace HR:=Lib.hid (HR.out rfl)
  have s1:=S0.out.s.cell 1 (by simp)
  have s2:=S0.out.s.cell 2 (by simp)
  simp only [List.getElem_toArray,List.getElem_cons_zero,List.getElem_cons_succ] at s1 s2
  go_upto_region 6 with (fail)
  obtain ⟨-,-,-,y3,y4,-,-⟩:=S0.out.f.cells
  by_cases h1:f.params=((gp.length:Int) + 1)
  case neg =>
   have t1:(f.params != ((gp.length:Int) + 1))=true:=by simpa using h1
   clear h1
   go_wp2
   go_ret
   exact ⟨S0.out.f.hb,_,rfl,fun e=>by cases e⟩
  have t1:(f.params != ((gp.length:Int) + 1))=false:=by simp [h1]
  clear h1
  by_cases h2:f.vars.length < gp.length + 1
  case pos =>
   have t2:decide ((f.vars.length:Int) < ((gp.length:Int) + 1))=true:=by simp;omega
   clear h2
   go_wp2
   go_ret
   exact ⟨S0.out.f.hb,_,rfl,fun e=>by cases e⟩
  have t2:decide ((f.vars.length:Int) < ((gp.length:Int) + 1))=false:=by simp;omega
  have hge:gp.length + 1≤f.vars.length:=by omega
  clear h2
  go_upto_region 8 with (fail)
  clear t1 t2 y3
  go_cut [72] (fun v wx=>∃ b,v = .bool b∧W=wx)
  case first =>
   have h0:0 < f.vars.length:=by omega
   obtain ⟨b,off,rfl,m0,m1⟩:=S0.out.f.hv 0 h0
   generalize f.vars[0].name=nm at *
   generalize f.vars[0].type=ty at *
   simp only [Nat.zero_mul,Nat.add_zero] at m0 m1
   cases e1:(nm.toList == ([116,104,105,115]:List UInt8)) <;> cases e2:(ty.toList == cls.toList)
   all_goals
    go_wp2
    go_meet
    exact ⟨_,rfl,rfl⟩
  case rest =>
   obtain ⟨b,rfl,rfl⟩:=hcut
   clear y4
   cases b
   case true =>
    go_wp2
    go_ret
    exact ⟨S0.out.f.hb,_,rfl,fun e=>by cases e⟩
   go_wp2
   clear s1 s2
   go_loopw [8] (fun i wr=>∃ k:Nat,k≤gp.length∧i = .int .i64 k∧Hid (FG f va vc ca cc ⟨gn,false,gp,gr⟩ pa pc w wr)) (fun i _=>gp.length - (intOf i).toNat)
   case atStart=>exact ⟨0,Nat.zero_le _,rfl,S0.out⟩
   case round =>
    clear S0
    obtain ⟨k,hk,rfl,S⟩:=hrel
    have s2:=S.out.s.cell 2 (by simp)
    simp only [List.getElem_toArray,List.getElem_cons_zero,List.getElem_cons_succ] at s2
    by_cases hlt:k < gp.length
    case neg =>
     go_wp2
     go_ret
     exact ⟨S.out.f.hb,_,rfl,fun _=>HR.out⟩
    have hkv:1 + k < f.vars.length:=by omega
    obtain ⟨b1,o1,rfl,-,m1⟩:=S.out.f.hv (1 + k) hkv
    obtain ⟨b2,o2,rfl,m2⟩:=S.out.p k hlt
    simp only at m2
    have y4:=S.out.f.b1.cell 4 (by simp)
    simp only [List.getElem_toArray,List.getElem_cons_zero,List.getElem_cons_succ] at y4
    generalize f.vars[1 + k].type=ty at *
    generalize gp[k]=gk at *
    have hne:Nonempty (WB wr):=⟨⟨wr,Below.refl _ _⟩⟩
    have k0:∀ o:WB wr,o.u.cell? ⟨w.heap.size,4,none⟩=some (.slice (some ⟨b1,o1,none⟩) f.vars.length vc):=fun o=>cell_below o.h y4
    have k1:∀ o:WB wr,o.u.cell? ⟨w.heap.size + 1,2,none⟩=some (.slice (some ⟨b2,o2,none⟩) gp.length pc):=fun o=>cell_below o.h s2
    have k2:∀ o:WB wr,o.u.cell? ⟨b1,o1 + (1 + k) * 2 + 1,none⟩=some (.string ty):=fun o=>cell_below o.h m1
    have k3:∀ o:WB wr,o.u.cell? ⟨b2,o2 + k,none⟩=some (.string gk):=fun o=>cell_below o.h m2
    go_upto_region 13 with (fail)
    clear y4 s2 m1 m2
    have q1:IntKind.i64.wrap ((gp.length:Int) + 1 - gp.length)=1:=by rw [show (gp.length:Int) + 1 - gp.length=1 by omega];rfl
    have q2:IntKind.i64.wrap (1 + (k:Int))=1 + k:=IntWalk.i64_in _ (by omega)
    have q3:(1 + (k:Int)).toNat=1 + k:=by omega
    have q4:0≤1 + (k:Int):=by omega
    cases e1:(ty.toList == gk.toList)
    all_goals
     refine wp_region_WB wr (by kernel_rfl) ?_
     repeat (go_big_quiet_step (fail))
     refine wpQuiet_nil ?_
     intro _ hw'
     obtain ⟨o,rfl⟩:=hw'
     have S1:=Lib.hid (S.out.below o.h)
     clear k0 k1 k2 k3 S
     go_wp2
     first
     | (go_ret;exact ⟨S1.out.f.hb,_,rfl,fun e=>by cases e⟩)
     | (go_roundw
        case rel=>exact ⟨k + 1,by omega,by go_num,S1.out⟩
        case measure=>simp [intOf];omega)
theorem fits208 (f:Fnc) (va:Option Addr) (vc:Nat) (ca:Option Addr) (cc:Nat) (cls:Str) (g:Sgn) (pa:Option Addr) (pc:Nat) (w:World) (hv:FldsAt w va f.vars) (hi:InssAt w ca f.code) (hp:StrsAt w pa g.params) (hnv:f.vars.length≤100000) (hnp:g.params.length≤100000) :
 Calls Tryz.prog 125 #[fnV f va vc ca cc,.string cls,sgV g pa pc] w (BPost (fun b=>b=true→FitsOk f cls g) w):=by
 obtain ⟨gn,sg,gp,gr⟩:=g
 cases sg
 ·exact fits208f f va vc ca cc cls gn gr gp pa pc w hv hi hp hnv hnp
 ·exact fits208t f va vc ca cc cls gn gr gp pa pc w hv hi hp hnv hnp
end Go.Proofs.YtffcklfigpmlgaaGreatDoor
namespace Go.Proofs.YtffcklfigpmlgaaGreatDoor
open Go.RowKit Go.Unit0

def I2Post (P:Int→Int→Prop) (w:World) (e:Ending) (w':World):Prop:=Below w.heap.size w w'∧∃ m n,e = .returned (.tuple #[.int .i64 m,.int .i64 n])∧P m n
structure HG (h:List Cls) (a:Option Addr) (c:Nat) (f:Fnc) (va:Option Addr) (vc:Nat) (ca:Option Addr) (cc:Nat) (g:Sgn) (pa:Option Addr) (pc:Nat) (w wr:World):Prop where
 t:HF h a c f va vc ca cc w wr
 s:Blk wr (w.heap.size + 2) #[.string g.name,.bool g.stat,.slice pa g.params.length pc,.string g.result] 87
 p:StrsAt wr pa g.params
section
variable {h:List Cls} {a:Option Addr} {c:Nat} {f:Fnc} {va:Option Addr} {vc:Nat} {ca:Option Addr} {cc:Nat} {g:Sgn} {pa:Option Addr} {pc:Nat} {w wr w':World}
theorem HG.below (k:HG h a c f va vc ca cc g pa pc w wr) (hb:Below wr.heap.size wr w'):HG h a c f va vc ca cc g pa pc w w':=⟨k.t.below hb,k.s.below hb,k.p.below hb⟩
theorem HG.start (hc:ClssAt w a h) (hv:FldsAt w va f.vars) (hi:InssAt w ca f.code) (hp:StrsAt w pa g.params):HG h a c f va vc ca cc g pa pc w (((w.alloc (hiC h a c)).alloc (fnC f va vc ca cc)).alloc (sgC g pa pc)) :=
 ⟨(HF.start hc hv hi).below (one_below ..),blk_new3 ..,hp.below (three_below ..)⟩
end
structure FuncOk (h:List Cls) (f:Fnc) (cls:Str) (g:Sgn):Prop where
 k:FitsOk f cls g
 c:∀ j (hj:j < f.code.length),CallOk h f.code[j]
set_option maxRecDepth 100000 in
set_option maxHeartbeats 4000000 in
theorem checkFunc135 (h:List Cls) (a:Option Addr) (c:Nat) (f:Fnc) (va:Option Addr) (vc:Nat) (ca:Option Addr) (cc:Nat) (cls:Str) (g:Sgn) (pa:Option Addr) (pc:Nat) (w:World)
 (hc:ClssAt w a h) (hv:FldsAt w va f.vars) (hi:InssAt w ca f.code) (hp:StrsAt w pa g.params) (hb:Bnd h) (hf:BndF f) (hnp:g.params.length≤100000) :
 Calls Tryz.prog 70 #[.agg #[.slice a h.length c],fnV f va vc ca cc,.string cls,sgV g pa pc] w (I2Post (fun _ n=>n=0→FuncOk h f cls g) w):=by
 have S0:=Lib.hid (HG.start (c:=c) (vc:=vc) (cc:=cc) (pc:=pc) hc hv hi hp)
 have HFI:Hid (∀ w1,FldsAt w1 va f.vars→InssAt w1 ca f.code→StrsAt w1 pa g.params→Calls Tryz.prog 125 #[fnV f va vc ca cc,.string cls,sgV g pa pc] w1 (BPost (fun b=>b=true→FitsOk f cls g) w1)):=fun w1 h1 h2 h3=>fits208 f va vc ca cc cls g pa pc w1 h1 h2 h3 hf.v hnp
 have HNA:Hid (∀ w1,ClssAt w1 a h→FldsAt w1 va f.vars→InssAt w1 ca f.code→Calls Tryz.prog 126 #[.agg #[.slice a h.length c],fnV f va vc ca cc] w1 (IPost (fun _=>True) w1)):=fun w1 h1 h2 h3=>names209 h a c f va vc ca cc w1 h1 h2 h3 hb hf.v
 have HIN:Hid (∀ i (_:i < f.code.length),∀ w1,ClssAt w1 a h→FldsAt w1 va f.vars→InssAt w1 ca f.code→Calls Tryz.prog 127 #[.agg #[.slice a h.length c],fnV f va vc ca cc,.int .i64 i] w1 (IPost (fun n=>n=0→CallOk h f.code[i]) w1)):=fun i hi w1 h1 h2 h3=>instr210 h a c f va vc ca cc i hi w1 h1 h2 h3 hb hf
 have hnv:=hf.v
 have hnc:=hf.c
 have HK:Hid (FitsOk f cls g→(∀ j (hj:j < f.code.length),CallOk h f.code[j])→FuncOk h f cls g):=fun h1 h2=>⟨h1,h2⟩
 clear hc hv hi hp hb hf
 unfold fnV sgV at *
 generalize FitsOk f cls g=R at *
 generalize FuncOk h f cls g=R2 at *
 go_enter Tryz.func70,Tryz.ntmps70
 go_upto_region 1 with (fail)
 generalize ((w.alloc _).alloc _).alloc _=W at *
 obtain ⟨y0,y1,y2,y3,y4,y5,y6⟩:=S0.out.t.f.cells
 have s0:=S0.out.s.cell 0 (by simp)
 have s1:=S0.out.s.cell 1 (by simp)
 have s2:=S0.out.s.cell 2 (by simp)
 have s3:=S0.out.s.cell 3 (by simp)
 go_wp2_with fail
 refine (HFI.out _ S0.out.t.f.hv S0.out.t.f.hc S0.out.p).mono ?_
 rintro e w' ⟨hb',d,rfl,hr⟩
 have HR:=Lib.hid hr
 have S1:=Lib.hid (S0.out.below hb')
 clear S0 hb' y0 y1 y2 y3 y4 y5 y6 s0 s1 s2 s3 hr HFI
 cases d
 case false =>
  go_wp2
  refine bodyPost_ret (v:=.tuple #[.int .i64 (-1),.int .i64 20]) (by simp [results,Tryz.results70,go_sem]) rfl ?_
  exact ⟨S1.out.t.f.hb,_,_,rfl,fun e=>by cases e⟩
 replace HR:=Lib.hid (HR.out rfl)
 have y4:=S1.out.t.f.b1.cell 4 (by simp)
 have y6:=S1.out.t.f.b1.cell 6 (by simp)
 by_cases h1:256 < f.vars.length
 ·have t1:decide ((256:Int) < (f.vars.length:Int))=true:=by simp;omega
  clear h1
  go_wp2
  refine bodyPost_ret (v:=.tuple #[.int .i64 (-1),.int .i64 3]) (by simp [results,Tryz.results70,go_sem]) rfl ?_
  exact ⟨S1.out.t.f.hb,_,_,rfl,fun e=>by cases e⟩
 have t1:decide ((256:Int) < (f.vars.length:Int))=false:=by simp;omega
 by_cases h2:1024 < f.code.length
 ·have t2:decide ((1024:Int) < (f.code.length:Int))=true:=by simp;omega
  clear h1 h2
  go_wp2
  refine bodyPost_ret (v:=.tuple #[.int .i64 (-1),.int .i64 3]) (by simp [results,Tryz.results70,go_sem]) rfl ?_
  exact ⟨S1.out.t.f.hb,_,_,rfl,fun e=>by cases e⟩
 have t2:decide ((1024:Int) < (f.code.length:Int))=false:=by simp;omega
 clear h1 h2
 obtain ⟨y0,y1,y2,y3,-,y5,-⟩:=S1.out.t.f.cells
 have z0:=S1.out.t.bh.cell 0 (by simp)
 go_wp2_with fail
 refine (HNA.out _ S1.out.t.hc S1.out.t.f.hv S1.out.t.f.hc).mono ?_
 rintro e w' ⟨hb',n,rfl,-⟩
 have S2:=Lib.hid (S1.out.below hb')
 clear S1 hb' y0 y1 y2 y3 y4 y5 y6 z0 t1 t2 HNA
 by_cases hn:n=0
 case neg =>
  have t1:(n != 0)=true:=by simpa using hn
  have HN:=Lib.hid hn
  clear hn
  go_wp2
  refine bodyPost_ret (v:=.tuple #[.int .i64 (-1),.int .i64 n]) (by simp [results,Tryz.results70,go_sem]) rfl ?_
  exact ⟨S2.out.t.f.hb,_,_,rfl,fun e=>absurd e HN.out⟩
 subst hn
 have y6:=S2.out.t.f.b1.cell 6 (by simp)
 by_cases h0:f.code.length=0
 ·have t1:((f.code.length:Int) == 0)=true:=by simp;exact List.length_eq_zero_iff.1 h0
  clear h0
  go_wp2
  refine bodyPost_ret (v:=.tuple #[.int .i64 (-1),.int .i64 1]) (by simp [results,Tryz.results70,go_sem]) rfl ?_
  exact ⟨S2.out.t.f.hb,_,_,rfl,fun e=>by cases e⟩
 have t1:((f.code.length:Int) == 0)=false:=by simp;intro e;exact h0 (by rw [e];rfl)
 clear h0
 go_wp2
 clear t1 y6
 go_loopw [11] (fun i wr=>∃ k:Nat,k≤f.code.length∧i = .int .i64 k∧Hid (∀ j (hj:j < f.code.length),j < k→CallOk h f.code[j])∧Hid (HG h a c f va vc ca cc g pa pc w wr)) (fun i _=>f.code.length - (intOf i).toNat)
 case atStart=>exact ⟨0,Nat.zero_le _,rfl,(fun _ _ hj=>absurd hj (Nat.not_lt_zero _)),S2.out⟩
 case round =>
  clear S2
  obtain ⟨k,hk,rfl,HJ,S⟩:=hrel
  obtain ⟨y0,y1,y2,y3,y4,y5,y6⟩:=S.out.t.f.cells
  have z0:=S.out.t.bh.cell 0 (by simp)
  by_cases hlt:k < f.code.length
  case neg =>
   have HR2:Hid R2:=HK.out HR.out fun j hj=>HJ.out j hj (by omega)
   go_wp2
   refine bodyPost_ret (v:=.tuple #[.int .i64 0,.int .i64 0]) (by simp [results,Tryz.results70,go_sem]) rfl ?_
   exact ⟨S.out.t.f.hb,_,_,rfl,fun _=>HR2.out⟩
  have HI:=Lib.hid (HIN.out k hlt)
  go_wp2_with fail
  refine (HI.out _ S.out.t.hc S.out.t.f.hv S.out.t.f.hc).mono ?_
  rintro e w' ⟨hb',n,rfl,hco⟩
  have HCO:=Lib.hid hco
  have S3:=Lib.hid (S.out.below hb')
  clear S hb' hco y0 y1 y2 y3 y4 y5 y6 z0 HI
  by_cases hn:n=0
  case neg =>
   have t1:(n != 0)=true:=by simpa using hn
   have HN:=Lib.hid hn
   clear hn
   go_wp2
   refine bodyPost_ret (v:=.tuple #[.int .i64 k,.int .i64 n]) (by simp [results,Tryz.results70,go_sem]) rfl ?_
   exact ⟨S3.out.t.f.hb,_,_,rfl,fun e=>absurd e HN.out⟩
  subst hn
  have HJ2:Hid (∀ j (hj:j < f.code.length),j < k + 1→CallOk h f.code[j]):=fun j hj hjk=>by
   by_cases e:j < k
   ·exact HJ.out j hj e
   ·obtain rfl:j=k:=by omega
    exact HCO.out (by trivial)
  go_wp2
  go_roundw
  case rel=>exact ⟨k + 1,by omega,by go_num,HJ2.out,S3.out⟩
  case measure=>simp [intOf];omega
end Go.Proofs.YtffcklfigpmlgaaGreatDoor
