/-
  Comparisons; strings; structs of basic fields; lengths; the lesser and the greater.
-/
import Derived.Test.YtjnbddedmbhiaaaGreatDoorPk07
import Derived.Laws.StructEq
import Derived.ChangeKeysEq
import Derived.Laws.Concat
import Derived.Laws.Cover1
namespace Go.AM
open Go.RowKit
theorem OV(a b:Bool):oZ a b=(a==b):=by cases a<;>cases b<;>rfl
theorem yR:∀a b:List Nat,eqs a b=true↔a=b
 |[],[]=>⟨fun _=>rfl,fun _=>rfl⟩
 |[],_::_=>⟨fun h=>(nomatch (show false=true from h)),fun h=>(nomatch h)⟩
 |_::_,[]=>⟨fun h=>(nomatch (show false=true from h)),fun h=>(nomatch h)⟩
 |x::l,y::m=>by
  have e:eqs (x::l) (y::m)=Bool.rec (motive:=fun _=>(List Nat->Bool)->List Nat->Bool) (fun _ _=>false) (fun ih m=>ih m) (Nat.beq x y) (eqs l) m:=rfl
  rw[e]
  cases h:Nat.beq x y with
  |false=>exact⟨fun h=>(nomatch (show false=true from h)),fun he=>by cases he;rw[Nat.beq_refl]at h;cases h⟩
  |true =>
   have:=Nat.eq_of_beq_eq_true h
   subst this
   show eqs l m=true↔_
   rw[yR l m]
   simp
theorem RJ{a b:List UInt8}(h:a.map (·.toNat)=b.map (·.toNat)):a=b :=
 List.map_inj_right (fun _ _ h=>UInt8.toNat.inj h) |>.1 h
theorem wB(s s':ByteArray):eqs (s.data.toList.map (·.toNat)) (s'.data.toList.map (·.toNat))=(s.toList==s'.toList):=by
 rw[Bool.eq_iff_iff,yR,beq_iff_eq,ByteArray.toList_eq,ByteArray.toList_eq]
 exact⟨RJ,fun h=>by rw[h]⟩
theorem yB:∀a b:List UInt8,nL (a.map (·.toNat)) (b.map (·.toNat))=Op.bytesLess a b
 |[],[]=>rfl
 |_::_,[]=>rfl
 |[],_::_=>rfl
 |x::l,y::m=>by
  simp only[List.map_cons,nL,Op.bytesLess]
  rw[yB l m]
  cases h:Nat.blt x.toNat y.toNat with
  |true =>
   have:=dn h
   simp[UInt8.lt_iff_toNat_lt,this]
  |false =>
   have h1:¬ x.toNat<y.toNat:=fun e=>by rw[<-Nat.blt_eq,h]at e;cases e
   cases h2:Nat.beq x.toNat y.toNat with
   |true =>
    have:=UInt8.toNat.inj (Nat.eq_of_beq_eq_true h2)
    simp[this]
   |false =>
    have h3:x≠y:=fun e=>by subst e;rw[Nat.beq_refl]at h2;cases h2
    simp[UInt8.lt_iff_toNat_lt,h1,h3]
section
variable {P:Program}{E:ax}{w:World}{r:List (AV × St)}
theorem y1A{op:BinOp}{b:Bool}{k:AV->Out}(h:zu (bo op) b k=some r):(op = .eql/\k (.b b)=some r)∨(op = .neq/\k (.b (!b))=some r):=by
 cases op<;>first | exact .inl ⟨rfl,h⟩ | exact .inr ⟨rfl,h⟩ | exact aS h
theorem y1y{op:BinOp}{t:TypeId}{s s':ByteArray}{k:AV->Out}(h:Hq (bo op) (s.data.toList.map (·.toNat)) (s'.data.toList.map (·.toNat)) k=some r) :
 ∃v u,(binOp op t (.string s) (.string s')).run P w = .ok u w/\ag E v u/\k v=some r:=by
 cases op with
 |add =>
  obtain⟨hb,h⟩:=aJ (show must _ _=some r from h)
  have hb:=Nat.le_of_ble_eq_true hb
  have h1:s.size+s'.size<=9223372036854775807:=by
   have e:Nat.add (s.data.toList.map (·.toNat)).length (s'.data.toList.map (·.toNat)).length=s.size+s'.size:=by
    rw[List.length_map,List.length_map];rfl
   rw[e]at hb
   omega
  refine⟨_,.string (s++s'),by rw[binOp_string_add,run_string_add_sum w _ _ h1],?_,h⟩
  simp only[ag]
  exact⟨_,rfl,by simp[ByteArray.data_append]⟩
 |eql=>exact⟨_,.bool (eqs _ _),by rw[binOp_string_eql,wB];rfl,by simp only[ag],h⟩
 |neq=>exact⟨_,.bool (!eqs _ _),by rw[binOp_string_neq,wB];rfl,by simp only[ag],h⟩
 |lss=>exact⟨_,.bool (nL _ _),by rw[binOp_string_lss,ByteArray.toList_eq,ByteArray.toList_eq,yB];rfl,by simp only[ag],h⟩
 |leq=>exact⟨_,.bool (or (nL (s.data.toList.map (·.toNat)) (s'.data.toList.map (·.toNat))) (eqs (s.data.toList.map (·.toNat)) (s'.data.toList.map (·.toNat)))),by rw[binOp_string_leq,wB,<-yB,ByteArray.toList_eq,ByteArray.toList_eq];rfl,by simp only[ag],h⟩
 |gtr=>exact⟨_,.bool (not (or (nL (s.data.toList.map (·.toNat)) (s'.data.toList.map (·.toNat))) (eqs (s.data.toList.map (·.toNat)) (s'.data.toList.map (·.toNat))))),by rw[binOp_string_gtr,wB,<-yB,ByteArray.toList_eq,ByteArray.toList_eq];rfl,by simp only[ag],h⟩
 |geq=>exact⟨_,.bool (not (nL _ _)),by rw[binOp_string_geq,<-yB,ByteArray.toList_eq,ByteArray.toList_eq];rfl,by simp only[ag],h⟩
 |_=>exact aS h
theorem xK(op:BinOp)(t:TypeId)(x y:Operand)(u v:Value)(h1:∀c,u ≠ .agg c)(h2:u = .nilIface->v = .nilIface->∃c,y = .const c):(eqGuard op t x y u v).run P w = .ok () w:=by
 have key:∀op,(op = .eql∨op = .neq)->(eqGuard op t x y u v).run P w = .ok () w:=by
  intro op hop
  cases u with
  |nilIface =>
   cases v with
   |nilIface =>
    obtain⟨c,rfl⟩:=h2 rfl rfl
    rcases hop with rfl | rfl<;>simp[eqGuard]
   |_=>rcases hop with rfl | rfl<;>rfl
  |agg c=>exact absurd rfl (h1 c)
  |_=>rcases hop with rfl | rfl<;>rfl
 cases op<;>first | rfl | exact key _ (.inl rfl) | exact key _ (.inr rfl)
end
section
variable {P:Program}{B:bB}{E:ax}{st:St}{w:World}{nt:Nat}{tm:Tm}{a:Act}{k:K}{r:List (AV × St)}{o:Oper}
theorem zq{op:BinOp}{t t':TypeId}{x y:Operand}(ho:o.op = .binOp op t x y t'){v:AV}{u:Value}(hg:(eqGuard op t x y (a.eval x) (a.eval y)).run P w = .ok () w)
 (hr:(binOp op t (a.eval x) (a.eval y)).run P w = .ok u w) (hv:ag E v u) (hk:k v st=some r):Reads P E st w a o k r :=
 dW (s:=do eqGuard op t x y (a.eval x) (a.eval y);binOp op t (a.eval x) (a.eval y)) (by unfold execOp;rw[ho]) (by rw[Sem.run_bind,hg];exact hr) hv hk
theorem Qk(hs:aB B E st w)(ht:aU E nt tm a){op:BinOp}{t t':TypeId}{x y:Operand}(ho:o.op = .binOp op t x y t')(h:EC (bo op) (co x) (co y) tm st k=some r):Reads P E st w a o k r:=by
 unfold EC at h
 have hx:=aT hs ht x
 have hy:=aT hs ht y
 generalize aN (co x) tm=vx at *
 cases vx with
 |i q n =>
  have h:iP (aN (co y) tm) (fun q2 c=>must (lu q q2) (Hr (bo op) q n c (fun v=>k v st)))=some r:=h
  obtain⟨q2,c,hc,h⟩:=jC h
  obtain⟨hq,h'⟩:=aJ h
  have hq:=uh hq
  rw[hc,<-hq]at hy
  simp only[ag]at hx hy
  obtain⟨v,u,h1,h2,h3⟩:=y1z (P:=P) (E:=E) (w:=w) (t:=t) h'
  exact zq ho (xK op t x y _ _ (by rw[hx];simp) (by rw[hx];simp)) (by rw[hx,hy];exact h1) h2 h3
 |s l =>
  have h:iF (aN (co y) tm) (fun c=>Hq (bo op) l c (fun v=>k v st))=some r:=h
  obtain⟨l',hc,h⟩:=mQ h
  rw[hc]at hy
  simp only[ag]at hx hy
  obtain⟨s,hx,rfl⟩:=hx
  obtain⟨s',hy,rfl⟩:=hy
  obtain⟨v,u,h1,h2,h3⟩:=y1y (P:=P) (E:=E) (w:=w) (t:=t) h
  exact zq ho (xK op t x y _ _ (by rw[hx];simp) (by rw[hx];simp)) (by rw[hx,hy];exact h1) h2 h3
 |_=>exact aS h
theorem Kl(hs:aB B E st w)(ht:aU E nt tm a){l:Bool}{t t':TypeId}{x y:Operand}(ho:o.op = .binOp (if l=true then .shl else .shr) t x y t')(h:DZ l (co x) (co y) tm st k=some r):Reads P E st w a o k r:=by
 unfold DZ at h
 obtain⟨q,n,hn,h⟩:=jC h
 obtain⟨q',m,hm,h⟩:=jC h
 have hx:=aT hs ht x
 have hy:=aT hs ht y
 rw[hn]at hx
 rw[hm]at hy
 simp only[ag]at hx hy
 obtain⟨v,u,h1,h2,h3⟩:=Tc (P:=P) (E:=E) (w:=w) (t:=t) (q':=q') h
 exact zq ho (xK _ t x y _ _ (by rw[hx];simp) (by rw[hx];simp)) (by rw[hx,hy];exact h1) h2 h3
theorem Gs{op:BinOp}{t t':TypeId}{x y:Operand}(ho:o.op = .binOp op t x y t'){b:Bool}(h:zu (bo op) b (fun v=>k v st)=some r)
 (hg:(eqGuard op t x y (a.eval x) (a.eval y)).run P w = .ok () w)
 (h1:(binOp .eql t (a.eval x) (a.eval y)).run P w = .ok (.bool b) w) (h2:(binOp .neq t (a.eval x) (a.eval y)).run P w = .ok (.bool (!b)) w):Reads P E st w a o k r:=by
 rcases y1A h with ⟨rfl,h⟩ | ⟨rfl,h⟩
 ·exact zq ho hg h1 (by simp only[ag]) h
 ·exact zq ho hg h2 (by simp only[ag]) h
theorem y1G(hs:aB B E st w)(ht:aU E nt tm a){op:BinOp}{t t':TypeId}{x y:Operand}(ho:o.op = .binOp op t x y t')(hu:P.underlying t=some .bool)(h:EE (bo op) (co x) (co y) tm st k=some r):Reads P E st w a o k r:=by
 unfold EE at h
 obtain⟨p,hp,h⟩:=uD h
 obtain⟨q,hq,h⟩:=uD h
 have hx:=aT hs ht x
 have hy:=aT hs ht y
 rw[hp]at hx
 rw[hq]at hy
 simp only[ag]at hx hy
 rw[OV]at h
 refine Gs ho h (xK op t x y _ _ (by rw[hx];simp) (by rw[hx];simp)) ?_ ?_
 ·rw[hx,hy];simp[binOp,Op.equal,Op.maxDepth,run_equalIn_bool' (P:=P) w 9999 t p q hu]
 ·rw[hx,hy];simp[binOp,Op.equal,Op.maxDepth,run_equalIn_bool' (P:=P) w 9999 t p q hu]
def w9(q:NK)(b:Bool)(v:Value):Prop:=match q with
 | .p=>(b=true/\v = .pointer none)∨(b=false/\∃a,v = .pointer (some a))
 | .l=>(b=true/\v = .slice none 0 0)∨(b=false/\∃a n c,v = .slice (some a) n c)
 | .m=>(b=true/\v = .map none)∨(b=false/\∃a,v = .map (some a))
 | .f=>(b=true/\v = .nilFunc)∨(b=false/\∃f a c,v = .func f a c)
 | .x=>(b=true/\v = .nilIface)∨(b=false/\∃t u,v = .iface t u)
theorem Nw{v:AV}{q:NK}{f:Bool->Out}(h:FL v q f=some r):∃b,f b=some r/\∀(E:ax) u,ag E v u->w9 q b u:=by
 cases v with
 |p0=>cases q<;>first | exact aS h | exact⟨true,h,fun E u hu=>by simp only[ag]at hu;exact .inl ⟨rfl,hu⟩⟩
 |l0=>cases q<;>first | exact aS h | exact⟨true,h,fun E u hu=>by simp only[ag]at hu;exact .inl ⟨rfl,hu⟩⟩
 |m0=>cases q<;>first | exact aS h | exact⟨true,h,fun E u hu=>by simp only[ag]at hu;exact .inl ⟨rfl,hu⟩⟩
 |f0=>cases q<;>first | exact aS h | exact⟨true,h,fun E u hu=>by simp only[ag]at hu;exact .inl ⟨rfl,hu⟩⟩
 |x0=>cases q<;>first | exact aS h | exact⟨true,h,fun E u hu=>by simp only[ag]at hu;exact .inl ⟨rfl,hu⟩⟩
 |p b c=>cases q<;>first | exact aS h | exact⟨false,h,fun E u hu=>by simp only[ag]at hu;obtain⟨l,_,hu⟩:=hu;exact .inr ⟨rfl,_,hu⟩⟩
 |l b c d=>cases q<;>first | exact aS h | exact⟨false,h,fun E u hu=>by simp only[ag]at hu;obtain⟨l,_,_,_,_,hu⟩:=hu;exact .inr ⟨rfl,_,_,_,hu⟩⟩
 |m b=>cases q<;>first | exact aS h | exact⟨false,h,fun E u hu=>by simp only[ag]at hu;obtain⟨l,_,hu⟩:=hu;exact .inr ⟨rfl,_,hu⟩⟩
 |f b c d=>cases q<;>first | exact aS h | exact⟨false,h,fun E u hu=>by simp only[ag]at hu;obtain⟨_,_,hu,_⟩:=hu;exact .inr ⟨rfl,_,_,_,hu⟩⟩
 |x b c=>cases q<;>first | exact aS h | exact⟨false,h,fun E u hu=>by simp only[ag]at hu;obtain⟨_,hu,_⟩:=hu;exact .inr ⟨rfl,_,_,hu⟩⟩
 |_=>exact aS h
def Ih(q:NK)(d:TypeDesc):Prop:=match q with
 | .p=>∃e,d = .pointer e
 | .l=>∃e,d = .slice e
 | .m=>∃k e,d = .map k e
 | .f=>∃a b c,d = .func a b c
 | .x=>∃ms,d = .interface ms
theorem Tz{t:TypeId}{d:TypeDesc}(hu:P.underlying t=some d){q:NK}(hd:Ih q d){b:Bool}{u v:Value}(h1:w9 q b u)(h2:w9 q true v) :
 (binOp .eql t u v).run P w = .ok (.bool b) w/\(binOp .neq t u v).run P w = .ok (.bool (!b)) w:=by
 have key:∀{u v:Value} {c:Bool},(∀d,(Op.equalIn (d+1) t u v).run P w = .ok c w)->binOp .eql t u v=(do pure (.bool (<-Op.equal t u v)))->binOp .neq t u v=(do pure (.bool (!(<-Op.equal t u v)))) ->
  (binOp .eql t u v).run P w = .ok (.bool c) w/\(binOp .neq t u v).run P w = .ok (.bool (!c)) w:=by
  intro u v c h e1 e2
  rw[e1,e2]
  simp[Op.equal,Op.maxDepth,h 9999]
 cases q<;>simp only[w9,Ih,Bool.true_eq_false,false_and,or_false,true_and]at h1 h2 hd
 case p =>
  obtain⟨e,rfl⟩:=hd
  subst h2
  rcases h1 with ⟨rfl,rfl⟩ | ⟨rfl,x,rfl⟩<;>exact key (fun d=>by simp[Op.equalIn,run_underlying hu]) (by simp[binOp]) (by simp[binOp])
 case l =>
  obtain⟨e,rfl⟩:=hd
  subst h2
  rcases h1 with ⟨rfl,rfl⟩ | ⟨rfl,x,n,c,rfl⟩<;>exact key (fun d=>by simp[Op.equalIn,run_underlying hu]) (by simp[binOp]) (by simp[binOp])
 case m =>
  obtain⟨e,e',rfl⟩:=hd
  subst h2
  rcases h1 with ⟨rfl,rfl⟩ | ⟨rfl,x,rfl⟩<;>exact key (fun d=>by simp[Op.equalIn,run_underlying hu]) (by simp[binOp]) (by simp[binOp])
 case f =>
  obtain⟨e,e',e'',rfl⟩:=hd
  subst h2
  rcases h1 with ⟨rfl,rfl⟩ | ⟨rfl,x,y,z,rfl⟩<;>exact key (fun d=>by simp[Op.equalIn,run_underlying hu]) (by simp[binOp]) (by simp[binOp])
 case x =>
  obtain⟨e,rfl⟩:=hd
  subst h2
  rcases h1 with ⟨rfl,rfl⟩ | ⟨rfl,x,y,rfl⟩<;>exact key (fun d=>by simp[Op.equalIn,run_underlying hu]) (by simp[binOp]) (by simp[binOp])
theorem zl(hs:aB B E st w)(ht:aU E nt tm a){op:BinOp}{t t':TypeId}{x y:Operand}(ho:o.op = .binOp op t x y t'){d:TypeDesc}(hu:P.underlying t=some d){q:NK}(hd:Ih q d)
 (hc:q = .x->∃c,y = .const c) (h:EB (bo op) q (co x) (co y) tm st k=some r):Reads P E st w a o k r:=by
 unfold EB at h
 obtain⟨b,h,hy⟩:=Nw h
 obtain⟨hb,h⟩:=aJ h
 subst hb
 obtain⟨b,h,hx⟩:=Nw h
 have hx:=hx E _ (aT hs ht x)
 have hy:=hy E _ (aT hs ht y)
 obtain⟨h1,h2⟩:=Tz (P:=P) (w:=w) hu hd hx hy
 refine Gs ho h (xK op t x y _ _ ?_ ?_) h1 h2
 ·intro c e
  rw[e]at hx
  cases q<;>simp[w9]at hx
 ·intro e _
  rw[e]at hx
  cases q<;>simp[w9]at hx
  exact hc rfl
def kL(q:KK)(b:Bool)(u v:Value):Prop:=match q with
 | .b=>∃x y,u = .bool x/\v = .bool y/\b=(x==y)
 | .i=>∃k x y,u = .int k x/\v = .int k y/\b=(x==y)
 | .s=>∃x y,u = .string x/\v = .string y/\b=(x.toList==y.toList)
def QF(q:KK)(d:TypeDesc):Prop:=match q with
 | .b=>d = .bool
 | .i=>∃k,d = .int k
 | .s=>d = .string
theorem uC{v:AV}{f:AV->AV->Out}(h:jD v f=some r):∃x t,v = .cn x t/\f x t=some r:=by
 cases v<;>first | exact⟨_,_,rfl,h⟩ | exact aS h
theorem Nk{q:KK}{x y:AV}{f:Bool->Out}(h:vR q x y f=some r):∃b,f b=some r/\∀(E:ax) u v,ag E x u->ag E y v->kL q b u v:=by
 cases q with
 |b =>
  obtain⟨p,rfl,h1⟩:=uD (show pI x _=some r from h)
  obtain⟨p',rfl,h2⟩:=uD h1
  rw[OV]at h2
  exact⟨_,h2,fun E u v hu hv=>by simp only[ag]at hu hv;exact⟨p,p',hu,hv,rfl⟩⟩
 |i =>
  obtain⟨q1,p,rfl,h1⟩:=jC (show iP x _=some r from h)
  obtain⟨q2,p',rfl,h2⟩:=jC h1
  obtain⟨hq,h3⟩:=aJ h2
  have hq:=uh hq
  rw[yS]at h3
  exact⟨_,h3,fun E u v hu hv=>by simp only[ag]at hu hv;rw[<-hq]at hv;exact⟨q1,p,p',hu,hv,rfl⟩⟩
 |s =>
  obtain⟨p,rfl,h1⟩:=mQ (show iF x _=some r from h)
  obtain⟨p',rfl,h2⟩:=mQ h1
  exact⟨_,h2,fun E u v hu hv=>by
   simp only[ag]at hu hv
   obtain⟨s,hu,rfl⟩:=hu
   obtain⟨s',hv,rfl⟩:=hv
   exact⟨s,s',hu,hv,wB s s'⟩⟩
theorem vP{t:TypeId}{q:KK}(h:jw P t=some q):∃d,P.underlying t=some d/\QF q d:=by
 unfold jw at h
 split at h<;>cases h
 ·exact⟨_,‹_›,rfl⟩
 ·exact⟨_,‹_›,_,rfl⟩
 ·exact⟨_,‹_›,rfl⟩
theorem iZ{t:TypeId}{q:KK}(h:jw P t=some q):dQ P t=some false:=by
 obtain⟨d,hu,hd⟩:=vP h
 unfold dQ
 rw[hu]
 cases q with
 |b=>cases hd;rfl
 |i=>obtain⟨_,rfl⟩:=hd;rfl
 |s=>cases hd;rfl
theorem sM{t:TypeId}{q:KK}(h:jw P t=some q){b:Bool}{u v:Value}(he:kL q b u v)(d:Nat):(Op.equalIn (d+1) t u v).run P w = .ok b w:=by
 obtain⟨e,hu,hd⟩:=vP h
 cases q with
 |b=>cases hd;obtain⟨x,y,rfl,rfl,rfl⟩:=he;exact run_equalIn_bool' w d t x y hu
 |i=>obtain⟨k',rfl⟩:=hd;obtain⟨k,x,y,rfl,rfl,rfl⟩:=he;exact run_equalIn_int w d t k k' x y hu
 |s=>cases hd;obtain⟨x,y,rfl,rfl,rfl⟩:=he;exact run_equalIn_string w d t x y hu
def gQ:List KK->List Value->List Value->Prop
 |[],l,m=>l=[]/\m=[]
 |q::ks,l,m=>∃u l' v m',l=u::l'/\m=v::m'/\kL q true u v/\gQ ks l' m'
theorem gQ.len:∀{ks:List KK} {l m:List Value},gQ ks l m->l.length=ks.length/\m.length=ks.length
 |[],l,m,h=>by obtain⟨rfl,rfl⟩:=h;exact⟨rfl,rfl⟩
 |q::ks,l,m,h=>by
  obtain⟨u,l',v,m',rfl,rfl,_,h⟩:=h
  obtain⟨h1,h2⟩:=gQ.len h
  simp[h1,h2]
theorem gQ.append:∀{ks ks':List KK} {l m l' m':List Value},gQ ks l m->gQ ks' l' m'->gQ (ks++ks') (l++l') (m++m')
 |[],ks',l,m,l',m',h,h'=>by obtain⟨rfl,rfl⟩:=h;simpa using h'
 |q::ks,ks',l,m,l',m',h,h'=>by
  obtain⟨u,l1,v,m1,rfl,rfl,g,h⟩:=h
  exact⟨u,l1++l',v,m1++m',rfl,rfl,g,gQ.append h h'⟩
theorem OY{E:ax}{ks2:List KK}{f:Bool->Out}:∀(ks1:List KK) {a c:AV} {l m:List Value},au E a l->au E c m->pg (ks1++ks2) a c f=some r ->
 (∃a' c' l1 m1 l2 m2,l=l1++l2/\m=m1++m2/\gQ ks1 l1 m1/\au E a' l2/\au E c' m2/\pg ks2 a' c' f=some r) ∨
 (f false=some r/\∃ks0 q ks3 l1 m1 u v l2 m2,ks1=ks0++q::ks3/\l=l1++u::l2/\m=m1++v::m2/\gQ ks0 l1 m1/\kL q false u v)
 |[],a,c,l,m,ha,hc,h=>.inl ⟨a,c,[],[],l,m,rfl,rfl,⟨rfl,rfl⟩,ha,hc,h⟩
 |q::ks1,a,c,l,m,ha,hc,h=>by
  obtain⟨x,l',rfl,h⟩:=uC (show jD a _=some r from h)
  obtain⟨y,m',rfl,h⟩:=uC h
  obtain⟨b,h,hb⟩:=Nk h
  simp only[au]at ha hc
  obtain⟨u,xs',rfl,hu,ha⟩:=ha
  obtain⟨v,ys',rfl,hv,hc⟩:=hc
  have hb:=hb E u v hu hv
  rcases iB h with ⟨rfl,h⟩ | ⟨rfl,h⟩
  ·rcases OY ks1 ha hc h with ⟨a',c',l1,m1,l2,m2,rfl,rfl,h1,h2,h3,h4⟩ | ⟨h1,ks0,q',ks3,l1,m1,u',v',l2,m2,rfl,rfl,rfl,h2,h3⟩
   ·exact .inl ⟨a',c',u::l1,v::m1,l2,m2,rfl,rfl,⟨u,l1,v,m1,rfl,rfl,hb,h1⟩,h2,h3,h4⟩
   ·exact .inr ⟨h1,q::ks0,q',ks3,u::l1,v::m1,u',v',l2,m2,rfl,rfl,rfl,⟨u,l1,v,m1,rfl,rfl,hb,h2⟩,h3⟩
  ·exact .inr ⟨h,[],q,ks1,[],[],u,v,xs',ys',rfl,rfl,rfl,⟨rfl,rfl⟩,hb⟩
theorem Oq{t:TypeId}{ks:List KK}(h:yO P t=some ks):(∃q,jw P t=some q/\ks=[q]) ∨
 (∃n e q i,P.underlying t=some (.array n e)/\jw P e=some q/\P.info? e=some i/\P.cellsOf e=1/\cB P t=some n/\ks=List.replicate n q) ∨
 ∃fs,P.underlying t=some (.struct fs)/\nW P fs.toList 0=some ks/\cB P t=some ks.length/\P.stoodInHeld t=false:=by
 unfold yO at h
 split at h
 ·cases h;exact .inl ⟨_,‹_›,rfl⟩
 ·split at h
  ·rename_i n e hu
   split at h
   ·rename_i q m hq h1 hm
    split at h
    ·rename_i hb
     cases h
     have:=Nat.eq_of_beq_eq_true hb
     subst this
     unfold cB at h1
     split at h1
     ·rename_i i hi
      exact .inr (.inl ⟨_,e,q,i,hu,hq,hi,by unfold Program.cellsOf;rw[hi];simpa using h1,hm,rfl⟩)
     ·cases h1
    ·cases h
   ·cases h
  ·rename_i fs hu
   split at h
   ·rename_i ks' m h1 h2 h3
    split at h
    ·rename_i hb
     cases h
     have:=Nat.eq_of_beq_eq_true hb
     subst this
     exact .inr (.inr ⟨fs,hu,h1,h2,h3⟩)
    ·cases h
   ·cases h
  ·cases h
theorem yP {f : Field} {fs : List Field} {j : Nat} {ks : List KK} (h : nW P (f :: fs) j = some ks) : ∃ q ks', f.name ≠ "_" /\ f.offset = j /\ jw P f.type = some q /\ nW P fs (j + 1) = some ks' /\ ks = q :: ks' := by
 unfold nW at h
 split at h
 ·rename_i q hn hq
  rw[Bool.and_eq_true]at hn
  split at h
  ·rename_i ks' hks
   cases h
   exact⟨q,ks',by simpa using hn.1,Nat.eq_of_beq_eq_true hn.2,hq,hks,rfl⟩
  ·cases h
 ·cases h
theorem Om(d:Nat)(w:World):∀(fs:List Field) (p p':List Value) (ks:List KK),p'.length=p.length->nW P fs p.length=some ks->∀{l m s s':List Value},gQ ks l m ->
 (Op.eqFields (d+1) (p++(l++s)).toArray (p'++(m++s')).toArray fs).run P w = .ok true w
 |[],_,_,_,_,_,_,_,_,_,_=>rfl
 |f::fs,p,p',ks,hp,hk,l,m,s,s',hall=>by
  obtain⟨q,ks',hname,hoff,hq,hks,rfl⟩:=yP hk
  obtain⟨u,l',v,m',rfl,rfl,g,h2⟩:=hall
  have ih:=Om d w fs (p++[u]) (p'++[v]) ks' (by simp[hp]) (by simpa using hks) (s:=s) (s':=s') h2
  have p1:(part f.type (p++(u::l'++s)).toArray p.length).run P w = .ok u w:=by simp[part,gX (iZ hq)]
  have p2:(part f.type (p'++(v::m'++s')).toArray p.length).run P w = .ok v w:=by simp[part,gX (iZ hq),<-hp]
  have p3:=sM (w:=w) hq g d
  simp only[List.append_assoc,List.singleton_append]at ih
  simp only[Op.eqFields,if_pos hname,Sem.run_bind,hoff,p1,p2,p3,Result.andThen_ok]
  simpa using ih
theorem Ol(d:Nat)(w:World):∀(fs:List Field) (p p':List Value) (ks0:List KK) (q:KK) (ks3:List KK),p'.length=p.length->nW P fs p.length=some (ks0++q::ks3)->∀{l m l2 m2:List Value} {u v:Value},gQ ks0 l m->kL q false u v ->
 (Op.eqFields (d+1) (p++(l++u::l2)).toArray (p'++(m++v::m2)).toArray fs).run P w = .ok false w
 |[],_,_,_,_,_,_,hk,_,_,_,_,_,_,_,_=>by simp[nW]at hk
 |f::fs,p,p',[],q,ks3,hp,hk,l,m,l2,m2,u,v,hall,hne=>by
  obtain⟨q',ks',hname,hoff,hq,hks,e⟩:=yP hk
  cases e
  obtain⟨rfl,rfl⟩:=hall
  have p1:(part f.type (p++([]++u::l2)).toArray p.length).run P w = .ok u w:=by simp[part,gX (iZ hq)]
  have p2:(part f.type (p'++([]++v::m2)).toArray p.length).run P w = .ok v w:=by simp[part,gX (iZ hq),<-hp]
  have p3:=sM (w:=w) hq hne d
  simp only[Op.eqFields,if_pos hname,Sem.run_bind,hoff,p1,p2,p3,Result.andThen_ok]
  simp
 |f::fs,p,p',k0::ks0,q,ks3,hp,hk,l,m,l2,m2,u,v,hall,hne=>by
  obtain⟨q',ks',hname,hoff,hq,hks,e⟩:=yP hk
  cases e
  obtain⟨u',l',v',m',rfl,rfl,g,h2⟩:=hall
  have ih:=Ol d w fs (p++[u']) (p'++[v']) ks0 q ks3 (by simp[hp]) (by simpa using hks) (l2:=l2) (m2:=m2) h2 hne
  have p1:(part f.type (p++(u'::l'++u::l2)).toArray p.length).run P w = .ok u' w:=by simp[part,gX (iZ hq)]
  have p2:(part f.type (p'++(v'::m'++v::m2)).toArray p.length).run P w = .ok v' w:=by simp[part,gX (iZ hq),<-hp]
  have p3:=sM (w:=w) hq g d
  simp only[List.append_assoc,List.singleton_append]at ih
  simp only[Op.eqFields,if_pos hname,Sem.run_bind,hoff,p1,p2,p3,Result.andThen_ok]
  simpa using ih
theorem Nt{e:TypeId}{q:KK}(hq:jw P e=some q)(d:Nat){xs ys:Array Value}:∀(is:List Nat),(∀i∈is,∃u v,xs[i]? = some u/\ys[i]? = some v/\kL q true u v) ->
 ∀w,(Op.eqItems (d+1) e 1 xs ys is).run P w = .ok true w
 |[],_,w=>rfl
 |i::is,h,w=>by
  obtain⟨u,v,h1,h2,h3⟩:=h i (List.mem_cons_self ..)
  have p1:(part e xs i).run P w = .ok u w:=by simp[part,gX (iZ hq),h1]
  have p2:(part e ys i).run P w = .ok v w:=by simp[part,gX (iZ hq),h2]
  have p3:=sM (w:=w) hq h3 d
  have ih:=Nt hq d (xs:=xs) (ys:=ys) is (fun j hj=>h j (List.mem_cons_of_mem _ hj)) w
  simp only[Op.eqItems,Sem.run_bind,Nat.mul_one,p1,p2,p3,Result.andThen_ok]
  simpa using ih
theorem Ns{e:TypeId}{q:KK}(hq:jw P e=some q)(d:Nat){xs ys:Array Value}{j:Nat}{us vs:Value}(hj1:xs[j]? = some us)(hj2:ys[j]? = some vs)(hj3:kL q false us vs):∀(is:List Nat) (js:List Nat),(∀i∈is,∃u v,xs[i]? = some u/\ys[i]? = some v/\kL q true u v) ->
 ∀w,(Op.eqItems (d+1) e 1 xs ys (is++j::js)).run P w = .ok false w
 |[],js,_,w=>by
  have p1:(part e xs j).run P w = .ok us w:=by simp[part,gX (iZ hq),hj1]
  have p2:(part e ys j).run P w = .ok vs w:=by simp[part,gX (iZ hq),hj2]
  have p3:=sM (w:=w) hq hj3 d
  simp only[List.nil_append,Op.eqItems,Sem.run_bind,Nat.mul_one,p1,p2,p3,Result.andThen_ok]
  simp
 |i::is,js,h,w=>by
  obtain⟨u,v,h1,h2,h3⟩:=h i (List.mem_cons_self ..)
  have p1:(part e xs i).run P w = .ok u w:=by simp[part,gX (iZ hq),h1]
  have p2:(part e ys i).run P w = .ok v w:=by simp[part,gX (iZ hq),h2]
  have p3:=sM (w:=w) hq h3 d
  have ih:=Ns hq d hj1 hj2 hj3 is js (fun j hj=>h j (List.mem_cons_of_mem _ hj)) w
  simp only[List.cons_append,Op.eqItems,Sem.run_bind,Nat.mul_one,p1,p2,p3,Result.andThen_ok]
  simpa using ih
theorem gQ.get:∀{ks:List KK} {l m:List Value},gQ ks l m->∀(i:Nat) (q:KK),ks[i]? = some q->∃u v,l[i]? = some u/\m[i]? = some v/\kL q true u v
 |[],l,m,_,i,q,h=>by simp at h
 |q0::ks,l,m,h,i,q,hq=>by
  obtain⟨u,l',v,m',rfl,rfl,g,h⟩:=h
  cases i with
  |zero =>
   have:q0=q:=by simpa using hq
   subst this
   exact⟨u,v,rfl,rfl,g⟩
  |succ i=>exact gQ.get h i q (by simpa using hq)
theorem Kw{t:TypeId}{ks:List KK}(h:yO P t=some ks)(d:Nat){p p' rx ry:List Value}(hl:p'.length=p.length){b:Bool}
 (hb:(b=true/\∃l1 m1 s s',rx=l1++s/\ry=m1++s'/\gQ ks l1 m1)∨(b=false/\∃ks0 q ks3 l0 m0 u v l2 m2,ks=ks0++q::ks3/\rx=l0++u::l2/\ry=m0++v::m2/\gQ ks0 l0 m0/\kL q false u v)) (w:World) :
 ∃u v,(part t (p++rx).toArray p.length).run P w = .ok u w/\(part t (p'++ry).toArray p.length).run P w = .ok v w/\(Op.equalIn (d+2) t u v).run P w = .ok b w:=by
 rcases Oq h with ⟨q,hq,rfl⟩ | ⟨n,e,q,i,hu,hq,hi,hc1,hz,rfl⟩ | ⟨fs,hu,hk1,hz,hst⟩
 ·have key:∀u v s s',rx=u::s->ry=v::s'->kL q b u v->∃u v,(part t (p++rx).toArray p.length).run P w = .ok u w/\(part t (p'++ry).toArray p.length).run P w = .ok v w/\(Op.equalIn (d+2) t u v).run P w = .ok b w:=by
   rintro u v s s' rfl rfl hk
   exact⟨u,v,by simp[part,gX (iZ hq)],by simp[part,gX (iZ hq),<-hl],sM hq hk (d+1)⟩
  rcases hb with ⟨rfl,l1,m1,s,s',e1,e2,u',l',v',m',rfl,rfl,h3,_⟩ | ⟨rfl,ks0,q',ks3,l0,m0,u',v',l2,m2,e0,e1,e2,h4,h3⟩
  ·exact key u' v' (l'++s) (m'++s') e1 e2 h3
  ·cases ks0 with
   |nil =>
    cases e0
    obtain⟨rfl,rfl⟩:=h4
    exact key u' v' l2 m2 e1 e2 h3
   |cons _ _=>simp at e0
 ·have ha:dQ P t=some true:=by unfold dQ;rw[hu]
  have px:∀(p l:List Value),(part t (p++l).toArray p.length).run P w = .ok (.agg (l.take n).toArray) w:=fun p l=>by
   simp[part,xJ ha,run_sizeOf hz,List.extract_eq_take_drop]
  refine⟨_,_,px p rx,by rw[<-hl];exact px p' ry,?_⟩
  rw[run_equalIn_array w (d+1) _ _ hu hi,hc1]
  rcases hb with ⟨rfl,l1,m1,s,s',rfl,rfl,hall⟩ | ⟨rfl,ks0,q',ks3,l0,m0,u',v',l2,m2,e0,rfl,rfl,h2,h3⟩
  ·obtain⟨h4,h5⟩:=hall.len
   rw[List.length_replicate]at h4 h5
   rw[<-h4,List.take_left,h4,<-h5,List.take_left,h5]
   refine Nt hq d _ (fun j hj=>?_) w
   rw[List.mem_range]at hj
   obtain⟨u,v,g1,g2,g3⟩:=hall.get j q (by rw[List.getElem?_replicate,if_pos hj])
   exact⟨u,v,by simpa using g1,by simpa using g2,g3⟩
  ·obtain⟨h4,h5⟩:=h2.len
   have hlen:ks0.length+1+ks3.length=n:=by
    have:=congrArg List.length e0
    simp only[List.length_replicate,List.length_append,List.length_cons]at this
    omega
   have hrep:∀j x,(ks0++q'::ks3)[j]? = some x->x=q:=fun j x hx=>by
    rw[<-e0,List.getElem?_replicate]at hx
    split at hx<;>cases hx
    rfl
   have hq':q' = q:=hrep ks0.length q' (by simp)
   subst hq'
   have er:List.range n=List.range ks0.length++ks0.length::(List.range ks3.length).map (fun x=>ks0.length+1+x):=by
    rw[<-hlen,List.range_add,List.range_succ]
    simp
   rw[er]
   have tk:∀(l:List Value) (j:Nat),j<n->(l.take n).toArray[j]? = l[j]?:=fun l j hj=>by
    rw[List.getElem?_toArray,List.getElem?_take_of_lt hj]
   refine Ns hq d (j:=ks0.length) (us:=u') (vs:=v') (by rw[tk _ _ (by omega),<-h4];simp) (by rw[tk _ _ (by omega),<-h5];simp) h3 _ _ (fun j hj=>?_) w
   rw[List.mem_range]at hj
   obtain⟨u,v,g1,g2,g3⟩:=h2.get j ks0[j] (List.getElem?_eq_getElem hj)
   have hqj:=hrep j ks0[j] (by rw[List.getElem?_append_left hj];exact List.getElem?_eq_getElem hj)
   rw[hqj]at g3
   refine⟨u,v,?_,?_,g3⟩
   ·rw[tk _ _ (by omega),List.getElem?_append_left (by omega)];exact g1
   ·rw[tk _ _ (by omega),List.getElem?_append_left (by omega)];exact g2
 ·have ha:dQ P t=some true:=by unfold dQ;rw[hu]
  have px:∀(p l:List Value),(part t (p++l).toArray p.length).run P w = .ok (.agg (l.take ks.length).toArray) w:=fun p l=>by
   simp[part,xJ ha,run_sizeOf hz,List.extract_eq_take_drop]
  refine⟨_,_,px p rx,by rw[<-hl];exact px p' ry,?_⟩
  have hfs:P.fieldsOf t=fs:=by simp[Program.fieldsOf,hu]
  rw[run_equalIn_struct w (d+1) t _ _ (by rw[hfs];exact hu) hst,hfs]
  rcases hb with ⟨rfl,l1,m1,s,s',rfl,rfl,hall⟩ | ⟨rfl,ks0,q',ks3,l0,m0,u',v',l2,m2,e0,rfl,rfl,h2,h3⟩
  ·obtain⟨h4,h5⟩:=hall.len
   rw[<-h4,List.take_left,h4,<-h5,List.take_left]
   have:=Om (P:=P) d w fs.toList [] [] ks rfl hk1 (s:=[]) (s':=[]) hall
   simpa using this
  ·obtain⟨h4,h5⟩:=h2.len
   subst e0
   have e1:(l0++u'::l2).take (ks0++q'::ks3).length=l0++u'::l2.take ks3.length:=by
    rw[show(ks0++q'::ks3).length=l0.length+(ks3.length+1) by simp[h4],List.take_length_add_append,List.take_succ_cons]
   have e2:(m0++v'::m2).take (ks0++q'::ks3).length=m0++v'::m2.take ks3.length:=by
    rw[show(ks0++q'::ks3).length=m0.length+(ks3.length+1) by simp[h5],List.take_length_add_append,List.take_succ_cons]
   rw[e1,e2]
   exact Ol (P:=P) d w fs.toList [] [] ks0 q' ks3 rfl hk1 h2 h3
theorem Gq{d:Nat}{f:Bool->Out}:∀(fs:List Field) (p p' xs ys:List Value) (ks:List KK),p'.length=p.length->flatK P fs p.length=some ks->∀{a c:AV},au E a xs->au E c ys->pg ks a c f=some r ->
 ∃b,f b=some r/\(∀w,(Op.eqFields (d+2) (p++xs).toArray (p'++ys).toArray fs).run P w = .ok b w)/\(b=true->gQ ks xs ys)
 |[],p,p',xs,ys,ks,_,hk,a,c,ha,hc,h=>by
  cases hk
  obtain⟨hn,h⟩:=aJ (show must (and (nP a) (nP c)) (f true)=some r from h)
  rw[Bool.and_eq_true]at hn
  have key:∀{x:AV} {l:List Value},au E x l->nP x=true->l=[]:=fun {x l} hx hn=>by
   cases x<;>first | (simp only[au]at hx;exact hx) | cases hn
  exact⟨true,h,fun _=>rfl,fun _=>⟨key ha hn.1,key hc hn.2⟩⟩
 |fd::fs,p,p',xs,ys,ks,hp,hk,a,c,ha,hc,h=>by
  simp only[flatK]at hk
  split at hk
  ·rename_i ks1 hn hq
   split at hk
   ·rename_i ks' hks
    cases hk
    rw[Bool.and_eq_true]at hn
    have hoff:fd.offset=p.length:=Nat.eq_of_beq_eq_true hn.2
    have hname : fd.name ≠ "_" := by simpa using hn.1
    rcases OY ks1 ha hc h with ⟨a',c',l1,m1,l2,m2,rfl,rfl,h1,h2,h3,h4⟩ | ⟨h1,ks0,q',ks3,l1,m1,u',v',l2,m2,e0,rfl,rfl,h2,h3⟩
    ·obtain⟨g1,g2⟩:=h1.len
     obtain⟨b,e,hb,hall⟩:=Gq (d:=d) fs (p++l1) (p'++m1) l2 m2 ks' (by simp[hp,g1,g2]) (by rw[List.length_append,g1];exact hks) h2 h3 h4
     refine⟨b,e,fun w=>?_,fun eb=>h1.append (hall eb)⟩
     obtain⟨u,v,p1,p2,p3⟩:=Kw hq d (p:=p) (p':=p') (rx:=l1++l2) (ry:=m1++m2) hp (.inl ⟨rfl,l1,m1,l2,m2,rfl,rfl,h1⟩) w
     have hb:=hb w
     simp only[List.append_assoc]at hb
     simp only[Op.eqFields,if_pos hname,Sem.run_bind,hoff,p1,p2,p3,Result.andThen_ok]
     simpa using hb
    ·refine⟨false,h1,fun w=>?_,fun e=>by cases e⟩
     obtain⟨u,v,p1,p2,p3⟩:=Kw hq d (p:=p) (p':=p') (rx:=l1++u'::l2) (ry:=m1++v'::m2) hp (.inr ⟨rfl,ks0,q',ks3,l1,m1,u',v',_,_,e0,rfl,rfl,h2,h3⟩) w
     simp only[Op.eqFields,if_pos hname,Sem.run_bind,hoff,p1,p2,p3,Result.andThen_ok]
     simp
   ·cases hk
  ·cases hk
theorem y1I(hs:aB B E st w)(ht:aU E nt tm a){op:BinOp}{t t':TypeId}{x y:Operand}(ho:o.op = .binOp op t x y t'){fs:Array Field}(hu:P.underlying t=some (.struct fs)){ks:List KK}(hk:eT P t fs=some ks)
 (h:EF (bo op) ks (co x) (co y) tm st k=some r):Reads P E st w a o k r:=by
 unfold EF at h
 obtain⟨c,hc,h⟩:=qI h
 obtain⟨c',hc',h⟩:=qI h
 have hx:=aT hs ht x
 have hy:=aT hs ht y
 rw[hc]at hx
 rw[hc']at hy
 simp only[ag]at hx hy
 obtain⟨xs,hx,hrx⟩:=hx
 obtain⟨ys,hy,hry⟩:=hy
 unfold eT at hk
 split at hk
 ·rename_i ks' h1 h2 h3
  cases hk
  have hfs:P.fieldsOf t=fs:=by simp[Program.fieldsOf,hu]
  obtain⟨b,h,hb,_⟩:=Gq (P:=P) (d:=9997) fs.toList [] [] xs ys ks rfl h1 hrx hry h
  have he:(Op.equalIn 10000 t (.agg xs.toArray) (.agg ys.toArray)).run P w = .ok b w:=by
   rw[show(10000:Nat)=9999+1 from rfl,run_equalIn_struct w 9999 t _ _ (by rw[hfs];exact hu) h2,hfs]
   exact hb w
  refine Gs ho h (by rw[hx,hy];exact run_eqGuard_agg w op t x y _ _ h3) ?_ ?_
  ·rw[hx,hy,run_eql_struct,he];rfl
  ·rw[hx,hy,run_neq_struct,he];rfl
 ·cases hk
theorem Gp{c:Call}{b:Builtin}(ho:o.op = .call c)(hc:c.callee = .builtin b):∃cs,execOp a.eval o=builtin b c.argTypes o.type cs (c.args.map a.eval):=by
 refine⟨(c.args.map fun | .const _=>true | _=>false),?_⟩
 unfold execOp
 rw[ho]
 simp only[resolve,hc]
 rfl
theorem pX{c:Call}{b:Builtin}(ho:o.op = .call c)(hc:c.callee = .builtin b){s:Sem Value}(hb:∀cs,builtin b c.argTypes o.type cs (c.args.map a.eval)=(do pure (.value (<-s))))
 {v:AV} {u:Value} (hr:s.run P w = .ok u w) (hv:ag E v u) (hk:k v st=some r):Reads P E st w a o k r:=by
 obtain⟨cs,he⟩:=Gp (a:=a) ho hc
 exact dW (he.trans (hb cs)) hr hv hk
theorem wS{c:Call}{x:Operand}(hx:c.args.toList=[x]):c.args.map a.eval=#[a.eval x]:=by
 have:c.args=#[x]:=by rw[<-hx]
 rw[this];simp
theorem Cy{c:Call}{x y:Operand}(hx:c.args.toList=[x,y]):c.args.map a.eval=#[a.eval x,a.eval y]:=by
 have:c.args=#[x,y]:=by rw[<-hx]
 rw[this];simp
theorem sI{c:Call}{j:Nat}{d:TypeDesc}(h:und P c j=some d):∃t,c.argTypes[j]? = some t/\P.underlying t=some d:=by
 unfold und at h
 split at h
 ·exact⟨_,‹_›,h⟩
 ·cases h
theorem Xu(hs:aB B E st w)(ht:aU E nt tm a){c:Call}{x:Operand}(ho:o.op = .call c)(hc:c.callee = .builtin .len)(hx:c.args.toList=[x])(hu:und P c 0=some .string)(h:Ej (co x) tm st k=some r):Reads P E st w a o k r:=by
 unfold Ej at h
 obtain⟨l,hl,h⟩:=mQ h
 rw[gV]at h
 have hv:=aT hs ht x
 rw[hl]at hv
 simp only[ag]at hv
 obtain⟨s,hv,rfl⟩:=hv
 obtain⟨t,h1,h2⟩:=sI hu
 refine pX ho hc (s:=Builtin.len_ c.argTypes o.type (c.args.map a.eval)) (fun _=>rfl) (u:=goInt s.size) ?_ ?_ h
 ·simp[Builtin.len_,h1,wS hx,run_underlying h2,hv]
 ·simp only[ag,goInt,List.length_map]
  rfl
theorem Xw(hs:aB B E st w)(ht:aU E nt tm a){c:Call}{x:Operand}{e:TypeId}(ho:o.op = .call c)(hc:c.callee = .builtin .len)(hx:c.args.toList=[x])(hu:und P c 0=some (.slice e))(h:Em (co x) tm st k=some r):Reads P E st w a o k r:=by
 unfold Em at h
 have hv:=aT hs ht x
 obtain⟨t,h1,h2⟩:=sI hu
 rcases lJ h with ⟨hl,h⟩ | ⟨b,q,n,hl,h⟩
 ·rw[hl]at hv
  simp only[ag]at hv
  refine pX ho hc (s:=Builtin.len_ c.argTypes o.type (c.args.map a.eval)) (fun _=>rfl) (u:=goInt 0) ?_ ?_ h
  ·simp[Builtin.len_,h1,wS hx,run_underlying h2,hv]
  ·simp only[ag,goInt];rfl
 ·rw[hl]at hv
  simp only[ag]at hv
  obtain⟨l,_,_,off,_,hv⟩:=hv
  refine pX ho hc (s:=Builtin.len_ c.argTypes o.type (c.args.map a.eval)) (fun _=>rfl) (u:=goInt n) ?_ ?_ h
  ·simp[Builtin.len_,h1,wS hx,run_underlying h2,hv]
  ·simp only[ag,goInt];rfl
theorem dI.len:∀{es:ME} {l:List MapEntry},dI E es l->yx es=l.length:=by
 intro es
 induction es with
 |nil=>intro l h;simp only[dI]at h;subst h;rfl
 |cons k v n r ih =>
  intro l h
  obtain⟨e,m,rfl,_,_,_,h4⟩:=h
  have:=ih h4
  simp only[List.length_cons,<-this]
  rfl
theorem aB.map(hs:aB B E st w){b:Nat}{v:Value}(hv:ag E (.m b) v){es:ME}{c:Nat}(hq:T.get (az b) st.h=some (.mp es c)) :
 ∃(l:Loc) (ar:Array MapEntry),E b=some l/\v = .map (some l.blk)/\w.heap[l.blk]? = some (.map ar c)/\dI E es ar.toList:=by
 simp only[ag]at hv
 obtain⟨l,hl,rfl⟩:=hv
 obtain⟨l',hl',ar,h1,h2⟩:=hs.live b _ (hs.lt hl) hq
 rw[hl]at hl'
 cases hl'
 exact⟨l,ar,hl,rfl,h1,h2⟩
theorem run_getObj_map{g:Nat}{ar:Array MapEntry}{c:Nat}(h:w.heap[g]? = some (.map ar c)):(getObj g).run P w = .ok (.map ar c) w:=by
 simp[getObj,Sem.run,h]
theorem Xv(hs:aB B E st w)(ht:aU E nt tm a){c:Call}{x:Operand}{q e:TypeId}(ho:o.op = .call c)(hc:c.callee = .builtin .len)(hx:c.args.toList=[x])(hu:und P c 0=some (.map q e))(h:El (co x) tm st k=some r):Reads P E st w a o k r:=by
 unfold El at h
 have hv:=aT hs ht x
 obtain⟨t,h1,h2⟩:=sI hu
 rcases Cx h with ⟨hl,h⟩ | ⟨b,hl,h⟩
 ·rw[hl]at hv
  simp only[ag]at hv
  refine pX ho hc (s:=Builtin.len_ c.argTypes o.type (c.args.map a.eval)) (fun _=>rfl) (u:=goInt 0) ?_ ?_ h
  ·simp[Builtin.len_,h1,wS hx,run_underlying h2,hv]
  ·simp only[ag,goInt];rfl
 ·obtain⟨ob,hob,h⟩:=jM h
  obtain⟨es,cl,rfl,h'⟩:=vJ h
  rw[gV]at h'
  rw[hl]at hv
  obtain⟨l,ar,_,hv,hm,hme⟩:=hs.map hv hob
  refine pX ho hc (s:=Builtin.len_ c.argTypes o.type (c.args.map a.eval)) (fun _=>rfl) (u:=goInt ar.size) ?_ ?_ h'
  ·simp[Builtin.len_,h1,wS hx,run_underlying h2,hv,run_getObj_map hm]
  ·simp only[ag,goInt,hme.len]
   simp
theorem VZ(hs:aB B E st w)(ht:aU E nt tm a){c:Call}{x y:Operand}(ho:o.op = .call c)(hc:c.callee = .builtin .max)(hx:c.args.toList=[x,y])(h:Ee (co x) (co y) tm st k=some r):Reads P E st w a o k r:=by
 unfold Ee at h
 obtain⟨q,m,hm,h⟩:=jC h
 obtain⟨q2,n,hn,h⟩:=jC h
 obtain⟨hq,h⟩:=aJ h
 have hq:=uh hq
 have h1:=aT hs ht x
 have h2:=aT hs ht y
 rw[hm]at h1
 rw[hn,<-hq]at h2
 simp only[ag]at h1 h2
 have run:(Builtin.max_ c.argTypes o.type (c.args.map a.eval)).run P w = .ok (.int q (if n>m then n else m)) w:=by
  simp[Builtin.max_,Cy hx,h1,h2,Builtin.max2]
 rcases iB h with ⟨hl,h⟩ | ⟨hl,h⟩
 ·have hl:=(yK _ _).1 hl
  refine pX ho hc (s:=Builtin.max_ c.argTypes o.type (c.args.map a.eval)) (fun _=>rfl) run ?_ h
  simp only[ag]
  congr 1;split<;>omega
 ·have hl:¬ m<=n:=fun e=>by rw[<-yK,hl]at e;cases e
  refine pX ho hc (s:=Builtin.max_ c.argTypes o.type (c.args.map a.eval)) (fun _=>rfl) run ?_ h
  simp only[ag]
  congr 1;split<;>omega
theorem Wm(hs:aB B E st w)(ht:aU E nt tm a){c:Call}{x y:Operand}(ho:o.op = .call c)(hc:c.callee = .builtin .min)(hx:c.args.toList=[x,y])(h:Eg (co x) (co y) tm st k=some r):Reads P E st w a o k r:=by
 unfold Eg at h
 obtain⟨q,m,hm,h⟩:=jC h
 obtain⟨q2,n,hn,h⟩:=jC h
 obtain⟨hq,h⟩:=aJ h
 have hq:=uh hq
 have h1:=aT hs ht x
 have h2:=aT hs ht y
 rw[hm]at h1
 rw[hn,<-hq]at h2
 simp only[ag]at h1 h2
 have run:(Builtin.min_ c.argTypes o.type (c.args.map a.eval)).run P w = .ok (.int q (if n<m then n else m)) w:=by
  simp[Builtin.min_,Cy hx,h1,h2,Builtin.min2]
 rcases iB h with ⟨hl,h⟩ | ⟨hl,h⟩
 ·have hl:=(yK _ _).1 hl
  refine pX ho hc (s:=Builtin.min_ c.argTypes o.type (c.args.map a.eval)) (fun _=>rfl) run ?_ h
  simp only[ag]
  congr 1;split<;>omega
 ·have hl:¬ m<=n:=fun e=>by rw[<-yK,hl]at e;cases e
  refine pX ho hc (s:=Builtin.min_ c.argTypes o.type (c.args.map a.eval)) (fun _=>rfl) run ?_ h
  simp only[ag]
  congr 1;split<;>omega
end
end Go.AM
