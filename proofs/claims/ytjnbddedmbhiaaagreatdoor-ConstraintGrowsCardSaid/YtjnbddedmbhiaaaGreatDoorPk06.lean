/-
  Numbers; fields; addresses of elements; bytes of strings.
-/
import Derived.Test.YtjnbddedmbhiaaaGreatDoorPk05
namespace Go.AM
open Go.RowKit
theorem wrap_small(q:IntKind){n:Nat}(h:n<=127):q.wrap (n:Int)=n:=by
 cases q<;>simp[IntKind.wrap,IntKind.bits,IntKind.signed]<;>omega
theorem nN{E:ax}{r:List (AV × St)}{q:IntKind}{n:Int}{k:AV->Out}(h:kI q n k=some r):∃v,ag E v (.int q (q.wrap n))/\k v=some r:=by
 cases n with
 |negSucc m=>exact⟨.i q (q.wrap (.negSucc m)),by simp only[ag],h⟩
 |ofNat m =>
  have h:fM m (fun a=>iff (Nat.ble a 127) (k (.i q (.ofNat a))) (k (.i q (q.wrap (.ofNat a)))))=some r:=h
  rw[gV]at h
  rcases iB h with ⟨hb,h⟩ | ⟨_,h⟩
  ·have hb:m<=127:=Nat.le_of_ble_eq_true hb
   refine⟨_,?_,h⟩
   simp only[ag]
   exact congrArg (Value.int q) (wrap_small q hb)
  ·exact⟨_,by simp only[ag],h⟩
theorem uh{a b:IntKind}(h:lu a b=true):a=b:=by
 cases a<;>cases b<;>first | rfl | exact absurd h (by decide)
theorem OT(x y:Int):mG x y=true↔x=y:=by
 cases x with
 |ofNat m=>cases y with
  |ofNat n=>exact⟨fun h=>congrArg Int.ofNat (Nat.eq_of_beq_eq_true h),fun h=>by cases h;exact Nat.beq_refl _⟩
  |negSucc n=>exact⟨fun h=>(nomatch (show false=true from h)),fun h=>nomatch h⟩
 |negSucc m=>cases y with
  |ofNat n=>exact⟨fun h=>(nomatch (show false=true from h)),fun h=>nomatch h⟩
  |negSucc n=>exact⟨fun h=>congrArg Int.negSucc (Nat.eq_of_beq_eq_true h),fun h=>by cases h;exact Nat.beq_refl _⟩
theorem yS(x y:Int):mG x y=(x==y):=by
 rw[Bool.eq_iff_iff,OT,beq_iff_eq]
theorem yK(x y:Int):j6 x y=true↔x<=y:=by
 cases x with
 |ofNat m=>cases y with
  |ofNat n =>
   have e:j6 (.ofNat m) (.ofNat n)=Nat.ble m n:=rfl
   rw[e,Nat.ble_eq]
   exact Int.ofNat_le.symm
  |negSucc n=>exact⟨fun h=>(nomatch (show false=true from h)),fun h=>by have:(0:Int)<=Int.ofNat m:=Int.natCast_nonneg m;have h2:=Int.negSucc_lt_zero n;omega⟩
 |negSucc m=>cases y with
  |ofNat n=>exact⟨fun _=>by have:(0:Int)<=Int.ofNat n:=Int.natCast_nonneg n;have h2:=Int.negSucc_lt_zero m;omega,fun _=>rfl⟩
  |negSucc n =>
   have e:j6 (.negSucc m) (.negSucc n)=Nat.ble n m:=rfl
   rw[e,Nat.ble_eq,Int.negSucc_eq,Int.negSucc_eq]
   omega
theorem AZ(x y:Int):j6 x y=decide (x<=y):=by rw[Bool.eq_iff_iff,yK,decide_eq_true_iff]
theorem MB(x y:Int):decide (x<y) = !decide (y<=x):=by rw[Bool.eq_iff_iff];simp
section
variable {P:Program}{E:ax}{w:World}{r:List (AV × St)}
theorem tF{x y:Int}{f:Nat->Nat->Out}{g:Out}(h:nn x y f g=some r):(∃a b:Nat,x=a/\y=b/\f a b=some r)∨g=some r:=by
 cases x with
 |negSucc m=>exact .inr h
 |ofNat m=>cases y with
  |negSucc n=>exact .inr h
  |ofNat n=>exact .inl ⟨m,n,rfl,rfl,h⟩
theorem zQ(n a:Nat):(BitVec.ofInt n (a:Int)).toNat=Nat.mod a (Nat.pow 2 n):=by
 show _=a % 2 ^ n
 rw[BitVec.ofInt_natCast,BitVec.toNat_ofNat]
theorem y1z{op:BinOp}{t:TypeId}{q:IntKind}{x y:Int}{k:AV->Out}(h:Hr (bo op) q x y k=some r) :
 ∃v u,(binOp op t (.int q x) (.int q y)).run P w = .ok u w/\ag E v u/\k v=some r:=by
 have cmp:∀b:Bool,ag E (.b b) (.bool b):=fun b=>by simp only[ag]
 cases op with
 |add=>obtain⟨v,hv,hk⟩:=nN (E:=E) (show kI q (x+y) k=some r from h);exact⟨v,_,by simp[binOp,Op.intArith],hv,hk⟩
 |sub=>obtain⟨v,hv,hk⟩:=nN (E:=E) (show kI q (x-y) k=some r from h);exact⟨v,_,by simp[binOp,Op.intArith],hv,hk⟩
 |mul=>obtain⟨v,hv,hk⟩:=nN (E:=E) (show kI q (x*y) k=some r from h);exact⟨v,_,by simp[binOp,Op.intArith],hv,hk⟩
 |eql=>exact⟨_,_,by simp[binOp,Op.intCmp];rfl,by rw[<-yS];exact cmp _,h⟩
 |neq=>exact⟨_,.bool (!mG x y),by rw[yS];simp[binOp,Op.intCmp,bne],cmp _,h⟩
 |lss=>exact⟨_,.bool (!j6 y x),by rw[AZ];simp[binOp,Op.intCmp,MB],cmp _,h⟩
 |leq=>exact⟨_,.bool (j6 x y),by rw[AZ];simp[binOp,Op.intCmp],cmp _,h⟩
 |gtr=>exact⟨_,.bool (!j6 x y),by rw[AZ];simp[binOp,Op.intCmp,MB],cmp _,h⟩
 |geq=>exact⟨_,.bool (j6 y x),by rw[AZ];simp[binOp,Op.intCmp],cmp _,h⟩
 |quo =>
  rcases tF h with ⟨a,b,rfl,rfl,h⟩ | h
  ·rcases iB h with ⟨_,h⟩ | ⟨hb,h⟩
   ·exact aS h
   ·have hb:b≠0:=fun e=>by subst e;cases hb
    obtain⟨v,hv,hk⟩:=nN (E:=E) h
    refine⟨v,_,?_,hv,hk⟩
    have e:Int.tdiv (a:Int) (b:Int)=Int.ofNat (Nat.div a b):=rfl
    simp[binOp,Op.intDiv,hb,e]
  ·exact aS h
 |rem =>
  rcases tF h with ⟨a,b,rfl,rfl,h⟩ | h
  ·rcases iB h with ⟨_,h⟩ | ⟨hb,h⟩
   ·exact aS h
   ·have hb:b≠0:=fun e=>by subst e;cases hb
    rw[gV]at h
    refine⟨_,.int q (Int.ofNat (Nat.mod a b)),?_,by simp only[ag],h⟩
    have e:Int.tmod (a:Int) (b:Int)=Int.ofNat (Nat.mod a b):=rfl
    simp[binOp,Op.intDiv,hb,e]
  ·exact aS h
 |and =>
  rcases tF (show nn x y (fun a b=>kI q (.ofNat (Nat.land (Nat.mod a (Nat.pow 2 q.bits)) (Nat.mod b (Nat.pow 2 q.bits)))) k) none=some r from h)with ⟨a,b,rfl,rfl,h'⟩ | h'
  ·obtain⟨v,hv,hk⟩:=nN (E:=E) h'
   refine⟨v,_,?_,hv,hk⟩
   simp only[binOp,ne_eq,not_true_eq_false,if_false,Op.intBits,BitVec.toNat_and,zQ]
   rfl
  ·exact aS h'
 |or =>
  rcases tF (show nn x y (fun a b=>kI q (.ofNat (Nat.lor (Nat.mod a (Nat.pow 2 q.bits)) (Nat.mod b (Nat.pow 2 q.bits)))) k) none=some r from h)with ⟨a,b,rfl,rfl,h'⟩ | h'
  ·obtain⟨v,hv,hk⟩:=nN (E:=E) h'
   refine⟨v,_,?_,hv,hk⟩
   simp only[binOp,ne_eq,not_true_eq_false,if_false,Op.intBits,BitVec.toNat_or,zQ]
   rfl
  ·exact aS h'
 |xor =>
  rcases tF (show nn x y (fun a b=>kI q (.ofNat (Nat.xor (Nat.mod a (Nat.pow 2 q.bits)) (Nat.mod b (Nat.pow 2 q.bits)))) k) none=some r from h)with ⟨a,b,rfl,rfl,h'⟩ | h'
  ·obtain⟨v,hv,hk⟩:=nN (E:=E) h'
   refine⟨v,_,?_,hv,hk⟩
   simp only[binOp,ne_eq,not_true_eq_false,if_false,Op.intBits,BitVec.toNat_xor,zQ]
   rfl
  ·exact aS h'
 |andNot =>
  rcases tF (show nn x y (fun a b=>kI q (.ofNat (Nat.land (Nat.mod a (Nat.pow 2 q.bits)) (Nat.sub (Nat.sub (Nat.pow 2 q.bits) 1) (Nat.mod b (Nat.pow 2 q.bits))))) k) none=some r from h)with ⟨a,b,rfl,rfl,h'⟩ | h'
  ·obtain⟨v,hv,hk⟩:=nN (E:=E) h'
   refine⟨v,_,?_,hv,hk⟩
   simp only[binOp,ne_eq,not_true_eq_false,if_false,Op.intBits,BitVec.toNat_and,BitVec.toNat_not,zQ]
   rfl
  ·exact aS h'
 |shl=>exact aS h
 |shr=>exact aS h
theorem Tc{l:Bool}{t:TypeId}{q q':IntKind}{x y:Int}{st:St}{k:K} (h:nn x y (fun a b=>must (Nat.ble b q.bits) (Bool.rec (motive:=fun _=>IntKind->Nat->Nat->St->K->Out)
 (fun q a b st k=>fM (Nat.div a (Nat.pow 2 b)) (fun c=>k (.i q (.ofNat c)) st)) (fun q a b st k=>kI q (.ofNat (Nat.mul a (Nat.pow 2 b))) (fun v=>k v st)) l q a b st k)) none=some r) :
 ∃v u,(binOp (if l=true then .shl else .shr) t (.int q x) (.int q' y)).run P w = .ok u w/\ag E v u/\k v st=some r:=by
 rcases tF h with ⟨a,b,rfl,rfl,h⟩ | h
 ·obtain⟨hb,h⟩:=aJ h
  have hb:b<=q.bits:=Nat.le_of_ble_eq_true hb
  have hneg:¬ ((b:Int)<0):=by omega
  have hmin:min b q.bits=b:=by omega
  cases l with
  |true =>
   obtain⟨v,hv,hk⟩:=nN (E:=E) (show kI q (.ofNat (Nat.mul a (Nat.pow 2 b))) (fun v=>k v st)=some r from h)
   refine⟨v,_,?_,hv,hk⟩
   have e:(a:Int)*2 ^ b=Int.ofNat (Nat.mul a (Nat.pow 2 b)):=by
    show _=((a*2 ^ b:Nat):Int)
    push_cast
    rfl
   simp only[if_true,binOp,Op.shift,hneg,if_false,Int.toNat_natCast,hmin,e,Sem.run_pure]
  |false =>
   have h:fM (Nat.div a (Nat.pow 2 b)) (fun c=>k (.i q (.ofNat c)) st)=some r:=h
   rw[gV]at h
   refine⟨_,.int q (Int.ofNat (Nat.div a (Nat.pow 2 b))),?_,by simp only[ag],h⟩
   have e:Int.fdiv (a:Int) (2 ^ b)=Int.ofNat (Nat.div a (Nat.pow 2 b)):=by
    have e2:((2:Int) ^ b)=((2 ^ b:Nat):Int):=by push_cast;rfl
    rw[e2,Int.fdiv_eq_ediv_of_nonneg _ (Int.natCast_nonneg _)]
    rfl
   simp only[Bool.false_eq_true,if_false,binOp,Op.shift,hneg,Int.toNat_natCast,hmin,e,Sem.run_pure]
 ·exact aS h
end
end Go.AM
namespace Go.AM
open Go.RowKit
theorem gX{P:Program}{w:World}{t:TypeId}(ht:dQ P t=some false):(isAgg t).run P w = .ok false w:=by
 unfold dQ at ht
 unfold isAgg
 split at ht
 ·cases ht
 ·cases ht
 ·rename_i d h1 h2 hd
  rw[Sem.run_bind,run_underlying hd w]
  simp only[Result.andThen_ok,Sem.run_pure]
 ·cases ht
theorem xJ{P:Program}{w:World}{t:TypeId}(ht:dQ P t=some true):(isAgg t).run P w = .ok true w:=by
 unfold dQ at ht
 unfold isAgg
 split at ht
 ·rename_i hd;rw[Sem.run_bind,run_underlying hd w];rfl
 ·rename_i hd;rw[Sem.run_bind,run_underlying hd w];rfl
 ·cases ht
 ·cases ht
theorem run_sizeOf{P:Program}{w:World}{t n:Nat}(h:cB P t=some n):(sizeOf t).run P w = .ok n w:=by
 unfold cB at h
 split at h
 ·rename_i i hi;cases h;simp[sizeOf,typeInfo,hi]
 ·cases h
section
variable {P:Program}{B:bB}{E:ax}{st:St}{w:World}{nt:Nat}{tm:Tm}{a:Act}{k:K}{r:List (AV × St)}{o:Oper}
theorem Zt(hs:aB B E st w)(ht:aU E nt tm a){t:TypeId}{x:Operand}{j:Nat}{fs:Array Field}{fd:Field}(ho:o.op = .field t x j)
 (hu:P.underlying t=some (.struct fs)) (hf:fs[j]? = some fd) (hg:dQ P fd.type=some false) (h:Et fd.offset (co x) tm st k=some r):Reads P E st w a o k r:=by
 unfold Et at h
 obtain⟨c,hc,h⟩:=qI h
 have hx:=aT hs ht x
 rw[hc]at hx
 simp only[ag]at hx
 obtain⟨l,hl,hrow⟩:=hx
 obtain⟨y,u,hu',hy,hk⟩:=au.nth _ hrow h (by simp)
 refine dW (s:=Instr.field t (a.eval x) j) (by unfold execOp;rw[ho]) ?_ hy hk
 simp[Instr.field,underlying,hu,hf,hl,asAgg,part,gX hg,hu']
theorem Zr(hs:aB B E st w)(ht:aU E nt tm a){t n:Nat}{x:Operand}{j:Nat}{fs:Array Field}{fd:Field}(ho:o.op = .field t x j)
 (hu:P.underlying t=some (.struct fs)) (hf:fs[j]? = some fd) (hg:dQ P fd.type=some true) (hz:cB P fd.type=some n) (h:sW fd.offset n (co x) tm st k=some r):Reads P E st w a o k r:=by
 unfold sW at h
 obtain⟨c,hc,h⟩:=qI h
 obtain⟨hb,h⟩:=aJ h
 have hb:fd.offset+n<=eu c:=Nat.le_of_ble_eq_true hb
 have hx:=aT hs ht x
 rw[hc]at hx
 simp only[ag]at hx
 obtain⟨l,hl,hrow⟩:=hx
 rw[hrow.len]at hb
 refine dW (s:=Instr.field t (a.eval x) j) (u:=.agg ((l.drop fd.offset).take n).toArray) (by unfold execOp;rw[ho]) ?_ ?_ h
 ·simp[Instr.field,underlying,hu,hf,hl,asAgg,part,xJ hg,run_sizeOf hz,List.extract_eq_take_drop]
 ·simp only[ag]
  exact⟨_,rfl,(hrow.drop _).take n (by rw[List.length_drop];omega)⟩
theorem aB.view(hs:aB B E st w){b q n:Nat}{v:Value}(hv:ag E (.l b q n) v){b2 k2:Nat}(hvia:Via st b b2 k2){e sz m:Nat}{els:T AV}(hq:T.get (az b2) st.h=some (.v e sz m els)) :
 ∃l2 off c,E b2=some l2/\dR E (Nat.blt b2 lowN) l2 w (.v e sz m els)/\l2.sz=sz/\k2+q+n<=l2.cap/\(0<n->off=l2.base+(k2+q)*sz)/\v = .slice (some ⟨l2.blk,off,none⟩) n c/\n<=c:=by
 simp only[ag]at hv
 obtain⟨l,hl,hcap,off,hoff,rfl⟩:=hv
 rcases hvia with ⟨rfl,rfl⟩ | hal
 ·obtain⟨l2,hl2,hr⟩:=hs.live b2 _ (hs.lt hl) hq
  rw[hl]at hl2
  cases hl2
  have hsz:l.sz=sz:=hr.choose_spec.choose_spec.2.2.1
  exact⟨l,off,l.cap-q,hl,hr,hsz,by omega,fun hn=>by rw[hoff (.inl (by omega)),hsz,Nat.zero_add],rfl,by omega⟩
 ·obtain⟨l',hl',_,l2,h1,h2,h3,h4,h5,h6⟩:=hs.live b _ (hs.lt hl) hal
  rw[hl]at hl'
  cases hl'
  obtain⟨l2',hl2,hr⟩:=hs.live b2 _ (hs.lt h1) hq
  rw[h1]at hl2
  cases hl2
  have hsz:l2.sz=sz:=hr.choose_spec.choose_spec.2.2.1
  refine⟨l2,off,l.cap-q,h1,hr,hsz,by omega,fun hn=>?_,by rw[h2],by omega⟩
  rw[hoff (.inl (by omega)),h3,h4,hsz,Nat.add_mul,Nat.add_assoc]
theorem aB.Q4(hs:aB B E st w){b:Nat}{l:Loc}(hl:E b=some l){b2 k2:Nat}(hvia:Via st b b2 k2){e sz m:Nat}{els:T AV}(hq:T.get (az b2) st.h=some (.v e sz m els)):l.sz=sz:=by
 rcases hvia with ⟨rfl,rfl⟩ | hal
 ·obtain⟨l2,hl2,hr⟩:=hs.live b2 _ (hs.lt hl) hq
  rw[hl]at hl2
  cases hl2
  exact hr.choose_spec.choose_spec.2.2.1
 ·obtain⟨l',hl',_,l2,h1,h2,h3,h4,h5,h6⟩:=hs.live b _ (hs.lt hl) hal
  rw[hl]at hl'
  cases hl'
  obtain⟨l2',hl2,hr⟩:=hs.live b2 _ (hs.lt h1) hq
  rw[h1]at hl2
  cases hl2
  exact h4.trans hr.choose_spec.choose_spec.2.2.1
theorem Yo(hs:aB B E st w)(ht:aU E nt tm a){t e sz:Nat}{x j:Operand}(ho:o.op = .indexAddr t x j)(hu:P.underlying t=some (.slice e))(hz:cB P e=some sz)
 (h:Ep sz (co x) (co j) tm st k=some r):Reads P E st w a o k r:=by
 unfold Ep at h
 rcases lJ h with ⟨_,h⟩ | ⟨b,q,n,hx,h⟩
 ·exact aS h
 obtain⟨kd,i,hj,h⟩:=iG h
 obtain⟨hb,h⟩:=aJ h
 have hb:=dn hb
 obtain⟨b2,k2,e',szx,m,els,h,hq',hvia⟩:=vG h
 obtain⟨hszx,h⟩:=aJ h
 have hszx:=Nat.eq_of_beq_eq_true hszx
 rw[gV]at h
 have hjv:=aT hs ht j
 rw[hj]at hjv
 simp only[ag]at hjv
 have hxv:=aT hs ht x
 rw[hx]at hxv
 obtain⟨l2,off,c,hl2,_,hs1,hcap,hoff,hv,_⟩:=hs.view hxv hvia hq'
 have hoff:=hoff (by omega)
 subst hszx
 have e1:l2.base+(k2+q)*szx+i*szx=l2.base+(k2+q+i)*szx:=by rw[Nat.add_mul (k2+q) i,Nat.add_assoc]
 refine dW (s:=Instr.indexAt t (a.eval x) (a.eval j)) (u:=.pointer (some ⟨l2.blk,l2.base+(k2+q+i)*szx,none⟩)) (by unfold execOp;rw[ho]) ?_ ?_ h
 ·simp only[Instr.indexAt,hjv,hv,asIntOf,underlying,hoff,Sem.run_bind,Sem.run_pure,Result.andThen_ok]
  simp[hb,run_sizeOf hz,Addr.add_mid,e1,hu]
 ·simp only[ag];exact⟨l2,hl2,rfl⟩
end
end Go.AM
namespace Go.AM
open Go.RowKit
theorem fo.mono{E E':ax}{a:AV}{l:List Value}(h:fo E a l)(he:E.le E'):fo E' a l:=by
 rcases h with ⟨c,h1,h2⟩ | ⟨h1,v,h2,h3⟩
 ·exact .inl ⟨c,h1,h2.mono he⟩
 ·exact .inr ⟨h1,v,h2,h3.mono he⟩
theorem dI.mono{E E':ax}(he:E.le E'):∀{es:ME} {l:List MapEntry},dI E es l->dI E' es l:=by
 intro es
 induction es with
 |nil=>intro l h;exact h
 |cons k v n r ih =>
  intro l h
  obtain⟨e,m,rfl,h1,h2,h3,h4⟩:=h
  exact⟨e,m,rfl,h1.mono he,h2.mono he,h3,ih h4⟩
theorem dR.keep{E E':ax}{ro:Bool}{l:Loc}{w w':World}{o:Ob}(h:dR E ro l w o)(he:E.le E')(hw:w'.heap[l.blk]? = w.heap[l.blk]?):dR E' ro l w' o:=by
 cases o with
 |c t n row =>
  obtain⟨c,fr,lv,t',h1,h2,h3,h4⟩:=h
  exact⟨c,fr,lv,t',hw.trans h1,h2,h3.mono he,h4⟩
 |v e sz n els =>
  obtain⟨c,fr,h1,h2,h3,h4,h5,h6⟩:=h
  refine⟨c,fr,hw.trans h1,h2,h3,h4,h5,fun q hq v hv=>?_⟩
  obtain⟨lv,g1,g2,g3⟩:=h6 q hq v hv
  exact⟨lv,g1,g2.mono he,g3⟩
 |mp es clock =>
  obtain⟨a,h1,h2⟩:=h
  exact⟨a,hw.trans h1,h2.mono he⟩
 |si pos rest =>
  obtain⟨h0,s,h1,h2⟩:=h
  exact⟨h0,s,hw.trans h1,h2⟩
 |mi m since seen last =>
  obtain⟨h0,lm,h1,h2⟩:=h
  exact⟨h0,lm,he m lm h1,hw.trans h2⟩
 |vO=>exact⟨h.1,hw.trans h.2⟩
 |al b q =>
  obtain⟨h0,l2,h1,h2⟩:=h
  refine⟨?_,l2,he b l2 h1,h2⟩
  rw[Array.getElem?_eq_getElem h0]at hw
  exact(Array.getElem?_eq_some_iff.1 hw).1
theorem dR.there{E:ax}{ro:Bool}{l:Loc}{w:World}{o:Ob}(h:dR E ro l w o):l.blk<w.heap.size:=by
 have key:∀{x:Obj},w.heap[l.blk]? = some x->l.blk<w.heap.size:=fun h=>(Array.getElem?_eq_some_iff.1 h).1
 cases o with
 |c t n row=>obtain⟨c,fr,lv,t',h1,_⟩:=h;exact key h1
 |v e sz n els=>obtain⟨c,fr,h1,_⟩:=h;exact key h1
 |mp es clock=>obtain⟨a,h1,_⟩:=h;exact key h1
 |si pos rest=>obtain⟨_,s,h1,_⟩:=h;exact key h1
 |mi m since seen last=>obtain⟨_,lm,_,h2⟩:=h;exact key h2
 |vO=>exact key h.2
 |al b q=>exact h.1
theorem dR.AU{E E':ax}{ro:Bool}{l:Loc}{w w':World}{o:Ob}(h:dR E ro l w o)(he:E.le E')(ha:o.dz=true)(hw:l.blk<w'.heap.size):dR E' ro l w' o:=by
 cases o with
 |al b q =>
  obtain⟨_,l2,h1,h2⟩:=h
  exact⟨hw,l2,he b l2 h1,h2⟩
 |_=>cases ha
def ax.with(E:ax)(n:Nat)(l:Loc):ax:=fun r=>if r=n then some l else E r
theorem ax.qo{E:ax}{n:Nat}{l:Loc}(h:E n=none):E.le (E.with n l):=fun r l' hr=>by
 unfold ax.with
 by_cases e:r=n
 ·subst e;rw[h]at hr;cases hr
 ·rw[if_neg e];exact hr
theorem ax.jl(E:ax)(n:Nat)(l:Loc):E.with n l n=some l:=by simp[ax.with]
theorem ax.uR(E:ax){n r:Nat}(l:Loc)(h:r≠n):E.with n l r=E r:=by simp[ax.with,h]
theorem aB.new{B:bB}{E:ax}{h:T Ob}{n:Nat}{w w':World}(hs:aB B E (.mk h n) w)(hn:n<5000000){l:Loc}{o:Ob}(hB:¬ B l.blk)
 (hsize:w.heap.size<=w'.heap.size)
 (hnew:o.dz=false->∀r q l',r<lim->T.get (az r) h=some q->q.dz=false->E r=some l'->l'.blk≠l.blk)
 (hkeep:∀r q l',r<lim->T.get (az r) h=some q->q.dz=false->E r=some l'->w'.heap[l'.blk]? = w.heap[l'.blk]?)
 (ho:dR (E.with n l) false l w' o):E.le (E.with n l)/\aB B (E.with n l) (.mk (T.set (az n) (some o) h) (Nat.succ n)) w':=by
 have hnone:E n=none:=hs.fresh n (Nat.le_refl n)
 have hle:=ax.qo (l:=l) hnone
 have hl:n<lim:=by unfold lim;omega
 have low:lowN<=n:=hs.low
 have old:∀r q,r<lim->r≠n->T.get (az r) (T.set (az n) (some o) h)=some q->T.get (az r) h=some q:=fun r q hr hne hq=>by
  rw[fu hr hl,if_neg hne]at hq;exact hq
 have here:∀q,T.get (az n) (T.set (az n) (some o) h)=some q->q=o:=fun q hq=>by
  rw[fu hl hl,if_pos rfl]at hq;cases hq;rfl
 refine⟨hle,?_,?_,?_,?_,?_,?_,?_⟩
 ·intro r q hr hq
  by_cases e:r=n
  ·subst e
   rw[here q hq]
   refine⟨l,ax.jl E r l,?_⟩
   have:Nat.blt r lowN=false:=by cases hb:Nat.blt r lowN with
    |false=>rfl
    |true=>have:=dn hb;omega
   rw[this];exact ho
  ·have hq':=old r q hr e hq
   obtain⟨l',hl',hr'⟩:=hs.live r q hr hq'
   cases ha:q.dz with
   |true=>exact⟨l',hle r l' hl',hr'.AU hle ha (Nat.lt_of_lt_of_le hr'.there hsize)⟩
   |false=>exact⟨l',hle r l' hl',hr'.keep hle (hkeep r q l' hr hq' ha hl')⟩
 ·intro r r' q q' l1 l2 hr hr' hne hq hq' ha ha' h1 h2
  by_cases e:r=n
  ·subst e
   rw[ax.jl]at h1
   cases h1
   have e':r'≠r:=fun x=>hne x.symm
   rw[ax.uR E l e']at h2
   rw[here q hq]at ha
   exact fun x=>hnew ha r' q' l2 hr' (old r' q' hr' e' hq') ha' h2 x.symm
  ·rw[ax.uR E l e]at h1
   by_cases e':r' = n
   ·subst e'
    rw[ax.jl]at h2
    cases h2
    rw[here q' hq']at ha'
    exact hnew ha' r q l1 hr (old r q hr e hq) ha h1
   ·rw[ax.uR E l e']at h2
    exact hs.apart r r' q q' l1 l2 hr hr' hne (old r q hr e hq) (old r' q' hr' e' hq') ha ha' h1 h2
 ·intro r q l1 hr h64 hq h1
  by_cases e:r=n
  ·subst e
   rw[ax.jl]at h1
   cases h1
   exact hB
  ·rw[ax.uR E l e]at h1
   exact hs.own r q l1 hr h64 (old r q hr e hq) h1
 ·intro r hr
  have hr:n+1<=r:=hr
  rw[ax.uR E l (by omega)]
  exact hs.fresh r (show n<=r by omega)
 ·show lowN<=n+1
  omega
 ·show n+1<=5000000
  omega
 ·intro g hg
  rw[ax.uR E l (by omega)]
  exact hs.kg g hg
end Go.AM
namespace Go.AM
open Go.RowKit
theorem Ah(h:T Ob)(n r:Nat)(o:Option Ob):gz (.mk h n) r o = .mk (T.set (az r) o h) n:=rfl
theorem aB.put{B:bB}{E:ax}{h:T Ob}{n r:Nat}{w w':World}(hs:aB B E (.mk h n) w)(hr:r<lim)(h64:lowN<=r){l:Loc}{o o':Ob}(hl:E r=some l)(hq:T.get (az r) h=some o)(hal:o.dz=false)
 (hkeep:∀k,k≠l.blk->w'.heap[k]? = w.heap[k]?) (ho:dR E false l w' o'):aB B E (gz (.mk h n) r (some o')) w':=by
 rw[Ah]
 have old:∀s q,s<lim->s≠r->T.get (az s) (T.set (az r) (some o') h)=some q->T.get (az s) h=some q:=fun s q hs' hne hq=>by
  rw[fu hs' hr,if_neg hne]at hq;exact hq
 have was:∀s q,s<lim->T.get (az s) (T.set (az r) (some o') h)=some q->∃q',T.get (az s) h=some q'/\(q.dz=false->q'.dz=false):=fun s q hs' hq'=>by
  by_cases e:s=r
  ·subst e;exact⟨o,hq,fun _=>hal⟩
  ·exact⟨q,old s q hs' e hq',fun h=>h⟩
 refine⟨?_,?_,?_,hs.fresh,hs.low,hs.high,hs.kg⟩
 ·intro s q hs' hq'
  by_cases e:s=r
  ·subst e
   have hq':T.get (az s) (T.set (az s) (some o') h)=some q:=hq'
   rw[fu hr hr,if_pos rfl]at hq'
   cases hq'
   refine⟨l,hl,?_⟩
   have:Nat.blt s lowN=false:=by cases hb:Nat.blt s lowN with
    |false=>rfl
    |true=>have:=dn hb;omega
   rw[this];exact ho
  ·have hq2:=old s q hs' e hq'
   obtain⟨l',hl',hr'⟩:=hs.live s q hs' hq2
   cases ha:q.dz with
   |false=>exact⟨l',hl',hr'.keep (ax.le_refl E) (hkeep _ (hs.apart s r q o l' l hs' hr e hq2 hq ha hal hl' hl))⟩
   |true =>
    refine⟨l',hl',hr'.AU (ax.le_refl E) ha ?_⟩
    by_cases eb:l'.blk=l.blk
    ·rw[eb];exact ho.there
    ·have h1:=hkeep l'.blk eb
     rw[Array.getElem?_eq_getElem hr'.there]at h1
     exact(Array.getElem?_eq_some_iff.1 h1).1
 ·intro s s' q q' l1 l2 h1 h2 hne hq1 hq2 ha1 ha2
  obtain⟨p,hp,hpa⟩:=was s q h1 hq1
  obtain⟨p',hp',hpa'⟩:=was s' q' h2 hq2
  exact hs.apart s s' p p' l1 l2 h1 h2 hne hp hp' (hpa ha1) (hpa' ha2)
 ·intro s q l1 h1 h2 hq1
  obtain⟨p,hp,_⟩:=was s q h1 hq1
  exact hs.own s p l1 h1 h2 hp
theorem aB.kill{B:bB}{E:ax}{h:T Ob}{n r:Nat}{w:World}(hs:aB B E (.mk h n) w)(hr:r<lim):aB B E (gz (.mk h n) r none) w:=by
 rw[Ah]
 have old:∀s q,s<lim->T.get (az s) (T.set (az r) none h)=some q->T.get (az s) h=some q:=fun s q hs' hq=>by
  rw[fu hs' hr]at hq
  split at hq
  ·cases hq
  ·exact hq
 exact⟨fun s q h1 h2=>hs.live s q h1 (old s q h1 h2),fun s s' q q' l1 l2 h1 h2 hne hq1 hq2 ha1 ha2=>hs.apart s s' q q' l1 l2 h1 h2 hne (old s q h1 hq1) (old s' q' h2 hq2) ha1 ha2,
  fun s q l1 h1 h2 hq1=>hs.own s q l1 h1 h2 (old s q h1 hq1),hs.fresh,hs.low,hs.high,hs.kg⟩
theorem aB.same{B:bB}{E:ax}{st:St}{w w':World}(hs:aB B E st w)(hw:w'.heap=w.heap):aB B E st w' :=
 ⟨fun r o h1 h2=>by obtain⟨l,hl,ho⟩:=hs.live r o h1 h2;exact⟨l,hl,ho.keep (ax.le_refl E) (by rw[hw])⟩,hs.apart,hs.own,hs.fresh,hs.low,hs.high,hs.kg⟩
end Go.AM
namespace Go.AM
open Go.RowKit
def Does(P:Program)(B:bB)(E:ax)(w:World)(a:Act)(o:Oper)(k:K)(r:List (AV × St)):Prop :=
 ∃v u w' E' st' r',((execOp a.eval o).run P w = .ok (.value u) w'∨((execOp a.eval o).run P w = .ok .skip w'/\u=undef))/\E.le E'/\aB B E' st' w'/\bM B w w'/\ag E' v u/\(∀x∈r',x∈r)/\k v st' = some r'
theorem fP{r:List (AV × St)}{st:St}{o:Ob}{v:Nat->AV}{k:K}(h:iJ st o v k=some r) :
 ∃t n,st = .mk t n/\n<5000000/\k (v n) (.mk (T.set (az n) (some o) t) (Nat.succ n))=some r:=by
 cases st with
 |mk t n =>
  have h:fM n (fun n=>must (Nat.blt n 5000000) (k (v n) (.mk (T.set (az n) (some o) t) (Nat.succ n))))=some r:=h
  rw[gV]at h
  obtain⟨hb,h⟩:=aJ h
  exact⟨t,n,rfl,dn hb,h⟩
theorem ag.cells{E:ax}{x:AV}{v:Value}(h:ag E x v)(hu:x ≠ .u):fo E x v.cells.toList:=by
 cases x with
 |a c=>simp only[ag]at h;obtain⟨l,rfl,hl⟩:=h;exact .inl ⟨c,rfl,by simpa[Value.cells]using hl⟩
 |u=>exact absurd rfl hu
 |nl=>simp only[ag]at h
 |cn _ _=>simp only[ag]at h
 |_ =>
  refine .inr ⟨rfl,v,?_,h⟩
  simp only[ag]at h
  first
  |(subst h;rfl)
  |(obtain⟨_,rfl,_⟩:=h;rfl)
  |(obtain⟨_,_,rfl⟩:=h;rfl)
  |(obtain⟨_,_,rfl,_⟩:=h;rfl)
  |(obtain⟨_,_,_,_,_,rfl⟩:=h;rfl)
theorem PY{r:List (AV × St)}{v:AV}{f:Nat->AV->Out}(h:cellsOf v f=some r) :
 ∃n row,f n row=some r/\v ≠ .u/\∀(E:ax) (l:List Value),fo E v l->au E row l/\n=l.length:=by
 obtain⟨n,row,h1,h2⟩:=zi h
 exact⟨n,row,h1,fun e=>by subst e;exact aS h,h2⟩
section
variable {P:Program}{B:bB}{E:ax}{st:St}{w:World}{nt:Nat}{tm:Tm}{a:Act}{k:K}{r:List (AV × St)}{o:Oper}
theorem aB.newRow{t:T Ob}{n:Nat}(hs:aB B E (.mk t n) w)(hB:dJ B w)(hn:n<5000000){e:TypeId}{row:AV}{l:List Value}(hl:au E row l) :
 E.le (E.with n ⟨w.heap.size,0,0,0⟩)/\aB B (E.with n ⟨w.heap.size,0,0,0⟩) (.mk (T.set (az n) (some (.c e l.length row)) t) (Nat.succ n)) (w.alloc (.cells l.toArray e)):=by
 have hlt:∀s q l',s<lim->T.get (az s) t=some q->E s=some l'->l'.blk<w.heap.size:=fun s q l' h1 h2 h3=>by
  obtain⟨l2,hl2,ho⟩:=hs.live s q h1 h2
  rw[h3]at hl2
  cases hl2
  exact ho.there
 refine aB.new hs hn hB.out ?_ (fun _ s q l' h1 h2 _ h3=>?_) (fun s q l' h1 h2 _ h3=>?_) ?_
 ·show w.heap.size<=(w.heap.push _).size;simp
 ·have:=hlt s q l' h1 h2 h3
  show l'.blk≠w.heap.size
  omega
 ·exact Below.heap_alloc _ _ _ (hlt s q l' h1 h2 h3)
 ·refine⟨l.toArray,(0,0),l,e,?_,fun _=>⟨rfl,rfl⟩,hl.mono (ax.qo (hs.fresh n (Nat.le_refl n))),rfl,fun i _=>?_⟩
  ·show(w.heap.push _)[w.heap.size]? = _
   simp
  ·simp
theorem y1n(hs:aB B E st w)(hB:dJ B w)(ht:aU E nt tm a){t:TypeId}{x:Operand}(ho:o.op = .box t x)(h:yg t (co x) tm st k=some r):Does P B E w a o k r:=by
 unfold yg at h
 obtain⟨m,row,h,hrow⟩:=PY h
 obtain⟨hne,hrow⟩:=hrow
 have hx:=aT hs ht x
 obtain⟨hl,hm⟩:=hrow E _ (hx.cells hne)
 obtain⟨tr,n,rfl,hn,h⟩:=fP h
 obtain⟨hle,hs'⟩:=aB.newRow hs hB hn (e:=t) hl
 subst hm
 refine⟨_,.pointer (some ⟨w.heap.size,0,none⟩),_,_,_,_,.inl ?_,hle,hs',(bM.refl B w).alloc hB _,?_,fun _ h=>h,h⟩
 ·unfold execOp
  rw[ho]
  simp[Instr.box,newVar,Go.newRow]
 ·simp only[ag]
  exact⟨_,ax.jl _ _ _,rfl⟩
theorem KF{t n:Nat}{row:AV}(h:xL P t=some (n,row)):∃i v,P.info? t=some i/\i.zero=some v/\au E row v.cells.toList/\n=v.cells.toList.length:=by
 unfold xL at h
 have key:∀z,oJ P t=some z->z ≠ .u->∃i v,P.info? t=some i/\i.zero=some v/\fo E z v.cells.toList:=fun z hz hu=>by
  unfold oJ at hz
  split at hz
  ·rename_i i hi
   split at hz
   ·rename_i v hv
    cases hz
    exact⟨i,v,hi,hv,(Aq E 6 v).cells hu⟩
   ·cases hz
  ·cases hz
 split at h
 ·rename_i c hz
  cases h
  obtain⟨i,v,h1,h2,h3⟩:=key _ hz (by simp)
  rcases h3 with ⟨c',e,hl⟩ | ⟨e,_⟩
  ·cases e;exact⟨i,v,h1,h2,hl,hl.len⟩
  ·cases e
 ·cases h
 ·rename_i z hna hnu hz
  cases h
  obtain⟨i,v,h1,h2,h3⟩:=key _ hz (fun e=>hnu e)
  rcases h3 with ⟨c',e,hl⟩ | ⟨_,y,e,hy⟩
  ·exact absurd e (hna c')
  ·exact⟨i,v,h1,h2,by rw[e];simp only[au];exact⟨y,[],rfl,hy,rfl⟩,by rw[e];rfl⟩
 ·cases h
theorem VC(hs:aB B E st w)(hB:dJ B w){t n:Nat}{row:AV}(ho:o.op = .alloc t)(hz:xL P t=some (n,row))(h:xW t n row tm st k=some r):Does P B E w a o k r:=by
 unfold xW at h
 obtain⟨i,v,hi,hv,hl,rfl⟩:=KF (E:=E) hz
 obtain⟨tr,n,rfl,hn,h⟩:=fP h
 obtain⟨hle,hs'⟩:=aB.newRow hs hB hn (e:=t) hl
 refine⟨_,.pointer (some ⟨w.heap.size,0,none⟩),_,_,_,_,.inl ?_,hle,hs',(bM.refl B w).alloc hB _,?_,fun _ h=>h,h⟩
 ·unfold execOp
  rw[ho]
  simp[Instr.alloc,zeroValue,typeInfo,hi,hv,newVar,Go.newRow]
 ·simp only[ag]
  exact⟨_,ax.jl _ _ _,rfl⟩
end
end Go.AM
