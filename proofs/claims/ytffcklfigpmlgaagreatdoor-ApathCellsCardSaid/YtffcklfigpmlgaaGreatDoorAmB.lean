/-
  Numbers; fields; addresses of elements; bytes of strings.
  Fields of values; addresses of elements; nil checks.
  States that grow: a new block.
  States that change: a block written, a block forgotten.
  Operations that make a block.
  Rows that may be stored: each value is one cell.
  Stores.
  Operations that only compute: nil checks, conversions, slices, bytes, lengths, the lesser and the greater.
  Comparisons; strings; structs of basic fields; lengths; the lesser and the greater.
  Structs and slices built; slices and maps made.
-/
import Derived.Test.YtffcklfigpmlgaaGreatDoorAmA
import Derived.Laws.StructEq
import Derived.ChangeKeysEq
import Derived.Laws.Concat
import Derived.Laws.Cover1
import Derived.Laws.Tables
import Derived.Laws.MakeOwn
namespace Go.AM
open Go.RowKit
theorem wrap_small (q:IntKind) {n:Nat} (h:n≤127):q.wrap (n:Int)=n:=by
 cases q <;> simp [IntKind.wrap,IntKind.bits,IntKind.signed] <;> omega
theorem kI_inv {E:Env'} {r:List (AV × St)} {q:IntKind} {n:Int} {k:AV→Out} (h:kI q n k=some r):∃ v,VRel E v (.int q (q.wrap n))∧k v=some r:=by
 cases n with
 | negSucc m=>exact ⟨.i q (q.wrap (.negSucc m)),by simp only [VRel],h⟩
 | ofNat m =>
   have h:seqN m (fun a=>iff (Nat.ble a 127) (k (.i q (.ofNat a))) (k (.i q (q.wrap (.ofNat a)))))=some r:=h
   rw [seqN_eq] at h
   rcases iff_inv h with ⟨hb,h⟩ | ⟨_,h⟩
   ·have hb:m≤127:=Nat.le_of_ble_eq_true hb
    refine ⟨_,?_,h⟩
    simp only [VRel]
    exact congrArg (Value.int q) (wrap_small q hb)
   ·exact ⟨_,by simp only [VRel],h⟩
theorem eqk_eq {a b:IntKind} (h:eqk a b=true):a=b:=by
 cases a <;> cases b <;> first | rfl | exact absurd h (by decide)
theorem eqi_iff (x y:Int):eqi x y=true ↔ x=y:=by
 cases x with
 | ofNat m=>cases y with
   | ofNat n=>exact ⟨fun h=>congrArg Int.ofNat (Nat.eq_of_beq_eq_true h),fun h=>by cases h;exact Nat.beq_refl _⟩
   | negSucc n=>exact ⟨fun h=>(nomatch (show false=true from h)),fun h=>nomatch h⟩
 | negSucc m=>cases y with
   | ofNat n=>exact ⟨fun h=>(nomatch (show false=true from h)),fun h=>nomatch h⟩
   | negSucc n=>exact ⟨fun h=>congrArg Int.negSucc (Nat.eq_of_beq_eq_true h),fun h=>by cases h;exact Nat.beq_refl _⟩
theorem eqi_eq (x y:Int):eqi x y=(x == y):=by
 rw [Bool.eq_iff_iff,eqi_iff,beq_iff_eq]
theorem ile_iff (x y:Int):ile x y=true ↔ x≤y:=by
 cases x with
 | ofNat m=>cases y with
   | ofNat n =>
     have e:ile (.ofNat m) (.ofNat n)=Nat.ble m n:=rfl
     rw [e,Nat.ble_eq]
     exact Int.ofNat_le.symm
   | negSucc n=>exact ⟨fun h=>(nomatch (show false=true from h)),fun h=>by have:(0:Int)≤Int.ofNat m:=Int.natCast_nonneg m;have h2:=Int.negSucc_lt_zero n;omega⟩
 | negSucc m=>cases y with
   | ofNat n=>exact ⟨fun _=>by have:(0:Int)≤Int.ofNat n:=Int.natCast_nonneg n;have h2:=Int.negSucc_lt_zero m;omega,fun _=>rfl⟩
   | negSucc n =>
     have e:ile (.negSucc m) (.negSucc n)=Nat.ble n m:=rfl
     rw [e,Nat.ble_eq,Int.negSucc_eq,Int.negSucc_eq]
     omega
theorem ile_eq (x y:Int):ile x y=decide (x≤y):=by rw [Bool.eq_iff_iff,ile_iff,decide_eq_true_iff]
theorem lt_nle (x y:Int):decide (x < y) = !decide (y≤x):=by rw [Bool.eq_iff_iff];simp
section
variable {P:Program} {E:Env'} {w:World} {r:List (AV × St)}
theorem nn_inv {x y:Int} {f:Nat→Nat→Out} {g:Out} (h:nn x y f g=some r):(∃ a b:Nat,x=a∧y=b∧f a b=some r) ∨ g=some r:=by
 cases x with
 | negSucc m=>exact .inr h
 | ofNat m=>cases y with
   | negSucc n=>exact .inr h
   | ofNat n=>exact .inl ⟨m,n,rfl,rfl,h⟩
theorem toNat_ofInt_nat (n a:Nat):(BitVec.ofInt n (a:Int)).toNat=Nat.mod a (Nat.pow 2 n):=by
 show _=a % 2 ^ n
 rw [BitVec.ofInt_natCast,BitVec.toNat_ofNat]
theorem binI_ok {op:BinOp} {t:TypeId} {q:IntKind} {x y:Int} {k:AV→Out} (h:binI (bo op) q x y k=some r) :
 ∃ v u,(binOp op t (.int q x) (.int q y)).run P w = .ok u w∧VRel E v u∧k v=some r:=by
 have cmp:∀ b:Bool,VRel E (.b b) (.bool b):=fun b=>by simp only [VRel]
 cases op with
 | add=>obtain ⟨v,hv,hk⟩:=kI_inv (E:=E) (show kI q (x + y) k=some r from h);exact ⟨v,_,by simp [binOp,Op.intArith],hv,hk⟩
 | sub=>obtain ⟨v,hv,hk⟩:=kI_inv (E:=E) (show kI q (x - y) k=some r from h);exact ⟨v,_,by simp [binOp,Op.intArith],hv,hk⟩
 | mul=>obtain ⟨v,hv,hk⟩:=kI_inv (E:=E) (show kI q (x * y) k=some r from h);exact ⟨v,_,by simp [binOp,Op.intArith],hv,hk⟩
 | eql=>exact ⟨_,_,by simp [binOp,Op.intCmp];rfl,by rw [← eqi_eq];exact cmp _,h⟩
 | neq=>exact ⟨_,.bool (!eqi x y),by rw [eqi_eq];simp [binOp,Op.intCmp,bne],cmp _,h⟩
 | lss=>exact ⟨_,.bool (!ile y x),by rw [ile_eq];simp [binOp,Op.intCmp,lt_nle],cmp _,h⟩
 | leq=>exact ⟨_,.bool (ile x y),by rw [ile_eq];simp [binOp,Op.intCmp],cmp _,h⟩
 | gtr=>exact ⟨_,.bool (!ile x y),by rw [ile_eq];simp [binOp,Op.intCmp,lt_nle],cmp _,h⟩
 | geq=>exact ⟨_,.bool (ile y x),by rw [ile_eq];simp [binOp,Op.intCmp],cmp _,h⟩
 | quo =>
   rcases nn_inv h with ⟨a,b,rfl,rfl,h⟩ | h
   ·rcases iff_inv h with ⟨_,h⟩ | ⟨hb,h⟩
    ·exact no_out h
    ·have hb:b ≠ 0:=fun e=>by subst e;cases hb
     obtain ⟨v,hv,hk⟩:=kI_inv (E:=E) h
     refine ⟨v,_,?_,hv,hk⟩
     have e:Int.tdiv (a:Int) (b:Int)=Int.ofNat (Nat.div a b):=rfl
     simp [binOp,Op.intDiv,hb,e]
   ·exact no_out h
 | rem =>
   rcases nn_inv h with ⟨a,b,rfl,rfl,h⟩ | h
   ·rcases iff_inv h with ⟨_,h⟩ | ⟨hb,h⟩
    ·exact no_out h
    ·have hb:b ≠ 0:=fun e=>by subst e;cases hb
     rw [seqN_eq] at h
     refine ⟨_,.int q (Int.ofNat (Nat.mod a b)),?_,by simp only [VRel],h⟩
     have e:Int.tmod (a:Int) (b:Int)=Int.ofNat (Nat.mod a b):=rfl
     simp [binOp,Op.intDiv,hb,e]
   ·exact no_out h
 | and =>
   rcases nn_inv (show nn x y (fun a b=>kI q (.ofNat (Nat.land (Nat.mod a (Nat.pow 2 q.bits)) (Nat.mod b (Nat.pow 2 q.bits)))) k) none=some r from h) with ⟨a,b,rfl,rfl,h'⟩ | h'
   ·obtain ⟨v,hv,hk⟩:=kI_inv (E:=E) h'
    refine ⟨v,_,?_,hv,hk⟩
    simp only [binOp,ne_eq,not_true_eq_false,if_false,Op.intBits,BitVec.toNat_and,toNat_ofInt_nat]
    rfl
   ·exact no_out h'
 | or =>
   rcases nn_inv (show nn x y (fun a b=>kI q (.ofNat (Nat.lor (Nat.mod a (Nat.pow 2 q.bits)) (Nat.mod b (Nat.pow 2 q.bits)))) k) none=some r from h) with ⟨a,b,rfl,rfl,h'⟩ | h'
   ·obtain ⟨v,hv,hk⟩:=kI_inv (E:=E) h'
    refine ⟨v,_,?_,hv,hk⟩
    simp only [binOp,ne_eq,not_true_eq_false,if_false,Op.intBits,BitVec.toNat_or,toNat_ofInt_nat]
    rfl
   ·exact no_out h'
 | xor =>
   rcases nn_inv (show nn x y (fun a b=>kI q (.ofNat (Nat.xor (Nat.mod a (Nat.pow 2 q.bits)) (Nat.mod b (Nat.pow 2 q.bits)))) k) none=some r from h) with ⟨a,b,rfl,rfl,h'⟩ | h'
   ·obtain ⟨v,hv,hk⟩:=kI_inv (E:=E) h'
    refine ⟨v,_,?_,hv,hk⟩
    simp only [binOp,ne_eq,not_true_eq_false,if_false,Op.intBits,BitVec.toNat_xor,toNat_ofInt_nat]
    rfl
   ·exact no_out h'
 | andNot =>
   rcases nn_inv (show nn x y (fun a b=>kI q (.ofNat (Nat.land (Nat.mod a (Nat.pow 2 q.bits)) (Nat.sub (Nat.sub (Nat.pow 2 q.bits) 1) (Nat.mod b (Nat.pow 2 q.bits))))) k) none=some r from h) with ⟨a,b,rfl,rfl,h'⟩ | h'
   ·obtain ⟨v,hv,hk⟩:=kI_inv (E:=E) h'
    refine ⟨v,_,?_,hv,hk⟩
    simp only [binOp,ne_eq,not_true_eq_false,if_false,Op.intBits,BitVec.toNat_and,BitVec.toNat_not,toNat_ofInt_nat]
    rfl
   ·exact no_out h'
 | shl=>exact no_out h
 | shr=>exact no_out h
theorem sh_ok {l:Bool} {t:TypeId} {q q':IntKind} {x y:Int} {st:St} {k:K} (h:nn x y (fun a b=>must (Nat.ble b q.bits) (Bool.rec (motive:=fun _=>IntKind→Nat→Nat→St→K→Out)
 (fun q a b st k=>seqN (Nat.div a (Nat.pow 2 b)) (fun c=>k (.i q (.ofNat c)) st)) (fun q a b st k=>kI q (.ofNat (Nat.mul a (Nat.pow 2 b))) (fun v=>k v st)) l q a b st k)) none=some r) :
 ∃ v u,(binOp (if l=true then .shl else .shr) t (.int q x) (.int q' y)).run P w = .ok u w∧VRel E v u∧k v st=some r:=by
 rcases nn_inv h with ⟨a,b,rfl,rfl,h⟩ | h
 ·obtain ⟨hb,h⟩:=must_inv h
  have hb:b≤q.bits:=Nat.le_of_ble_eq_true hb
  have hneg:¬ ((b:Int) < 0):=by omega
  have hmin:min b q.bits=b:=by omega
  cases l with
  | true =>
    obtain ⟨v,hv,hk⟩:=kI_inv (E:=E) (show kI q (.ofNat (Nat.mul a (Nat.pow 2 b))) (fun v=>k v st)=some r from h)
    refine ⟨v,_,?_,hv,hk⟩
    have e:(a:Int) * 2 ^ b=Int.ofNat (Nat.mul a (Nat.pow 2 b)):=by
     show _=((a * 2 ^ b:Nat):Int)
     push_cast
     rfl
    simp only [if_true,binOp,Op.shift,hneg,if_false,Int.toNat_natCast,hmin,e,Sem.run_pure]
  | false =>
    have h:seqN (Nat.div a (Nat.pow 2 b)) (fun c=>k (.i q (.ofNat c)) st)=some r:=h
    rw [seqN_eq] at h
    refine ⟨_,.int q (Int.ofNat (Nat.div a (Nat.pow 2 b))),?_,by simp only [VRel],h⟩
    have e:Int.fdiv (a:Int) (2 ^ b)=Int.ofNat (Nat.div a (Nat.pow 2 b)):=by
     have e2:((2:Int) ^ b)=((2 ^ b:Nat):Int):=by push_cast;rfl
     rw [e2,Int.fdiv_eq_ediv_of_nonneg _ (Int.natCast_nonneg _)]
     rfl
    simp only [Bool.false_eq_true,if_false,binOp,Op.shift,hneg,Int.toNat_natCast,hmin,e,Sem.run_pure]
 ·exact no_out h
end
end Go.AM
namespace Go.AM
open Go.RowKit
theorem run_isAgg_false {P:Program} {w:World} {t:TypeId} (ht:agT P t=some false):(isAgg t).run P w = .ok false w:=by
 unfold agT at ht
 unfold isAgg
 split at ht
 ·cases ht
 ·cases ht
 ·rename_i d h1 h2 hd
  rw [Sem.run_bind,run_underlying hd w]
  simp only [Result.andThen_ok,Sem.run_pure]
 ·cases ht
theorem run_isAgg_true {P:Program} {w:World} {t:TypeId} (ht:agT P t=some true):(isAgg t).run P w = .ok true w:=by
 unfold agT at ht
 unfold isAgg
 split at ht
 ·rename_i hd;rw [Sem.run_bind,run_underlying hd w];rfl
 ·rename_i hd;rw [Sem.run_bind,run_underlying hd w];rfl
 ·cases ht
 ·cases ht
theorem run_sizeOf {P:Program} {w:World} {t n:Nat} (h:szOf P t=some n):(sizeOf t).run P w = .ok n w:=by
 unfold szOf at h
 split at h
 ·rename_i i hi;cases h;simp [sizeOf,typeInfo,hi]
 ·cases h
section
variable {P:Program} {B:Bds} {E:Env'} {st:St} {w:World} {nt:Nat} {tm:Tm} {a:Act} {k:K} {r:List (AV × St)} {o:Oper}
theorem f1_reads (hs:Sim B E st w) (ht:TmRel E nt tm a) {t:TypeId} {x:Operand} {j:Nat} {fs:Array Field} {fd:Field} (ho:o.op = .field t x j)
 (hu:P.underlying t=some (.struct fs)) (hf:fs[j]? = some fd) (hg:agT P fd.type=some false) (h:opF1 fd.offset (co x) tm st k=some r):Reads P E st w a o k r:=by
 unfold opF1 at h
 obtain ⟨c,hc,h⟩:=asA_inv h
 have hx:=co_rel hs ht x
 rw [hc] at hx
 simp only [VRel] at hx
 obtain ⟨l,hl,hrow⟩:=hx
 obtain ⟨y,u,hu',hy,hk⟩:=LRel.nth _ hrow h (by simp)
 refine reads_of (s:=Instr.field t (a.eval x) j) (by unfold execOp;rw [ho]) ?_ hy hk
 simp [Instr.field,underlying,hu,hf,hl,asAgg,part,run_isAgg_false hg,hu']
theorem fA_reads (hs:Sim B E st w) (ht:TmRel E nt tm a) {t n:Nat} {x:Operand} {j:Nat} {fs:Array Field} {fd:Field} (ho:o.op = .field t x j)
 (hu:P.underlying t=some (.struct fs)) (hf:fs[j]? = some fd) (hg:agT P fd.type=some true) (hz:szOf P fd.type=some n) (h:opFA fd.offset n (co x) tm st k=some r):Reads P E st w a o k r:=by
 unfold opFA at h
 obtain ⟨c,hc,h⟩:=asA_inv h
 obtain ⟨hb,h⟩:=must_inv h
 have hb:fd.offset + n≤lenA c:=Nat.le_of_ble_eq_true hb
 have hx:=co_rel hs ht x
 rw [hc] at hx
 simp only [VRel] at hx
 obtain ⟨l,hl,hrow⟩:=hx
 rw [hrow.len] at hb
 refine reads_of (s:=Instr.field t (a.eval x) j) (u:=.agg ((l.drop fd.offset).take n).toArray) (by unfold execOp;rw [ho]) ?_ ?_ h
 ·simp [Instr.field,underlying,hu,hf,hl,asAgg,part,run_isAgg_true hg,run_sizeOf hz,List.extract_eq_take_drop]
 ·simp only [VRel]
  exact ⟨_,rfl,(hrow.drop _).take n (by rw [List.length_drop];omega)⟩
theorem Sim.view (hs:Sim B E st w) {b q n:Nat} {v:Value} (hv:VRel E (.l b q n) v) {b2 k2:Nat} (hvia:Via st b b2 k2) {e sz m:Nat} {els:T AV} (hq:T.get (pth b2) st.h=some (.v e sz m els)) :
 ∃ l2 off c,E b2=some l2∧ObRel E (Nat.blt b2 lowN) l2 w (.v e sz m els)∧l2.sz=sz∧k2 + q + n≤l2.cap∧(0 < n→off=l2.base + (k2 + q) * sz)∧v = .slice (some ⟨l2.blk,off,none⟩) n c∧n≤c:=by
 simp only [VRel] at hv
 obtain ⟨l,hl,hcap,off,hoff,rfl⟩:=hv
 rcases hvia with ⟨rfl,rfl⟩ | hal
 ·obtain ⟨l2,hl2,hr⟩:=hs.live b2 _ (hs.lt hl) hq
  rw [hl] at hl2
  cases hl2
  have hsz:l.sz=sz:=hr.choose_spec.choose_spec.2.2.1
  exact ⟨l,off,l.cap - q,hl,hr,hsz,by omega,fun hn=>by rw [hoff (.inl (by omega)),hsz,Nat.zero_add],rfl,by omega⟩
 ·obtain ⟨l',hl',_,l2,h1,h2,h3,h4,h5,h6⟩:=hs.live b _ (hs.lt hl) hal
  rw [hl] at hl'
  cases hl'
  obtain ⟨l2',hl2,hr⟩:=hs.live b2 _ (hs.lt h1) hq
  rw [h1] at hl2
  cases hl2
  have hsz:l2.sz=sz:=hr.choose_spec.choose_spec.2.2.1
  refine ⟨l2,off,l.cap - q,h1,hr,hsz,by omega,fun hn=>?_,by rw [h2],by omega⟩
  rw [hoff (.inl (by omega)),h3,h4,hsz,Nat.add_mul,Nat.add_assoc]
theorem Sim.viaSz (hs:Sim B E st w) {b:Nat} {l:Loc} (hl:E b=some l) {b2 k2:Nat} (hvia:Via st b b2 k2) {e sz m:Nat} {els:T AV} (hq:T.get (pth b2) st.h=some (.v e sz m els)):l.sz=sz:=by
 rcases hvia with ⟨rfl,rfl⟩ | hal
 ·obtain ⟨l2,hl2,hr⟩:=hs.live b2 _ (hs.lt hl) hq
  rw [hl] at hl2
  cases hl2
  exact hr.choose_spec.choose_spec.2.2.1
 ·obtain ⟨l',hl',_,l2,h1,h2,h3,h4,h5,h6⟩:=hs.live b _ (hs.lt hl) hal
  rw [hl] at hl'
  cases hl'
  obtain ⟨l2',hl2,hr⟩:=hs.live b2 _ (hs.lt h1) hq
  rw [h1] at hl2
  cases hl2
  exact h4.trans hr.choose_spec.choose_spec.2.2.1
theorem ia_reads (hs:Sim B E st w) (ht:TmRel E nt tm a) {t e sz:Nat} {x j:Operand} (ho:o.op = .indexAddr t x j) (hu:P.underlying t=some (.slice e)) (hz:szOf P e=some sz)
 (h:opIa sz (co x) (co j) tm st k=some r):Reads P E st w a o k r:=by
 unfold opIa at h
 rcases asL_inv h with ⟨_,h⟩ | ⟨b,q,n,hx,h⟩
 ·exact no_out h
 obtain ⟨kd,i,hj,h⟩:=asN_inv h
 obtain ⟨hb,h⟩:=must_inv h
 have hb:=blt_lt hb
 obtain ⟨b2,k2,e',szx,m,els,h,hq',hvia⟩:=obW_inv h
 obtain ⟨hszx,h⟩:=must_inv h
 have hszx:=Nat.eq_of_beq_eq_true hszx
 rw [seqN_eq] at h
 have hjv:=co_rel hs ht j
 rw [hj] at hjv
 simp only [VRel] at hjv
 have hxv:=co_rel hs ht x
 rw [hx] at hxv
 obtain ⟨l2,off,c,hl2,_,hs1,hcap,hoff,hv,_⟩:=hs.view hxv hvia hq'
 have hoff:=hoff (by omega)
 subst hszx
 have e1:l2.base + (k2 + q) * szx + i * szx=l2.base + (k2 + q + i) * szx:=by rw [Nat.add_mul (k2 + q) i,Nat.add_assoc]
 refine reads_of (s:=Instr.indexAt t (a.eval x) (a.eval j)) (u:=.pointer (some ⟨l2.blk,l2.base + (k2 + q + i) * szx,none⟩)) (by unfold execOp;rw [ho]) ?_ ?_ h
 ·simp only [Instr.indexAt,hjv,hv,asIntOf,underlying,hoff,Sem.run_bind,Sem.run_pure,Result.andThen_ok]
  simp [hb,run_sizeOf hz,Addr.add_mid,e1,hu]
 ·simp only [VRel];exact ⟨l2,hl2,rfl⟩
end
end Go.AM
namespace Go.AM
open Go.RowKit
theorem CRel.mono {E E':Env'} {a:AV} {l:List Value} (h:CRel E a l) (he:E.le E'):CRel E' a l:=by
 rcases h with ⟨c,h1,h2⟩ | ⟨h1,v,h2,h3⟩
 ·exact .inl ⟨c,h1,h2.mono he⟩
 ·exact .inr ⟨h1,v,h2,h3.mono he⟩
theorem MERel.mono {E E':Env'} (he:E.le E'):∀ {es:ME} {l:List MapEntry},MERel E es l→MERel E' es l:=by
 intro es
 induction es with
 | nil=>intro l h;exact h
 | cons k v n r ih =>
   intro l h
   obtain ⟨e,m,rfl,h1,h2,h3,h4⟩:=h
   exact ⟨e,m,rfl,h1.mono he,h2.mono he,h3,ih h4⟩
theorem ObRel.keep {E E':Env'} {ro:Bool} {l:Loc} {w w':World} {o:Ob} (h:ObRel E ro l w o) (he:E.le E') (hw:w'.heap[l.blk]? = w.heap[l.blk]?):ObRel E' ro l w' o:=by
 cases o with
 | c t n row =>
   obtain ⟨c,fr,lv,t',h1,h2,h3,h4⟩:=h
   exact ⟨c,fr,lv,t',hw.trans h1,h2,h3.mono he,h4⟩
 | v e sz n els =>
   obtain ⟨c,fr,h1,h2,h3,h4,h5,h6⟩:=h
   refine ⟨c,fr,hw.trans h1,h2,h3,h4,h5,fun q hq v hv=>?_⟩
   obtain ⟨lv,g1,g2,g3⟩:=h6 q hq v hv
   exact ⟨lv,g1,g2.mono he,g3⟩
 | mp es clock =>
   obtain ⟨a,h1,h2⟩:=h
   exact ⟨a,hw.trans h1,h2.mono he⟩
 | si pos rest =>
   obtain ⟨h0,s,h1,h2⟩:=h
   exact ⟨h0,s,hw.trans h1,h2⟩
 | mi m since seen last =>
   obtain ⟨h0,lm,h1,h2⟩:=h
   exact ⟨h0,lm,he m lm h1,hw.trans h2⟩
 | m0i=>exact ⟨h.1,hw.trans h.2⟩
 | al b q =>
   obtain ⟨h0,l2,h1,h2⟩:=h
   refine ⟨?_,l2,he b l2 h1,h2⟩
   rw [Array.getElem?_eq_getElem h0] at hw
   exact (Array.getElem?_eq_some_iff.1 hw).1
theorem ObRel.there {E:Env'} {ro:Bool} {l:Loc} {w:World} {o:Ob} (h:ObRel E ro l w o):l.blk < w.heap.size:=by
 have key:∀ {x:Obj},w.heap[l.blk]? = some x→l.blk < w.heap.size:=fun h=>(Array.getElem?_eq_some_iff.1 h).1
 cases o with
 | c t n row=>obtain ⟨c,fr,lv,t',h1,_⟩:=h;exact key h1
 | v e sz n els=>obtain ⟨c,fr,h1,_⟩:=h;exact key h1
 | mp es clock=>obtain ⟨a,h1,_⟩:=h;exact key h1
 | si pos rest=>obtain ⟨_,s,h1,_⟩:=h;exact key h1
 | mi m since seen last=>obtain ⟨_,lm,_,h2⟩:=h;exact key h2
 | m0i=>exact key h.2
 | al b q=>exact h.1
theorem ObRel.keepAl {E E':Env'} {ro:Bool} {l:Loc} {w w':World} {o:Ob} (h:ObRel E ro l w o) (he:E.le E') (ha:o.isAl=true) (hw:l.blk < w'.heap.size):ObRel E' ro l w' o:=by
 cases o with
 | al b q =>
   obtain ⟨_,l2,h1,h2⟩:=h
   exact ⟨hw,l2,he b l2 h1,h2⟩
 | _=>cases ha
def Env'.with (E:Env') (n:Nat) (l:Loc):Env':=fun r=>if r=n then some l else E r
theorem Env'.le_with {E:Env'} {n:Nat} {l:Loc} (h:E n=none):E.le (E.with n l):=fun r l' hr=>by
 unfold Env'.with
 by_cases e:r=n
 ·subst e;rw [h] at hr;cases hr
 ·rw [if_neg e];exact hr
theorem Env'.with_self (E:Env') (n:Nat) (l:Loc):E.with n l n=some l:=by simp [Env'.with]
theorem Env'.with_ne (E:Env') {n r:Nat} (l:Loc) (h:r ≠ n):E.with n l r=E r:=by simp [Env'.with,h]
theorem Sim.new {B:Bds} {E:Env'} {h:T Ob} {n:Nat} {w w':World} (hs:Sim B E (.mk h n) w) (hn:n < 5000000) {l:Loc} {o:Ob} (hB:¬ B l.blk)
 (hsize:w.heap.size≤w'.heap.size)
 (hnew:o.isAl=false→∀ r q l',r < lim→T.get (pth r) h=some q→q.isAl=false→E r=some l'→l'.blk ≠ l.blk)
 (hkeep:∀ r q l',r < lim→T.get (pth r) h=some q→q.isAl=false→E r=some l'→w'.heap[l'.blk]? = w.heap[l'.blk]?)
 (ho:ObRel (E.with n l) false l w' o):E.le (E.with n l)∧Sim B (E.with n l) (.mk (T.set (pth n) (some o) h) (Nat.succ n)) w':=by
 have hnone:E n=none:=hs.fresh n (Nat.le_refl n)
 have hle:=Env'.le_with (l:=l) hnone
 have hl:n < lim:=by unfold lim;omega
 have low:lowN≤n:=hs.low
 have old:∀ r q,r < lim→r ≠ n→T.get (pth r) (T.set (pth n) (some o) h)=some q→T.get (pth r) h=some q:=fun r q hr hne hq=>by
  rw [get_set_pth hr hl,if_neg hne] at hq;exact hq
 have here:∀ q,T.get (pth n) (T.set (pth n) (some o) h)=some q→q=o:=fun q hq=>by
  rw [get_set_pth hl hl,if_pos rfl] at hq;cases hq;rfl
 refine ⟨hle,?_,?_,?_,?_,?_,?_,?_⟩
 ·intro r q hr hq
  by_cases e:r=n
  ·subst e
   rw [here q hq]
   refine ⟨l,Env'.with_self E r l,?_⟩
   have:Nat.blt r lowN=false:=by cases hb:Nat.blt r lowN with
    | false=>rfl
    | true=>have:=blt_lt hb;omega
   rw [this];exact ho
  ·have hq':=old r q hr e hq
   obtain ⟨l',hl',hr'⟩:=hs.live r q hr hq'
   cases ha:q.isAl with
   | true=>exact ⟨l',hle r l' hl',hr'.keepAl hle ha (Nat.lt_of_lt_of_le hr'.there hsize)⟩
   | false=>exact ⟨l',hle r l' hl',hr'.keep hle (hkeep r q l' hr hq' ha hl')⟩
 ·intro r r' q q' l1 l2 hr hr' hne hq hq' ha ha' h1 h2
  by_cases e:r=n
  ·subst e
   rw [Env'.with_self] at h1
   cases h1
   have e':r' ≠ r:=fun x=>hne x.symm
   rw [Env'.with_ne E l e'] at h2
   rw [here q hq] at ha
   exact fun x=>hnew ha r' q' l2 hr' (old r' q' hr' e' hq') ha' h2 x.symm
  ·rw [Env'.with_ne E l e] at h1
   by_cases e':r' = n
   ·subst e'
    rw [Env'.with_self] at h2
    cases h2
    rw [here q' hq'] at ha'
    exact hnew ha' r q l1 hr (old r q hr e hq) ha h1
   ·rw [Env'.with_ne E l e'] at h2
    exact hs.apart r r' q q' l1 l2 hr hr' hne (old r q hr e hq) (old r' q' hr' e' hq') ha ha' h1 h2
 ·intro r q l1 hr h64 hq h1
  by_cases e:r=n
  ·subst e
   rw [Env'.with_self] at h1
   cases h1
   exact hB
  ·rw [Env'.with_ne E l e] at h1
   exact hs.own r q l1 hr h64 (old r q hr e hq) h1
 ·intro r hr
  have hr:n + 1≤r:=hr
  rw [Env'.with_ne E l (by omega)]
  exact hs.fresh r (show n≤r by omega)
 ·show lowN≤n + 1
  omega
 ·show n + 1≤5000000
  omega
 ·intro g hg
  rw [Env'.with_ne E l (by omega)]
  exact hs.glob g hg
end Go.AM
namespace Go.AM
open Go.RowKit
theorem putO_eq (h:T Ob) (n r:Nat) (o:Option Ob):putO (.mk h n) r o = .mk (T.set (pth r) o h) n:=rfl
theorem Sim.put {B:Bds} {E:Env'} {h:T Ob} {n r:Nat} {w w':World} (hs:Sim B E (.mk h n) w) (hr:r < lim) (h64:lowN≤r) {l:Loc} {o o':Ob} (hl:E r=some l) (hq:T.get (pth r) h=some o) (hal:o.isAl=false)
 (hkeep:∀ k,k ≠ l.blk→w'.heap[k]? = w.heap[k]?) (ho:ObRel E false l w' o'):Sim B E (putO (.mk h n) r (some o')) w':=by
 rw [putO_eq]
 have old:∀ s q,s < lim→s ≠ r→T.get (pth s) (T.set (pth r) (some o') h)=some q→T.get (pth s) h=some q:=fun s q hs' hne hq=>by
  rw [get_set_pth hs' hr,if_neg hne] at hq;exact hq
 have was:∀ s q,s < lim→T.get (pth s) (T.set (pth r) (some o') h)=some q→∃ q',T.get (pth s) h=some q'∧(q.isAl=false→q'.isAl=false):=fun s q hs' hq'=>by
  by_cases e:s=r
  ·subst e;exact ⟨o,hq,fun _=>hal⟩
  ·exact ⟨q,old s q hs' e hq',fun h=>h⟩
 refine ⟨?_,?_,?_,hs.fresh,hs.low,hs.high,hs.glob⟩
 ·intro s q hs' hq'
  by_cases e:s=r
  ·subst e
   have hq':T.get (pth s) (T.set (pth s) (some o') h)=some q:=hq'
   rw [get_set_pth hr hr,if_pos rfl] at hq'
   cases hq'
   refine ⟨l,hl,?_⟩
   have:Nat.blt s lowN=false:=by cases hb:Nat.blt s lowN with
    | false=>rfl
    | true=>have:=blt_lt hb;omega
   rw [this];exact ho
  ·have hq2:=old s q hs' e hq'
   obtain ⟨l',hl',hr'⟩:=hs.live s q hs' hq2
   cases ha:q.isAl with
   | false=>exact ⟨l',hl',hr'.keep (Env'.le_refl E) (hkeep _ (hs.apart s r q o l' l hs' hr e hq2 hq ha hal hl' hl))⟩
   | true =>
     refine ⟨l',hl',hr'.keepAl (Env'.le_refl E) ha ?_⟩
     by_cases eb:l'.blk=l.blk
     ·rw [eb];exact ho.there
     ·have h1:=hkeep l'.blk eb
      rw [Array.getElem?_eq_getElem hr'.there] at h1
      exact (Array.getElem?_eq_some_iff.1 h1).1
 ·intro s s' q q' l1 l2 h1 h2 hne hq1 hq2 ha1 ha2
  obtain ⟨p,hp,hpa⟩:=was s q h1 hq1
  obtain ⟨p',hp',hpa'⟩:=was s' q' h2 hq2
  exact hs.apart s s' p p' l1 l2 h1 h2 hne hp hp' (hpa ha1) (hpa' ha2)
 ·intro s q l1 h1 h2 hq1
  obtain ⟨p,hp,_⟩:=was s q h1 hq1
  exact hs.own s p l1 h1 h2 hp
theorem Sim.kill {B:Bds} {E:Env'} {h:T Ob} {n r:Nat} {w:World} (hs:Sim B E (.mk h n) w) (hr:r < lim):Sim B E (putO (.mk h n) r none) w:=by
 rw [putO_eq]
 have old:∀ s q,s < lim→T.get (pth s) (T.set (pth r) none h)=some q→T.get (pth s) h=some q:=fun s q hs' hq=>by
  rw [get_set_pth hs' hr] at hq
  split at hq
  ·cases hq
  ·exact hq
 exact ⟨fun s q h1 h2=>hs.live s q h1 (old s q h1 h2),fun s s' q q' l1 l2 h1 h2 hne hq1 hq2 ha1 ha2=>hs.apart s s' q q' l1 l2 h1 h2 hne (old s q h1 hq1) (old s' q' h2 hq2) ha1 ha2,
  fun s q l1 h1 h2 hq1=>hs.own s q l1 h1 h2 (old s q h1 hq1),hs.fresh,hs.low,hs.high,hs.glob⟩
theorem Sim.same {B:Bds} {E:Env'} {st:St} {w w':World} (hs:Sim B E st w) (hw:w'.heap=w.heap):Sim B E st w' :=
 ⟨fun r o h1 h2=>by obtain ⟨l,hl,ho⟩:=hs.live r o h1 h2;exact ⟨l,hl,ho.keep (Env'.le_refl E) (by rw [hw])⟩,hs.apart,hs.own,hs.fresh,hs.low,hs.high,hs.glob⟩
end Go.AM
namespace Go.AM
open Go.RowKit
def Does (P:Program) (B:Bds) (E:Env') (w:World) (a:Act) (o:Oper) (k:K) (r:List (AV × St)):Prop :=
 ∃ v u w' E' st' r',((execOp a.eval o).run P w = .ok (.value u) w' ∨ ((execOp a.eval o).run P w = .ok .skip w'∧u=undef))∧E.le E'∧Sim B E' st' w'∧Bel B w w'∧VRel E' v u∧(∀ x ∈ r',x ∈ r)∧k v st' = some r'
theorem newO_inv {r:List (AV × St)} {st:St} {o:Ob} {v:Nat→AV} {k:K} (h:newO st o v k=some r) :
 ∃ t n,st = .mk t n∧n < 5000000∧k (v n) (.mk (T.set (pth n) (some o) t) (Nat.succ n))=some r:=by
 cases st with
 | mk t n =>
   have h:seqN n (fun n=>must (Nat.blt n 5000000) (k (v n) (.mk (T.set (pth n) (some o) t) (Nat.succ n))))=some r:=h
   rw [seqN_eq] at h
   obtain ⟨hb,h⟩:=must_inv h
   exact ⟨t,n,rfl,blt_lt hb,h⟩
theorem VRel.cells {E:Env'} {x:AV} {v:Value} (h:VRel E x v) (hu:x ≠ .u):CRel E x v.cells.toList:=by
 cases x with
 | a c=>simp only [VRel] at h;obtain ⟨l,rfl,hl⟩:=h;exact .inl ⟨c,rfl,by simpa [Value.cells] using hl⟩
 | u=>exact absurd rfl hu
 | nl=>simp only [VRel] at h
 | cn _ _=>simp only [VRel] at h
 | _ =>
   refine .inr ⟨rfl,v,?_,h⟩
   simp only [VRel] at h
   first
   | (subst h;rfl)
   | (obtain ⟨_,rfl,_⟩:=h;rfl)
   | (obtain ⟨_,_,rfl⟩:=h;rfl)
   | (obtain ⟨_,_,rfl,_⟩:=h;rfl)
   | (obtain ⟨_,_,_,_,_,rfl⟩:=h;rfl)
theorem cellsOf_inv' {r:List (AV × St)} {v:AV} {f:Nat→AV→Out} (h:cellsOf v f=some r) :
 ∃ n row,f n row=some r∧v ≠ .u∧∀ (E:Env') (l:List Value),CRel E v l→LRel E row l∧n=l.length:=by
 obtain ⟨n,row,h1,h2⟩:=cellsOf_inv h
 exact ⟨n,row,h1,fun e=>by subst e;exact no_out h,h2⟩
section
variable {P:Program} {B:Bds} {E:Env'} {st:St} {w:World} {nt:Nat} {tm:Tm} {a:Act} {k:K} {r:List (AV × St)} {o:Oper}
theorem Sim.newRow {t:T Ob} {n:Nat} (hs:Sim B E (.mk t n) w) (hB:BIn B w) (hn:n < 5000000) {e:TypeId} {row:AV} {l:List Value} (hl:LRel E row l) :
 E.le (E.with n ⟨w.heap.size,0,0,0⟩)∧Sim B (E.with n ⟨w.heap.size,0,0,0⟩) (.mk (T.set (pth n) (some (.c e l.length row)) t) (Nat.succ n)) (w.alloc (.cells l.toArray e)):=by
 have hlt:∀ s q l',s < lim→T.get (pth s) t=some q→E s=some l'→l'.blk < w.heap.size:=fun s q l' h1 h2 h3=>by
  obtain ⟨l2,hl2,ho⟩:=hs.live s q h1 h2
  rw [h3] at hl2
  cases hl2
  exact ho.there
 refine Sim.new hs hn hB.out ?_ (fun _ s q l' h1 h2 _ h3=>?_) (fun s q l' h1 h2 _ h3=>?_) ?_
 ·show w.heap.size≤(w.heap.push _).size;simp
 ·have:=hlt s q l' h1 h2 h3
  show l'.blk ≠ w.heap.size
  omega
 ·exact Below.heap_alloc _ _ _ (hlt s q l' h1 h2 h3)
 ·refine ⟨l.toArray,(0,0),l,e,?_,fun _=>⟨rfl,rfl⟩,hl.mono (Env'.le_with (hs.fresh n (Nat.le_refl n))),rfl,fun i _=>?_⟩
  ·show (w.heap.push _)[w.heap.size]? = _
   simp
  ·simp
theorem bx_does (hs:Sim B E st w) (hB:BIn B w) (ht:TmRel E nt tm a) {t:TypeId} {x:Operand} (ho:o.op = .box t x) (h:opBx t (co x) tm st k=some r):Does P B E w a o k r:=by
 unfold opBx at h
 obtain ⟨m,row,h,hrow⟩:=cellsOf_inv' h
 obtain ⟨hne,hrow⟩:=hrow
 have hx:=co_rel hs ht x
 obtain ⟨hl,hm⟩:=hrow E _ (hx.cells hne)
 obtain ⟨tr,n,rfl,hn,h⟩:=newO_inv h
 obtain ⟨hle,hs'⟩:=Sim.newRow hs hB hn (e:=t) hl
 subst hm
 refine ⟨_,.pointer (some ⟨w.heap.size,0,none⟩),_,_,_,_,.inl ?_,hle,hs',(Bel.refl B w).alloc hB _,?_,fun _ h=>h,h⟩
 ·unfold execOp
  rw [ho]
  simp [Instr.box,newVar,Go.newRow]
 ·simp only [VRel]
  exact ⟨_,Env'.with_self _ _ _,rfl⟩
theorem rowZ_inv {t n:Nat} {row:AV} (h:rowZ P t=some (n,row)):∃ i v,P.info? t=some i∧i.zero=some v∧LRel E row v.cells.toList∧n=v.cells.toList.length:=by
 unfold rowZ at h
 have key:∀ z,zer P t=some z→z ≠ .u→∃ i v,P.info? t=some i∧i.zero=some v∧CRel E z v.cells.toList:=fun z hz hu=>by
  unfold zer at hz
  split at hz
  ·rename_i i hi
   split at hz
   ·rename_i v hv
    cases hz
    exact ⟨i,v,hi,hv,(ofV1_rel E 6 v).cells hu⟩
   ·cases hz
  ·cases hz
 split at h
 ·rename_i c hz
  cases h
  obtain ⟨i,v,h1,h2,h3⟩:=key _ hz (by simp)
  rcases h3 with ⟨c',e,hl⟩ | ⟨e,_⟩
  ·cases e;exact ⟨i,v,h1,h2,hl,hl.len⟩
  ·cases e
 ·cases h
 ·rename_i z hna hnu hz
  cases h
  obtain ⟨i,v,h1,h2,h3⟩:=key _ hz (fun e=>hnu e)
  rcases h3 with ⟨c',e,hl⟩ | ⟨_,y,e,hy⟩
  ·exact absurd e (hna c')
  ·exact ⟨i,v,h1,h2,by rw [e];simp only [LRel];exact ⟨y,[],rfl,hy,rfl⟩,by rw [e];rfl⟩
 ·cases h
theorem nw_does (hs:Sim B E st w) (hB:BIn B w) {t n:Nat} {row:AV} (ho:o.op = .alloc t) (hz:rowZ P t=some (n,row)) (h:opNw t n row tm st k=some r):Does P B E w a o k r:=by
 unfold opNw at h
 obtain ⟨i,v,hi,hv,hl,rfl⟩:=rowZ_inv (E:=E) hz
 obtain ⟨tr,n,rfl,hn,h⟩:=newO_inv h
 obtain ⟨hle,hs'⟩:=Sim.newRow hs hB hn (e:=t) hl
 refine ⟨_,.pointer (some ⟨w.heap.size,0,none⟩),_,_,_,_,.inl ?_,hle,hs',(Bel.refl B w).alloc hB _,?_,fun _ h=>h,h⟩
 ·unfold execOp
  rw [ho]
  simp [Instr.alloc,zeroValue,typeInfo,hi,hv,newVar,Go.newRow]
 ·simp only [VRel]
  exact ⟨_,Env'.with_self _ _ _,rfl⟩
end
end Go.AM
namespace Go.AM
open Go.RowKit
theorem isCell_one {E:Env'} {x:AV} {v:Value} (hc:isCell x=true) (h:VRel E x v):v.oneCell' = true:=by
 cases x with
 | u=>exact absurd hc (by decide)
 | a c=>exact absurd (show false=true from hc) (by decide)
 | t c=>exact absurd (show false=true from hc) (by decide)
 | nl=>exact absurd hc (by decide)
 | cn _ _=>exact absurd (show false=true from hc) (by decide)
 | _ =>
   simp only [VRel] at h
   first
   | (subst h;rfl)
   | (obtain ⟨_,rfl,_⟩:=h;rfl)
   | (obtain ⟨_,_,rfl⟩:=h;rfl)
   | (obtain ⟨_,_,rfl,_⟩:=h;rfl)
   | (obtain ⟨_,_,_,_,_,rfl⟩:=h;rfl)
theorem rowOk_one {E:Env'}:∀ {row:AV} {l:List Value},rowOk row=true→LRel E row l→∀ v ∈ l,v.oneCell' = true:=by
 intro row
 induction row with
 | nl=>intro l _ h;simp only [LRel] at h;subst h;intro v hv;cases hv
 | cn x t _ ih =>
   intro l hr h
   have hr:(isCell x && rowOk t)=true:=hr
   rw [Bool.and_eq_true] at hr
   simp only [LRel] at h
   obtain ⟨y,m,rfl,h1,h2⟩:=h
   intro v hv
   rcases List.mem_cons.1 hv with rfl | hv
   ·exact isCell_one hr.1 h1
   ·exact ih hr.2 h2 v hv
 | _=>intro l _ h;simp only [LRel] at h
theorem LRel.ovr {E:Env'}:∀ {xs:AV} {m:List Value} {row:AV} {l:List Value},LRel E xs m→LRel E row l→m.length≤l.length→LRel E (ovr xs row) (m ++ l.drop m.length):=by
 intro xs
 induction xs with
 | nl=>intro m row l h h2 _;simp only [LRel] at h;subst h;exact h2
 | cn x t _ ih =>
   intro m row l h h2 hle
   simp only [LRel] at h
   obtain ⟨y,m,rfl,g1,g2⟩:=h
   cases row with
   | cn x' t' =>
     simp only [LRel] at h2
     obtain ⟨y',l,rfl,_,g3⟩:=h2
     show LRel E (.cn x (AM.ovr t t')) _
     simp only [LRel,List.length_cons,List.drop_succ_cons,List.cons_append]
     exact ⟨y,_,rfl,g1,ih g2 g3 (by simpa using hle)⟩
   | nl=>simp only [LRel] at h2;subst h2;simp at hle
   | _=>simp only [LRel] at h2
 | _=>intro m row l h;simp only [LRel] at h
theorem LRel.set {E:Env'} {xs:AV} {m:List Value} (hx:LRel E xs m):∀ (o:Nat) {row:AV} {l:List Value},LRel E row l→o + m.length≤l.length→LRel E (setA o xs row) (l.take o ++ (m ++ l.drop (o + m.length)))
 | 0,row,l,h,hle=>by
   have:=LRel.ovr hx h (by omega)
   show LRel E (AM.ovr xs row) _
   simpa using this
 | o + 1,row,l,h,hle=>by
   cases row with
   | cn x t =>
     simp only [LRel] at h
     obtain ⟨y,l,rfl,g1,g2⟩:=h
     have:=LRel.set hx o g2 (by simp only [List.length_cons] at hle;omega)
     show LRel E (.cn x (setA o xs t)) _
     rw [show o + 1 + m.length=o + m.length + 1 by omega]
     simp only [LRel,List.take_succ_cons,List.drop_succ_cons,List.cons_append]
     exact ⟨y,_,rfl,g1,this⟩
   | nl=>simp only [LRel] at h;subst h;simp at hle
   | _=>simp only [LRel] at h
end Go.AM
namespace Go.AM
open Go.RowKit
theorem getElem?_mid {α:Type} (l xs:List α) (p i:Nat) (hp:p + xs.length≤l.length) :
 (l.take p ++ xs ++ l.drop (p + xs.length))[i]? = if i < p then l[i]? else if i < p + xs.length then xs[i - p]? else l[i]?:=by
 have h1:(l.take p).length=p:=by rw [List.length_take];omega
 rw [List.append_assoc]
 by_cases hi:i < p
 ·rw [if_pos hi,List.getElem?_append_left (by omega),List.getElem?_take_of_lt hi]
 ·rw [if_neg hi,List.getElem?_append_right (by omega),h1]
  by_cases h2:i < p + xs.length
  ·rw [if_pos h2,List.getElem?_append_left (by omega)]
  ·rw [if_neg h2,List.getElem?_append_right (by omega),List.getElem?_drop]
   congr 1;omega
theorem cellsOf_ok {r:List (AV × St)} {v:AV} {f:Nat→AV→Out} (h:cellsOf v f=some r) :
 ∃ n row,f n row=some r∧v ≠ .u∧rowOk row=true∧∀ (E:Env') (l:List Value),CRel E v l→LRel E row l∧n=l.length:=by
 have key:∀ v:AV,isAg v=false→∀ (E:Env') (l:List Value),CRel E v l→LRel E (.cn v .nl) l∧1=l.length:=by
  intro v hv E l hc
  rcases hc with ⟨c,rfl,_⟩ | ⟨_,x,rfl,hx⟩
  ·cases hv
  ·exact ⟨by simp only [LRel];exact ⟨x,[],rfl,hx,rfl⟩,rfl⟩
 cases v with
 | a c =>
   obtain ⟨hr,h⟩:=must_inv (show must (rowOk c) (f (lenA c) c)=some r from h)
   refine ⟨lenA c,c,h,by simp,hr,fun E l hc=>?_⟩
   rcases hc with ⟨c',hc,hl⟩ | ⟨hc,_⟩
   ·cases hc;exact ⟨hl,hl.len⟩
   ·cases hc
 | u=>exact no_out h
 | t c=>exact no_out h
 | nl=>exact no_out h
 | cn x y=>exact no_out h
 | _=>exact ⟨1,_,h,by simp,rfl,key _ rfl⟩
theorem run_storeAt_row {P:Program} {w:World} {t n b o:Nat} {c:Array Value} {e:TypeId} (hb:w.heap[b]? = some (.cells c e (0,0))) {v:Value} (hn:szOf P t=some n) (hv:v.cells.toList.length=n)
 (hfit:o + n≤c.size) (h1:∀ u ∈ v.cells.toList,u.oneCell' = true) :
 (Instr.storeAt t (.pointer (some ⟨b,o,none⟩)) v).run P w = .ok () (w.setRow b (c.toList.take o ++ v.cells.toList ++ c.toList.drop (o + v.cells.toList.length)).toArray):=by
 have hst:=run_storeCells_at P b o e v.cells.toList 0 c w hb (by rw [hv];omega) h1
 have hs:v.cells.size=n:=by rw [← hv];simp
 simp only [Instr.storeAt,Instr.sureAddr,Sem.run_bind,Sem.run_pure,Result.andThen_ok,storeVar,run_sizeOf hn,hs,ne_eq,not_true_eq_false,if_false]
 simpa using hst
section
variable {P:Program} {B:Bds} {E:Env'} {st:St} {w:World} {nt:Nat} {tm:Tm} {a:Act} {k:K} {r:List (AV × St)} {o:Oper}
theorem inEl_inv {e xs:AV} {q n:Nat} {f:AV→Out} (h:inEl e q n xs f=some r) (hok:rowOk xs=true) :
 ∃ e',f e' = some r∧∀ {E:Env'} {l m:List Value},CRel E e l→LRel E xs m→m.length=n→q + n≤l.length∧CRel E e' (l.take q ++ m ++ l.drop (q + m.length)):=by
 unfold inEl at h
 cases ha:isAg e with
 | false =>
   rw [ha] at h
   have h:must (Nat.beq q 0) (must (Nat.beq n 1) (f (hd xs)))=some r:=h
   obtain ⟨h0,h⟩:=must_inv h
   obtain ⟨h1,h⟩:=must_inv h
   have h0:=Nat.eq_of_beq_eq_true h0
   have h1:=Nat.eq_of_beq_eq_true h1
   subst h0;subst h1
   refine ⟨_,h,fun {E l m} hc hx hm=>?_⟩
   rcases hc with ⟨c,rfl,_⟩ | ⟨_,v,rfl,_⟩
   ·cases ha
   ·cases xs with
    | cn x t =>
      simp only [LRel] at hx
      obtain ⟨y,m',rfl,hy,_⟩:=hx
      have:m' = []:=List.eq_nil_of_length_eq_zero (by simpa using hm)
      subst this
      have hok:(isCell x && rowOk t)=true:=hok
      rw [Bool.and_eq_true] at hok
      refine ⟨by simp,.inr ⟨?_,y,by simp,hy⟩⟩
      show isAg x=false
      cases x <;> first | rfl | exact absurd (show false=true from hok.1) (by decide)
    | nl=>simp only [LRel] at hx;subst hx;simp at hm
    | _=>simp only [LRel] at hx
 | true =>
   rw [ha] at h
   have h:asA e (fun c=>must (Nat.ble (Nat.add q n) (lenA c)) (f (.a (setA q xs c))))=some r:=h
   obtain ⟨c,rfl,h⟩:=asA_inv h
   obtain ⟨hb,h⟩:=must_inv h
   have hb:q + n≤lenA c:=Nat.le_of_ble_eq_true hb
   refine ⟨_,h,fun {E l m} hc hx hm=>?_⟩
   rcases hc with ⟨c',hc,hl⟩ | ⟨hc,_⟩
   ·cases hc
    rw [hl.len] at hb
    refine ⟨hb,.inl ⟨_,rfl,?_⟩⟩
    have:=LRel.set hx q hl (by rw [hm];exact hb)
    rwa [List.append_assoc]
   ·cases hc
theorem st_does (hs:Sim B E st w) (ht:TmRel E nt tm a) {t n:Nat} {x y:Operand} (ho:o.op = .store t x y) (hn:szOf P t=some (n + 1)) (h:opSt (n + 1) (co x) (co y) tm st k=some r):Does P B E w a o k r:=by
 unfold opSt at h
 obtain ⟨b,p,he,h⟩:=asP_inv h
 obtain ⟨h64,h⟩:=must_inv h
 have h64:lowN≤b:=Nat.le_of_ble_eq_true h64
 obtain ⟨m,xs,h,hu,hok,hrow⟩:=cellsOf_ok h
 obtain ⟨hmn,h⟩:=must_inv h
 have hmn:=Nat.eq_of_beq_eq_true hmn
 obtain ⟨q,hq,h⟩:=ob_inv h
 have hx:=co_rel hs ht x
 rw [he] at hx
 obtain ⟨l,hl,hv,hr⟩:=hs.at hx hq
 obtain ⟨hxs,hlen⟩:=hrow E _ ((co_rel hs ht y).cells hu)
 rw [hmn] at hlen
 have h1:=rowOk_one hok hxs
 have hro:Nat.blt b lowN=false:=by
  cases hb:Nat.blt b lowN with
  | false=>rfl
  | true=>have:=blt_lt hb;omega
 rw [hro] at hr
 have hlt:=hs.lt hl
 have hown:=hs.own b q l hlt h64 hq hl
 generalize hL:(a.eval y).cells.toList=L at *
 have hal:q.isAl=false:=by
  rcases obR_inv h with ⟨_,_,_,e,_⟩ | ⟨_,_,_,_,e,_⟩ <;> (rw [e];rfl)
 have fin:∀ {c:Array Value} {e:TypeId},w.heap[l.blk]? = some (.cells c e (0,0))→l.base + p + (n + 1)≤c.size→∀ {o':Ob},
  (ObRel E false l (w.setRow l.blk (c.toList.take (l.base + p) ++ L ++ c.toList.drop (l.base + p + L.length)).toArray) o') →
  ∀ r',k (.t .nl) (putO st b (some o'))=some r'→(∀ z ∈ r',z ∈ r)→Does P B E w a o k r:=by
  intro c e hc hfit o' ho' r' hk hsub
  refine ⟨.t .nl,undef,w.setRow l.blk (c.toList.take (l.base + p) ++ L ++ c.toList.drop (l.base + p + L.length)).toArray,E,_,r',.inr ⟨?_,rfl⟩,Env'.le_refl E,?_,?_,?_,hsub,hk⟩
  ·unfold execOp
   rw [ho,Sem.run_bind,hv]
   have:=run_storeAt_row (P:=P) (w:=w) (t:=t) (v:=a.eval y) (o:=l.base + p) hc hn (by rw [hL];exact hlen.symm) hfit (by rw [hL];exact h1)
   rw [hL] at this
   rw [this]
   rfl
  ·cases st with
   | mk tr nn=>exact Sim.put hs hlt h64 hl hq hal (fun j hj=>setRow_other w l.blk j _ hj) ho'
  ·exact ⟨rfl,rfl,rfl,by simp,fun j hj=>setRow_other w l.blk j _ (fun e=>hown (e ▸ hj))⟩
  ·simp only [VRel];exact ⟨[],rfl,by simp only [LRel]⟩
 rcases obR_inv h with ⟨t',len,row,rfl,h'⟩ | ⟨e,sz,len,els,rfl,h'⟩
 ·obtain ⟨hb',h'⟩:=must_inv h'
  have hb:p + (n + 1)≤len:=Nat.le_of_ble_eq_true hb'
  obtain ⟨c,fr,lv,t2,hc,hfr,hrow',hlen',hcell⟩:=hr
  obtain ⟨hfr,ht2⟩:=hfr rfl
  subst hfr
  subst ht2
  have hsz:l.base + len≤c.size:=by
   have h2:=hcell (len - 1) (by omega)
   rw [List.getElem?_eq_getElem (by omega)] at h2
   have:=(Array.getElem?_eq_some_iff.1 h2).1
   omega
  refine fin hc (by omega) (o':=.c t2 len (setA p xs row)) ?_ r h' (fun _ h=>h)
  refine ⟨_,(0,0),_,_,setRow_heap w l.blk c _ _ (0,0) hc,fun _=>⟨rfl,rfl⟩,LRel.set hxs p hrow' (by omega),?_,fun i hi=>?_⟩
  ·simp only [List.length_append,List.length_take,List.length_drop];omega
  ·have e1:=getElem?_mid c.toList L (l.base + p) (l.base + i) (by have:=@Array.length_toList _ c;omega)
   have e2:=getElem?_mid lv L p i (by omega)
   rw [List.append_assoc] at e2
   simp only [List.getElem?_toArray]
   rw [e1,e2,Array.getElem?_toList,hcell i hi]
   by_cases g1:i < p
   ·rw [if_pos (by omega),if_pos g1]
   ·rw [if_neg (by omega),if_neg g1]
    by_cases g2:i < p + L.length
    ·rw [if_pos (by omega),if_pos g2];congr 1;omega
    ·rw [if_neg (by omega),if_neg g2]
 ·rw [seqN_eq] at h'
  obtain ⟨hb',h'⟩:=must_inv h'
  have hb:=blt_lt hb'
  obtain ⟨v,hv',h'⟩:=el_inv h'
  obtain ⟨v2,h',hel⟩:=inEl_inv h' hok
  obtain ⟨c,fr,hc,hfr,hsz,hcap,hsize,hels⟩:=hr
  have hfr:=hfr rfl
  subst hfr
  have e3:Nat.mod p sz=p % sz:=rfl
  have e4:Nat.div p sz=p / sz:=rfl
  rw [e3] at hel
  rw [e4] at hb hv' h'
  obtain ⟨lv,hlv,hcr,hcell⟩:=hels _ hb v hv'
  obtain ⟨hfit,hcr'⟩:=hel hcr hxs hlen.symm
  rw [hlv] at hfit
  have e1:p / sz * sz + p % sz=p:=by rw [Nat.mul_comm];exact Nat.div_add_mod p sz
  have hq1:p / sz * sz + sz≤l.cap * sz:=by
   have:(p / sz + 1) * sz≤l.cap * sz:=Nat.mul_le_mul_right _ (by omega)
   rwa [Nat.add_mul,Nat.one_mul] at this
  refine fin hc (by omega) (o':=.v e sz len (T.set (pth (p / sz)) (some v2) els)) ?_ r h' (fun _ h=>h)
  have hql:p / sz < lim:=by unfold lim;omega
  refine ⟨_,(0,0),setRow_heap w l.blk c _ e (0,0) hc,fun _=>rfl,hsz,hcap,?_,fun q hq uu hu=>?_⟩
  ·simp only [List.size_toArray,List.length_append,List.length_take,List.length_drop,Array.length_toList];omega
  ·have e5:∀ j:Nat,((c.toList.take (l.base + p) ++ L ++ c.toList.drop (l.base + p + L.length)).toArray)[j]? = if j < l.base + p then c[j]? else if j < l.base + p + L.length then L[j - (l.base + p)]? else c[j]?:=fun j=>by
    rw [List.getElem?_toArray,getElem?_mid _ _ _ _ (by have:=@Array.length_toList _ c;omega),Array.getElem?_toList]
   have hqlim:q < lim:=by unfold lim;omega
   rw [get_set_pth hqlim hql] at hu
   by_cases eq:q=p / sz
   ·subst eq
    rw [if_pos rfl] at hu
    cases hu
    refine ⟨_,?_,hcr',fun i hi=>?_⟩
    ·simp only [List.length_append,List.length_take,List.length_drop];omega
    ·rw [e5,getElem?_mid lv L (p % sz) i (by omega),hcell i hi]
     by_cases g1:i < p % sz
     ·rw [if_pos (by omega),if_pos g1]
     ·rw [if_neg (by omega),if_neg g1]
      by_cases g2:i < p % sz + L.length
      ·rw [if_pos (by omega),if_pos g2];congr 1;omega
      ·rw [if_neg (by omega),if_neg g2]
   ·rw [if_neg eq] at hu
    obtain ⟨lw,g1,g2,g3⟩:=hels q hq uu hu
    refine ⟨lw,g1,g2,fun i hi=>?_⟩
    rw [e5,← g3 i hi]
    rcases Nat.lt_or_gt_of_ne eq with h3 | h3
    ·have:(q + 1) * sz≤p / sz * sz:=Nat.mul_le_mul_right _ h3
     rw [Nat.add_mul,Nat.one_mul] at this
     rw [if_pos (by omega)]
    ·have:(p / sz + 1) * sz≤q * sz:=Nat.mul_le_mul_right _ h3
     rw [Nat.add_mul,Nat.one_mul] at this
     rw [if_neg (by omega),if_neg (by omega)]
end
end Go.AM
namespace Go.AM
open Go.RowKit
theorem dropN_eq:∀ (n:Nat) (l:List Nat),dropN n l=l.drop n
 | 0,_=>rfl
 | _ + 1,[]=>rfl
 | n + 1,_ :: t=>dropN_eq n t
theorem takeN_eq:∀ (n:Nat) (l:List Nat),takeN n l=l.take n
 | 0,_=>rfl
 | _ + 1,[]=>rfl
 | n + 1,x :: t=>congrArg (x :: ·) (takeN_eq n t)
theorem nthN_inv {r:List (AV × St)} {f:Nat→Out}:∀ (n:Nat) (l:List Nat),nthN n l f=some r→∃ c,l[n]? = some c∧f c=some r
 | 0,[],h=>no_out h
 | 0,x :: t,h=>⟨x,rfl,h⟩
 | n + 1,[],h=>no_out h
 | n + 1,x :: t,h=>by
   obtain ⟨c,h1,h2⟩:=nthN_inv n t h
   exact ⟨c,by simpa using h1,h2⟩
theorem bytes_extract (s:ByteArray) (a b:Nat):(s.extract a b).data.toList.map (·.toNat)=((s.data.toList.map (·.toNat)).drop a).take (b - a):=by
 rw [← List.map_drop,← List.map_take]
 congr 1
 simp [ByteArray.data_extract,Array.toList_extract,List.extract_eq_take_drop]
section
variable {P:Program} {B:Bds} {E:Env'} {st:St} {w:World} {nt:Nat} {tm:Tm} {a:Act} {k:K} {r:List (AV × St)} {o:Oper}
theorem bnd_inv (hs:Sim B E st w) (ht:TmRel E nt tm a) {lo:Option Operand} {d:Nat} {f:Nat→Out} (h:bnd (lo.map co) d tm f=some r) :
 ∃ n:Nat,f n=some r∧((lo.map a.eval=none∧n=d) ∨ ∃ q,lo.map a.eval=some (.int q n)):=by
 cases lo with
 | none=>exact ⟨d,h,.inl ⟨rfl,rfl⟩⟩
 | some x =>
   obtain ⟨q,n,hn,h⟩:=asN_inv (show asN (evc (co x) tm) f=some r from h)
   have hx:=co_rel hs ht x
   rw [hn] at hx
   simp only [VRel] at hx
   exact ⟨n,h,.inr ⟨q,by simp [hx]⟩⟩
theorem run_sliceBound {v:Value} {q:IntKind} {n y:Nat} (hv:v = .int q n) (h:n≤y) (c:BoundsCode):(Instr.sliceBound v y c).run P w = .ok n w:=by
 subst hv
 simp [Instr.sliceBound,asIntOf,h]
theorem run_sliceBounds {lo hi:Option Value} {la ha len cap:Nat} (b:Bool) (hlo:(lo=none∧la=0) ∨ ∃ q,lo=some (.int q la)) (hhi:(hi=none∧ha=len) ∨ ∃ q,hi=some (.int q ha))
 (h1:la≤ha) (h2:ha≤cap):(Instr.sliceBounds b len cap lo hi none).run P w = .ok (la,ha,cap) w:=by
 rcases hlo with ⟨rfl,rfl⟩ | ⟨q,rfl⟩ <;> rcases hhi with ⟨rfl,rfl⟩ | ⟨q',rfl⟩ <;>
  simp [Instr.sliceBounds,run_sliceBound rfl h1,run_sliceBound rfl h2]
theorem nc_reads (hs:Sim B E st w) (ht:TmRel E nt tm a) {x:Operand} (ho:o.op = .nilCheck x) (h:opNc (co x) tm st k=some r):Reads P E st w a o k r:=by
 unfold opNc at h
 obtain ⟨hn,h⟩:=must_inv h
 have hx:=co_rel hs ht x
 refine ⟨_,a.eval x,?_,hx,h⟩
 unfold execOp
 rw [ho]
 generalize hv:evc (co x) tm=v at *
 cases v with
 | p r o=>simp only [VRel] at hx;obtain ⟨l,_,hx⟩:=hx;simp [hx]
 | f fn fs cs =>
   simp only [VRel] at hx
   obtain ⟨la,lc,hx,_,_⟩:=hx
   cases fn with
   | method n=>exact absurd (show false=true from hn) (by decide)
   | _=>simp [hx]
 | _=>exact absurd (show false=true from hn) (by decide)
theorem nt_reads (hs:Sim B E st w) (ht:TmRel E nt tm a) {t:TypeId} {x:Operand} (ho:o.op = .unOp .not t x) (h:opNt (co x) tm st k=some r):Reads P E st w a o k r:=by
 unfold opNt at h
 obtain ⟨b,hb,h⟩:=asB_inv h
 have hx:=co_rel hs ht x
 rw [hb] at hx
 simp only [VRel] at hx
 refine reads_of (s:=Op.unary .not (a.eval x)) (u:=.bool (!b)) (by unfold execOp;rw [ho]) (by simp [hx,Op.unary]) (by simp only [VRel]) h
theorem ng_reads (hs:Sim B E st w) (ht:TmRel E nt tm a) {t:TypeId} {x:Operand} (ho:o.op = .unOp .neg t x) (h:opNg (co x) tm st k=some r):Reads P E st w a o k r:=by
 unfold opNg at h
 obtain ⟨q,n,hb,h⟩:=asI_inv h
 obtain ⟨v,hv,h⟩:=kI_inv (E:=E) h
 have hx:=co_rel hs ht x
 rw [hb] at hx
 simp only [VRel] at hx
 exact reads_of (s:=Op.unary .neg (a.eval x)) (by unfold execOp;rw [ho]) (by simp [hx,Op.unary,Op.intArith]) hv h
theorem cv_reads (hs:Sim B E st w) (ht:TmRel E nt tm a) {s t:TypeId} {q q':IntKind} {x:Operand} (ho:o.op = .convert s t x) (h1:P.underlying s=some (.int q')) (h2:P.underlying t=some (.int q)) (h:opCv q (co x) tm st k=some r):Reads P E st w a o k r:=by
 unfold opCv at h
 obtain ⟨q'',n,hb,h⟩:=asI_inv h
 obtain ⟨v,hv,h⟩:=kI_inv (E:=E) h
 have hx:=co_rel hs ht x
 rw [hb] at hx
 simp only [VRel] at hx
 exact reads_of (s:=convert s t (a.eval x)) (by unfold execOp;rw [ho]) (by simp [hx,convert,run_underlying h1,run_underlying h2,Conv.intToInt]) hv h
theorem cs_reads (hs:Sim B E st w) (ht:TmRel E nt tm a) {s t:TypeId} {x:Operand} (ho:o.op = .convert s t x) (h1:P.underlying s=some .string) (h2:P.underlying t=some .string) (h:opCs (co x) tm st k=some r):Reads P E st w a o k r:=by
 unfold opCs at h
 obtain ⟨l,hb,h⟩:=asS_inv h
 have hx:=co_rel hs ht x
 have hx':=hx
 rw [hb] at hx'
 simp only [VRel] at hx'
 obtain ⟨b,hx',_⟩:=hx'
 exact reads_of (s:=convert s t (a.eval x)) (u:=a.eval x) (by unfold execOp;rw [ho]) (by simp [hx',convert,run_underlying h1,run_underlying h2]) hx h
theorem mi_reads (hs:Sim B E st w) (ht:TmRel E nt tm a) {t:TypeId} {d:TypeDesc} {x:Operand} (ho:o.op = .makeInterface t x) (h1:P.underlying t=some d) (h2:∀ ms,d ≠ .interface ms) (h:opMi t (co x) tm st k=some r):Reads P E st w a o k r:=by
 unfold opMi at h
 refine reads_of (s:=Instr.makeInterface t (a.eval x)) (u:=.iface t (a.eval x)) (by unfold execOp;rw [ho]) ?_ (by simp only [VRel];exact ⟨_,rfl,co_rel hs ht x⟩) h
 unfold Instr.makeInterface
 rw [Sem.run_bind,run_underlying h1 w]
 simp only [Result.andThen_ok]
 cases d <;> first | rfl | exact absurd rfl (h2 _)
theorem evl_rel (hs:Sim B E st w) (ht:TmRel E nt tm a):∀ l:List Operand,LRel E (evl (l.map co) tm) (l.map a.eval)
 | []=>by show LRel E .nl [];simp only [LRel]
 | x :: l=>by
   show LRel E (.cn (evc (co x) tm) (evl (l.map co) tm)) (a.eval x :: l.map a.eval)
   simp only [LRel]
   exact ⟨_,_,rfl,co_rel hs ht x,evl_rel hs ht l⟩
theorem mf_reads (hs:Sim B E st w) (ht:TmRel E nt tm a) {fn:Fn} {f c:Array Operand} (ho:o.op = .makeFunc fn f c) (h:opMf fn (f.toList.map co) (c.toList.map co) tm st k=some r):Reads P E st w a o k r:=by
 unfold opMf at h
 refine reads_of (s:=Instr.makeFunc fn (f.map a.eval) (c.map a.eval)) (u:=.func fn (f.map a.eval) (c.map a.eval)) (by unfold execOp;rw [ho]) (by simp [Instr.makeFunc]) ?_ h
 simp only [VRel]
 exact ⟨f.toList.map a.eval,c.toList.map a.eval,by rw [← Array.toList_map,← Array.toList_map],evl_rel hs ht _,evl_rel hs ht _⟩
theorem ss_reads (hs:Sim B E st w) (ht:TmRel E nt tm a) {t:TypeId} {x:Operand} {lo hi:Option Operand} (ho:o.op = .slice t x lo hi none) (hu:P.underlying t=some .string) (h:opSs (co x) (lo.map co) (hi.map co) tm st k=some r):Reads P E st w a o k r:=by
 unfold opSs at h
 obtain ⟨l,hl,h⟩:=asS_inv h
 obtain ⟨la,h,hlo⟩:=bnd_inv hs ht h
 obtain ⟨ha,h,hhi⟩:=bnd_inv hs ht h
 obtain ⟨h1,h⟩:=must_inv h
 obtain ⟨h2,h⟩:=must_inv h
 have h1:la≤ha:=Nat.le_of_ble_eq_true h1
 have h2:ha≤l.length:=Nat.le_of_ble_eq_true h2
 have hx:=co_rel hs ht x
 rw [hl] at hx
 simp only [VRel] at hx
 obtain ⟨s,hx,rfl⟩:=hx
 have hsz:(s.data.toList.map (·.toNat)).length=s.size:=by rw [List.length_map];rfl
 rw [hsz] at h2 hhi
 refine reads_of (s:=Instr.sliceAt t (a.eval x) (lo.map a.eval) (hi.map a.eval) none) (u:=.string (s.extract la ha)) (by unfold execOp;rw [ho];rfl) ?_ ?_ h
 ·simp [Instr.sliceAt,run_underlying hu,Instr.slice,hx,run_sliceBounds false hlo hhi h1 h2]
 ·simp only [VRel]
  exact ⟨_,rfl,by rw [bytes_extract,takeN_eq,dropN_eq];rfl⟩
theorem sl_reads (hs:Sim B E st w) (ht:TmRel E nt tm a) {t e sz:Nat} {x:Operand} {lo hi:Option Operand} (ho:o.op = .slice t x lo hi none) (hu:P.underlying t=some (.slice e)) (hz:szOf P e=some sz) (h:opSl sz (co x) (lo.map co) (hi.map co) tm st k=some r):Reads P E st w a o k r:=by
 unfold opSl at h
 have hx:=co_rel hs ht x
 rcases asL_inv h with ⟨he,h⟩ | ⟨b,q,n,he,h⟩
 ·obtain ⟨la,h,hlo⟩:=bnd_inv hs ht h
  obtain ⟨ha,h,hhi⟩:=bnd_inv hs ht h
  obtain ⟨h1,h⟩:=must_inv h
  obtain ⟨h2,h⟩:=must_inv h
  have h1:=Nat.eq_of_beq_eq_true h1
  have h2:=Nat.eq_of_beq_eq_true h2
  subst h1;subst h2
  rw [he] at hx
  simp only [VRel] at hx
  refine reads_of (s:=Instr.sliceAt t (a.eval x) (lo.map a.eval) (hi.map a.eval) none) (u:=.slice none 0 0) (by unfold execOp;rw [ho];rfl) ?_ (by simp only [VRel]) h
  simp [Instr.sliceAt,run_underlying hu,Instr.slice,hx,run_sliceBounds true hlo hhi (Nat.le_refl 0) (Nat.le_refl 0),run_sizeOf hz]
 ·obtain ⟨la,h,hlo⟩:=bnd_inv hs ht h
  obtain ⟨ha,h,hhi⟩:=bnd_inv hs ht h
  obtain ⟨h1,h⟩:=must_inv h
  obtain ⟨h2,h⟩:=must_inv h
  have h1:la≤ha:=Nat.le_of_ble_eq_true h1
  have h2:ha≤n:=Nat.le_of_ble_eq_true h2
  rw [he] at hx
  simp only [VRel] at hx
  obtain ⟨l,hl,hcap,off,hoff,hv⟩:=hx
  have hb:=run_sliceBounds (P:=P) (w:=w) (cap:=l.cap - q) true hlo hhi h1 (by omega)
  have hrun:∀ u,u = .slice (some (if l.cap - q=la then (⟨l.blk,off,none⟩:Addr) else (⟨l.blk,off,none⟩:Addr).add (la * sz))) (ha - la) (l.cap - q - la) →
   (Instr.sliceAt t (a.eval x) (lo.map a.eval) (hi.map a.eval) none).run P w = .ok u w:=fun u hu'=>by
   subst hu'
   simp only [Instr.sliceAt,run_underlying hu,Instr.slice,hv,Sem.run_bind,Result.andThen_ok,hb,run_sizeOf hz,Sem.run_pure]
   split <;> simp
  rcases iff_inv h with ⟨h0,h⟩ | ⟨h0,h⟩
  ·have h0:=Nat.eq_of_beq_eq_true h0
   subst h0
   refine reads_of (by unfold execOp;rw [ho];rfl) (hrun _ rfl) ?_ h
   simp only [VRel]
   refine ⟨l,hl,by omega,off,hoff,?_⟩
   simp [Addr.add]
  ·obtain ⟨b2,k2,e',szx,m,els,h,hq',hvia⟩:=obW_inv h
   obtain ⟨hszx,h⟩:=must_inv h
   have hszx:=Nat.eq_of_beq_eq_true hszx
   have hs0:l.sz=sz:=(hs.viaSz hl hvia hq').trans hszx
   have h0:la ≠ 0:=fun e=>by subst e;cases h0
   refine reads_of (by unfold execOp;rw [ho];rfl) (hrun _ rfl) ?_ h
   have e1:Nat.add q la=q + la:=rfl
   have e2:Nat.sub ha la=ha - la:=rfl
   rw [e1,e2]
   simp only [VRel]
   by_cases hc:l.cap - q=la
   ·rw [if_pos hc]
    exact ⟨l,hl,by omega,off,fun h=>by omega,by rw [show l.cap - q - la=l.cap - (q + la) by omega]⟩
   ·rw [if_neg hc,Addr.add_mid,hoff (.inl (by omega))]
    exact ⟨l,hl,by omega,l.base + q * l.sz + la * sz,fun _=>by rw [hs0,Nat.add_mul,Nat.add_assoc],by rw [show l.cap - q - la=l.cap - (q + la) by omega]⟩
theorem ap_reads (hs:Sim B E st w) (ht:TmRel E nt tm a) {t e sz n:Nat} {x j:Operand} (ho:o.op = .indexAddr t x j) (hu:P.underlying t=some (.array n e)) (hz:szOf P e=some sz) (h:opAp n sz (co x) (co j) tm st k=some r):Reads P E st w a o k r:=by
 unfold opAp at h
 obtain ⟨b,q,he,h⟩:=asP_inv h
 obtain ⟨kd,i,hj,h⟩:=asN_inv h
 obtain ⟨hb,h⟩:=must_inv h
 have hb:=blt_lt hb
 rw [seqN_eq] at h
 have hjv:=co_rel hs ht j
 rw [hj] at hjv
 simp only [VRel] at hjv
 have hxv:=co_rel hs ht x
 rw [he] at hxv
 simp only [VRel] at hxv
 obtain ⟨l,hl,hv⟩:=hxv
 refine reads_of (s:=Instr.indexAt t (a.eval x) (a.eval j)) (u:=.pointer (some ⟨l.blk,l.base + (q + i * sz),none⟩)) (by unfold execOp;rw [ho]) ?_ (by simp only [VRel];exact ⟨l,hl,rfl⟩) h
 simp [Instr.indexAt,hjv,hv,asIntOf,underlying,hu,hb,run_sizeOf hz,Addr.add_mid,Instr.sureAddr,Nat.add_assoc]
theorem is_reads (hs:Sim B E st w) (ht:TmRel E nt tm a) {t:Nat} {x j:Operand} (ho:o.op = .index t x j) (hu:P.underlying t=some .string) (h:opIs (co x) (co j) tm st k=some r):Reads P E st w a o k r:=by
 unfold opIs at h
 obtain ⟨l,hl,h⟩:=asS_inv h
 obtain ⟨kd,i,hj,h⟩:=asN_inv h
 obtain ⟨c,hc,h⟩:=nthN_inv _ _ h
 have hjv:=co_rel hs ht j
 rw [hj] at hjv
 simp only [VRel] at hjv
 have hx:=co_rel hs ht x
 rw [hl] at hx
 simp only [VRel] at hx
 obtain ⟨s,hx,rfl⟩:=hx
 rw [List.getElem?_map] at hc
 cases hg:s.data.toList[i]? with
 | none=>rw [hg] at hc;cases hc
 | some b =>
   rw [hg] at hc
   have hc:b.toNat=c:=by simpa using hc
   subst hc
   have hlt:i < s.size:=(List.getElem?_eq_some_iff.1 hg).1
   have hsb:s[i]? = some b:=by
    rw [getElem?_pos s i hlt]
    congr 1
    exact (List.getElem?_eq_some_iff.1 hg).2
   refine reads_of (s:=Instr.index t (a.eval x) (a.eval j)) (u:=.int .u8 b.toNat) (by unfold execOp;rw [ho]) ?_ (by simp only [VRel];rfl) h
   simp [Instr.index,hjv,hx,asIntOf,run_underlying hu,hsb]
theorem i1_reads (hs:Sim B E st w) (ht:TmRel E nt tm a) {t e n:Nat} {x j:Operand} (ho:o.op = .index t x j) (hu:P.underlying t=some (.array n e)) (hg:agT P e=some false) (hz:szOf P e=some 1) (h:opI1 n (co x) (co j) tm st k=some r):Reads P E st w a o k r:=by
 unfold opI1 at h
 obtain ⟨c,hc,h⟩:=asA_inv h
 obtain ⟨kd,i,hj,h⟩:=asN_inv h
 obtain ⟨hb,h⟩:=must_inv h
 have hb:=blt_lt hb
 have hjv:=co_rel hs ht j
 rw [hj] at hjv
 simp only [VRel] at hjv
 have hx:=co_rel hs ht x
 rw [hc] at hx
 simp only [VRel] at hx
 obtain ⟨l,hl,hrow⟩:=hx
 obtain ⟨y,u,hu',hy,hk⟩:=LRel.nth _ hrow h (by simp)
 refine reads_of (s:=Instr.index t (a.eval x) (a.eval j)) (u:=u) (by unfold execOp;rw [ho]) ?_ hy hk
 simp [Instr.index,hjv,hl,asIntOf,run_underlying hu,hb,run_sizeOf hz,part,run_isAgg_false hg,hu']
end
end Go.AM
namespace Go.AM
open Go.RowKit
theorem eqb_eq (a b:Bool):eqb a b=(a == b):=by cases a <;> cases b <;> rfl
theorem eqs_iff:∀ a b:List Nat,eqs a b=true ↔ a=b
 | [],[]=>⟨fun _=>rfl,fun _=>rfl⟩
 | [],_ :: _=>⟨fun h=>(nomatch (show false=true from h)),fun h=>(nomatch h)⟩
 | _ :: _,[]=>⟨fun h=>(nomatch (show false=true from h)),fun h=>(nomatch h)⟩
 | x :: l,y :: m=>by
   have e:eqs (x :: l) (y :: m)=Bool.rec (motive:=fun _=>(List Nat→Bool)→List Nat→Bool) (fun _ _=>false) (fun ih m=>ih m) (Nat.beq x y) (eqs l) m:=rfl
   rw [e]
   cases h:Nat.beq x y with
   | false=>exact ⟨fun h=>(nomatch (show false=true from h)),fun he=>by cases he;rw [Nat.beq_refl] at h;cases h⟩
   | true =>
     have:=Nat.eq_of_beq_eq_true h
     subst this
     show eqs l m=true ↔ _
     rw [eqs_iff l m]
     simp
theorem toNat_map_inj {a b:List UInt8} (h:a.map (·.toNat)=b.map (·.toNat)):a=b :=
 List.map_inj_right (fun _ _ h=>UInt8.toNat.inj h) |>.1 h
theorem eqs_bytes (s s':ByteArray):eqs (s.data.toList.map (·.toNat)) (s'.data.toList.map (·.toNat))=(s.toList == s'.toList):=by
 rw [Bool.eq_iff_iff,eqs_iff,beq_iff_eq,ByteArray.toList_eq,ByteArray.toList_eq]
 exact ⟨toNat_map_inj,fun h=>by rw [h]⟩
theorem lts_bytes:∀ a b:List UInt8,lts (a.map (·.toNat)) (b.map (·.toNat))=Op.bytesLess a b
 | [],[]=>rfl
 | _ :: _,[]=>rfl
 | [],_ :: _=>rfl
 | x :: l,y :: m=>by
   simp only [List.map_cons,lts,Op.bytesLess]
   rw [lts_bytes l m]
   cases h:Nat.blt x.toNat y.toNat with
   | true =>
     have:=blt_lt h
     simp [UInt8.lt_iff_toNat_lt,this]
   | false =>
     have h1:¬ x.toNat < y.toNat:=fun e=>by rw [← Nat.blt_eq,h] at e;cases e
     cases h2:Nat.beq x.toNat y.toNat with
     | true =>
       have:=UInt8.toNat.inj (Nat.eq_of_beq_eq_true h2)
       simp [this]
     | false =>
       have h3:x ≠ y:=fun e=>by subst e;rw [Nat.beq_refl] at h2;cases h2
       simp [UInt8.lt_iff_toNat_lt,h1,h3]
section
variable {P:Program} {E:Env'} {w:World} {r:List (AV × St)}
theorem binE_inv {op:BinOp} {b:Bool} {k:AV→Out} (h:binE (bo op) b k=some r):(op = .eql∧k (.b b)=some r) ∨ (op = .neq∧k (.b (!b))=some r):=by
 cases op <;> first | exact .inl ⟨rfl,h⟩ | exact .inr ⟨rfl,h⟩ | exact no_out h
theorem binS_ok {op:BinOp} {t:TypeId} {s s':ByteArray} {k:AV→Out} (h:binS (bo op) (s.data.toList.map (·.toNat)) (s'.data.toList.map (·.toNat)) k=some r) :
 ∃ v u,(binOp op t (.string s) (.string s')).run P w = .ok u w∧VRel E v u∧k v=some r:=by
 cases op with
 | add =>
   obtain ⟨hb,h⟩:=must_inv (show must _ _=some r from h)
   have hb:=Nat.le_of_ble_eq_true hb
   have h1:s.size + s'.size≤9223372036854775807:=by
    have e:Nat.add (s.data.toList.map (·.toNat)).length (s'.data.toList.map (·.toNat)).length=s.size + s'.size:=by
     rw [List.length_map,List.length_map];rfl
    rw [e] at hb
    omega
   refine ⟨_,.string (s ++ s'),by rw [binOp_string_add,run_string_add_sum w _ _ h1],?_,h⟩
   simp only [VRel]
   exact ⟨_,rfl,by simp [ByteArray.data_append]⟩
 | eql=>exact ⟨_,.bool (eqs _ _),by rw [binOp_string_eql,eqs_bytes];rfl,by simp only [VRel],h⟩
 | neq=>exact ⟨_,.bool (!eqs _ _),by rw [binOp_string_neq,eqs_bytes];rfl,by simp only [VRel],h⟩
 | lss=>exact ⟨_,.bool (lts _ _),by rw [binOp_string_lss,ByteArray.toList_eq,ByteArray.toList_eq,lts_bytes];rfl,by simp only [VRel],h⟩
 | leq=>exact ⟨_,.bool (or (lts (s.data.toList.map (·.toNat)) (s'.data.toList.map (·.toNat))) (eqs (s.data.toList.map (·.toNat)) (s'.data.toList.map (·.toNat)))),by rw [binOp_string_leq,eqs_bytes,← lts_bytes,ByteArray.toList_eq,ByteArray.toList_eq];rfl,by simp only [VRel],h⟩
 | gtr=>exact ⟨_,.bool (not (or (lts (s.data.toList.map (·.toNat)) (s'.data.toList.map (·.toNat))) (eqs (s.data.toList.map (·.toNat)) (s'.data.toList.map (·.toNat))))),by rw [binOp_string_gtr,eqs_bytes,← lts_bytes,ByteArray.toList_eq,ByteArray.toList_eq];rfl,by simp only [VRel],h⟩
 | geq=>exact ⟨_,.bool (not (lts _ _)),by rw [binOp_string_geq,← lts_bytes,ByteArray.toList_eq,ByteArray.toList_eq];rfl,by simp only [VRel],h⟩
 | _=>exact no_out h
theorem run_eqGuard_plain (op:BinOp) (t:TypeId) (x y:Operand) (u v:Value) (h1:∀ c,u ≠ .agg c) (h2:u = .nilIface→v = .nilIface→∃ c,y = .const c):(eqGuard op t x y u v).run P w = .ok () w:=by
 have key:∀ op,(op = .eql ∨ op = .neq)→(eqGuard op t x y u v).run P w = .ok () w:=by
  intro op hop
  cases u with
  | nilIface =>
    cases v with
    | nilIface =>
      obtain ⟨c,rfl⟩:=h2 rfl rfl
      rcases hop with rfl | rfl <;> simp [eqGuard]
    | _=>rcases hop with rfl | rfl <;> rfl
  | agg c=>exact absurd rfl (h1 c)
  | _=>rcases hop with rfl | rfl <;> rfl
 cases op <;> first | rfl | exact key _ (.inl rfl) | exact key _ (.inr rfl)
end
section
variable {P:Program} {B:Bds} {E:Env'} {st:St} {w:World} {nt:Nat} {tm:Tm} {a:Act} {k:K} {r:List (AV × St)} {o:Oper}
theorem bin_reads_of {op:BinOp} {t t':TypeId} {x y:Operand} (ho:o.op = .binOp op t x y t') {v:AV} {u:Value} (hg:(eqGuard op t x y (a.eval x) (a.eval y)).run P w = .ok () w)
 (hr:(binOp op t (a.eval x) (a.eval y)).run P w = .ok u w) (hv:VRel E v u) (hk:k v st=some r):Reads P E st w a o k r :=
 reads_of (s:=do eqGuard op t x y (a.eval x) (a.eval y);binOp op t (a.eval x) (a.eval y)) (by unfold execOp;rw [ho]) (by rw [Sem.run_bind,hg];exact hr) hv hk
theorem bn_reads (hs:Sim B E st w) (ht:TmRel E nt tm a) {op:BinOp} {t t':TypeId} {x y:Operand} (ho:o.op = .binOp op t x y t') (h:opBn (bo op) (co x) (co y) tm st k=some r):Reads P E st w a o k r:=by
 unfold opBn at h
 have hx:=co_rel hs ht x
 have hy:=co_rel hs ht y
 generalize evc (co x) tm=vx at *
 cases vx with
 | i q n =>
   have h:asI (evc (co y) tm) (fun q2 c=>must (eqk q q2) (binI (bo op) q n c (fun v=>k v st)))=some r:=h
   obtain ⟨q2,c,hc,h⟩:=asI_inv h
   obtain ⟨hq,h'⟩:=must_inv h
   have hq:=eqk_eq hq
   rw [hc,← hq] at hy
   simp only [VRel] at hx hy
   obtain ⟨v,u,h1,h2,h3⟩:=binI_ok (P:=P) (E:=E) (w:=w) (t:=t) h'
   exact bin_reads_of ho (run_eqGuard_plain op t x y _ _ (by rw [hx];simp) (by rw [hx];simp)) (by rw [hx,hy];exact h1) h2 h3
 | s l =>
   have h:asS (evc (co y) tm) (fun c=>binS (bo op) l c (fun v=>k v st))=some r:=h
   obtain ⟨l',hc,h⟩:=asS_inv h
   rw [hc] at hy
   simp only [VRel] at hx hy
   obtain ⟨s,hx,rfl⟩:=hx
   obtain ⟨s',hy,rfl⟩:=hy
   obtain ⟨v,u,h1,h2,h3⟩:=binS_ok (P:=P) (E:=E) (w:=w) (t:=t) h
   exact bin_reads_of ho (run_eqGuard_plain op t x y _ _ (by rw [hx];simp) (by rw [hx];simp)) (by rw [hx,hy];exact h1) h2 h3
 | _=>exact no_out h
theorem sh_reads (hs:Sim B E st w) (ht:TmRel E nt tm a) {l:Bool} {t t':TypeId} {x y:Operand} (ho:o.op = .binOp (if l=true then .shl else .shr) t x y t') (h:opSh l (co x) (co y) tm st k=some r):Reads P E st w a o k r:=by
 unfold opSh at h
 obtain ⟨q,n,hn,h⟩:=asI_inv h
 obtain ⟨q',m,hm,h⟩:=asI_inv h
 have hx:=co_rel hs ht x
 have hy:=co_rel hs ht y
 rw [hn] at hx
 rw [hm] at hy
 simp only [VRel] at hx hy
 obtain ⟨v,u,h1,h2,h3⟩:=sh_ok (P:=P) (E:=E) (w:=w) (t:=t) (q':=q') h
 exact bin_reads_of ho (run_eqGuard_plain _ t x y _ _ (by rw [hx];simp) (by rw [hx];simp)) (by rw [hx,hy];exact h1) h2 h3
theorem eqE_reads {op:BinOp} {t t':TypeId} {x y:Operand} (ho:o.op = .binOp op t x y t') {b:Bool} (h:binE (bo op) b (fun v=>k v st)=some r)
 (hg:(eqGuard op t x y (a.eval x) (a.eval y)).run P w = .ok () w)
 (h1:(binOp .eql t (a.eval x) (a.eval y)).run P w = .ok (.bool b) w) (h2:(binOp .neq t (a.eval x) (a.eval y)).run P w = .ok (.bool (!b)) w):Reads P E st w a o k r:=by
 rcases binE_inv h with ⟨rfl,h⟩ | ⟨rfl,h⟩
 ·exact bin_reads_of ho hg h1 (by simp only [VRel]) h
 ·exact bin_reads_of ho hg h2 (by simp only [VRel]) h
theorem bb_reads (hs:Sim B E st w) (ht:TmRel E nt tm a) {op:BinOp} {t t':TypeId} {x y:Operand} (ho:o.op = .binOp op t x y t') (hu:P.underlying t=some .bool) (h:opBb (bo op) (co x) (co y) tm st k=some r):Reads P E st w a o k r:=by
 unfold opBb at h
 obtain ⟨p,hp,h⟩:=asB_inv h
 obtain ⟨q,hq,h⟩:=asB_inv h
 have hx:=co_rel hs ht x
 have hy:=co_rel hs ht y
 rw [hp] at hx
 rw [hq] at hy
 simp only [VRel] at hx hy
 rw [eqb_eq] at h
 refine eqE_reads ho h (run_eqGuard_plain op t x y _ _ (by rw [hx];simp) (by rw [hx];simp)) ?_ ?_
 ·rw [hx,hy];simp [binOp,Op.equal,Op.maxDepth,run_equalIn_bool' (P:=P) w 9999 t p q hu]
 ·rw [hx,hy];simp [binOp,Op.equal,Op.maxDepth,run_equalIn_bool' (P:=P) w 9999 t p q hu]
def NKRel (q:NK) (b:Bool) (v:Value):Prop:=match q with
 | .p=>(b=true∧v = .pointer none) ∨ (b=false∧∃ a,v = .pointer (some a))
 | .l=>(b=true∧v = .slice none 0 0) ∨ (b=false∧∃ a n c,v = .slice (some a) n c)
 | .m=>(b=true∧v = .map none) ∨ (b=false∧∃ a,v = .map (some a))
 | .f=>(b=true∧v = .nilFunc) ∨ (b=false∧∃ f a c,v = .func f a c)
 | .x=>(b=true∧v = .nilIface) ∨ (b=false∧∃ t u,v = .iface t u)
theorem isN_inv {v:AV} {q:NK} {f:Bool→Out} (h:isN v q f=some r):∃ b,f b=some r∧∀ (E:Env') u,VRel E v u→NKRel q b u:=by
 cases v with
 | p0=>cases q <;> first | exact no_out h | exact ⟨true,h,fun E u hu=>by simp only [VRel] at hu;exact .inl ⟨rfl,hu⟩⟩
 | l0=>cases q <;> first | exact no_out h | exact ⟨true,h,fun E u hu=>by simp only [VRel] at hu;exact .inl ⟨rfl,hu⟩⟩
 | m0=>cases q <;> first | exact no_out h | exact ⟨true,h,fun E u hu=>by simp only [VRel] at hu;exact .inl ⟨rfl,hu⟩⟩
 | f0=>cases q <;> first | exact no_out h | exact ⟨true,h,fun E u hu=>by simp only [VRel] at hu;exact .inl ⟨rfl,hu⟩⟩
 | x0=>cases q <;> first | exact no_out h | exact ⟨true,h,fun E u hu=>by simp only [VRel] at hu;exact .inl ⟨rfl,hu⟩⟩
 | p b c=>cases q <;> first | exact no_out h | exact ⟨false,h,fun E u hu=>by simp only [VRel] at hu;obtain ⟨l,_,hu⟩:=hu;exact .inr ⟨rfl,_,hu⟩⟩
 | l b c d=>cases q <;> first | exact no_out h | exact ⟨false,h,fun E u hu=>by simp only [VRel] at hu;obtain ⟨l,_,_,_,_,hu⟩:=hu;exact .inr ⟨rfl,_,_,_,hu⟩⟩
 | m b=>cases q <;> first | exact no_out h | exact ⟨false,h,fun E u hu=>by simp only [VRel] at hu;obtain ⟨l,_,hu⟩:=hu;exact .inr ⟨rfl,_,hu⟩⟩
 | f b c d=>cases q <;> first | exact no_out h | exact ⟨false,h,fun E u hu=>by simp only [VRel] at hu;obtain ⟨_,_,hu,_⟩:=hu;exact .inr ⟨rfl,_,_,_,hu⟩⟩
 | x b c=>cases q <;> first | exact no_out h | exact ⟨false,h,fun E u hu=>by simp only [VRel] at hu;obtain ⟨_,hu,_⟩:=hu;exact .inr ⟨rfl,_,_,hu⟩⟩
 | _=>exact no_out h
def NKType (q:NK) (d:TypeDesc):Prop:=match q with
 | .p=>∃ e,d = .pointer e
 | .l=>∃ e,d = .slice e
 | .m=>∃ k e,d = .map k e
 | .f=>∃ a b c,d = .func a b c
 | .x=>∃ ms,d = .interface ms
theorem run_eql_nil {t:TypeId} {d:TypeDesc} (hu:P.underlying t=some d) {q:NK} (hd:NKType q d) {b:Bool} {u v:Value} (h1:NKRel q b u) (h2:NKRel q true v) :
 (binOp .eql t u v).run P w = .ok (.bool b) w∧(binOp .neq t u v).run P w = .ok (.bool (!b)) w:=by
 have key:∀ {u v:Value} {c:Bool},(∀ d,(Op.equalIn (d + 1) t u v).run P w = .ok c w)→binOp .eql t u v=(do pure (.bool (← Op.equal t u v)))→binOp .neq t u v=(do pure (.bool (!(← Op.equal t u v)))) →
  (binOp .eql t u v).run P w = .ok (.bool c) w∧(binOp .neq t u v).run P w = .ok (.bool (!c)) w:=by
  intro u v c h e1 e2
  rw [e1,e2]
  simp [Op.equal,Op.maxDepth,h 9999]
 cases q <;> simp only [NKRel,NKType,Bool.true_eq_false,false_and,or_false,true_and] at h1 h2 hd
 case p =>
  obtain ⟨e,rfl⟩:=hd
  subst h2
  rcases h1 with ⟨rfl,rfl⟩ | ⟨rfl,x,rfl⟩ <;> exact key (fun d=>by simp [Op.equalIn,run_underlying hu]) (by simp [binOp]) (by simp [binOp])
 case l =>
  obtain ⟨e,rfl⟩:=hd
  subst h2
  rcases h1 with ⟨rfl,rfl⟩ | ⟨rfl,x,n,c,rfl⟩ <;> exact key (fun d=>by simp [Op.equalIn,run_underlying hu]) (by simp [binOp]) (by simp [binOp])
 case m =>
  obtain ⟨e,e',rfl⟩:=hd
  subst h2
  rcases h1 with ⟨rfl,rfl⟩ | ⟨rfl,x,rfl⟩ <;> exact key (fun d=>by simp [Op.equalIn,run_underlying hu]) (by simp [binOp]) (by simp [binOp])
 case f =>
  obtain ⟨e,e',e'',rfl⟩:=hd
  subst h2
  rcases h1 with ⟨rfl,rfl⟩ | ⟨rfl,x,y,z,rfl⟩ <;> exact key (fun d=>by simp [Op.equalIn,run_underlying hu]) (by simp [binOp]) (by simp [binOp])
 case x =>
  obtain ⟨e,rfl⟩:=hd
  subst h2
  rcases h1 with ⟨rfl,rfl⟩ | ⟨rfl,x,y,rfl⟩ <;> exact key (fun d=>by simp [Op.equalIn,run_underlying hu]) (by simp [binOp]) (by simp [binOp])
theorem bz_reads (hs:Sim B E st w) (ht:TmRel E nt tm a) {op:BinOp} {t t':TypeId} {x y:Operand} (ho:o.op = .binOp op t x y t') {d:TypeDesc} (hu:P.underlying t=some d) {q:NK} (hd:NKType q d)
 (hc:q = .x→∃ c,y = .const c) (h:opBz (bo op) q (co x) (co y) tm st k=some r):Reads P E st w a o k r:=by
 unfold opBz at h
 obtain ⟨b,h,hy⟩:=isN_inv h
 obtain ⟨hb,h⟩:=must_inv h
 subst hb
 obtain ⟨b,h,hx⟩:=isN_inv h
 have hx:=hx E _ (co_rel hs ht x)
 have hy:=hy E _ (co_rel hs ht y)
 obtain ⟨h1,h2⟩:=run_eql_nil (P:=P) (w:=w) hu hd hx hy
 refine eqE_reads ho h (run_eqGuard_plain op t x y _ _ ?_ ?_) h1 h2
 ·intro c e
  rw [e] at hx
  cases q <;> simp [NKRel] at hx
 ·intro e _
  rw [e] at hx
  cases q <;> simp [NKRel] at hx
  exact hc rfl
def KKEq (q:KK) (b:Bool) (u v:Value):Prop:=match q with
 | .b=>∃ x y,u = .bool x∧v = .bool y∧b=(x == y)
 | .i=>∃ k x y,u = .int k x∧v = .int k y∧b=(x == y)
 | .s=>∃ x y,u = .string x∧v = .string y∧b=(x.toList == y.toList)
def KKType (q:KK) (d:TypeDesc):Prop:=match q with
 | .b=>d = .bool
 | .i=>∃ k,d = .int k
 | .s=>d = .string
theorem asC_inv {v:AV} {f:AV→AV→Out} (h:asC v f=some r):∃ x t,v = .cn x t∧f x t=some r:=by
 cases v <;> first | exact ⟨_,_,rfl,h⟩ | exact no_out h
theorem keq_inv {q:KK} {x y:AV} {f:Bool→Out} (h:keq q x y f=some r):∃ b,f b=some r∧∀ (E:Env') u v,VRel E x u→VRel E y v→KKEq q b u v:=by
 cases q with
 | b =>
   obtain ⟨p,rfl,h1⟩:=asB_inv (show asB x _=some r from h)
   obtain ⟨p',rfl,h2⟩:=asB_inv h1
   rw [eqb_eq] at h2
   exact ⟨_,h2,fun E u v hu hv=>by simp only [VRel] at hu hv;exact ⟨p,p',hu,hv,rfl⟩⟩
 | i =>
   obtain ⟨q1,p,rfl,h1⟩:=asI_inv (show asI x _=some r from h)
   obtain ⟨q2,p',rfl,h2⟩:=asI_inv h1
   obtain ⟨hq,h3⟩:=must_inv h2
   have hq:=eqk_eq hq
   rw [eqi_eq] at h3
   exact ⟨_,h3,fun E u v hu hv=>by simp only [VRel] at hu hv;rw [← hq] at hv;exact ⟨q1,p,p',hu,hv,rfl⟩⟩
 | s =>
   obtain ⟨p,rfl,h1⟩:=asS_inv (show asS x _=some r from h)
   obtain ⟨p',rfl,h2⟩:=asS_inv h1
   exact ⟨_,h2,fun E u v hu hv=>by
    simp only [VRel] at hu hv
    obtain ⟨s,hu,rfl⟩:=hu
    obtain ⟨s',hv,rfl⟩:=hv
    exact ⟨s,s',hu,hv,eqs_bytes s s'⟩⟩
theorem keyK_inv {t:TypeId} {q:KK} (h:keyK P t=some q):∃ d,P.underlying t=some d∧KKType q d:=by
 unfold keyK at h
 split at h <;> cases h
 ·exact ⟨_,‹_›,rfl⟩
 ·exact ⟨_,‹_›,_,rfl⟩
 ·exact ⟨_,‹_›,rfl⟩
theorem keyK_agT {t:TypeId} {q:KK} (h:keyK P t=some q):agT P t=some false:=by
 obtain ⟨d,hu,hd⟩:=keyK_inv h
 unfold agT
 rw [hu]
 cases q with
 | b=>cases hd;rfl
 | i=>obtain ⟨_,rfl⟩:=hd;rfl
 | s=>cases hd;rfl
theorem run_equalIn_key {t:TypeId} {q:KK} (h:keyK P t=some q) {b:Bool} {u v:Value} (he:KKEq q b u v) (d:Nat):(Op.equalIn (d + 1) t u v).run P w = .ok b w:=by
 obtain ⟨e,hu,hd⟩:=keyK_inv h
 cases q with
 | b=>cases hd;obtain ⟨x,y,rfl,rfl,rfl⟩:=he;exact run_equalIn_bool' w d t x y hu
 | i=>obtain ⟨k',rfl⟩:=hd;obtain ⟨k,x,y,rfl,rfl,rfl⟩:=he;exact run_equalIn_int w d t k k' x y hu
 | s=>cases hd;obtain ⟨x,y,rfl,rfl,rfl⟩:=he;exact run_equalIn_string w d t x y hu
def AllEq:List KK→List Value→List Value→Prop
 | [],l,m=>l = []∧m = []
 | q :: ks,l,m=>∃ u l' v m',l=u :: l'∧m=v :: m'∧KKEq q true u v∧AllEq ks l' m'
theorem AllEq.len:∀ {ks:List KK} {l m:List Value},AllEq ks l m→l.length=ks.length∧m.length=ks.length
 | [],l,m,h=>by obtain ⟨rfl,rfl⟩:=h;exact ⟨rfl,rfl⟩
 | q :: ks,l,m,h=>by
   obtain ⟨u,l',v,m',rfl,rfl,_,h⟩:=h
   obtain ⟨h1,h2⟩:=AllEq.len h
   simp [h1,h2]
theorem AllEq.append:∀ {ks ks':List KK} {l m l' m':List Value},AllEq ks l m→AllEq ks' l' m'→AllEq (ks ++ ks') (l ++ l') (m ++ m')
 | [],ks',l,m,l',m',h,h'=>by obtain ⟨rfl,rfl⟩:=h;simpa using h'
 | q :: ks,ks',l,m,l',m',h,h'=>by
   obtain ⟨u,l1,v,m1,rfl,rfl,g,h⟩:=h
   exact ⟨u,l1 ++ l',v,m1 ++ m',rfl,rfl,g,AllEq.append h h'⟩
theorem eqR_cut {E:Env'} {ks2:List KK} {f:Bool→Out}:∀ (ks1:List KK) {a c:AV} {l m:List Value},LRel E a l→LRel E c m→eqR (ks1 ++ ks2) a c f=some r →
 (∃ a' c' l1 m1 l2 m2,l=l1 ++ l2∧m=m1 ++ m2∧AllEq ks1 l1 m1∧LRel E a' l2∧LRel E c' m2∧eqR ks2 a' c' f=some r) ∨
 (f false=some r∧∃ ks0 q ks3 l1 m1 u v l2 m2,ks1=ks0 ++ q :: ks3∧l=l1 ++ u :: l2∧m=m1 ++ v :: m2∧AllEq ks0 l1 m1∧KKEq q false u v)
 | [],a,c,l,m,ha,hc,h=>.inl ⟨a,c,[],[],l,m,rfl,rfl,⟨rfl,rfl⟩,ha,hc,h⟩
 | q :: ks1,a,c,l,m,ha,hc,h=>by
   obtain ⟨x,l',rfl,h⟩:=asC_inv (show asC a _=some r from h)
   obtain ⟨y,m',rfl,h⟩:=asC_inv h
   obtain ⟨b,h,hb⟩:=keq_inv h
   simp only [LRel] at ha hc
   obtain ⟨u,xs',rfl,hu,ha⟩:=ha
   obtain ⟨v,ys',rfl,hv,hc⟩:=hc
   have hb:=hb E u v hu hv
   rcases iff_inv h with ⟨rfl,h⟩ | ⟨rfl,h⟩
   ·rcases eqR_cut ks1 ha hc h with ⟨a',c',l1,m1,l2,m2,rfl,rfl,h1,h2,h3,h4⟩ | ⟨h1,ks0,q',ks3,l1,m1,u',v',l2,m2,rfl,rfl,rfl,h2,h3⟩
    ·exact .inl ⟨a',c',u :: l1,v :: m1,l2,m2,rfl,rfl,⟨u,l1,v,m1,rfl,rfl,hb,h1⟩,h2,h3,h4⟩
    ·exact .inr ⟨h1,q :: ks0,q',ks3,u :: l1,v :: m1,u',v',l2,m2,rfl,rfl,rfl,⟨u,l1,v,m1,rfl,rfl,hb,h2⟩,h3⟩
   ·exact .inr ⟨h,[],q,ks1,[],[],u,v,xs',ys',rfl,rfl,rfl,⟨rfl,rfl⟩,hb⟩
theorem fldK_inv {t:TypeId} {ks:List KK} (h:fldK P t=some ks):(∃ q,keyK P t=some q∧ks = [q]) ∨
 (∃ n e q i,P.underlying t=some (.array n e)∧keyK P e=some q∧P.info? e=some i∧P.cellsOf e=1∧szOf P t=some n∧ks=List.replicate n q) ∨
 ∃ fs,P.underlying t=some (.struct fs)∧flat1 P fs.toList 0=some ks∧szOf P t=some ks.length∧P.stoodInHeld t=false:=by
 unfold fldK at h
 split at h
 ·cases h;exact .inl ⟨_,‹_›,rfl⟩
 ·split at h
  ·rename_i n e hu
   split at h
   ·rename_i q m hq h1 hm
    split at h
    ·rename_i hb
     cases h
     have:=Nat.eq_of_beq_eq_true hb
     subst this
     unfold szOf at h1
     split at h1
     ·rename_i i hi
      exact .inr (.inl ⟨_,e,q,i,hu,hq,hi,by unfold Program.cellsOf;rw [hi];simpa using h1,hm,rfl⟩)
     ·cases h1
    ·cases h
   ·cases h
  ·rename_i fs hu
   split at h
   ·rename_i ks' m h1 h2 h3
    split at h
    ·rename_i hb
     cases h
     have:=Nat.eq_of_beq_eq_true hb
     subst this
     exact .inr (.inr ⟨fs,hu,h1,h2,h3⟩)
    ·cases h
   ·cases h
  ·cases h
theorem flat1_inv {f : Field} {fs : List Field} {j : Nat} {ks : List KK} (h : flat1 P (f :: fs) j = some ks) : ∃ q ks', f.name ≠ "_" ∧ f.offset = j ∧ keyK P f.type = some q ∧ flat1 P fs (j + 1) = some ks' ∧ ks = q :: ks' := by
 unfold flat1 at h
 split at h
 ·rename_i q hn hq
  rw [Bool.and_eq_true] at hn
  split at h
  ·rename_i ks' hks
   cases h
   exact ⟨q,ks',by simpa using hn.1,Nat.eq_of_beq_eq_true hn.2,hq,hks,rfl⟩
  ·cases h
 ·cases h
theorem flds_eq (d:Nat) (w:World):∀ (fs:List Field) (p p':List Value) (ks:List KK),p'.length=p.length→flat1 P fs p.length=some ks→∀ {l m s s':List Value},AllEq ks l m →
 (Op.eqFields (d + 1) (p ++ (l ++ s)).toArray (p' ++ (m ++ s')).toArray fs).run P w = .ok true w
 | [],_,_,_,_,_,_,_,_,_,_=>rfl
 | f :: fs,p,p',ks,hp,hk,l,m,s,s',hall=>by
   obtain ⟨q,ks',hname,hoff,hq,hks,rfl⟩:=flat1_inv hk
   obtain ⟨u,l',v,m',rfl,rfl,g,h2⟩:=hall
   have ih:=flds_eq d w fs (p ++ [u]) (p' ++ [v]) ks' (by simp [hp]) (by simpa using hks) (s:=s) (s':=s') h2
   have p1:(part f.type (p ++ (u :: l' ++ s)).toArray p.length).run P w = .ok u w:=by simp [part,run_isAgg_false (keyK_agT hq)]
   have p2:(part f.type (p' ++ (v :: m' ++ s')).toArray p.length).run P w = .ok v w:=by simp [part,run_isAgg_false (keyK_agT hq),← hp]
   have p3:=run_equalIn_key (w:=w) hq g d
   simp only [List.append_assoc,List.singleton_append] at ih
   simp only [Op.eqFields,if_pos hname,Sem.run_bind,hoff,p1,p2,p3,Result.andThen_ok]
   simpa using ih
theorem flds_ne (d:Nat) (w:World):∀ (fs:List Field) (p p':List Value) (ks0:List KK) (q:KK) (ks3:List KK),p'.length=p.length→flat1 P fs p.length=some (ks0 ++ q :: ks3)→∀ {l m l2 m2:List Value} {u v:Value},AllEq ks0 l m→KKEq q false u v →
 (Op.eqFields (d + 1) (p ++ (l ++ u :: l2)).toArray (p' ++ (m ++ v :: m2)).toArray fs).run P w = .ok false w
 | [],_,_,_,_,_,_,hk,_,_,_,_,_,_,_,_=>by simp [flat1] at hk
 | f :: fs,p,p',[],q,ks3,hp,hk,l,m,l2,m2,u,v,hall,hne=>by
   obtain ⟨q',ks',hname,hoff,hq,hks,e⟩:=flat1_inv hk
   cases e
   obtain ⟨rfl,rfl⟩:=hall
   have p1:(part f.type (p ++ ([] ++ u :: l2)).toArray p.length).run P w = .ok u w:=by simp [part,run_isAgg_false (keyK_agT hq)]
   have p2:(part f.type (p' ++ ([] ++ v :: m2)).toArray p.length).run P w = .ok v w:=by simp [part,run_isAgg_false (keyK_agT hq),← hp]
   have p3:=run_equalIn_key (w:=w) hq hne d
   simp only [Op.eqFields,if_pos hname,Sem.run_bind,hoff,p1,p2,p3,Result.andThen_ok]
   simp
 | f :: fs,p,p',k0 :: ks0,q,ks3,hp,hk,l,m,l2,m2,u,v,hall,hne=>by
   obtain ⟨q',ks',hname,hoff,hq,hks,e⟩:=flat1_inv hk
   cases e
   obtain ⟨u',l',v',m',rfl,rfl,g,h2⟩:=hall
   have ih:=flds_ne d w fs (p ++ [u']) (p' ++ [v']) ks0 q ks3 (by simp [hp]) (by simpa using hks) (l2:=l2) (m2:=m2) h2 hne
   have p1:(part f.type (p ++ (u' :: l' ++ u :: l2)).toArray p.length).run P w = .ok u' w:=by simp [part,run_isAgg_false (keyK_agT hq)]
   have p2:(part f.type (p' ++ (v' :: m' ++ v :: m2)).toArray p.length).run P w = .ok v' w:=by simp [part,run_isAgg_false (keyK_agT hq),← hp]
   have p3:=run_equalIn_key (w:=w) hq g d
   simp only [List.append_assoc,List.singleton_append] at ih
   simp only [Op.eqFields,if_pos hname,Sem.run_bind,hoff,p1,p2,p3,Result.andThen_ok]
   simpa using ih
theorem items_eq {e:TypeId} {q:KK} (hq:keyK P e=some q) (d:Nat) {xs ys:Array Value}:∀ (is:List Nat),(∀ i ∈ is,∃ u v,xs[i]? = some u∧ys[i]? = some v∧KKEq q true u v) →
 ∀ w,(Op.eqItems (d + 1) e 1 xs ys is).run P w = .ok true w
 | [],_,w=>rfl
 | i :: is,h,w=>by
   obtain ⟨u,v,h1,h2,h3⟩:=h i (List.mem_cons_self ..)
   have p1:(part e xs i).run P w = .ok u w:=by simp [part,run_isAgg_false (keyK_agT hq),h1]
   have p2:(part e ys i).run P w = .ok v w:=by simp [part,run_isAgg_false (keyK_agT hq),h2]
   have p3:=run_equalIn_key (w:=w) hq h3 d
   have ih:=items_eq hq d (xs:=xs) (ys:=ys) is (fun j hj=>h j (List.mem_cons_of_mem _ hj)) w
   simp only [Op.eqItems,Sem.run_bind,Nat.mul_one,p1,p2,p3,Result.andThen_ok]
   simpa using ih
theorem items_ne {e:TypeId} {q:KK} (hq:keyK P e=some q) (d:Nat) {xs ys:Array Value} {j:Nat} {us vs:Value} (hj1:xs[j]? = some us) (hj2:ys[j]? = some vs) (hj3:KKEq q false us vs):∀ (is:List Nat) (js:List Nat),(∀ i ∈ is,∃ u v,xs[i]? = some u∧ys[i]? = some v∧KKEq q true u v) →
 ∀ w,(Op.eqItems (d + 1) e 1 xs ys (is ++ j :: js)).run P w = .ok false w
 | [],js,_,w=>by
   have p1:(part e xs j).run P w = .ok us w:=by simp [part,run_isAgg_false (keyK_agT hq),hj1]
   have p2:(part e ys j).run P w = .ok vs w:=by simp [part,run_isAgg_false (keyK_agT hq),hj2]
   have p3:=run_equalIn_key (w:=w) hq hj3 d
   simp only [List.nil_append,Op.eqItems,Sem.run_bind,Nat.mul_one,p1,p2,p3,Result.andThen_ok]
   simp
 | i :: is,js,h,w=>by
   obtain ⟨u,v,h1,h2,h3⟩:=h i (List.mem_cons_self ..)
   have p1:(part e xs i).run P w = .ok u w:=by simp [part,run_isAgg_false (keyK_agT hq),h1]
   have p2:(part e ys i).run P w = .ok v w:=by simp [part,run_isAgg_false (keyK_agT hq),h2]
   have p3:=run_equalIn_key (w:=w) hq h3 d
   have ih:=items_ne hq d hj1 hj2 hj3 is js (fun j hj=>h j (List.mem_cons_of_mem _ hj)) w
   simp only [List.cons_append,Op.eqItems,Sem.run_bind,Nat.mul_one,p1,p2,p3,Result.andThen_ok]
   simpa using ih
theorem AllEq.get:∀ {ks:List KK} {l m:List Value},AllEq ks l m→∀ (i:Nat) (q:KK),ks[i]? = some q→∃ u v,l[i]? = some u∧m[i]? = some v∧KKEq q true u v
 | [],l,m,_,i,q,h=>by simp at h
 | q0 :: ks,l,m,h,i,q,hq=>by
   obtain ⟨u,l',v,m',rfl,rfl,g,h⟩:=h
   cases i with
   | zero =>
     have:q0=q:=by simpa using hq
     subst this
     exact ⟨u,v,rfl,rfl,g⟩
   | succ i=>exact AllEq.get h i q (by simpa using hq)
theorem run_fld {t:TypeId} {ks:List KK} (h:fldK P t=some ks) (d:Nat) {p p' rx ry:List Value} (hl:p'.length=p.length) {b:Bool}
 (hb:(b=true∧∃ l1 m1 s s',rx=l1 ++ s∧ry=m1 ++ s'∧AllEq ks l1 m1) ∨ (b=false∧∃ ks0 q ks3 l0 m0 u v l2 m2,ks=ks0 ++ q :: ks3∧rx=l0 ++ u :: l2∧ry=m0 ++ v :: m2∧AllEq ks0 l0 m0∧KKEq q false u v)) (w:World) :
 ∃ u v,(part t (p ++ rx).toArray p.length).run P w = .ok u w∧(part t (p' ++ ry).toArray p.length).run P w = .ok v w∧(Op.equalIn (d + 2) t u v).run P w = .ok b w:=by
 rcases fldK_inv h with ⟨q,hq,rfl⟩ | ⟨n,e,q,i,hu,hq,hi,hc1,hz,rfl⟩ | ⟨fs,hu,hk1,hz,hst⟩
 ·have key:∀ u v s s',rx=u :: s→ry=v :: s'→KKEq q b u v→∃ u v,(part t (p ++ rx).toArray p.length).run P w = .ok u w∧(part t (p' ++ ry).toArray p.length).run P w = .ok v w∧(Op.equalIn (d + 2) t u v).run P w = .ok b w:=by
   rintro u v s s' rfl rfl hk
   exact ⟨u,v,by simp [part,run_isAgg_false (keyK_agT hq)],by simp [part,run_isAgg_false (keyK_agT hq),← hl],run_equalIn_key hq hk (d + 1)⟩
  rcases hb with ⟨rfl,l1,m1,s,s',e1,e2,u',l',v',m',rfl,rfl,h3,_⟩ | ⟨rfl,ks0,q',ks3,l0,m0,u',v',l2,m2,e0,e1,e2,h4,h3⟩
  ·exact key u' v' (l' ++ s) (m' ++ s') e1 e2 h3
  ·cases ks0 with
   | nil =>
     cases e0
     obtain ⟨rfl,rfl⟩:=h4
     exact key u' v' l2 m2 e1 e2 h3
   | cons _ _=>simp at e0
 ·have ha:agT P t=some true:=by unfold agT;rw [hu]
  have px:∀ (p l:List Value),(part t (p ++ l).toArray p.length).run P w = .ok (.agg (l.take n).toArray) w:=fun p l=>by
   simp [part,run_isAgg_true ha,run_sizeOf hz,List.extract_eq_take_drop]
  refine ⟨_,_,px p rx,by rw [← hl];exact px p' ry,?_⟩
  rw [run_equalIn_array w (d + 1) _ _ hu hi,hc1]
  rcases hb with ⟨rfl,l1,m1,s,s',rfl,rfl,hall⟩ | ⟨rfl,ks0,q',ks3,l0,m0,u',v',l2,m2,e0,rfl,rfl,h2,h3⟩
  ·obtain ⟨h4,h5⟩:=hall.len
   rw [List.length_replicate] at h4 h5
   rw [← h4,List.take_left,h4,← h5,List.take_left,h5]
   refine items_eq hq d _ (fun j hj=>?_) w
   rw [List.mem_range] at hj
   obtain ⟨u,v,g1,g2,g3⟩:=hall.get j q (by rw [List.getElem?_replicate,if_pos hj])
   exact ⟨u,v,by simpa using g1,by simpa using g2,g3⟩
  ·obtain ⟨h4,h5⟩:=h2.len
   have hlen:ks0.length + 1 + ks3.length=n:=by
    have:=congrArg List.length e0
    simp only [List.length_replicate,List.length_append,List.length_cons] at this
    omega
   have hrep:∀ j x,(ks0 ++ q' :: ks3)[j]? = some x→x=q:=fun j x hx=>by
    rw [← e0,List.getElem?_replicate] at hx
    split at hx <;> cases hx
    rfl
   have hq':q' = q:=hrep ks0.length q' (by simp)
   subst hq'
   have er:List.range n=List.range ks0.length ++ ks0.length :: (List.range ks3.length).map (fun x=>ks0.length + 1 + x):=by
    rw [← hlen,List.range_add,List.range_succ]
    simp
   rw [er]
   have tk:∀ (l:List Value) (j:Nat),j < n→(l.take n).toArray[j]? = l[j]?:=fun l j hj=>by
    rw [List.getElem?_toArray,List.getElem?_take_of_lt hj]
   refine items_ne hq d (j:=ks0.length) (us:=u') (vs:=v') (by rw [tk _ _ (by omega),← h4];simp) (by rw [tk _ _ (by omega),← h5];simp) h3 _ _ (fun j hj=>?_) w
   rw [List.mem_range] at hj
   obtain ⟨u,v,g1,g2,g3⟩:=h2.get j ks0[j] (List.getElem?_eq_getElem hj)
   have hqj:=hrep j ks0[j] (by rw [List.getElem?_append_left hj];exact List.getElem?_eq_getElem hj)
   rw [hqj] at g3
   refine ⟨u,v,?_,?_,g3⟩
   ·rw [tk _ _ (by omega),List.getElem?_append_left (by omega)];exact g1
   ·rw [tk _ _ (by omega),List.getElem?_append_left (by omega)];exact g2
 ·have ha:agT P t=some true:=by unfold agT;rw [hu]
  have px:∀ (p l:List Value),(part t (p ++ l).toArray p.length).run P w = .ok (.agg (l.take ks.length).toArray) w:=fun p l=>by
   simp [part,run_isAgg_true ha,run_sizeOf hz,List.extract_eq_take_drop]
  refine ⟨_,_,px p rx,by rw [← hl];exact px p' ry,?_⟩
  have hfs:P.fieldsOf t=fs:=by simp [Program.fieldsOf,hu]
  rw [run_equalIn_struct w (d + 1) t _ _ (by rw [hfs];exact hu) hst,hfs]
  rcases hb with ⟨rfl,l1,m1,s,s',rfl,rfl,hall⟩ | ⟨rfl,ks0,q',ks3,l0,m0,u',v',l2,m2,e0,rfl,rfl,h2,h3⟩
  ·obtain ⟨h4,h5⟩:=hall.len
   rw [← h4,List.take_left,h4,← h5,List.take_left]
   have:=flds_eq (P:=P) d w fs.toList [] [] ks rfl hk1 (s:=[]) (s':=[]) hall
   simpa using this
  ·obtain ⟨h4,h5⟩:=h2.len
   subst e0
   have e1:(l0 ++ u' :: l2).take (ks0 ++ q' :: ks3).length=l0 ++ u' :: l2.take ks3.length:=by
    rw [show (ks0 ++ q' :: ks3).length=l0.length + (ks3.length + 1) by simp [h4],List.take_length_add_append,List.take_succ_cons]
   have e2:(m0 ++ v' :: m2).take (ks0 ++ q' :: ks3).length=m0 ++ v' :: m2.take ks3.length:=by
    rw [show (ks0 ++ q' :: ks3).length=m0.length + (ks3.length + 1) by simp [h5],List.take_length_add_append,List.take_succ_cons]
   rw [e1,e2]
   exact flds_ne (P:=P) d w fs.toList [] [] ks0 q' ks3 rfl hk1 h2 h3
theorem eqR_inv {d:Nat} {f:Bool→Out}:∀ (fs:List Field) (p p' xs ys:List Value) (ks:List KK),p'.length=p.length→flatK P fs p.length=some ks→∀ {a c:AV},LRel E a xs→LRel E c ys→eqR ks a c f=some r →
 ∃ b,f b=some r∧(∀ w,(Op.eqFields (d + 2) (p ++ xs).toArray (p' ++ ys).toArray fs).run P w = .ok b w)∧(b=true→AllEq ks xs ys)
 | [],p,p',xs,ys,ks,_,hk,a,c,ha,hc,h=>by
   cases hk
   obtain ⟨hn,h⟩:=must_inv (show must (and (isNl a) (isNl c)) (f true)=some r from h)
   rw [Bool.and_eq_true] at hn
   have key:∀ {x:AV} {l:List Value},LRel E x l→isNl x=true→l = []:=fun {x l} hx hn=>by
    cases x <;> first | (simp only [LRel] at hx;exact hx) | cases hn
   exact ⟨true,h,fun _=>rfl,fun _=>⟨key ha hn.1,key hc hn.2⟩⟩
 | fd :: fs,p,p',xs,ys,ks,hp,hk,a,c,ha,hc,h=>by
   simp only [flatK] at hk
   split at hk
   ·rename_i ks1 hn hq
    split at hk
    ·rename_i ks' hks
     cases hk
     rw [Bool.and_eq_true] at hn
     have hoff:fd.offset=p.length:=Nat.eq_of_beq_eq_true hn.2
     have hname : fd.name ≠ "_" := by simpa using hn.1
     rcases eqR_cut ks1 ha hc h with ⟨a',c',l1,m1,l2,m2,rfl,rfl,h1,h2,h3,h4⟩ | ⟨h1,ks0,q',ks3,l1,m1,u',v',l2,m2,e0,rfl,rfl,h2,h3⟩
     ·obtain ⟨g1,g2⟩:=h1.len
      obtain ⟨b,e,hb,hall⟩:=eqR_inv (d:=d) fs (p ++ l1) (p' ++ m1) l2 m2 ks' (by simp [hp,g1,g2]) (by rw [List.length_append,g1];exact hks) h2 h3 h4
      refine ⟨b,e,fun w=>?_,fun eb=>h1.append (hall eb)⟩
      obtain ⟨u,v,p1,p2,p3⟩:=run_fld hq d (p:=p) (p':=p') (rx:=l1 ++ l2) (ry:=m1 ++ m2) hp (.inl ⟨rfl,l1,m1,l2,m2,rfl,rfl,h1⟩) w
      have hb:=hb w
      simp only [List.append_assoc] at hb
      simp only [Op.eqFields,if_pos hname,Sem.run_bind,hoff,p1,p2,p3,Result.andThen_ok]
      simpa using hb
     ·refine ⟨false,h1,fun w=>?_,fun e=>by cases e⟩
      obtain ⟨u,v,p1,p2,p3⟩:=run_fld hq d (p:=p) (p':=p') (rx:=l1 ++ u' :: l2) (ry:=m1 ++ v' :: m2) hp (.inr ⟨rfl,ks0,q',ks3,l1,m1,u',v',_,_,e0,rfl,rfl,h2,h3⟩) w
      simp only [Op.eqFields,if_pos hname,Sem.run_bind,hoff,p1,p2,p3,Result.andThen_ok]
      simp
    ·cases hk
   ·cases hk
theorem ba_reads (hs:Sim B E st w) (ht:TmRel E nt tm a) {op:BinOp} {t t':TypeId} {x y:Operand} (ho:o.op = .binOp op t x y t') {fs:Array Field} (hu:P.underlying t=some (.struct fs)) {ks:List KK} (hk:flatS P t fs=some ks)
 (h:opBa (bo op) ks (co x) (co y) tm st k=some r):Reads P E st w a o k r:=by
 unfold opBa at h
 obtain ⟨c,hc,h⟩:=asA_inv h
 obtain ⟨c',hc',h⟩:=asA_inv h
 have hx:=co_rel hs ht x
 have hy:=co_rel hs ht y
 rw [hc] at hx
 rw [hc'] at hy
 simp only [VRel] at hx hy
 obtain ⟨xs,hx,hrx⟩:=hx
 obtain ⟨ys,hy,hry⟩:=hy
 unfold flatS at hk
 split at hk
 ·rename_i ks' h1 h2 h3
  cases hk
  have hfs:P.fieldsOf t=fs:=by simp [Program.fieldsOf,hu]
  obtain ⟨b,h,hb,_⟩:=eqR_inv (P:=P) (d:=9997) fs.toList [] [] xs ys ks rfl h1 hrx hry h
  have he:(Op.equalIn 10000 t (.agg xs.toArray) (.agg ys.toArray)).run P w = .ok b w:=by
   rw [show (10000:Nat)=9999 + 1 from rfl,run_equalIn_struct w 9999 t _ _ (by rw [hfs];exact hu) h2,hfs]
   exact hb w
  refine eqE_reads ho h (by rw [hx,hy];exact run_eqGuard_agg w op t x y _ _ h3) ?_ ?_
  ·rw [hx,hy,run_eql_struct,he];rfl
  ·rw [hx,hy,run_neq_struct,he];rfl
 ·cases hk
theorem exec_builtin {c:Call} {b:Builtin} (ho:o.op = .call c) (hc:c.callee = .builtin b):∃ cs,execOp a.eval o=builtin b c.argTypes o.type cs (c.args.map a.eval):=by
 refine ⟨(c.args.map fun | .const _=>true | _=>false),?_⟩
 unfold execOp
 rw [ho]
 simp only [resolve,hc]
 rfl
theorem reads_builtin {c:Call} {b:Builtin} (ho:o.op = .call c) (hc:c.callee = .builtin b) {s:Sem Value} (hb:∀ cs,builtin b c.argTypes o.type cs (c.args.map a.eval)=(do pure (.value (← s))))
 {v:AV} {u:Value} (hr:s.run P w = .ok u w) (hv:VRel E v u) (hk:k v st=some r):Reads P E st w a o k r:=by
 obtain ⟨cs,he⟩:=exec_builtin (a:=a) ho hc
 exact reads_of (he.trans (hb cs)) hr hv hk
theorem args1 {c:Call} {x:Operand} (hx:c.args.toList = [x]):c.args.map a.eval = #[a.eval x]:=by
 have:c.args = #[x]:=by rw [← hx]
 rw [this];simp
theorem args2 {c:Call} {x y:Operand} (hx:c.args.toList = [x,y]):c.args.map a.eval = #[a.eval x,a.eval y]:=by
 have:c.args = #[x,y]:=by rw [← hx]
 rw [this];simp
theorem und_inv {c:Call} {j:Nat} {d:TypeDesc} (h:und P c j=some d):∃ t,c.argTypes[j]? = some t∧P.underlying t=some d:=by
 unfold und at h
 split at h
 ·exact ⟨_,‹_›,h⟩
 ·cases h
theorem lS_reads (hs:Sim B E st w) (ht:TmRel E nt tm a) {c:Call} {x:Operand} (ho:o.op = .call c) (hc:c.callee = .builtin .len) (hx:c.args.toList = [x]) (hu:und P c 0=some .string) (h:opLs (co x) tm st k=some r):Reads P E st w a o k r:=by
 unfold opLs at h
 obtain ⟨l,hl,h⟩:=asS_inv h
 rw [seqN_eq] at h
 have hv:=co_rel hs ht x
 rw [hl] at hv
 simp only [VRel] at hv
 obtain ⟨s,hv,rfl⟩:=hv
 obtain ⟨t,h1,h2⟩:=und_inv hu
 refine reads_builtin ho hc (s:=Builtin.len_ c.argTypes o.type (c.args.map a.eval)) (fun _=>rfl) (u:=goInt s.size) ?_ ?_ h
 ·simp [Builtin.len_,h1,args1 hx,run_underlying h2,hv]
 ·simp only [VRel,goInt,List.length_map]
  rfl
theorem lL_reads (hs:Sim B E st w) (ht:TmRel E nt tm a) {c:Call} {x:Operand} {e:TypeId} (ho:o.op = .call c) (hc:c.callee = .builtin .len) (hx:c.args.toList = [x]) (hu:und P c 0=some (.slice e)) (h:opLl (co x) tm st k=some r):Reads P E st w a o k r:=by
 unfold opLl at h
 have hv:=co_rel hs ht x
 obtain ⟨t,h1,h2⟩:=und_inv hu
 rcases asL_inv h with ⟨hl,h⟩ | ⟨b,q,n,hl,h⟩
 ·rw [hl] at hv
  simp only [VRel] at hv
  refine reads_builtin ho hc (s:=Builtin.len_ c.argTypes o.type (c.args.map a.eval)) (fun _=>rfl) (u:=goInt 0) ?_ ?_ h
  ·simp [Builtin.len_,h1,args1 hx,run_underlying h2,hv]
  ·simp only [VRel,goInt];rfl
 ·rw [hl] at hv
  simp only [VRel] at hv
  obtain ⟨l,_,_,off,_,hv⟩:=hv
  refine reads_builtin ho hc (s:=Builtin.len_ c.argTypes o.type (c.args.map a.eval)) (fun _=>rfl) (u:=goInt n) ?_ ?_ h
  ·simp [Builtin.len_,h1,args1 hx,run_underlying h2,hv]
  ·simp only [VRel,goInt];rfl
theorem MERel.len:∀ {es:ME} {l:List MapEntry},MERel E es l→mlen es=l.length:=by
 intro es
 induction es with
 | nil=>intro l h;simp only [MERel] at h;subst h;rfl
 | cons k v n r ih =>
   intro l h
   obtain ⟨e,m,rfl,_,_,_,h4⟩:=h
   have:=ih h4
   simp only [List.length_cons,← this]
   rfl
theorem Sim.map (hs:Sim B E st w) {b:Nat} {v:Value} (hv:VRel E (.m b) v) {es:ME} {c:Nat} (hq:T.get (pth b) st.h=some (.mp es c)) :
 ∃ (l:Loc) (ar:Array MapEntry),E b=some l∧v = .map (some l.blk)∧w.heap[l.blk]? = some (.map ar c)∧MERel E es ar.toList:=by
 simp only [VRel] at hv
 obtain ⟨l,hl,rfl⟩:=hv
 obtain ⟨l',hl',ar,h1,h2⟩:=hs.live b _ (hs.lt hl) hq
 rw [hl] at hl'
 cases hl'
 exact ⟨l,ar,hl,rfl,h1,h2⟩
theorem run_getObj_map {g:Nat} {ar:Array MapEntry} {c:Nat} (h:w.heap[g]? = some (.map ar c)):(getObj g).run P w = .ok (.map ar c) w:=by
 simp [getObj,Sem.run,h]
theorem lM_reads (hs:Sim B E st w) (ht:TmRel E nt tm a) {c:Call} {x:Operand} {q e:TypeId} (ho:o.op = .call c) (hc:c.callee = .builtin .len) (hx:c.args.toList = [x]) (hu:und P c 0=some (.map q e)) (h:opLm (co x) tm st k=some r):Reads P E st w a o k r:=by
 unfold opLm at h
 have hv:=co_rel hs ht x
 obtain ⟨t,h1,h2⟩:=und_inv hu
 rcases asM_inv h with ⟨hl,h⟩ | ⟨b,hl,h⟩
 ·rw [hl] at hv
  simp only [VRel] at hv
  refine reads_builtin ho hc (s:=Builtin.len_ c.argTypes o.type (c.args.map a.eval)) (fun _=>rfl) (u:=goInt 0) ?_ ?_ h
  ·simp [Builtin.len_,h1,args1 hx,run_underlying h2,hv]
  ·simp only [VRel,goInt];rfl
 ·obtain ⟨ob,hob,h⟩:=ob_inv h
  obtain ⟨es,cl,rfl,h'⟩:=obM_inv h
  rw [seqN_eq] at h'
  rw [hl] at hv
  obtain ⟨l,ar,_,hv,hm,hme⟩:=hs.map hv hob
  refine reads_builtin ho hc (s:=Builtin.len_ c.argTypes o.type (c.args.map a.eval)) (fun _=>rfl) (u:=goInt ar.size) ?_ ?_ h'
  ·simp [Builtin.len_,h1,args1 hx,run_underlying h2,hv,run_getObj_map hm]
  ·simp only [VRel,goInt,hme.len]
   simp
theorem mx_reads (hs:Sim B E st w) (ht:TmRel E nt tm a) {c:Call} {x y:Operand} (ho:o.op = .call c) (hc:c.callee = .builtin .max) (hx:c.args.toList = [x,y]) (h:opMx (co x) (co y) tm st k=some r):Reads P E st w a o k r:=by
 unfold opMx at h
 obtain ⟨q,m,hm,h⟩:=asI_inv h
 obtain ⟨q2,n,hn,h⟩:=asI_inv h
 obtain ⟨hq,h⟩:=must_inv h
 have hq:=eqk_eq hq
 have h1:=co_rel hs ht x
 have h2:=co_rel hs ht y
 rw [hm] at h1
 rw [hn,← hq] at h2
 simp only [VRel] at h1 h2
 have run:(Builtin.max_ c.argTypes o.type (c.args.map a.eval)).run P w = .ok (.int q (if n > m then n else m)) w:=by
  simp [Builtin.max_,args2 hx,h1,h2,Builtin.max2]
 rcases iff_inv h with ⟨hl,h⟩ | ⟨hl,h⟩
 ·have hl:=(ile_iff _ _).1 hl
  refine reads_builtin ho hc (s:=Builtin.max_ c.argTypes o.type (c.args.map a.eval)) (fun _=>rfl) run ?_ h
  simp only [VRel]
  congr 1;split <;> omega
 ·have hl:¬ m≤n:=fun e=>by rw [← ile_iff,hl] at e;cases e
  refine reads_builtin ho hc (s:=Builtin.max_ c.argTypes o.type (c.args.map a.eval)) (fun _=>rfl) run ?_ h
  simp only [VRel]
  congr 1;split <;> omega
theorem mn_reads (hs:Sim B E st w) (ht:TmRel E nt tm a) {c:Call} {x y:Operand} (ho:o.op = .call c) (hc:c.callee = .builtin .min) (hx:c.args.toList = [x,y]) (h:opMn (co x) (co y) tm st k=some r):Reads P E st w a o k r:=by
 unfold opMn at h
 obtain ⟨q,m,hm,h⟩:=asI_inv h
 obtain ⟨q2,n,hn,h⟩:=asI_inv h
 obtain ⟨hq,h⟩:=must_inv h
 have hq:=eqk_eq hq
 have h1:=co_rel hs ht x
 have h2:=co_rel hs ht y
 rw [hm] at h1
 rw [hn,← hq] at h2
 simp only [VRel] at h1 h2
 have run:(Builtin.min_ c.argTypes o.type (c.args.map a.eval)).run P w = .ok (.int q (if n < m then n else m)) w:=by
  simp [Builtin.min_,args2 hx,h1,h2,Builtin.min2]
 rcases iff_inv h with ⟨hl,h⟩ | ⟨hl,h⟩
 ·have hl:=(ile_iff _ _).1 hl
  refine reads_builtin ho hc (s:=Builtin.min_ c.argTypes o.type (c.args.map a.eval)) (fun _=>rfl) run ?_ h
  simp only [VRel]
  congr 1;split <;> omega
 ·have hl:¬ m≤n:=fun e=>by rw [← ile_iff,hl] at e;cases e
  refine reads_builtin ho hc (s:=Builtin.min_ c.argTypes o.type (c.args.map a.eval)) (fun _=>rfl) run ?_ h
  simp only [VRel]
  congr 1;split <;> omega
end
end Go.AM
namespace Go.AM
open Go.RowKit
theorem foldl_set (vs:List Value):∀ (j off:Nat) (cs:Array Value),off + j + vs.length≤cs.size →
 (vs.zipIdx j).foldl (fun cs (c,i)=>cs.setIfInBounds (off + i) c) cs=(cs.toList.take (off + j) ++ vs ++ cs.toList.drop (off + j + vs.length)).toArray:=by
 induction vs with
 | nil=>intro j off cs h;simp
 | cons v vs ih =>
   intro j off cs h
   simp only [List.length_cons] at h
   rw [List.zipIdx_cons,List.foldl_cons,ih (j + 1) off _ (by simp;omega)]
   apply congrArg List.toArray
   apply List.ext_getElem?
   intro i
   rw [show off + (j + 1)=off + j + 1 by omega]
   have hl:(cs.setIfInBounds (off + j) v).toList=cs.toList.set (off + j) v:=by simp
   rw [hl,getElem?_mid _ _ _ _ (by simp;omega),getElem?_mid _ (v :: vs) _ _ (by simp;omega)]
   simp only [List.length_cons,List.getElem?_set]
   by_cases h1:i < off + j
   ·rw [if_pos (by omega),if_pos h1,if_neg (by omega)]
   ·rw [if_neg h1]
    by_cases h2:i=off + j
    ·subst h2
     rw [if_pos (by omega),if_pos rfl,if_pos (by simp;omega),if_pos (by omega)]
     simp
    ·by_cases h3:i < off + j + (vs.length + 1)
     ·rw [if_neg (by omega),if_pos (by omega),if_pos h3]
      rw [show i - (off + j)=(i - (off + j + 1)) + 1 by omega,List.getElem?_cons_succ]
     ·rw [if_neg (by omega),if_neg (by omega),if_neg h3,if_neg (by omega)]
theorem fill_cons {place:Nat→Option (Nat × Nat)} {zs:List Value} {i off n:Nat} {v:Value} {rest:List (Nat × Value)} (hp:place i=some (off,n)) (hn:v.cells.toList.length=n) (hfit:off + n≤zs.length) :
 Instr.fill place zs.toArray ((i,v) :: rest)=Instr.fill place (zs.take off ++ (v.cells.toList ++ zs.drop (off + v.cells.toList.length))).toArray rest:=by
 have hs:v.cells.size=n:=by rw [← hn];simp
 have:=foldl_set v.cells.toList 0 off zs.toArray (by simp only [List.size_toArray];omega)
 simp only [Nat.add_zero,List.append_assoc] at this
 simp only [Instr.fill,hp,hs]
 rw [if_neg (by simp;omega),← this]
 congr 1
 rw [← Array.foldl_toList]
 congr 1
 simp
section
variable {P:Program} {B:Bds} {E:Env'} {st:St} {w:World} {nt:Nat} {tm:Tm} {a:Act} {k:K} {r:List (AV × St)} {o:Oper}
theorem fil_inv (hs:Sim B E st w) (ht:TmRel E nt tm a) {place:Nat→Option (Nat × Nat)} {len:Nat} {f:AV→Out}:∀ (ps:List (Nat × Operand)) (l:List (Nat × Nat × CO)),psL place len ps=some l→∀ {z:AV} {zs:List Value},LRel E z zs→zs.length=len →
 fil l z tm f=some r→∃ c cs,f c=some r∧Instr.fill place zs.toArray (ps.map fun p=>(p.1,a.eval p.2))=some cs∧LRel E c cs.toList
 | [],l,hl,z,zs,hz,hlen,h=>by
   cases hl
   exact ⟨z,zs.toArray,h,rfl,hz⟩
 | (j,x) :: ps,l,hl,z,zs,hz,hlen,h=>by
   simp only [psL] at hl
   split at hl
   ·rename_i off n l' hp hps
    split at hl
    ·rename_i hb
     cases hl
     have hb:off + n≤len:=Nat.le_of_ble_eq_true hb
     have h:cellsOf (evc (co x) tm) (fun m xs=>must (Nat.beq m n) (fil l' (setA off xs z) tm f))=some r:=h
     obtain ⟨m,xs,h,hu,_,hrow⟩:=cellsOf_ok h
     obtain ⟨hm,h⟩:=must_inv h
     have hm:=Nat.eq_of_beq_eq_true hm
     obtain ⟨hxs,hlx⟩:=hrow E _ ((co_rel hs ht x).cells hu)
     have hlx:(a.eval x).cells.toList.length=n:=hlx.symm.trans hm
     have hset:=LRel.set hxs off hz (by omega)
     obtain ⟨c,cs,h1,h2,h3⟩:=fil_inv hs ht ps l' hps hset (by simp only [List.length_append,List.length_take,List.length_drop];omega) h
     refine ⟨c,cs,h1,?_,h3⟩
     rw [List.map_cons,fill_cons hp hlx (by omega)]
     exact h2
    ·cases hl
   ·cases hl
theorem zer_inv {t:TypeId} {z:AV} (h:zer P t=some z):∃ i v,P.info? t=some i∧i.zero=some v∧z=ofV v:=by
 unfold zer at h
 split at h
 ·rename_i i hi
  split at h
  ·rename_i v hv
   cases h
   exact ⟨i,v,hi,hv,rfl⟩
  ·cases h
 ·cases h
theorem ofV_rel (E:Env') (v:Value):VRel E (ofV v) v:=ofV1_rel E 6 v
theorem bld_reads (hs:Sim B E st w) (ht:TmRel E nt tm a) {t:TypeId} {ps:Array (Nat × Operand)} {z:AV} {l:List (Nat × Nat × CO)} {place:Nat→Option (Nat × Nat)} (ho:o.op = .build t ps) (hz:zer P t=some (.a z))
 (hb:∀ i v,P.info? t=some i→i.zero=some v→∀ q,P.built t q=Instr.fill place v.cells q) (hps:psL place (lenA z) ps.toList=some l) (h:opBld z l tm st k=some r):Reads P E st w a o k r:=by
 unfold opBld at h
 obtain ⟨i,v,hi,hv,hzv⟩:=zer_inv hz
 have hr:=ofV_rel E v
 rw [← hzv] at hr
 simp only [VRel] at hr
 obtain ⟨zs,rfl,hzs⟩:=hr
 obtain ⟨c,cs,h1,h2,h3⟩:=fil_inv hs ht ps.toList l hps hzs hzs.len.symm h
 refine reads_of (s:=Instr.build t (ps.map fun (i,x)=>(i,a.eval x))) (u:=.agg cs) (by unfold execOp;rw [ho]) ?_ ?_ h1
 ·refine run_build w t _ cs ?_
  rw [hb i _ hi hv]
  simpa [Value.cells] using h2
 ·simp only [VRel]
  exact ⟨cs.toList,by simp,h3⟩
theorem elZ_inv {e sz:Nat} {z:AV} (h:elZ P e=some (sz,z)):∃ i v,P.info? e=some i∧i.zero=some v∧i.size=sz∧i.bytes≤16777216∧v.cells.toList.length=sz∧∀ E,CRel E z v.cells.toList:=by
 unfold elZ at h
 split at h
 ·rename_i i hi
  split at h
  ·rename_i v hv hb
   have hb:i.bytes≤16777216:=Nat.le_of_ble_eq_true hb
   have key:∀ E,ofV v ≠ .u→CRel E (ofV v) v.cells.toList:=fun E hu=>(ofV_rel E v).cells hu
   split at h
   ·cases h
   ·rename_i c hc
    split at h
    ·rename_i hn
     cases h
     have hn:=Nat.eq_of_beq_eq_true hn
     rw [hc] at key
     refine ⟨i,v,hi,hv,rfl,hb,?_,fun E=>key E (by simp)⟩
     rcases key (fun _=>none) (by simp) with ⟨c',hc',hl⟩ | ⟨hc',_⟩
     ·cases hc';rw [← hl.len,hn]
     ·cases hc'
    ·cases h
   ·rename_i hu ha
    split at h
    ·rename_i hn
     cases h
     have hn:=Nat.eq_of_beq_eq_true hn
     refine ⟨i,v,hi,hv,hn,hb,?_,fun E=>key E (fun e=>hu e)⟩
     rcases key (fun _=>none) (fun e=>hu e) with ⟨c',hc',hl⟩ | ⟨_,y,hy,_⟩
     ·exact absurd hc' (ha c')
     ·rw [hy];rfl
    ·cases h
  ·cases h
 ·cases h
theorem get_zeros (z:AV):∀ (n:Nat),n≤5000000→∀ q,q < n→T.get (pth q) (zeros z n)=some z
 | 0,_,q,hq=>absurd hq (by omega)
 | n + 1,hn,q,hq=>by
   have e:zeros z (n + 1)=T.set (pth n) (some z) (zeros z n):=rfl
   rw [e,get_set_pth (by omega) (by omega)]
   split
   ·rfl
   ·exact get_zeros z n (by omega) q (by omega)
theorem made_get {zs:Array Value} {sz m:Nat} (hz:zs.size=sz) {q i:Nat} (hq:q < m) (hi:i < sz):(madeCells zs (m * sz))[q * sz + i]? = zs[i]?:=by
 have h1:(q + 1) * sz≤m * sz:=Nat.mul_le_mul_right _ hq
 rw [Nat.add_mul,Nat.one_mul] at h1
 have h2:(q * sz + i) % sz=i:=by rw [Nat.mul_comm,Nat.mul_add_mod,Nat.mod_eq_of_lt hi]
 unfold madeCells
 rw [Array.getElem?_map,Array.getElem?_range,if_pos (by omega)]
 simp only [Option.map_some,hz,h2]
 rw [Array.getElem?_eq_getElem (by omega),getElem!_pos zs i (by omega)]
def Elems (E:Env') (sz n:Nat) (els:T AV) (c:Array Value) (base:Nat):Prop :=
 ∀ q,q < n→∀ v,T.get (pth q) els=some v→∃ lv:List Value,lv.length=sz∧CRel E v lv∧∀ i,i < sz→c[base + q * sz + i]? = lv[i]?
theorem Elems.mono {E E':Env'} {sz n:Nat} {els:T AV} {c:Array Value} {base:Nat} (h:Elems E sz n els c base) (he:E.le E'):Elems E' sz n els c base:=fun q hq v hv=>by
 obtain ⟨lv,h1,h2,h3⟩:=h q hq v hv
 exact ⟨lv,h1,h2.mono he,h3⟩
theorem zeros_elems {E:Env'} {z:AV} {zs:Array Value} {sz n m:Nat} (hz:CRel E z zs.toList) (hl:zs.toList.length=sz) (hn:n≤5000000) (hm:n≤m):Elems E sz n (zeros z n) (madeCells zs (m * sz)) 0:=fun q hq v hv=>by
 rw [get_zeros z n hn q hq] at hv
 cases hv
 have hs:zs.size=sz:=by rw [← hl];simp
 refine ⟨zs.toList,hl,hz,fun i hi=>?_⟩
 rw [Nat.zero_add,made_get hs (by omega) hi]
 simp
theorem Sim.newEls {t:T Ob} {n:Nat} (hs:Sim B E (.mk t n) w) (hB:BIn B w) (hn:n < 5000000) {e sz len cap:Nat} {els:T AV} {c:Array Value} (hc:len≤cap) (hlen:len≤5000000) (hsz:cap * sz≤c.size) (hel:Elems E sz len els c 0)
 {w':World} (hh:w'.heap=w.heap) :
 E.le (E.with n ⟨w.heap.size,0,cap,sz⟩)∧Sim B (E.with n ⟨w.heap.size,0,cap,sz⟩) (.mk (T.set (pth n) (some (.v e sz len els)) t) (Nat.succ n)) (w'.alloc (.cells c e)):=by
 have hlt:∀ s q l',s < lim→T.get (pth s) t=some q→E s=some l'→l'.blk < w.heap.size:=fun s q l' h1 h2 h3=>by
  obtain ⟨l2,hl2,ho⟩:=hs.live s q h1 h2
  rw [h3] at hl2
  cases hl2
  exact ho.there
 refine Sim.new hs hn hB.out ?_ (fun _ s q l' h1 h2 _ h3=>?_) (fun s q l' h1 h2 _ h3=>?_) ?_
 ·show w.heap.size≤(w'.heap.push _).size;rw [hh];simp
 ·have:=hlt s q l' h1 h2 h3
  show l'.blk ≠ w.heap.size
  omega
 ·rw [Below.heap_alloc _ _ _ (by rw [hh];exact hlt s q l' h1 h2 h3),hh]
 ·refine ⟨c,(0,0),?_,fun _=>rfl,rfl,⟨hc,hlen⟩,by simpa using hsz,hel.mono (Env'.le_with (hs.fresh n (Nat.le_refl n)))⟩
  show (w'.heap.push _)[w.heap.size]? = _
  rw [hh]
  simp
theorem vrel_new {E:Env'} {n h cap sz len:Nat} (hc:len≤cap):VRel (E.with n ⟨h,0,cap,sz⟩) (.l n 0 len) (.slice (some ⟨h,0,none⟩) len cap):=by
 simp only [VRel]
 exact ⟨_,Env'.with_self _ _ _,by simpa using hc,0,fun _=>by simp,by simp⟩
theorem ms_does (hs:Sim B E st w) (hB:BIn B w) (ht:TmRel E nt tm a) {t e sz:Nat} {z:AV} {x y:Operand} (ho:o.op = .makeSlice t x y) (hu:P.underlying t=some (.slice e)) (hz:elZ P e=some (sz,z))
 (h:opMs e sz z (co x) (co y) tm st k=some r):Does P B E w a o k r:=by
 unfold opMs at h
 obtain ⟨kn,n,hn,h⟩:=asN_inv h
 obtain ⟨km,m,hm,h⟩:=asN_inv h
 obtain ⟨h1,h⟩:=must_inv h
 obtain ⟨h2,h⟩:=must_inv h
 have h1:n≤m:=Nat.le_of_ble_eq_true h1
 have h2:m≤100000:=Nat.le_of_ble_eq_true h2
 obtain ⟨tr,nn,rfl,hnn,h⟩:=newO_inv h
 have hx:=co_rel hs ht x
 have hy:=co_rel hs ht y
 rw [hn] at hx
 rw [hm] at hy
 simp only [VRel] at hx hy
 obtain ⟨i,v,hi,hv,hsz,hby,hlen,hc⟩:=elZ_inv hz
 have hrun:=run_make (P:=P) w t e i v hu hi hv kn km n m (by omega) (by omega) (by
  have:(i.bytes:Int) * (m:Int)≤16777216 * 100000:=Int.mul_le_mul (by omega) (by omega) (by omega) (by omega)
  omega) (by omega)
 simp only [Int.toNat_natCast] at hrun
 obtain ⟨hle,hs'⟩:=Sim.newEls hs hB hnn (e:=e) (sz:=sz) (len:=n) (cap:=m) (els:=zeros z n) (c:=madeCells v.cells (m * i.size)) h1 (by omega) (by rw [size_madeCells,hsz];omega) (by rw [hsz];exact zeros_elems (hc E) hlen (by omega) h1) (w':=w) rfl
 refine ⟨_,_,_,_,_,_,.inl ?_,hle,hs',(Bel.refl B w).alloc hB _,vrel_new h1,fun _ h=>h,h⟩
 unfold execOp
 rw [ho,Sem.run_bind,hx,hy,hrun]
 rfl
theorem filS_inv (hs:Sim B E st w) (ht:TmRel E nt tm a) {n sz:Nat} (hn:n≤5000000) {f:T AV→Out}:∀ (ps:List (Nat × Operand)) (l:List (Nat × CO)),psS n ps=some l→∀ {z:T AV} {cs:List Value},cs.length=n * sz→Elems E sz n z cs.toArray 0 →
 filS l sz z tm f=some r→∃ z' cs',f z' = some r∧Instr.fill (fun i=>some (i * sz,sz)) cs.toArray (ps.map fun p=>(p.1,a.eval p.2))=some cs'∧cs'.size=n * sz∧Elems E sz n z' cs' 0
 | [],l,hl,z,cs,hlen,hz,h=>by
   cases hl
   exact ⟨z,cs.toArray,h,rfl,by simpa using hlen,hz⟩
 | (j,x) :: ps,l,hl,z,cs,hlen,hz,h=>by
   simp only [psS] at hl
   split at hl
   ·rename_i l' hj hps
    cases hl
    have hj:=blt_lt hj
    have h:cellsOf (evc (co x) tm) (fun m _=>must (Nat.beq m sz) (filS l' sz (T.set (pth j) (some (evc (co x) tm)) z) tm f))=some r:=h
    obtain ⟨m,xs,h,hu,_,hrow⟩:=cellsOf_ok h
    obtain ⟨hm,h⟩:=must_inv h
    have hm:=Nat.eq_of_beq_eq_true hm
    have hcr:=(co_rel hs ht x).cells hu
    obtain ⟨hxs,hlx⟩:=hrow E _ hcr
    have hlx:(a.eval x).cells.toList.length=sz:=hlx.symm.trans hm
    generalize hL:(a.eval x).cells.toList=L at *
    have h1:(j + 1) * sz≤n * sz:=Nat.mul_le_mul_right _ hj
    rw [Nat.add_mul,Nat.one_mul] at h1
    have hel:Elems E sz n (T.set (pth j) (some (evc (co x) tm)) z) (cs.take (j * sz) ++ (L ++ cs.drop (j * sz + L.length))).toArray 0:=fun q hq v hv=>by
     have e5:∀ p:Nat,((cs.take (j * sz) ++ (L ++ cs.drop (j * sz + L.length))).toArray)[p]? = if p < j * sz then cs[p]? else if p < j * sz + L.length then L[p - j * sz]? else cs[p]?:=fun p=>by
      rw [List.getElem?_toArray,← List.append_assoc,getElem?_mid _ _ _ _ (by omega)]
     rw [get_set_pth (by omega) (by omega)] at hv
     split at hv
     ·rename_i eq
      subst eq
      cases hv
      refine ⟨L,hlx,hcr,fun i hi=>?_⟩
      rw [e5,Nat.zero_add,if_neg (by omega),if_pos (by omega)]
      congr 1;omega
     ·rename_i hne
      obtain ⟨lv,g1,g2,g3⟩:=hz q hq v hv
      refine ⟨lv,g1,g2,fun i hi=>?_⟩
      have g3:=g3 i hi
      rw [List.getElem?_toArray] at g3
      rw [e5,← g3,Nat.zero_add]
      rcases Nat.lt_or_gt_of_ne hne with h3 | h3
      ·have:(q + 1) * sz≤j * sz:=Nat.mul_le_mul_right _ h3
       rw [Nat.add_mul,Nat.one_mul] at this
       rw [if_pos (by omega)]
      ·have:(j + 1) * sz≤q * sz:=Nat.mul_le_mul_right _ h3
       rw [Nat.add_mul,Nat.one_mul] at this
       rw [if_neg (by omega),if_neg (by omega)]
    obtain ⟨z',cs',k1,k2,k3,k4⟩:=filS_inv hs ht hn ps l' hps (by simp only [List.length_append,List.length_take,List.length_drop];omega) hel h
    refine ⟨z',cs',k1,?_,k3,k4⟩
    rw [List.map_cons,fill_cons (off:=j * sz) (n:=sz) rfl (by rw [hL];exact hlx) (by omega),hL]
    exact k2
   ·cases hl
theorem bs_does (hs:Sim B E st w) (hB:BIn B w) (ht:TmRel E nt tm a) {t e sz n:Nat} {z:AV} {ps:Array (Nat × Operand)} {l:List (Nat × CO)} (ho:o.op = .buildSlice t n ps) (hu:P.underlying t=some (.slice e)) (hz:elZ P e=some (sz,z))
 (hps:psS n ps.toList=some l) (hn:n≤100000) (hnz:n * sz≤16777216) (h:opBs e sz n (zeros z n) l tm st k=some r):Does P B E w a o k r:=by
 unfold opBs at h
 obtain ⟨i,v,hi,hv,hsz,hby,hlen,hc⟩:=elZ_inv hz
 have hvs:v.cells.size=sz:=by rw [← hlen];simp
 obtain ⟨els,cs,h,hfill,hsize,hel⟩:=filS_inv hs ht (sz:=sz) (by omega) ps.toList l hps (cs:=(madeCells v.cells (n * sz)).toList) (by simp [size_madeCells]) (by simpa using zeros_elems (m:=n) (hc E) hlen (by omega) (Nat.le_refl n)) h
 obtain ⟨tr,nn,rfl,hnn,h⟩:=newO_inv h
 obtain ⟨hle,hs'⟩:=Sim.newEls hs hB hnn (e:=e) (sz:=sz) (len:=n) (cap:=n) (els:=els) (c:=cs) (Nat.le_refl n) (by omega) (by omega) hel (w':=w) rfl
 refine ⟨_,_,_,_,_,_,.inl ?_,hle,hs',(Bel.refl B w).alloc hB _,vrel_new (Nat.le_refl n),fun _ h=>h,h⟩
 have hfill':Instr.fill (fun i=>some (i * sz,sz)) (madeCells v.cells (n * sz)) (ps.map fun (i,x)=>(i,a.eval x)).toList=some cs:=by
  simpa using hfill
 have hrun:(Instr.buildSlice t n (ps.map fun (i,x)=>(i,a.eval x))).run P w = .ok (.slice (some ⟨w.heap.size,0,none⟩) n n) (w.alloc (.cells cs e)):=by
  have hm0:∀ z:Array Value,madeCells z 0 = #[]:=fun z=>by simp [madeCells]
  by_cases h0:n * sz=0
  ·rw [h0,hm0] at hfill'
   simp only [Array.toList_map] at hfill'
   have e0:Array.map (fun _:Nat=>(default:Value)) (Array.range 0) = #[]:=Array.eq_empty_of_size_eq_zero (by simp)
   simp [Instr.buildSlice,run_underlying hu,sizeOf,typeInfo,hi,hsz,h0,newRow,e0,hfill']
  ·have hle:¬ 16777216 < n * sz:=by omega
   unfold madeCells at hfill'
   simp only [Array.toList_map] at hfill'
   simp [Instr.buildSlice,run_underlying hu,sizeOf,typeInfo,hi,hsz,h0,hle,newRow,zeroValue,hv,hfill']
 unfold execOp
 rw [ho,Sem.run_bind,hrun]
 rfl
theorem mm_does (hs:Sim B E st w) (hB:BIn B w) {t:TypeId} {hint:Option Operand} (ho:o.op = .makeMap t hint) (hh:hint=none ∨ ∃ x q n,hint=some x∧a.eval x = .int q n∧∃ k e,P.underlying t=some (.map k e))
 (h:opMm tm st k=some r):Does P B E w a o k r:=by
 unfold opMm at h
 obtain ⟨tr,nn,rfl,hnn,h⟩:=newO_inv h
 have hlt:∀ s q l',s < lim→T.get (pth s) tr=some q→E s=some l'→l'.blk < w.heap.size:=fun s q l' h1 h2 h3=>by
  obtain ⟨l2,hl2,ho⟩:=hs.live s q h1 h2
  rw [h3] at hl2
  cases hl2
  exact ho.there
 obtain ⟨hle,hs'⟩:=Sim.new (w':=w.alloc (.map #[] 0)) (l:=⟨w.heap.size,0,0,0⟩) (o:=.mp .nil 0) hs hnn hB.out (by show w.heap.size≤(w.heap.push _).size;simp) (fun _ s q l' h1 h2 _ h3=>by have:=hlt s q l' h1 h2 h3;show l'.blk ≠ w.heap.size;omega)
  (fun s q l' h1 h2 _ h3=>Below.heap_alloc _ _ _ (hlt s q l' h1 h2 h3)) ⟨#[],by show (w.heap.push _)[w.heap.size]? = _;simp,by simp only [MERel]⟩
 refine ⟨_,.map (some w.heap.size),_,_,_,_,.inl ?_,hle,hs',(Bel.refl B w).alloc hB _,?_,fun _ h=>h,h⟩
 ·unfold execOp
  rw [ho]
  rcases hh with rfl | ⟨x,q,n,rfl,hx,kt,e,hu⟩
  ·simp [Instr.makeMap,newObj,Sem.run]
  ·simp [Instr.makeMap,newObj,Sem.run,hx,asInt,asIntOf,run_underlying hu]
 ·simp only [VRel]
  exact ⟨_,Env'.with_self _ _ _,rfl⟩
end
end Go.AM
