/-
  An evaluator for closed calls, written for the kernel: compiled operations, continuations, eliminators with closed minors.
-/
import GoSem.Step
namespace Go.AM
def lowN:Nat:=9
noncomputable section
inductive AV where
 |u 
 |b (x0:Bool)
 |i (x0:IntKind) (x1:Int)
 |s (x0:List Nat)
 |p0 
 |p (x0:Nat) (x1:Nat)
 |l0 
 |l (x0:Nat) (x1:Nat) (x2:Nat)
 |m0 
 |m (x0:Nat)
 |f0 
 |f (x0:Fn) (x1:AV) (x2:AV)
 |x0 
 |x (x0:Nat) (x1:AV)
 |a (x0:AV)
 |t (x0:AV)
 |nl 
 |cn (x0:AV) (x1:AV)
inductive D where | d0 | d1 | d2 | d3
 deriving DecidableEq
inductive T(α:Type) where | e | n (v:Option α) (c0 c1 c2 c3:T α)
def digit(k:Nat):D:=match k with | 0=>.d0 | 1=>.d1 | 2=>.d2 | _=>.d3
def path:Nat->Nat->List D
 |0,_=>[]
 |f+1,k=>match Nat.beq k 0 with | true=>[] | false=>digit (Nat.mod (Nat.sub k 1) 4)::path f (Nat.div (Nat.sub k 1) 4)
def az(k:Nat):List D:=path 12 k
def Tg{α:Type}(d:D):T α->T α->T α->T α->T α:=D.rec (motive:=fun _=>T α->T α->T α->T α->T α) (fun c0 _ _ _=>c0) (fun _ c1 _ _=>c1) (fun _ _ c2 _=>c2) (fun _ _ _ c3=>c3) d
def upd{α:Type}(d:D):(T α->T α)->Option α->T α->T α->T α->T α->T α:=D.rec (motive:=fun _=>(T α->T α)->Option α->T α->T α->T α->T α->T α)
 (fun f v c0 c1 c2 c3=>.n v (f c0) c1 c2 c3) (fun f v c0 c1 c2 c3=>.n v c0 (f c1) c2 c3) (fun f v c0 c1 c2 c3=>.n v c0 c1 (f c2) c3) (fun f v c0 c1 c2 c3=>.n v c0 c1 c2 (f c3)) d
def Oc{α:Type}(t:T α):Option α:=T.rec (motive:=fun _=>Option α) none (fun v _ _ _ _ _ _ _ _=>v) t
def set0{α:Type}(x:Option α)(t:T α):T α:=T.rec (motive:=fun _=>Option α->T α) (fun x=>.n x .e .e .e .e) (fun _ c0 c1 c2 c3 _ _ _ _ x=>.n x c0 c1 c2 c3) t x
def Oa{α:Type}(d:D)(ih:T α->Option α)(t:T α):Option α:=T.rec (motive:=fun _=>D->(T α->Option α)->Option α) (fun _ _=>none) (fun _ c0 c1 c2 c3 _ _ _ _ d ih=>ih (Tg d c0 c1 c2 c3)) t d ih
def set1{α:Type}(d:D)(ih:T α->T α)(t:T α):T α:=T.rec (motive:=fun _=>D->(T α->T α)->T α) (fun d ih=>upd d ih none .e .e .e .e) (fun v c0 c1 c2 c3 _ _ _ _ d ih=>upd d ih v c0 c1 c2 c3) t d ih
def T.get{α:Type}(p:List D):T α->Option α:=List.rec (motive:=fun _=>T α->Option α) Oc (fun d _ ih=>Oa d ih) p
def T.set{α:Type}(p:List D):Option α->T α->T α:=List.rec (motive:=fun _=>Option α->T α->T α) set0 (fun d _ ih x=>set1 d (ih x)) p
inductive ME where | nil | cons (k v:AV) (n:Nat) (r:ME)
inductive Ob where
 |c (t len:Nat) (row:AV)
 |v (e sz len:Nat) (els:T AV)
 |mp (es:ME) (clock:Nat)
 |si (pos:Nat) (rest:List Nat)
 |mi (m since:Nat) (seen:List Nat) (last:Nat)
 |vO
 |al (r k:Nat)
inductive St where | mk (h:T Ob) (n:Nat)
inductive Ex where | normal | exit (id:Nat) | ret
abbrev Tm:=T AV
abbrev Out:=Option (List (AV × St))
abbrev K:=AV->St->Out
abbrev KE:=Ex->Tm->St->Out
abbrev xu:=AV->St->Out
abbrev dS:=Nat->xu
def iff(b:Bool):Out->Out->Out:=Bool.rec (motive:=fun _=>Out->Out->Out) (fun _ y=>y) (fun x _=>x) b
def must(b:Bool):Out->Out:=Bool.rec (motive:=fun _=>Out->Out) (fun _=>none) (fun x=>x) b
def both(x y:Out):Out:=match x,y with | some a,some b=>some (a++b) | _,_=>none
def fM(x:Nat)(k:Nat->Out):Out:=Nat.rec (motive:=fun _=>(Nat->Out)->Out) (fun k=>k 0) (fun n _ k=>k (Nat.succ n)) x k
def St.h(s:St):T Ob:=St.rec (motive:=fun _=>T Ob) (fun h _=>h) s
def St.n(s:St):Nat:=St.rec (motive:=fun _=>Nat) (fun _ n=>n) s

def pI(v:AV):(Bool->Out)->Out:=AV.rec (motive:=fun _=>(Bool->Out)->Out) (fun _=>none) (fun x=>fun f=>f x) (fun _ _=>fun _=>none) (fun _=>fun _=>none) (fun _=>none) (fun _ _=>fun _=>none) (fun _=>none) (fun _ _ _=>fun _=>none) (fun _=>none) (fun _=>fun _=>none) (fun _=>none) (fun _ _ _ _ _=>fun _=>none) (fun _=>none) (fun _ _ _=>fun _=>none) (fun _ _=>fun _=>none) (fun _ _=>fun _=>none) (fun _=>none) (fun _ _ _ _=>fun _=>none) v
def iP(v:AV):(IntKind->Int->Out)->Out:=AV.rec (motive:=fun _=>(IntKind->Int->Out)->Out) (fun _=>none) (fun _=>fun _=>none) (fun k n=>fun f=>f k n) (fun _=>fun _=>none) (fun _=>none) (fun _ _=>fun _=>none) (fun _=>none) (fun _ _ _=>fun _=>none) (fun _=>none) (fun _=>fun _=>none) (fun _=>none) (fun _ _ _ _ _=>fun _=>none) (fun _=>none) (fun _ _ _=>fun _=>none) (fun _ _=>fun _=>none) (fun _ _=>fun _=>none) (fun _=>none) (fun _ _ _ _=>fun _=>none) v
def iF(v:AV):(List Nat->Out)->Out:=AV.rec (motive:=fun _=>(List Nat->Out)->Out) (fun _=>none) (fun _=>fun _=>none) (fun _ _=>fun _=>none) (fun l=>fun f=>f l) (fun _=>none) (fun _ _=>fun _=>none) (fun _=>none) (fun _ _ _=>fun _=>none) (fun _=>none) (fun _=>fun _=>none) (fun _=>none) (fun _ _ _ _ _=>fun _=>none) (fun _=>none) (fun _ _ _=>fun _=>none) (fun _ _=>fun _=>none) (fun _ _=>fun _=>none) (fun _=>none) (fun _ _ _ _=>fun _=>none) v
def qH(v:AV):(Nat->Nat->Out)->Out:=AV.rec (motive:=fun _=>(Nat->Nat->Out)->Out) (fun _=>none) (fun _=>fun _=>none) (fun _ _=>fun _=>none) (fun _=>fun _=>none) (fun _=>none) (fun r o=>fun f=>f r o) (fun _=>none) (fun _ _ _=>fun _=>none) (fun _=>none) (fun _=>fun _=>none) (fun _=>none) (fun _ _ _ _ _=>fun _=>none) (fun _=>none) (fun _ _ _=>fun _=>none) (fun _ _=>fun _=>none) (fun _ _=>fun _=>none) (fun _=>none) (fun _ _ _ _=>fun _=>none) v
def zw(v:AV):Out->(Nat->Out)->Out:=AV.rec (motive:=fun _=>Out->(Nat->Out)->Out) (fun _ _=>none) (fun _=>fun _ _=>none) (fun _ _=>fun _ _=>none) (fun _=>fun _ _=>none) (fun _ _=>none) (fun _ _=>fun _ _=>none) (fun _ _=>none) (fun _ _ _=>fun _ _=>none) (fun z _=>z) (fun r=>fun _ f=>f r) (fun _ _=>none) (fun _ _ _ _ _=>fun _ _=>none) (fun _ _=>none) (fun _ _ _=>fun _ _=>none) (fun _ _=>fun _ _=>none) (fun _ _=>fun _ _=>none) (fun _ _=>none) (fun _ _ _ _=>fun _ _=>none) v
def oD(v:AV):Out->(Nat->Nat->Nat->Out)->Out:=AV.rec (motive:=fun _=>Out->(Nat->Nat->Nat->Out)->Out) (fun _ _=>none) (fun _=>fun _ _=>none) (fun _ _=>fun _ _=>none) (fun _=>fun _ _=>none) (fun _ _=>none) (fun _ _=>fun _ _=>none) (fun z _=>z) (fun r k n=>fun _ f=>f r k n) (fun _ _=>none) (fun _=>fun _ _=>none) (fun _ _=>none) (fun _ _ _ _ _=>fun _ _=>none) (fun _ _=>none) (fun _ _ _=>fun _ _=>none) (fun _ _=>fun _ _=>none) (fun _ _=>fun _ _=>none) (fun _ _=>none) (fun _ _ _ _=>fun _ _=>none) v
def Hu(v:AV):(Fn->AV->AV->Out)->Out:=AV.rec (motive:=fun _=>(Fn->AV->AV->Out)->Out) (fun _=>none) (fun _=>fun _=>none) (fun _ _=>fun _=>none) (fun _=>fun _=>none) (fun _=>none) (fun _ _=>fun _=>none) (fun _=>none) (fun _ _ _=>fun _=>none) (fun _=>none) (fun _=>fun _=>none) (fun _=>none) (fun fn a c _ _=>fun f=>f fn a c) (fun _=>none) (fun _ _ _=>fun _=>none) (fun _ _=>fun _=>none) (fun _ _=>fun _=>none) (fun _=>none) (fun _ _ _ _=>fun _=>none) v
def kE(v:AV):(AV->Out)->Out:=AV.rec (motive:=fun _=>(AV->Out)->Out) (fun _=>none) (fun _=>fun _=>none) (fun _ _=>fun _=>none) (fun _=>fun _=>none) (fun _=>none) (fun _ _=>fun _=>none) (fun _=>none) (fun _ _ _=>fun _=>none) (fun _=>none) (fun _=>fun _=>none) (fun _=>none) (fun _ _ _ _ _=>fun _=>none) (fun _=>none) (fun _ _ _=>fun _=>none) (fun c _=>fun f=>f c) (fun _ _=>fun _=>none) (fun _=>none) (fun _ _ _ _=>fun _=>none) v
def Qs(v:AV):(AV->Out)->Out:=AV.rec (motive:=fun _=>(AV->Out)->Out) (fun _=>none) (fun _=>fun _=>none) (fun _ _=>fun _=>none) (fun _=>fun _=>none) (fun _=>none) (fun _ _=>fun _=>none) (fun _=>none) (fun _ _ _=>fun _=>none) (fun _=>none) (fun _=>fun _=>none) (fun _=>none) (fun _ _ _ _ _=>fun _=>none) (fun _=>none) (fun _ _ _=>fun _=>none) (fun _ _=>fun _=>none) (fun c _=>fun f=>f c) (fun _=>none) (fun _ _ _ _=>fun _=>none) v
def jD(v:AV):(AV->AV->Out)->Out:=AV.rec (motive:=fun _=>(AV->AV->Out)->Out) (fun _=>none) (fun _=>fun _=>none) (fun _ _=>fun _=>none) (fun _=>fun _=>none) (fun _=>none) (fun _ _=>fun _=>none) (fun _=>none) (fun _ _ _=>fun _=>none) (fun _=>none) (fun _=>fun _=>none) (fun _=>none) (fun _ _ _ _ _=>fun _=>none) (fun _=>none) (fun _ _ _=>fun _=>none) (fun _ _=>fun _=>none) (fun _ _=>fun _=>none) (fun _=>none) (fun h t _ _=>fun f=>f h t) v
def tl(v:AV):AV:=AV.rec (motive:=fun _=>AV) (.nl) (fun _=>.nl) (fun _ _=>.nl) (fun _=>.nl) (.nl) (fun _ _=>.nl) (.nl) (fun _ _ _=>.nl) (.nl) (fun _=>.nl) (.nl) (fun _ _ _ _ _=>.nl) (.nl) (fun _ _ _=>.nl) (fun _ _=>.nl) (fun _ _=>.nl) (.nl) (fun _h t _ _=>t) v
def hd(v:AV):AV:=AV.rec (motive:=fun _=>AV) (.u) (fun _=>.u) (fun _ _=>.u) (fun _=>.u) (.u) (fun _ _=>.u) (.u) (fun _ _ _=>.u) (.u) (fun _=>.u) (.u) (fun _ _ _ _ _=>.u) (.u) (fun _ _ _=>.u) (fun _ _=>.u) (fun _ _=>.u) (.u) (fun h _t _ _=>h) v
def eu(v:AV):Nat:=AV.rec (motive:=fun _=>Nat) (0) (fun _=>0) (fun _ _=>0) (fun _=>0) (0) (fun _ _=>0) (0) (fun _ _ _=>0) (0) (fun _=>0) (0) (fun _ _ _ _ _=>0) (0) (fun _ _ _=>0) (fun _ _=>0) (fun _ _=>0) (0) (fun _h _t _ ih=>Nat.succ ih) v
def vW(v:AV):Bool:=AV.rec (motive:=fun _=>Bool) (false) (fun _=>true) (fun _ _=>true) (fun _=>true) (true) (fun _ _=>true) (true) (fun _ _ _=>true) (true) (fun _=>true) (true) (fun _ _ _ _ _=>true) (true) (fun _ _ _=>true) (fun _ _=>false) (fun _ _=>false) (false) (fun _ _ _ _=>false) v
def rowOk(v:AV):Bool:=AV.rec (motive:=fun _=>Bool) (false) (fun _=>false) (fun _ _=>false) (fun _=>false) (false) (fun _ _=>false) (false) (fun _ _ _=>false) (false) (fun _=>false) (false) (fun _ _ _ _ _=>false) (false) (fun _ _ _=>false) (fun _ _=>false) (fun _ _=>false) (true) (fun h _ _ ih=>and (vW h) ih) v
def cellsOf(v:AV):(Nat->AV->Out)->Out:=AV.rec (motive:=fun _=>(Nat->AV->Out)->Out) (fun _=>none) (fun x0=>fun f=>f 1 (.cn (.b x0) .nl)) (fun x0 x1=>fun f=>f 1 (.cn (.i x0 x1) .nl)) (fun x0=>fun f=>f 1 (.cn (.s x0) .nl)) (fun f=>f 1 (.cn (.p0 ) .nl)) (fun x0 x1=>fun f=>f 1 (.cn (.p x0 x1) .nl)) (fun f=>f 1 (.cn (.l0 ) .nl)) (fun x0 x1 x2=>fun f=>f 1 (.cn (.l x0 x1 x2) .nl)) (fun f=>f 1 (.cn (.m0 ) .nl)) (fun x0=>fun f=>f 1 (.cn (.m x0) .nl)) (fun f=>f 1 (.cn (.f0 ) .nl)) (fun x0 x1 x2 _ _=>fun f=>f 1 (.cn (.f x0 x1 x2) .nl)) (fun f=>f 1 (.cn (.x0 ) .nl)) (fun x0 x1 _=>fun f=>f 1 (.cn (.x x0 x1) .nl)) (fun c _=>fun f=>must (rowOk c) (f (eu c) c)) (fun _ _=>fun _=>none) (fun _=>none) (fun _ _ _ _=>fun _=>none) v
def rG(v:AV):Bool:=AV.rec (motive:=fun _=>Bool) (false) (fun _=>false) (fun _ _=>false) (fun _=>false) (false) (fun _ _=>false) (false) (fun _ _ _=>false) (false) (fun _=>false) (false) (fun _ _ _ _ _=>false) (false) (fun _ _ _=>false) (fun _c _=>true) (fun _ _=>false) (false) (fun _ _ _ _=>false) v
def rC(n:Nat):AV->(AV->Out)->Out:=Nat.rec (motive:=fun _=>AV->(AV->Out)->Out) (fun row f=>jD row (fun h _=>f h)) (fun _ ih row f=>ih (tl row) f) n
def Bz(n:Nat):AV->AV:=Nat.rec (motive:=fun _=>AV->AV) (fun row=>row) (fun _ ih row=>ih (tl row)) n
def takeA(n:Nat):AV->AV:=Nat.rec (motive:=fun _=>AV->AV) (fun _=>.nl) (fun _ ih row=>.cn (hd row) (ih (tl row))) n

def CB(v:AV):AV->AV:=AV.rec (motive:=fun _=>AV->AV) (fun y=>y) (fun _=>fun y=>y) (fun _ _=>fun y=>y) (fun _=>fun y=>y) (fun y=>y) (fun _ _=>fun y=>y) (fun y=>y) (fun _ _ _=>fun y=>y) (fun y=>y) (fun _=>fun y=>y) (fun y=>y) (fun _ _ _ _ _=>fun y=>y) (fun y=>y) (fun _ _ _=>fun y=>y) (fun _ _=>fun y=>y) (fun _ _=>fun y=>y) (fun y=>y) (fun h _ _ ih=>fun y=>.cn h (ih y)) v
def vD(xs:AV):AV->AV:=AV.rec (motive:=fun _=>AV->AV) (fun row=>row) (fun _=>fun row=>row) (fun _ _=>fun row=>row) (fun _=>fun row=>row) (fun row=>row) (fun _ _=>fun row=>row) (fun row=>row) (fun _ _ _=>fun row=>row) (fun row=>row) (fun _=>fun row=>row) (fun row=>row) (fun _ _ _ _ _=>fun row=>row) (fun row=>row) (fun _ _ _=>fun row=>row) (fun _ _=>fun row=>row) (fun _ _=>fun row=>row) (fun row=>row) (fun h _ _ ih=>fun row=>.cn h (ih (tl row))) xs
def qR(o:Nat):AV->AV->AV:=Nat.rec (motive:=fun _=>AV->AV->AV) vD (fun _ ih xs row=>.cn (hd row) (ih xs (tl row))) o
inductive CO where | sl (p:List D) | c (v:AV)
def gv(x:Option AV):AV:=Option.rec (motive:=fun _=>AV) (.t .nl) (fun v=>v) x
def aN(x:CO):Tm->AV:=CO.rec (motive:=fun _=>Tm->AV) (fun p tm=>gv (T.get p tm)) (fun v _=>v) x
def yQ(l:List CO):Tm->AV:=List.rec (motive:=fun _=>Tm->AV) (fun _=>.nl) (fun x _ ih tm=>.cn (aN x tm) (ih tm)) l
def gO(x:Option Ob):(Ob->Out)->Out:=Option.rec (motive:=fun _=>(Ob->Out)->Out) (fun _=>none) (fun o f=>f o) x
def ob(st:St)(r:Nat)(f:Ob->Out):Out:=gO (T.get (az r) st.h) f
def iJ(st:St)(o:Ob)(v:Nat->AV)(k:K):Out:=St.rec (motive:=fun _=>Ob->(Nat->AV)->K->Out) (fun h n o v k=>fM n (fun n=>must (Nat.blt n 5000000) (k (v n) (.mk (T.set (az n) (some o) h) (Nat.succ n))))) st o v k
def gz(st:St)(r:Nat)(o:Option Ob):St:=St.rec (motive:=fun _=>Nat->Option Ob->St) (fun h n r o=>.mk (T.set (az r) o h) n) st r o
def vI(o:Ob):(Nat->Nat->AV->Out)->(Nat->Nat->Nat->T AV->Out)->Out:=Ob.rec (motive:=fun _=>(Nat->Nat->AV->Out)->(Nat->Nat->Nat->T AV->Out)->Out)
 (fun t len row f _=>f t len row) (fun e sz len els _ g=>g e sz len els) (fun _ _ _ _=>none) (fun _ _ _ _=>none) (fun _ _ _ _ _ _=>none) (fun _ _=>none) (fun _ _ _ _=>none) o
def tq(o:Ob):(ME->Nat->Out)->Out:=Ob.rec (motive:=fun _=>(ME->Nat->Out)->Out) (fun _ _ _ _=>none) (fun _ _ _ _ _=>none) (fun es c f=>f es c) (fun _ _ _=>none) (fun _ _ _ _ _=>none) (fun _=>none) (fun _ _ _=>none) o
def LF(o:Ob):(Nat->List Nat->Out)->Out:=Ob.rec (motive:=fun _=>(Nat->List Nat->Out)->Out) (fun _ _ _ _=>none) (fun _ _ _ _ _=>none) (fun _ _ _=>none) (fun p r f=>f p r) (fun _ _ _ _ _=>none) (fun _=>none) (fun _ _ _=>none) o
def EL(o:Ob):Out->(Nat->Nat->List Nat->Nat->Out)->Out:=Ob.rec (motive:=fun _=>Out->(Nat->Nat->List Nat->Nat->Out)->Out) (fun _ _ _ _ _=>none) (fun _ _ _ _ _ _=>none) (fun _ _ _ _=>none) (fun _ _ _ _=>none) (fun m a s b _ f=>f m a s b) (fun z _=>z) (fun _ _ _ _=>none) o
def LH(o:Ob):(Nat->Nat->Out)->(Nat->Nat->Nat->T AV->Out)->Out:=Ob.rec (motive:=fun _=>(Nat->Nat->Out)->(Nat->Nat->Nat->T AV->Out)->Out)
 (fun _ _ _ _ _=>none) (fun e sz len els _ g=>g e sz len els) (fun _ _ _ _=>none) (fun _ _ _ _=>none) (fun _ _ _ _ _ _=>none) (fun _ _=>none) (fun r k f _=>f r k) o
def O8(x:Option AV):(AV->Out)->Out:=Option.rec (motive:=fun _=>(AV->Out)->Out) (fun _=>none) (fun o f=>f o) x
def el(els:T AV)(q:Nat)(f:AV->Out):Out:=fM q (fun q=>O8 (T.get (az q) els) f)
def yo(st:St)(r:Nat)(f:Nat->Nat->Nat->Nat->Nat->T AV->Out):Out:=ob st r (fun b=>LH b (fun r2 k2=>ob st r2 (fun b2=>vI b2 (fun _ _ _=>none) (fun e sz len els=>f r2 k2 e sz len els))) (fun e sz len els=>f r 0 e sz len els))
-- loads and stores
def sV(x:CO)(tm:Tm)(st:St)(k:K):Out:=qH (aN x tm) (fun r o=>ob st r (fun b=>vI b
 (fun _ _ row=>rC o row (fun v=>k v st))
 (fun _ sz len els=>must (Nat.blt (Nat.div o sz) len) (el els (Nat.div o sz) (fun e=>cellsOf e (fun _ row=>rC (Nat.mod o sz) row (fun v=>k v st)))))))
def sU(n:Nat)(x:CO)(tm:Tm)(st:St)(k:K):Out:=qH (aN x tm) (fun r o=>ob st r (fun b=>vI b
 (fun _ len row=>must (Nat.ble (Nat.add o n) len) (k (.a (takeA n (Bz o row))) st))
 (fun _ sz len els=>must (Nat.blt (Nat.div o sz) len) (el els (Nat.div o sz) (fun e=>cellsOf e (fun len row=>must (Nat.ble (Nat.add (Nat.mod o sz) n) len) (k (.a (takeA n (Bz (Nat.mod o sz) row))) st)))))))
def FZ(e:AV)(o n:Nat)(xs:AV)(f:AV->Out):Out:=Bool.rec (motive:=fun _=>AV->Nat->Nat->AV->(AV->Out)->Out)
 (fun _ o n xs f=>must (Nat.beq o 0) (must (Nat.beq n 1) (f (hd xs))))
 (fun e o n xs f=>kE e (fun c=>must (Nat.ble (Nat.add o n) (eu c)) (f (.a (qR o xs c))))) (rG e) e o n xs f
def DX(n:Nat)(x v:CO)(tm:Tm)(st:St)(k:K):Out:=qH (aN x tm) (fun r o=>must (Nat.ble lowN r) (cellsOf (aN v tm) (fun m xs=>must (Nat.beq m n) (ob st r (fun b=>vI b
 (fun t len row=>must (Nat.ble (Nat.add o n) len) (k (.t .nl) (gz st r (some (.c t len (qR o xs row))))))
 (fun e sz len els=>fM (Nat.div o sz) (fun q=>must (Nat.blt q len) (el els q (fun w=>FZ w (Nat.mod o sz) n xs (fun w'=>k (.t .nl) (gz st r (some (.v e sz len (T.set (az q) (some w') els))))))))))))))
def Lj(x:CO)(tm:Tm)(st:St)(k:K):Out:=k (aN x tm) st
def D7(c a b:CO)(tm:Tm)(st:St)(k:K):Out:=pI (aN c tm) (fun q=>iff q (k (aN a tm) st) (k (aN b tm) st))
def xW(t len:Nat)(row:AV)(_:Tm)(st:St)(k:K):Out:=iJ st (.c t len row) (fun r=>.p r 0) k
def yg(t:Nat)(x:CO)(tm:Tm)(st:St)(k:K):Out:=cellsOf (aN x tm) (fun n xs=>iJ st (.c t n xs) (fun r=>.p r 0) k)
def Gm(ps:List (Nat × Nat × CO)):AV->Tm->(AV->Out)->Out:=List.rec (motive:=fun _=>AV->Tm->(AV->Out)->Out) (fun z _ f=>f z)
 (fun p _ ih z tm f=>cellsOf (aN p.2.2 tm) (fun m xs=>must (Nat.beq m p.2.1) (ih (qR p.1 xs z) tm f))) ps
def ED(z:AV)(ps:List (Nat × Nat × CO))(tm:Tm)(st:St)(k:K):Out:=Gm ps z tm (fun c=>k (.a c) st)
def wy(ps:List (Nat × CO)):Nat->T AV->Tm->(T AV->Out)->Out:=List.rec (motive:=fun _=>Nat->T AV->Tm->(T AV->Out)->Out) (fun _ z _ f=>f z)
 (fun p _ ih sz z tm f=>cellsOf (aN p.2 tm) (fun m _=>must (Nat.beq m sz) (ih sz (T.set (az p.1) (some (aN p.2 tm)) z) tm f))) ps
def zeros(z:AV)(n:Nat):T AV:=Nat.rec (motive:=fun _=>T AV) .e (fun m ih=>T.set (az m) (some z) ih) n
def yh(e sz n:Nat)(z:T AV)(ps:List (Nat × CO))(tm:Tm)(st:St)(k:K):Out:=wy ps sz z tm (fun els=>iJ st (.v e sz n els) (fun r=>.l r 0 n) k)
def notM(fn:Fn):Bool:=match fn with | .method _=>false | _=>true
def XL(v:AV):Bool:=AV.rec (motive:=fun _=>Bool) (false) (fun _=>false) (fun _ _=>false) (fun _=>false) (false) (fun _ _=>true) (false) (fun _ _ _=>false) (false) (fun _=>false) (false) (fun fn _ _ _ _=>notM fn) (false) (fun _ _ _=>false) (fun _ _=>false) (fun _ _=>false) (false) (fun _ _ _ _=>false) v
def Ec(x:CO)(tm:Tm)(st:St)(k:K):Out:=must (XL (aN x tm)) (k (aN x tm) st)
-- arithmetic
def lu:IntKind->IntKind->Bool
 | .i8,.i8=>true | .i16,.i16=>true | .i32,.i32=>true | .i64,.i64=>true
 | .u8,.u8=>true | .u16,.u16=>true | .u32,.u32=>true | .u64,.u64=>true
 |_,_=>false
def nn(x y:Int):(Nat->Nat->Out)->Out->Out:=Int.rec (motive:=fun _=>Int->(Nat->Nat->Out)->Out->Out)
 (fun a y f g=>Int.rec (motive:=fun _=>Nat->(Nat->Nat->Out)->Out->Out) (fun b a f _=>f a b) (fun _ _ _ g=>g) y a f g) (fun _ _ _ g=>g) x y
def mG:Int->Int->Bool
 | .ofNat a,.ofNat c=>Nat.beq a c
 | .negSucc a,.negSucc c=>Nat.beq a c
 |_,_=>false
def j6:Int->Int->Bool
 | .ofNat a,.ofNat b=>Nat.ble a b
 | .negSucc _,.ofNat _=>true
 | .ofNat _,.negSucc _=>false
 | .negSucc a,.negSucc b=>Nat.ble b a
def kI(q:IntKind)(n:Int)(k:AV->Out):Out:=Int.rec (motive:=fun _=>IntKind->(AV->Out)->Out)
 (fun a q k=>fM a (fun a=>iff (Nat.ble a 127) (k (.i q (.ofNat a))) (k (.i q (q.wrap (.ofNat a)))))) (fun a q k=>k (.i q (q.wrap (.negSucc a)))) n q k
inductive BO where | add | sub | mul | eql | neq | lss | leq | gtr | geq | bad | quo | rem | and | or | xor | ann
def Hr(op:BO):IntKind->Int->Int->(AV->Out)->Out:=BO.rec (motive:=fun _=>IntKind->Int->Int->(AV->Out)->Out)
 (fun q x y k=>kI q (x+y) k) (fun q x y k=>kI q (x-y) k) (fun q x y k=>kI q (x*y) k)
 (fun _ x y k=>k (.b (mG x y))) (fun _ x y k=>k (.b (!mG x y))) (fun _ x y k=>k (.b (!j6 y x))) (fun _ x y k=>k (.b (j6 x y))) (fun _ x y k=>k (.b (!j6 x y))) (fun _ x y k=>k (.b (j6 y x)))
 (fun _ _ _ _=>none)
 (fun q x y k=>nn x y (fun a b=>iff (Nat.beq b 0) none (kI q (.ofNat (Nat.div a b)) k)) none)
 (fun q x y k=>nn x y (fun a b=>iff (Nat.beq b 0) none (fM (Nat.mod a b) (fun c=>k (.i q (.ofNat c))))) none)
 (fun q x y k=>nn x y (fun a b=>kI q (.ofNat (Nat.land (Nat.mod a (Nat.pow 2 q.bits)) (Nat.mod b (Nat.pow 2 q.bits)))) k) none)
 (fun q x y k=>nn x y (fun a b=>kI q (.ofNat (Nat.lor (Nat.mod a (Nat.pow 2 q.bits)) (Nat.mod b (Nat.pow 2 q.bits)))) k) none)
 (fun q x y k=>nn x y (fun a b=>kI q (.ofNat (Nat.xor (Nat.mod a (Nat.pow 2 q.bits)) (Nat.mod b (Nat.pow 2 q.bits)))) k) none)
 (fun q x y k=>nn x y (fun a b=>kI q (.ofNat (Nat.land (Nat.mod a (Nat.pow 2 q.bits)) (Nat.sub (Nat.sub (Nat.pow 2 q.bits) 1) (Nat.mod b (Nat.pow 2 q.bits))))) k) none) op
def eqs(a:List Nat):List Nat->Bool:=List.rec (motive:=fun _=>List Nat->Bool) (fun b=>List.rec (motive:=fun _=>Bool) true (fun _ _ _=>false) b)
 (fun x _ ih b=>List.rec (motive:=fun _=>Nat->(List Nat->Bool)->Bool) (fun _ _=>false) (fun y m _ x ih=>Bool.rec (motive:=fun _=>(List Nat->Bool)->List Nat->Bool) (fun _ _=>false) (fun ih m=>ih m) (Nat.beq x y) ih m) b x ih) a
def nL:List Nat->List Nat->Bool
 |_,[]=>false
 |[],_::_=>true
 |x::l,y::m=>match Nat.blt x y with | true=>true | false=>match Nat.beq x y with | true=>nL l m | false=>false
def oZ:Bool->Bool->Bool
 |true,true=>true
 |false,false=>true
 |_,_=>false
def Hq(op:BO):List Nat->List Nat->(AV->Out)->Out:=BO.rec (motive:=fun _=>List Nat->List Nat->(AV->Out)->Out)
 (fun x y k=>must (Nat.ble (Nat.add x.length y.length) 1000000) (k (.s (x++y)))) (fun _ _ _=>none) (fun _ _ _=>none)
 (fun x y k=>k (.b (eqs x y))) (fun x y k=>k (.b (!eqs x y))) (fun x y k=>k (.b (nL x y))) (fun x y k=>k (.b (or (nL x y) (eqs x y)))) (fun x y k=>k (.b (not (or (nL x y) (eqs x y))))) (fun x y k=>k (.b (not (nL x y)))) (fun _ _ _=>none) (fun _ _ _=>none) (fun _ _ _=>none) (fun _ _ _=>none) (fun _ _ _=>none) (fun _ _ _=>none) (fun _ _ _=>none) op
def zu(op:BO):Bool->(AV->Out)->Out:=BO.rec (motive:=fun _=>Bool->(AV->Out)->Out) (fun _ _=>none) (fun _ _=>none) (fun _ _=>none) (fun b k=>k (.b b)) (fun b k=>k (.b (!b))) (fun _ _=>none) (fun _ _=>none) (fun _ _=>none) (fun _ _=>none) (fun _ _=>none) (fun _ _=>none) (fun _ _=>none) (fun _ _=>none) (fun _ _=>none) (fun _ _=>none) (fun _ _=>none) op
inductive KK where | b | i | s
def vR(q:KK):AV->AV->(Bool->Out)->Out:=KK.rec (motive:=fun _=>AV->AV->(Bool->Out)->Out) (fun x y f=>pI x (fun a=>pI y (fun c=>f (oZ a c)))) (fun x y f=>iP x (fun q a=>iP y (fun q2 c=>must (lu q q2) (f (mG a c))))) (fun x y f=>iF x (fun a=>iF y (fun c=>f (eqs a c)))) q
def nP(v:AV):Bool:=AV.rec (motive:=fun _=>Bool) (false) (fun _=>false) (fun _ _=>false) (fun _=>false) (false) (fun _ _=>false) (false) (fun _ _ _=>false) (false) (fun _=>false) (false) (fun _ _ _ _ _=>false) (false) (fun _ _ _=>false) (fun _ _=>false) (fun _ _=>false) (true) (fun _ _ _ _=>false) v
def pg(ks:List KK):AV->AV->(Bool->Out)->Out:=List.rec (motive:=fun _=>AV->AV->(Bool->Out)->Out) (fun a c f=>must (and (nP a) (nP c)) (f true)) (fun q _ ih a c f=>jD a (fun x l=>jD c (fun y m=>vR q x y (fun b=>iff b (ih l m f) (f false))))) ks
inductive KT where | k (q:KK) | r (ks:List KK)
def vQ(q:KT):AV->AV->(Bool->Out)->Out:=KT.rec (motive:=fun _=>AV->AV->(Bool->Out)->Out) (fun q=>vR q) (fun ks x y f=>kE x (fun a=>kE y (fun c=>pg ks a c f))) q
def AO(l:List KK):Nat:=List.rec (motive:=fun _=>Nat) 0 (fun _ _ ih=>Nat.succ ih) l
def Fx(q:KT):AV->Out->Out:=KT.rec (motive:=fun _=>AV->Out->Out) (fun _ _ x=>x) (fun ks v x=>kE v (fun c=>must (Nat.beq (eu c) (AO ks)) x)) q
inductive NK where | p | l | m | f | x
def L8(q:NK):Out->Out:=NK.rec (motive:=fun _=>Out->Out) (fun x=>x) (fun _=>none) (fun _=>none) (fun _=>none) (fun _=>none) q
def Ma(q:NK):Out->Out:=NK.rec (motive:=fun _=>Out->Out) (fun _=>none) (fun x=>x) (fun _=>none) (fun _=>none) (fun _=>none) q
def L9(q:NK):Out->Out:=NK.rec (motive:=fun _=>Out->Out) (fun _=>none) (fun _=>none) (fun x=>x) (fun _=>none) (fun _=>none) q
def Mc(q:NK):Out->Out:=NK.rec (motive:=fun _=>Out->Out) (fun _=>none) (fun _=>none) (fun _=>none) (fun x=>x) (fun _=>none) q
def L6(q:NK):Out->Out:=NK.rec (motive:=fun _=>Out->Out) (fun _=>none) (fun _=>none) (fun _=>none) (fun _=>none) (fun x=>x) q
def FL(v:AV):NK->(Bool->Out)->Out:=AV.rec (motive:=fun _=>NK->(Bool->Out)->Out) (fun _ _=>none) (fun _=>fun _ _=>none) (fun _ _=>fun _ _=>none) (fun _=>fun _ _=>none) (fun q f=>L8 q (f true)) (fun _ _=>fun q f=>L8 q (f false)) (fun q f=>Ma q (f true)) (fun _ _ _=>fun q f=>Ma q (f false)) (fun q f=>L9 q (f true)) (fun _=>fun q f=>L9 q (f false)) (fun q f=>Mc q (f true)) (fun _ _ _ _ _=>fun q f=>Mc q (f false)) (fun q f=>L6 q (f true)) (fun _ _ _=>fun q f=>L6 q (f false)) (fun _ _=>fun _ _=>none) (fun _ _=>fun _ _=>none) (fun _ _=>none) (fun _ _ _ _=>fun _ _=>none) v
def bin(x:AV):BO->AV->(AV->Out)->Out:=AV.rec (motive:=fun _=>BO->AV->(AV->Out)->Out) (fun _ _ _=>none) (fun _=>fun _ _ _=>none) (fun q a=>fun op y k=>iP y (fun q2 c=>must (lu q q2) (Hr op q a c k))) (fun a=>fun op y k=>iF y (fun c=>Hq op a c k)) (fun _ _ _=>none) (fun _ _=>fun _ _ _=>none) (fun _ _ _=>none) (fun _ _ _=>fun _ _ _=>none) (fun _ _ _=>none) (fun _=>fun _ _ _=>none) (fun _ _ _=>none) (fun _ _ _ _ _=>fun _ _ _=>none) (fun _ _ _=>none) (fun _ _ _=>fun _ _ _=>none) (fun _ _=>fun _ _ _=>none) (fun _ _=>fun _ _ _=>none) (fun _ _ _=>none) (fun _ _ _ _=>fun _ _ _=>none) x
def EE(op:BO)(x y:CO)(tm:Tm)(st:St)(k:K):Out:=pI (aN x tm) (fun a=>pI (aN y tm) (fun c=>zu op (oZ a c) (fun v=>k v st)))
def EB(op:BO)(q:NK)(x y:CO)(tm:Tm)(st:St)(k:K):Out:=FL (aN y tm) q (fun c=>must c (FL (aN x tm) q (fun a=>zu op a (fun v=>k v st))))
def EF(op:BO)(ks:List KK)(x y:CO)(tm:Tm)(st:St)(k:K):Out:=kE (aN x tm) (fun a=>kE (aN y tm) (fun c=>pg ks a c (fun b=>zu op b (fun v=>k v st))))
def EC(op:BO)(x y:CO)(tm:Tm)(st:St)(k:K):Out:=bin (aN x tm) op (aN y tm) (fun v=>k v st)
def DZ(l:Bool)(x y:CO)(tm:Tm)(st:St)(k:K):Out:=iP (aN x tm) (fun q n=>iP (aN y tm) (fun _ m=>nn n m (fun a b=>must (Nat.ble b q.bits) (Bool.rec (motive:=fun _=>IntKind->Nat->Nat->St->K->Out)
 (fun q a b st k=>fM (Nat.div a (Nat.pow 2 b)) (fun c=>k (.i q (.ofNat c)) st)) (fun q a b st k=>kI q (.ofNat (Nat.mul a (Nat.pow 2 b))) (fun v=>k v st)) l q a b st k)) none))
def D8(x:CO)(tm:Tm)(st:St)(k:K):Out:=pI (aN x tm) (fun b=>k (.b (!b)) st)
def Eb(x:CO)(tm:Tm)(st:St)(k:K):Out:=iP (aN x tm) (fun q n=>kI q (0-n) (fun v=>k v st))
def Ew(q:IntKind)(x:CO)(tm:Tm)(st:St)(k:K):Out:=iP (aN x tm) (fun _ n=>kI q n (fun v=>k v st))
def Ey(x:CO)(tm:Tm)(st:St)(k:K):Out:=iF (aN x tm) (fun _=>k (aN x tm) st)
def Eh(t:Nat)(x:CO)(tm:Tm)(st:St)(k:K):Out:=k (.x t (aN x tm)) st
def Ei(fn:Fn)(a c:List CO)(tm:Tm)(st:St)(k:K):Out:=k (.f fn (yQ a tm) (yQ c tm)) st
def xY(_:Tm)(st:St)(k:K):Out:=iJ st (.mp .nil 0) (fun r=>.m r) k
def Vi(x:CO)(tm:Tm)(st:St)(k:K):Out:=iP (aN x tm) (fun _ _=>iJ st (.mp .nil 0) (fun r=>.m r) k)
def kD(v:AV)(f:Nat->Out):Out:=iP v (fun _ n=>Int.rec (motive:=fun _=>(Nat->Out)->Out) (fun a f=>fM a f) (fun _ _=>none) n f)
def xX(e sz:Nat)(z:AV)(l c:CO)(tm:Tm)(st:St)(k:K):Out:=kD (aN l tm) (fun n=>kD (aN c tm) (fun m=>must (Nat.ble n m) (must (Nat.ble m 100000) (iJ st (.v e sz n (zeros z n)) (fun r=>.l r 0 n) k))))
def bnd(x:Option CO)(d:Nat)(tm:Tm)(f:Nat->Out):Out:=Option.rec (motive:=fun _=>Nat->Tm->(Nat->Out)->Out) (fun d _ f=>f d) (fun x _ tm f=>kD (aN x tm) f) x d tm f
def Pf(n:Nat):List Nat->List Nat:=Nat.rec (motive:=fun _=>List Nat->List Nat) (fun l=>l) (fun _ ih l=>List.rec (motive:=fun _=>(List Nat->List Nat)->List Nat) (fun _=>[]) (fun _ t _ ih=>ih t) l ih) n
def takeN(n:Nat):List Nat->List Nat:=Nat.rec (motive:=fun _=>List Nat->List Nat) (fun _=>[]) (fun _ ih l=>List.rec (motive:=fun _=>(List Nat->List Nat)->List Nat) (fun _=>[]) (fun x t _ ih=>x::ih t) l ih) n
def DY(x:CO)(lo hi:Option CO)(tm:Tm)(st:St)(k:K):Out:=iF (aN x tm) (fun l=>bnd lo 0 tm (fun a=>bnd hi l.length tm (fun b=>must (Nat.ble a b) (must (Nat.ble b l.length) (k (.s (takeN (Nat.sub b a) (Pf a l))) st)))))
def xU(sz:Nat)(x:CO)(lo hi:Option CO)(tm:Tm)(st:St)(k:K):Out:=oD (aN x tm) (bnd lo 0 tm (fun a=>bnd hi 0 tm (fun b=>must (Nat.beq a 0) (must (Nat.beq b 0) (k .l0 st)))))
 (fun r o n=>bnd lo 0 tm (fun a=>bnd hi n tm (fun b=>must (Nat.ble a b) (must (Nat.ble b n) (iff (Nat.beq a 0) (k (.l r o b) st) (yo st r (fun _ _ _ szx _ _=>must (Nat.beq szx sz) (k (.l r (Nat.add o a) (Nat.sub b a)) st))))))))
def Es(off:Nat)(x:CO)(tm:Tm)(st:St)(k:K):Out:=qH (aN x tm) (fun r o=>fM (Nat.add o off) (fun o=>k (.p r o) st))
def Et(off:Nat)(x:CO)(tm:Tm)(st:St)(k:K):Out:=kE (aN x tm) (fun c=>rC off c (fun v=>k v st))
def sW(off n:Nat)(x:CO)(tm:Tm)(st:St)(k:K):Out:=kE (aN x tm) (fun c=>must (Nat.ble (Nat.add off n) (eu c)) (k (.a (takeA n (Bz off c))) st))
def Ep(sz:Nat)(x j:CO)(tm:Tm)(st:St)(k:K):Out:=oD (aN x tm) none (fun r o n=>kD (aN j tm) (fun q=>must (Nat.blt q n) (yo st r (fun r2 k2 _ szx _ _=>must (Nat.beq szx sz) (fM (Nat.mul (Nat.add (Nat.add k2 o) q) sz) (fun o=>k (.p r2 o) st))))))
def EG(n sz:Nat)(x j:CO)(tm:Tm)(st:St)(k:K):Out:=qH (aN x tm) (fun r o=>kD (aN j tm) (fun q=>must (Nat.blt q n) (fM (Nat.add o (Nat.mul q sz)) (fun o=>k (.p r o) st))))
def LX(n:Nat):List Nat->(Nat->Out)->Out:=Nat.rec (motive:=fun _=>List Nat->(Nat->Out)->Out) (fun l f=>List.rec (motive:=fun _=>(Nat->Out)->Out) (fun _=>none) (fun x _ _ f=>f x) l f) (fun _ ih l f=>List.rec (motive:=fun _=>(List Nat->(Nat->Out)->Out)->(Nat->Out)->Out) (fun _ _=>none) (fun _ t _ ih f=>ih t f) l ih f) n
def Eo(x j:CO)(tm:Tm)(st:St)(k:K):Out:=iF (aN x tm) (fun l=>kD (aN j tm) (fun q=>LX q l (fun c=>k (.i .u8 (.ofNat c)) st)))
def Er(n:Nat)(x j:CO)(tm:Tm)(st:St)(k:K):Out:=kE (aN x tm) (fun c=>kD (aN j tm) (fun q=>must (Nat.blt q n) (rC q c (fun v=>k v st))))
-- maps
def EW(es:ME):KT->AV->Out->(AV->Out)->Out:=ME.rec (motive:=fun _=>KT->AV->Out->(AV->Out)->Out) (fun _ _ z _=>z) (fun a v _ _ ih q k z f=>vQ q k a (fun b=>iff b (f v) (ih q k z f))) es
def ES(es:ME):KT->AV->AV->Nat->(ME->Nat->Out)->Out:=ME.rec (motive:=fun _=>KT->AV->AV->Nat->(ME->Nat->Out)->Out) (fun _ k v c f=>f (.cons k v c .nil) (Nat.succ c))
 (fun a w n l ih q k v c f=>vQ q k a (fun b=>iff b (f (.cons k v n l) c) (ih q k v c (fun l' c'=>f (.cons a w n l') c')))) es
def yx(es:ME):Nat:=ME.rec (motive:=fun _=>Nat) 0 (fun _ _ _ _ ih=>Nat.succ ih) es
def AJ(ok:Bool):AV->Bool->AV:=Bool.rec (motive:=fun _=>AV->Bool->AV) (fun v _=>v) (fun v b=>.t (.cn v (.cn (.b b) .nl))) ok
def En(z:AV)(ok:Bool)(kk:KT)(x q:CO)(tm:Tm)(st:St)(k:K):Out:=Fx kk (aN q tm) (zw (aN x tm) (k (AJ ok z false) st) (fun r=>ob st r (fun o=>tq o (fun es _=>EW es kk (aN q tm) (k (AJ ok z false) st) (fun v=>k (AJ ok v true) st)))))
def Ef(kk:KT)(x q v:CO)(tm:Tm)(st:St)(k:K):Out:=Fx kk (aN q tm) (zw (aN x tm) none (fun r=>must (Nat.ble lowN r) (ob st r (fun o=>tq o (fun es c=>ES es kk (aN q tm) (aN v tm) c (fun es' c'=>k (.t .nl) (gz st r (some (.mp es' c')))))))))
def D5(x:CO)(tm:Tm)(st:St)(k:K):Out:=iF (aN x tm) (fun l=>iJ st (.si 0 l) (fun r=>.p r 0) k)
def D6(x:CO)(tm:Tm)(st:St)(k:K):Out:=zw (aN x tm) (iJ st .vO (fun r=>.p r 0) k) (fun r=>ob st r (fun o=>tq o (fun _ c=>iJ st (.mi r c [] c) (fun r=>.p r 0) k)))
def D9(x:CO)(tm:Tm)(st:St)(k:K):Out:=qH (aN x tm) (fun r o=>must (Nat.beq o 0) (must (Nat.ble lowN r) (ob st r (fun b=>LF b (fun pos rest=>List.rec (motive:=fun _=>Nat->Nat->St->K->Out)
 (fun _ _ st k=>k (.t (.cn (.b false) .nl)) st)
 (fun c l _ r pos st k=>must (Nat.blt c 128) (k (.t (.cn (.b true) (.cn (.i .i64 (.ofNat pos)) (.cn (.i .i32 (.ofNat c)) .nl)))) (gz st r (some (.si (Nat.succ pos) l))))) rest r pos st k)))))
def tL(n:Nat)(l:List Nat):Bool:=List.rec (motive:=fun _=>Nat->Bool) (fun _=>false) (fun m _ ih n=>or (Nat.beq n m) (ih n)) l n
def yj(es:ME)(seen:List Nat)(since:Nat):Bool:=ME.rec (motive:=fun _=>Bool) false (fun _ _ n _ ih=>or (and (not (tL n seen)) (Nat.blt n since)) ih) es
def CE(es:ME)(last:Nat):Bool:=ME.rec (motive:=fun _=>Bool) false (fun _ _ n _ ih=>or (Nat.blt n last) ih) es
def vV(l:List Nat):Bool:=List.rec (motive:=fun _=>Bool) true (fun _ _ _=>false) l
def Ny(l:ME):Bool:=ME.rec (motive:=fun _=>Bool) true (fun _ _ _ _ _=>false) l
def Bw(es:ME):List Nat->(AV->AV->Nat->Out)->Out->Out:=ME.rec (motive:=fun _=>List Nat->(AV->AV->Nat->Out)->Out->Out) (fun _ _ z=>z)
 (fun k v n _ ih seen f z=>iff (tL n seen) (ih seen f z) (both (f k v n) (ih seen f z))) es
def Ea(x:CO)(tm:Tm)(st:St)(k:K):Out:=qH (aN x tm) (fun r o=>must (Nat.beq o 0) (must (Nat.ble lowN r) (ob st r (fun b=>EL b (k (.t (.cn (.b false) .nl)) (gz st r none))
 (fun m since seen last=>ob st m (fun b2=>tq b2 (fun es c=>must (or (vV seen) (or (Ny es) (CE es last)))
   (Bw es seen (fun a v n=>k (.t (.cn (.b true) (.cn a (.cn v .nl)))) (gz st r (some (.mi m since (seen++[n]) c)))) (iff (yj es seen since) (some []) (k (.t (.cn (.b false) .nl)) (gz st r none)))))))))))
def yE:List Nat->Nat
 |[]=>0
 |x::l=>match l with | []=>x | _::_=>yE l
def He(es:ME):Nat->(AV->AV->Out)->Out:=ME.rec (motive:=fun _=>Nat->(AV->AV->Out)->Out) (fun _ _=>none) (fun k v m _ ih n f=>iff (Nat.beq m n) (f k v) (ih n f)) es
def Eu(x:CO)(tm:Tm)(st:St)(k:K):Out:=qH (aN x tm) (fun r o=>must (Nat.beq o 0) (ob st r (fun b=>EL b none (fun m _ seen last=>must (not (vV seen)) (ob st m (fun b2=>tq b2 (fun es c=>must (Nat.beq c last) (He es (yE seen) (fun a v=>k (.t (.cn a (.cn v .nl))) st)))))))))
def DW(j:Nat)(x:CO)(tm:Tm)(st:St)(k:K):Out:=Qs (aN x tm) (fun vs=>rC j vs (fun v=>k v st))
-- calls
def F9(l:List (AV × St)):K->Out:=List.rec (motive:=fun _=>K->Out) (fun _=>some []) (fun p l ih k=>List.rec (motive:=fun _=>AV × St->(K->Out)->K->Out) (fun p _ k=>k p.1 p.2) (fun _ _ _ p ih k=>both (k p.1 p.2) (ih k)) l p ih k) l
def Qp(o:Out):K->Out:=Option.rec (motive:=fun _=>K->Out) (fun _=>none) (fun l=>F9 l) o
def Gd(fn:Fn):(Nat->Out)->Out:=match fn with | .func f=>fun g=>g f | _=>fun _=>none
def EA(x:CO)(args:List CO)(call:dS)(tm:Tm)(st:St)(k:K):Out:=Hu (aN x tm) (fun fn a c=>Gd fn (fun f=>Qp (call f (CB a (CB (yQ args tm) c)) st) k))
def Ev(x:CO)(aC:Nat->Bool)(tm:Tm)(st:St)(k:K):Out:=Hu (aN x tm) (fun fn a c=>Gd fn (fun f=>must (aC f) (must (Nat.beq (eu a) 0) (must (Nat.ble (eu c) 2) (k (.t .nl) st)))))
def Ej(x:CO)(tm:Tm)(st:St)(k:K):Out:=iF (aN x tm) (fun l=>fM l.length (fun n=>k (.i .i64 (.ofNat n)) st))
def Em(x:CO)(tm:Tm)(st:St)(k:K):Out:=oD (aN x tm) (k (.i .i64 (.ofNat 0)) st) (fun _ _ n=>k (.i .i64 (.ofNat n)) st)
def El(x:CO)(tm:Tm)(st:St)(k:K):Out:=zw (aN x tm) (k (.i .i64 (.ofNat 0)) st) (fun r=>ob st r (fun o=>tq o (fun es _=>fM (yx es) (fun n=>k (.i .i64 (.ofNat n)) st))))
def eZ(m:Nat):T AV->Nat->T AV->Nat->T AV:=Nat.rec (motive:=fun _=>T AV->Nat->T AV->Nat->T AV) (fun _ _ dst _=>dst) (fun m ih src q dst z=>T.set (az (Nat.add z m)) (T.get (az (Nat.add q m)) src) (ih src q dst z)) m
def yU(v:AV):Bool:=AV.rec (motive:=fun _=>Bool) (false) (fun _=>true) (fun _ _=>true) (fun _=>true) (true) (fun _ _=>true) (true) (fun _ _ _=>true) (true) (fun _=>true) (true) (fun _ _ _ _ _=>true) (true) (fun _ _ _=>true) (fun c _=>rowOk c) (fun _ _=>false) (false) (fun _ _ _ _=>false) v
def O7(x:Option AV):Bool:=Option.rec (motive:=fun _=>Bool) false (fun v=>yU v) x
def Ap(m:Nat):T AV->Nat->Bool:=Nat.rec (motive:=fun _=>T AV->Nat->Bool) (fun _ _=>true) (fun m ih els q=>and (O7 (T.get (az (Nat.add q m)) els)) (ih els q)) m
def Av(st:St)(r:Nat)(f:Nat->Nat->Nat->T AV->Out):Out:=ob st r (fun b=>vI b (fun _ _ _=>none) (fun e sz len els=>f e sz len els))
def wT(x:AV)(st:St)(k:K):Out:=oD x (k x st) (fun _ _ _=>k x st)
def EI(e sz:Nat)(x y:CO)(tm:Tm)(st:St)(k:K):Out:=oD (aN y tm) (wT (aN x tm) st k) (fun ry oy m=>iff (Nat.beq m 0) (wT (aN x tm) st k) (yo st ry (fun _ ky _ szy leny elsy=>fM (Nat.add ky oy) (fun oy=>must (Nat.beq szy sz) (must (Nat.ble (Nat.add oy m) leny) (must (Ap m elsy oy)
 (oD (aN x tm) (must (Nat.ble m 5000000) (iJ st (.v e sz m (eZ m elsy oy .e 0)) (fun r=>.l r 0 m) k))
   (fun r o n=>must (Nat.ble lowN r) (Av st r (fun ex szx lenx els=>must (Nat.beq ex e) (must (Nat.beq szx sz) (must (Nat.ble (Nat.add o n) lenx) (fM (Nat.add n m) (fun nm=>must (Nat.ble nm 5000000) (iJ (gz st r none) (.v e sz nm (eZ m elsy oy (Bool.rec (motive:=fun _=>Nat->T AV->Nat->T AV) (fun n els o=>eZ n els o .e 0) (fun _ els _=>els) (Nat.beq o 0) n els o) n)) (fun r=>.l r 0 nm) k)))))))))))))))
def EH(e sz:Nat)(z:AV)(x y:CO)(tm:Tm)(st:St)(k:K):Out:=kD (aN y tm) (fun m=>iff (Nat.beq m 0) (wT (aN x tm) st k) (must (and (Nat.ble m 5000000) (yU z))
 (oD (aN x tm) (iJ st (.v e sz m (eZ m (zeros z m) 0 .e 0)) (fun r=>.l r 0 m) k)
   (fun r o n=>must (Nat.ble lowN r) (Av st r (fun ex szx lenx els=>must (Nat.beq ex e) (must (Nat.beq szx sz) (must (Nat.ble (Nat.add o n) lenx) (fM (Nat.add n m) (fun nm=>must (Nat.ble nm 5000000) (iJ (gz st r none) (.v e sz nm (eZ m (zeros z m) 0 (Bool.rec (motive:=fun _=>Nat->T AV->Nat->T AV) (fun n els o=>eZ n els o .e 0) (fun _ els _=>els) (Nat.beq o 0) n els o) n)) (fun r=>.l r 0 nm) k)))))))))))
def Ez(e sz:Nat)(z:AV)(x:CO)(tm:Tm)(st:St)(k:K):Out:=oD (aN x tm) (k (.t .nl) st) (fun r o n=>iff (Nat.beq n 0) (k (.t .nl) st) (must (and (Nat.ble lowN r) (yU z)) (Av st r (fun ex szx lenx els=>must (Nat.beq ex e) (must (Nat.beq szx sz) (must (Nat.ble (Nat.add o n) lenx)
 (k (.t .nl) (gz st r (some (.v ex szx lenx (eZ n (zeros z n) 0 els o)))))))))))
def xV(sz:Nat)(x:CO)(lo:Option CO)(hi mx:CO)(tm:Tm)(st:St)(k:K):Out:=oD (aN x tm) none
 (fun r o n=>bnd lo 0 tm (fun a=>kD (aN hi tm) (fun b=>kD (aN mx tm) (fun c=>must (Nat.ble a b) (must (Nat.ble b c) (must (Nat.ble c n) (must (Nat.blt a c) (yo st r (fun r2 k2 _ szx _ _=>must (Nat.beq szx sz) (must (Nat.ble lowN r2) (fM (Nat.add (Nat.add k2 o) a) (fun q=>iJ st (.al r2 q) (fun i=>.l i 0 (Nat.sub b a)) k))))))))))))
def Ee(x y:CO)(tm:Tm)(st:St)(k:K):Out:=iP (aN x tm) (fun q a=>iP (aN y tm) (fun q2 b=>must (lu q q2) (iff (j6 a b) (k (.i q b) st) (k (.i q a) st))))
def Eg(x y:CO)(tm:Tm)(st:St)(k:K):Out:=iP (aN x tm) (fun q a=>iP (aN y tm) (fun q2 b=>must (lu q q2) (iff (j6 a b) (k (.i q a) st) (k (.i q b) st))))

inductive gJ where
 |mv (x:CO)
 |pk (c a b:CO)
 |nw (t len:Nat) (row:AV)
 |bx (t:Nat) (x:CO)
 |Qn (z:AV) (ps:List (Nat × Nat × CO))
 |bs (e sz n:Nat) (z:T AV) (ps:List (Nat × CO))
 |ld1 (x:CO)
 |Xd (n:Nat) (x:CO)
 |st (n:Nat) (x v:CO)
 |nc (x:CO)
 |bn (op:BO) (x y:CO)
 |sh (l:Bool) (x y:CO)
 |bb (op:BO) (x y:CO)
 |bz (op:BO) (q:NK) (x y:CO)
 |ba (op:BO) (ks:List KK) (x y:CO)
 |nt (x:CO)
 |ng (x:CO)
 |cv (q:IntKind) (x:CO)
 |cs (x:CO)
 |mi (t:Nat) (x:CO)
 |mf (fn:Fn) (a c:List CO)
 |mm 
 |m2 (x:CO)
 |ms (e sz:Nat) (z:AV) (l c:CO)
 |ss (x:CO) (lo hi:Option CO)
 |sl (sz:Nat) (x:CO) (lo hi:Option CO)
 |s3 (sz:Nat) (x:CO) (lo:Option CO) (hi mx:CO)
 |fa (off:Nat) (x:CO)
 |f1 (off:Nat) (x:CO)
 |fA (off n:Nat) (x:CO)
 |ia (sz:Nat) (x j:CO)
 |ap (n sz:Nat) (x j:CO)
 |is (x j:CO)
 |i1 (n:Nat) (x j:CO)
 |lk (z:AV) (ok:Bool) (kk:KT) (x q:CO)
 |mu (kk:KT) (x q v:CO)
 |rs (x:CO)
 |rm (x:CO)
 |ns (x:CO)
 |nm (x:CO)
 |en (x:CO)
 |xt (j:Nat) (x:CO)
 |cl (x:CO) (args:List CO)
 |df (x:CO)
 |lS (x:CO)
 |lL (x:CO)
 |lM (x:CO)
 |aa (e sz:Nat) (x y:CO)
 |ai (e sz:Nat) (z:AV) (x y:CO)
 |cr (e sz:Nat) (z:AV) (x:CO)
 |mx (x y:CO)
 |mn (x y:CO)
 |bad 
def gF(o:gJ):(Nat->Bool)->dS->Tm->St->K->Out:=gJ.rec (motive:=fun _=>(Nat->Bool)->dS->Tm->St->K->Out)
 (fun x _ _=>Lj x)
 (fun c a b _ _=>D7 c a b)
 (fun t len row _ _=>xW t len row)
 (fun t x _ _=>yg t x)
 (fun z ps _ _=>ED z ps)
 (fun e sz n z ps _ _=>yh e sz n z ps)
 (fun x _ _=>sV x)
 (fun n x _ _=>sU n x)
 (fun n x v _ _=>DX n x v)
 (fun x _ _=>Ec x)
 (fun op x y _ _=>EC op x y)
 (fun l x y _ _=>DZ l x y)
 (fun op x y _ _=>EE op x y)
 (fun op q x y _ _=>EB op q x y)
 (fun op ks x y _ _=>EF op ks x y)
 (fun x _ _=>D8 x)
 (fun x _ _=>Eb x)
 (fun q x _ _=>Ew q x)
 (fun x _ _=>Ey x)
 (fun t x _ _=>Eh t x)
 (fun fn a c _ _=>Ei fn a c)
 (fun _ _=>xY)
 (fun x _ _=>Vi x)
 (fun e sz z l c _ _=>xX e sz z l c)
 (fun x lo hi _ _=>DY x lo hi)
 (fun sz x lo hi _ _=>xU sz x lo hi)
 (fun sz x lo hi mx _ _=>xV sz x lo hi mx)
 (fun off x _ _=>Es off x)
 (fun off x _ _=>Et off x)
 (fun off n x _ _=>sW off n x)
 (fun sz x j _ _=>Ep sz x j)
 (fun n sz x j _ _=>EG n sz x j)
 (fun x j _ _=>Eo x j)
 (fun n x j _ _=>Er n x j)
 (fun z ok kk x q _ _=>En z ok kk x q)
 (fun kk x q v _ _=>Ef kk x q v)
 (fun x _ _=>D5 x)
 (fun x _ _=>D6 x)
 (fun x _ _=>D9 x)
 (fun x _ _=>Ea x)
 (fun x _ _=>Eu x)
 (fun j x _ _=>DW j x)
 (fun x args _ call=>EA x args call)
 (fun x aC _=>Ev x aC)
 (fun x _ _=>Ej x)
 (fun x _ _=>Em x)
 (fun x _ _=>El x)
 (fun e sz x y _ _=>EI e sz x y)
 (fun e sz z x y _ _=>EH e sz z x y)
 (fun e sz z x _ _=>Ez e sz z x)
 (fun x y _ _=>Ee x y)
 (fun x y _ _=>Eg x y)
 (fun _ _ _ _ _=>none) o
inductive CR where | mk (o:gJ) (d:Option (List D)) (g:Option (List D × Bool))
def dL(d:Option (List D)):AV->Tm->Tm:=Option.rec (motive:=fun _=>AV->Tm->Tm) (fun _ tm=>tm) (fun p v tm=>T.set p (some v) tm) d
def F8(v:AV):Bool->Out->Out->Out:=AV.rec (motive:=fun _=>Bool->Out->Out->Out) (fun _ _ _=>none) (fun x=>fun w y n=>iff (oZ x w) y n) (fun _ _=>fun _ _ _=>none) (fun _=>fun _ _ _=>none) (fun _ _ _=>none) (fun _ _=>fun _ _ _=>none) (fun _ _ _=>none) (fun _ _ _=>fun _ _ _=>none) (fun _ _ _=>none) (fun _=>fun _ _ _=>none) (fun _ _ _=>none) (fun _ _ _ _ _=>fun _ _ _=>none) (fun _ _ _=>none) (fun _ _ _=>fun _ _ _=>none) (fun _ _=>fun _ _ _=>none) (fun c _=>fun _ _ n=>must (Nat.beq (eu c) 0) n) (fun _ _ _=>none) (fun _ _ _ _=>fun _ _ _=>none) v
def nT(g:Option (List D × Bool)):Tm->Out->Out->Out:=Option.rec (motive:=fun _=>Tm->Out->Out->Out) (fun _ y _=>y) (fun p tm y n=>F8 (gv (T.get p.1 tm)) p.2 y n) g
def yY(l:List CR):(Nat->Bool)->dS->Tm->St->(Tm->St->Out)->Out:=List.rec (motive:=fun _=>(Nat->Bool)->dS->Tm->St->(Tm->St->Out)->Out) (fun _ _ tm st k=>k tm st)
 (fun c _ ih=>CR.rec (motive:=fun _=>((Nat->Bool)->dS->Tm->St->(Tm->St->Out)->Out)->(Nat->Bool)->dS->Tm->St->(Tm->St->Out)->Out)
   (fun o d g ih aC call tm st k=>nT g tm (gF o aC call tm st (fun v st=>ih aC call (dL d v tm) st k)) (ih aC call (dL d (.t .nl) tm) st k)) c ih) l
-- the compile stage
def aG:List AV->AV
 |[]=>.nl
 |x::l=>.cn x (aG l)
def rA:Nat->Value->AV
 |0,_=>.u
 |d+1,v=>match v with
  | .bool b=>.b b
  | .int k n=>.i k n
  | .string s=>.s (s.data.toList.map (·.toNat))
  | .pointer none=>.p0
  | .slice none 0 0=>.l0
  | .map none=>.m0
  | .nilFunc=>.f0
  | .nilIface=>.x0
  | .agg cs=>.a (aG (cs.toList.map (rA d)))
  | .func fn a c=>.f fn (aG (a.toList.map (rA d))) (aG (c.toList.map (rA d)))
  | .iface t v=>.x t (rA d v)
  |_=>.u
def sZ(v:Value):AV:=rA 6 v
def co:Operand->CO
 | .tmp n=>(match Nat.blt n 5000000 with | true=>.sl (az n) | false=>.c .u)
 | .const v=>.c (sZ v)
 | .global g=>(match Nat.blt g lowN with | true=>.c (.p g 0) | false=>.c .u)
 | .func f=>.c (.f (.func f) .nl .nl)
def cB(P:Program)(t:Nat):Option Nat:=match P.info? t with | some i=>some i.size | none=>none
def oJ(P:Program)(t:Nat):Option AV:=match P.info? t with | some i=>(match i.zero with | some v=>some (sZ v) | none=>none) | none=>none
def dQ(P:Program)(t:Nat):Option Bool:=match P.underlying t with | some (.struct _)=>some true | some (.array _ _)=>some true | some _=>some false | none=>none
def xL(P:Program)(t:Nat):Option (Nat × AV):=match oJ P t with
 |some (.a c)=>some (eu c,c)
 |some .u=>none
 |some z=>some (1,.cn z .nl)
 |none=>none
def DR(P:Program)(fs:Array Field):Option (List (Nat × Nat)):=fs.toList.mapM (fun f=>(P.info? f.type).map fun i=>(f.offset,i.size))
def vo(place:Nat->Option (Nat × Nat))(len:Nat):List (Nat × Operand)->Option (List (Nat × Nat × CO))
 |[]=>some []
 |(j,x)::l=>match place j,vo place len l with
  |some (o,n),some r=>(match Nat.ble (Nat.add o n) len with | true=>some ((o,n,co x)::r) | false=>none)
  |_,_=>none
def vk(n:Nat):List (Nat × Operand)->Option (List (Nat × CO))
 |[]=>some []
 |(j,x)::l=>match Nat.blt j n,vk n l with
  |true,some r=>some ((j,co x)::r)
  |_,_=>none
def ku(P:Program)(e:Nat):Option (Nat × AV):=match P.info? e with
 |some i=>(match i.zero,Nat.ble i.bytes 16777216 with
  |some v,true=>(match sZ v with
   | .u=>none
   | .a c=>(match Nat.beq (eu c) i.size with | true=>some (i.size,.a c) | false=>none)
   |z=>(match Nat.beq i.size 1 with | true=>some (1,z) | false=>none))
  |_,_=>none)
 |none=>none
def bo:BinOp->BO
 | .add=>.add | .sub=>.sub | .mul=>.mul | .eql=>.eql | .neq=>.neq | .lss=>.lss | .leq=>.leq | .gtr=>.gtr | .geq=>.geq | .quo=>.quo | .rem=>.rem | .and=>.and | .or=>.or | .xor=>.xor | .andNot=>.ann | _=>.bad
def jw(P:Program)(t:Nat):Option KK:=match P.underlying t with | some .bool=>some .b | some (.int _)=>some .i | some .string=>some .s | _=>none
def nW(P:Program):List Field->Nat->Option (List KK)
 |[],_=>some []
 | f :: l, j => match (f.name != "_") && Nat.beq f.offset j, jw P f.type with
   |true,some q=>(match nW P l (Nat.succ j)with | some ks=>some (q::ks) | none=>none)
   |_,_=>none
def yO(P:Program)(t:Nat):Option (List KK):=match jw P t with
 |some q=>some [q]
 |none=>(match P.underlying t with
  |some (.array n e)=>(match jw P e,cB P e,cB P t with | some q,some 1,some m=>(match Nat.beq m n with | true=>some (List.replicate n q) | false=>none) | _,_,_=>none)
  |some (.struct fs)=>(match nW P fs.toList 0,cB P t,P.stoodInHeld t with | some ks,some m,false=>(match Nat.beq m ks.length with | true=>some ks | false=>none) | _,_,_=>none)
  |_=>none)
def flatK(P:Program):List Field->Nat->Option (List KK)
 |[],_=>some []
 | f :: l, j => match (f.name != "_") && Nat.beq f.offset j, yO P f.type with
   |true,some ks=>(match flatK P l (Nat.add j ks.length)with | some ks'=>some (ks++ks') | none=>none)
   |_,_=>none
def eT(P:Program)(t:Nat)(fs:Array Field):Option (List KK):=match flatK P fs.toList 0,P.stoodInHeld t,P.eqGuardType P.depth t with | some ks,false,false=>some ks | _,_,_=>none
def oV(P:Program)(t:Nat):Option KT:=match jw P t with
 |some q=>some (.k q)
 |none=>(match P.underlying t with | some (.struct fs)=>(match eT P t fs with | some ks=>some (.r ks) | none=>none) | _=>none)
def und(P:Program)(c:Call)(k:Nat):Option TypeDesc:=match c.argTypes[k]? with | some t=>P.underlying t | none=>none
def Aa(c:Call):Bool:=match c.argTypes[0]?,c.argTypes[1]? with | some s,some t=>Nat.beq s t | _,_=>false
def nZ(P:Program)(c:Call):gJ:=match c.callee with
 | .value x=>.cl (co x) (c.args.toList.map co)
 | .builtin .len=>(match c.args.toList,und P c 0 with
   |[x],some .string=>.lS (co x)
   |[x],some (.slice _)=>.lL (co x)
   |[x],some (.map _ _)=>.lM (co x)
   |_,_=>.bad)
 | .builtin .append=>(match c.args.toList,und P c 0,und P c 1 with
   |[x,y],some (.slice e),some (.slice _)=>(match ku P e,Nat.beq c.argTypes.size 2,Aa c with | some (sz,_),true,true=>.aa e sz (co x) (co y) | _,_,_=>.bad)
   |[x,y],some (.slice e),some (.int _)=>(match ku P e,Nat.beq c.argTypes.size 2 with | some (sz,z),true=>.ai e sz z (co x) (co y) | _,_=>.bad)
   |_,_,_=>.bad)
 | .builtin .clear=>(match c.args.toList,und P c 0 with
   |[x],some (.slice e)=>(match ku P e with | some (sz,z)=>.cr e sz z (co x) | none=>.bad)
   |_,_=>.bad)
 | .builtin .max=>(match c.args.toList with | [x,y]=>.mx (co x) (co y) | _=>.bad)
 | .builtin .min=>(match c.args.toList with | [x,y]=>.mn (co x) (co y) | _=>.bad)
 |_=>.bad
def iO(P:Program)(o:Op):gJ:=match o with
 | .move x=>.mv (co x)
 | .assign x=>.mv (co x)
 | .pick c a b=>.pk (co c) (co a) (co b)
 | .alloc t=>(match xL P t with | some (n,r)=>.nw t n r | none=>.bad)
 | .box t x=>.bx t (co x)
 | .build t ps=>(match P.underlying t,oJ P t with
   |some (.struct fs),some (.a z)=>(match DR P fs with
    |some pl=>(match vo (fun i=>pl[i]?) (eu z) ps.toList with | some l=>.Qn z l | none=>.bad)
    |none=>.bad)
   |some (.array _ e),some (.a z)=>(match cB P e with
    |some n=>(match vo (fun i=>some (Nat.mul i n,n)) (eu z) ps.toList with | some l=>.Qn z l | none=>.bad)
    |none=>.bad)
   |_,_=>.bad)
 | .buildSlice t n ps=>(match P.underlying t with
   |some (.slice e)=>(match ku P e,vk n ps.toList with
    |some (sz,z),some l=>(match Nat.ble n 100000,Nat.ble (Nat.mul n sz) 16777216 with | true,true=>.bs e sz n (zeros z n) l | _,_=>.bad)
    |_,_=>.bad)
   |_=>.bad)
 | .load t x=>(match dQ P t,cB P t with
   |some true,some n=>.Xd n (co x)
   |some false,some _=>.ld1 (co x)
   |_,_=>.bad)
 | .store t x v=>(match cB P t with | some (n+1)=>.st (n+1) (co x) (co v) | _=>.bad)
 | .nilCheck x=>.nc (co x)
 | .binOp op t x y _=>(match P.underlying t with
   |some .bool=>.bb (bo op) (co x) (co y)
   |some (.int _)=>(match op with | .shl=>.sh true (co x) (co y) | .shr=>.sh false (co x) (co y) | _=>.bn (bo op) (co x) (co y))
   |some .string=>.bn (bo op) (co x) (co y)
   |some (.pointer _)=>.bz (bo op) .p (co x) (co y)
   |some (.slice _)=>.bz (bo op) .l (co x) (co y)
   |some (.map _ _)=>.bz (bo op) .m (co x) (co y)
   |some (.func _ _ _)=>.bz (bo op) .f (co x) (co y)
   |some (.interface _)=>(match y with | .const _=>.bz (bo op) .x (co x) (co y) | _=>.bad)
   |some (.struct fs)=>(match eT P t fs with | some ks=>.ba (bo op) ks (co x) (co y) | none=>.bad)
   |_=>.bad)
 | .unOp op _ x=>(match op with | .not=>.nt (co x) | .neg=>.ng (co x) | _=>.bad)
 | .convert s t x=>(match P.underlying s,P.underlying t with
   |some (.int _),some (.int k)=>.cv k (co x)
   |some .string,some .string=>.cs (co x)
   |_,_=>.bad)
 | .makeInterface t x=>(match P.underlying t with | some (.interface _)=>.bad | some _=>.mi t (co x) | none=>.bad)
 | .makeFunc fn a c=>.mf fn (a.toList.map co) (c.toList.map co)
 | .makeMap _ none=>.mm
 | .makeMap t (some h)=>(match P.underlying t with | some (.map _ _)=>.m2 (co h) | _=>.bad)
 | .makeSlice t l c=>(match P.underlying t with
   |some (.slice e)=>(match ku P e with | some (sz,z)=>.ms e sz z (co l) (co c) | none=>.bad)
   |_=>.bad)
 | .slice t x lo hi none=>(match P.underlying t with
   |some .string=>.ss (co x) (lo.map co) (hi.map co)
   |some (.slice e)=>(match cB P e with | some sz=>.sl sz (co x) (lo.map co) (hi.map co) | none=>.bad)
   |_=>.bad)
 | .slice t x lo (some hi) (some mx)=>(match P.underlying t with
   |some (.slice e)=>(match cB P e with | some sz=>.s3 sz (co x) (lo.map co) (co hi) (co mx) | none=>.bad)
   |_=>.bad)
 | .fieldAddr t x j=>(match P.underlying t with
   |some (.struct fs)=>(match fs[j]? with | some fd=>(match cB P fd.type with | some (_+1)=>.fa fd.offset (co x) | _=>.bad) | none=>.bad)
   |_=>.bad)
 | .field t x j=>(match P.underlying t with
   |some (.struct fs)=>(match fs[j]? with
    |some fd=>(match dQ P fd.type,cB P fd.type with | some true,some n=>.fA fd.offset n (co x) | some false,_=>.f1 fd.offset (co x) | _,_=>.bad)
    |none=>.bad)
   |_=>.bad)
 | .indexAddr t x j=>(match P.underlying t with
   |some (.slice e)=>(match cB P e with | some sz=>.ia sz (co x) (co j) | none=>.bad)
   |some (.array n e)=>(match cB P e with | some sz=>.ap n sz (co x) (co j) | none=>.bad)
   |_=>.bad)
 | .index t x j=>(match P.underlying t with
   |some .string=>.is (co x) (co j)
   |some (.array n e)=>(match dQ P e,cB P e with | some false,some 1=>.i1 n (co x) (co j) | _,_=>.bad)
   |_=>.bad)
 | .lookup t x k ok=>(match P.underlying t with
   |some (.map kt e)=>(match oV P kt,oJ P e with | some kk,some z=>.lk z ok kk (co x) (co k) | _,_=>.bad)
   |_=>.bad)
 | .mapUpdate t x k v=>(match P.underlying t with | some (.map kt _)=>(match oV P kt with | some kk=>.mu kk (co x) (co k) (co v) | none=>.bad) | _=>.bad)
 | .insert t x k v=>(match P.underlying t with | some (.map kt _)=>(match oV P kt with | some kk=>.mu kk (co x) (co k) (co v) | none=>.bad) | _=>.bad)
 | .range t x=>(match P.underlying t with | some .string=>.rs (co x) | some (.map _ _)=>.rm (co x) | _=>.bad)
 | .next x true=>.ns (co x)
 | .next x false=>.nm (co x)
 | .entry x=>.en (co x)
 | .extract x j=>.xt j (co x)
 | .call c=>nZ P c
 | .defer c=>(match c.callee,c.args.toList with | .value x,[]=>.df (co x) | _,_=>.bad)
 |_=>.bad
def yM(all:Array Oper):Option (Nat × Bool)->Option (Option (List D × Bool))
 |none=>some none
 |some (j,w)=>match all[j]? with
  |some o=>(match o.dst with | some k=>(match Nat.blt k 5000000 with | true=>some (some (az k,w)) | false=>none) | none=>none)
  |none=>none
def fH(P:Program)(nt:Nat)(all:Array Oper)(o:Oper):CR:=match yM all o.guard,o.dst with
 |some g,none=>.mk (iO P o.op) none g
 |some g,some k=>(match Nat.blt k nt with | true=>.mk (iO P o.op) (some (az k)) g | false=>.mk .bad none none)
 |none,_=>.mk .bad none none
def comp(P:Program)(nt:Nat)(ops:Array Oper):List CR:=ops.toList.map (fH P nt ops)
end
end Go.AM
