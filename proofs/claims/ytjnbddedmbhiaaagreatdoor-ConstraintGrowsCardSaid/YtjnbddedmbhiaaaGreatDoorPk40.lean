/-
  Iterators: steps over strings and maps, entries.
-/
import Derived.Test.YtjnbddedmbhiaaaGreatDoorPk11
namespace Go.AM
open Go.RowKit
section
variable {P:Program}{B:bB}{E:ax}{st:St}{w:World}{nt:Nat}{tm:Tm}{a:Act}{k:K}{r:List (AV × St)}{o:Oper}
theorem De:ag E (.t (.cn (.b false) .nl)) (.tuple #[.bool false]):=by
 simp only[ag]
 exact⟨[.bool false],rfl,by simp only[au,ag];exact⟨_,[],rfl,rfl,rfl⟩⟩
theorem IY{x y:AV}{u v:Value}(h1:ag E x u)(h2:ag E y v):ag E (.t (.cn (.b true) (.cn x (.cn y .nl)))) (.tuple #[.bool true,u,v]):=by
 simp only[ag]
 refine⟨[.bool true,u,v],rfl,?_⟩
 simp only[au,ag]
 exact⟨_,_,rfl,rfl,u,_,rfl,h1,v,[],rfl,h2,rfl⟩
theorem Bf{g:Nat}{x:Obj}(h:w.heap[g]? = some x)(hx:∀c e f,x ≠ .cells c e f):(getObj g).run P w = .ok x w:=by
 cases x with
 |cells c e f=>exact absurd rfl (hx c e f)
 |_=>simp[getObj,Sem.run,h]
theorem aB.Nf(hs:aB B E st w){b:Nat}(h:b<lim):aB B E (gz st b none) w:=by
 cases st;exact aB.kill hs h
theorem aB.put'(hs:aB B E st w){b:Nat}{w':World}(hr:b<lim)(h64:lowN<=b){l:Loc}{q q':Ob}(hl:E b=some l)(hq:T.get (az b) st.h=some q)(hal:q.dz=false)
 (hkeep:∀k,k≠l.blk->w'.heap[k]? = w.heap[k]?) (ho:dR E false l w' q'):aB B E (gz st b (some q')) w':=by
 cases st;exact aB.put hs hr h64 hl hq hal hkeep ho
theorem aB.iter(hs:aB B E st w){b:Nat}{v:Value}(hv:ag E (.p b 0) v){q:Ob}(hq:T.get (az b) st.h=some q)(hz:∀l,dR E (Nat.blt b lowN) l w q->l.base=0) :
 ∃l,E b=some l/\v = .pointer (some ⟨l.blk,0,none⟩)/\dR E (Nat.blt b lowN) l w q:=by
 obtain⟨l,hl,hv,hr⟩:=hs.at hv hq
 refine⟨l,hl,?_,hr⟩
 rw[hv,hz l hr]
theorem Gn{x:Operand}{s:Bool}(ho:o.op = .next x s):execOp a.eval o=(do pure (.value (<-Instr.next (a.eval x) s o.type))):=by
 unfold execOp;rw[ho]
theorem Qq(n m:Nat):Nat.beq n m=(n==m):=by
 rw[Bool.eq_iff_iff];simp
theorem VH(hs:aB B E st w)(ht:aU E nt tm a){x:Operand}(ho:o.op = .next x true)(h:D9 (co x) tm st k=some r):Does P B E w a o k r:=by
 unfold D9 at h
 obtain⟨b,p,he,h⟩:=pG h
 obtain⟨h0,h1⟩:=aJ h
 obtain⟨h64,h2⟩:=aJ h1
 clear h h1
 have h64:lowN<=b:=Nat.le_of_ble_eq_true h64
 have h0:=Nat.eq_of_beq_eq_true h0
 subst h0
 obtain⟨q,hq,h3⟩:=jM h2
 clear h2
 obtain⟨pos,rest,rfl,h⟩:=Vv h3
 have hx:=aT hs ht x
 rw[he]at hx
 obtain⟨l,hl,hv,hr⟩:=hs.iter hx hq (fun l h=>h.1)
 obtain⟨hbase,s,hb,hrest⟩:=hr
 have hlt:=hs.lt hl
 have hown:=hs.own b _ l hlt h64 hq hl
 have hbs:l.blk<w.heap.size:=(Array.getElem?_eq_some_iff.1 hb).1
 have hg:=Bf (P:=P) hb (fun _ _ _ h=>by cases h)
 have hsz:s.data.toList.length=s.size:=Array.length_toList
 cases rest with
 |nil =>
  have h:k (.t (.cn (.b false) .nl)) st=some r:=h
  have hpos:¬ pos<s.size:=by
   have:=congrArg List.length hrest
   simp only[List.length_map,List.length_drop,List.length_nil]at this
   omega
  refine Reads.does (dW (s:=Instr.next (a.eval x) true o.type) (by unfold execOp;rw[ho]) ?_ De h) hs
  rw[hv]
  simp[Instr.next,hg,hpos]
 |cons c rest =>
  obtain⟨hc,h⟩:=aJ (show must (Nat.blt c 128) (k (.t (.cn (.b true) (.cn (.i .i64 (.ofNat pos)) (.cn (.i .i32 (.ofNat c)) .nl)))) (gz st b (some (.si (Nat.succ pos) rest))))=some r from h)
  have hc:=dn hc
  have hpos:pos<s.size:=by
   have:=congrArg List.length hrest
   simp only[List.length_map,List.length_drop,List.length_cons]at this
   omega
  have hd:s.data.toList.drop pos=s.data.toList[pos]::s.data.toList.drop (pos+1):=List.drop_eq_getElem_cons (by omega)
  rw[hd,List.map_cons]at hrest
  have hc1:(s.data.toList[pos]'(by omega)).toNat=c:=(List.cons.inj hrest).1
  have hr1:=(List.cons.inj hrest).2
  have hsp:(s[pos]'hpos).toNat=c:=by rw[<-hc1];rfl
  have hdec:=decode_ascii s pos hpos (by omega)
  rw[hsp]at hdec
  refine⟨_,.tuple #[.bool true,goInt pos,.int .i32 c],l6 w l.blk (.stringIter s (pos+1)),E,gz st b (some (.si (Nat.succ pos) rest)),r,.inl ?_,ax.le_refl E,hs.put' (q':=.si (Nat.succ pos) rest) hlt h64 hl hq rfl (fun j hj=>xR _ hj) ⟨hbase,s,xQ _ hbs,hr1⟩,DL _ hown,?_,fun _ h=>h,h⟩
  ·rw[Gn ho,hv]
   have hset:=uZ (P:=P) (x:=.stringIter s (pos+1)) hb (fun _ _ _ h=>by cases h)
   simp[Instr.next,hg,hpos,hdec,hset]
  ·exact IY (by simp only[ag,goInt];rfl) (by simp only[ag];rfl)
theorem EY(n:Nat):∀l:List Nat,tL n l=l.contains n
 |[]=>rfl
 |m::l=>by
  have:tL n (m::l)=(Nat.beq n m||tL n l):=rfl
  rw[this,EY n l,List.contains_cons,Qq]
theorem XN(l:List Nat):vV l=l.isEmpty:=by cases l<;>rfl
theorem XM{es:ME}{l:List MapEntry}(h:dI E es l):Ny es=l.isEmpty:=by
 cases es with
 |nil=>simp only[dI]at h;subst h;rfl
 |cons=>obtain⟨e,m,rfl,_⟩:=h;rfl
theorem blt_eq(a b:Nat):Nat.blt a b=decide (a<b):=by
 rw[Bool.eq_iff_iff,Nat.blt_eq,decide_eq_true_iff]
theorem y1Z:∀{es:ME} {l:List MapEntry} (n:Nat),dI E es l->CE es n=l.any (fun e=>decide (e.born<n)):=by
 intro es
 induction es with
 |nil=>intro l n h;simp only[dI]at h;subst h;rfl
 |cons k v m rest ih =>
  intro l n h
  obtain⟨e,t,rfl,_,_,h3,h4⟩:=h
  have:CE (.cons k v m rest) n=(Nat.blt m n||CE rest n):=rfl
  rw[this,ih n h4,List.any_cons,blt_eq,h3]
theorem Vk:∀{es:ME} {l:List MapEntry} (seen:List Nat) (n:Nat),dI E es l->yj es seen n=l.any (fun e=>!seen.contains e.born&&decide (e.born<n)):=by
 intro es
 induction es with
 |nil=>intro l seen n h;simp only[dI]at h;subst h;rfl
 |cons k v m rest ih =>
  intro l seen n h
  obtain⟨e,t,rfl,_,_,h3,h4⟩:=h
  have:yj (.cons k v m rest) seen n=((!tL m seen&&Nat.blt m n)||yj rest seen n):=rfl
  rw[this,ih seen n h4,List.any_cons,blt_eq,h3,EY]
theorem ZH{f:AV->AV->Nat->Out}{z:Out}{seen:List Nat}:∀{es:ME} {l:List MapEntry} {r:List (AV × St)},dI E es l->Bw es seen f z=some r ->
 (∃r',z=some r'/\∀x∈r',x∈r)/\∀e∈l,seen.contains e.born=false->∃k v r',ag E k e.key/\ag E v e.val/\f k v e.born=some r'/\∀x∈r',x∈r:=by
 intro es
 induction es with
 |nil =>
  intro l r h h1
  simp only[dI]at h
  subst h
  exact⟨⟨r,h1,fun _ h=>h⟩,fun e he=>by cases he⟩
 |cons k v m rest ih =>
  intro l r h h1
  obtain⟨e,t,rfl,g1,g2,g3,g4⟩:=h
  rcases iB (show iff (tL m seen) (Bw rest seen f z) (both (f k v m) (Bw rest seen f z))=some r from h1)with ⟨hm,h1⟩ | ⟨hm,h1⟩
  ·obtain⟨h2,h3⟩:=ih g4 h1
   refine⟨h2,fun e' he' hs'=>?_⟩
   rcases List.mem_cons.1 he' with rfl | he'
   ·rw[EY,<-g3,hs']at hm;cases hm
   ·exact h3 e' he' hs'
  ·obtain⟨ra,rb,ha,hb,rfl⟩:=Qj h1
   obtain⟨⟨rz,hz,hzs⟩,h3⟩:=ih g4 hb
   refine⟨⟨rz,hz,fun x hx=>List.mem_append_right _ (hzs x hx)⟩,fun e' he' hs'=>?_⟩
   rcases List.mem_cons.1 he' with rfl | he'
   ·exact⟨k,v,ra,g1,g2,by rw[g3];exact ha,fun x hx=>List.mem_append_left _ hx⟩
   ·obtain⟨k',v',r',i1,i2,i3,i4⟩:=h3 e' he' hs'
    exact⟨k',v',r',i1,i2,i3,fun x hx=>List.mem_append_right _ (i4 x hx)⟩
theorem TA{α:Type}(c:Array α)(hc:0<c.size):∃j w1,j<c.size/\(w1=w∨w1=w.drew)/\(choose (.mapNext c.size)).run P w = .ok j w1:=by
 by_cases hf:c.size<=1
 ·exact⟨0,w,hc,.inl rfl,by simp[choose,Sem.run,Question.forced,hf]⟩
 ·exact⟨_,w.drew,Nat.mod_lt _ hc,.inr rfl,by
   simp only[choose,Sem.run,Question.forced,decide_eq_true_eq,hf,if_false,Question.cut]
   rfl⟩
theorem VM(hs:aB B E st w)(ht:aU E nt tm a){x:Operand}(ho:o.op = .next x false)(h:Ea (co x) tm st k=some r):Does P B E w a o k r:=by
 unfold Ea at h
 obtain⟨b,p,he,h⟩:=pG h
 obtain⟨h0,h1⟩:=aJ h
 obtain⟨h64,h2⟩:=aJ h1
 clear h h1
 have h64:lowN<=b:=Nat.le_of_ble_eq_true h64
 have h0:=Nat.eq_of_beq_eq_true h0
 subst h0
 obtain⟨q,hq,h3⟩:=jM h2
 clear h2
 have hx:=aT hs ht x
 rw[he]at hx
 rcases LG h3 with ⟨rfl,h⟩ | ⟨m,since,seen,last,rfl,h⟩
 ·obtain⟨l,hl,hv,hr⟩:=hs.iter hx hq (fun l h=>h.1)
  have hg:=Bf (P:=P) hr.2 (fun _ _ _ h=>by cases h)
  refine⟨_,.tuple #[.bool false],w,E,_,r,.inl ?_,ax.le_refl E,hs.Nf (hs.lt hl),bM.refl B w,De,fun _ h=>h,h⟩
  rw[Gn ho,hv]
  simp[Instr.next,hg]
 ·obtain⟨l,hl,hv,hr⟩:=hs.iter hx hq (fun l h=>h.1)
  obtain⟨hbase,lm,hlm,hb⟩:=hr
  have hlt:=hs.lt hl
  have hown:=hs.own b _ l hlt h64 hq hl
  have hbs:l.blk<w.heap.size:=(Array.getElem?_eq_some_iff.1 hb).1
  obtain⟨q2,hq2,h⟩:=jM h
  obtain⟨es,c,rfl,h⟩:=vJ h
  obtain⟨hold,h⟩:=aJ h
  obtain⟨lm',hlm',ar,hm,hme⟩:=hs.live m _ (hs.lt hlm) hq2
  rw[hlm]at hlm'
  cases hlm'
  have hg:=Bf (P:=P) hb (fun _ _ _ h=>by cases h)
  have hg2:=run_getObj_map (P:=P) hm
  obtain⟨⟨rz,hz,hzs⟩,heach⟩:=ZH hme h
  have htest:(!seen.toArray.isEmpty && !ar.isEmpty&&ar.all (fun e=>decide (e.born≥last)))=false:=by
   rw[XN,XM hme,y1Z last hme]at hold
   cases h1:seen.isEmpty with
   |true=>simp[h1]
   |false =>
    cases h2:ar.toList.isEmpty with
    |true=>simp[Array.isEmpty_toList]at h2;simp[h2]
    |false =>
     rw[h1,h2]at hold
     have hold:ar.toList.any (fun e=>decide (e.born<last))=true:=hold
     obtain⟨e,he1,he2⟩:=List.any_eq_true.1 hold
     have he2:e.born<last:=by simpa using he2
     have:ar.all (fun e=>decide (e.born≥last))=false:=by
      rw[Bool.eq_false_iff]
      intro hall
      rw[Array.all_eq_true_iff_forall_mem]at hall
      have:=hall e (by simpa using he1)
      simp at this
      omega
     simp[this]
  generalize hcand:((if ((ar.filter fun e=>!seen.toArray.contains e.born).filter (fun x=>decide (x.born<since))).isEmpty=true then #[none]else #[])++(((ar.filter fun e=>!seen.toArray.contains e.born).filter (fun x=>decide (x.born<since)))++((ar.filter fun e=>!seen.toArray.contains e.born).filter (fun x=>decide (x.born≥since)))).map some:Array (Option MapEntry))=cand
  have hpos:0<cand.size:=by
   rw[<-hcand]
   split
   ·simp;omega
   ·rename_i hne
    simp only[Array.isEmpty_iff]at hne
    have:0<((ar.filter fun e=>!seen.toArray.contains e.born).filter (fun x=>decide (x.born<since))).size:=Array.size_pos_iff.2 hne
    simp only[Array.size_append,Array.size_map]
    omega
  obtain⟨j,w1,hj,hw1,hch⟩:=TA (P:=P) (w:=w) cand hpos
  have hheap:w1.heap=w.heap:=by rcases hw1 with rfl | rfl<;>rfl
  have hbel:bM B w w1:=by
   rcases hw1 with rfl | rfl
   ·exact bM.refl B _
   ·exact(bM.refl B w).drew
  have hs1:=hs.same hheap
  have hrun:∀y,cand[j]=y->(execOp a.eval o).run P w=(match y with
   |some e=>(do setObj l.blk (.mapIter (some lm.blk) since (seen.toArray.push e.born) c);pure (Next.value (.tuple #[.bool true,e.key,e.val])):Sem Next)
   |none=>pure (Next.value (.tuple #[.bool false]))).run P w1:=by
   intro y hy
   rw[Gn ho,hv]
   simp only[Instr.next,Sem.run_bind,hg,hg2,Result.andThen_ok,htest,Bool.false_eq_true,if_false,hcand,hch,Array.getElem?_eq_getElem hj,hy]
   cases y with
   |none=>simp
   |some e =>
    simp only[List.push_toArray,Sem.run_bind]
    generalize Sem.run P (setObj l.blk (Obj.mapIter (some lm.blk) since (seen++[e.born]).toArray c)) w1=z
    cases z<;>simp
  cases hy:cand[j]with
  |none =>
   have hmem:none∈cand:=hy▸Array.getElem_mem hj
   have hemp:((ar.filter fun e=>!seen.toArray.contains e.born).filter (fun x=>decide (x.born<since))).isEmpty=true:=by
    rw[<-hcand]at hmem
    split at hmem
    ·assumption
    ·simp at hmem
   have hol:yj es seen since=false:=by
    rw[Vk seen since hme,List.any_eq_false]
    intro e he hp
    rw[Bool.and_eq_true]at hp
    have hin:e∈(ar.filter fun e=>!seen.toArray.contains e.born).filter (fun x=>decide (x.born<since)):=by
     rw[Array.mem_filter,Array.mem_filter]
     exact⟨⟨by simpa using he,by simpa using hp.1⟩,hp.2⟩
    rw[Array.isEmpty_iff]at hemp
    rw[hemp]at hin
    simp at hin
   rw[hol]at hz
   have hz:k (.t (.cn (.b false) .nl)) (gz st b none)=some rz:=hz
   exact⟨_,.tuple #[.bool false],w1,E,_,rz,.inl (by rw[hrun none hy];rfl),ax.le_refl E,hs1.Nf hlt,hbel,De,hzs,hz⟩
  |some e =>
   have hmem:some e∈cand:=hy▸Array.getElem_mem hj
   have he:e∈ar/\seen.contains e.born=false:=by
    rw[<-hcand]at hmem
    rcases Array.mem_append.1 hmem with h1 | h1
    ·split at h1
     ·simp at h1
     ·simp at h1
    ·obtain⟨x,hx,hxe⟩:=Array.mem_map.1 h1
     cases hxe
     rcases Array.mem_append.1 hx with h2 | h2
     ·have h3:=(Array.mem_filter.1 (Array.mem_filter.1 h2).1)
      exact⟨h3.1,by simpa using h3.2⟩
     ·have h3:=(Array.mem_filter.1 (Array.mem_filter.1 h2).1)
      exact⟨h3.1,by simpa using h3.2⟩
   obtain⟨kk,vv,r',h1,h2,h3,h4⟩:=heach e (by simpa using he.1) he.2
   have hb1:w1.heap[l.blk]? = some (.mapIter (some lm.blk) since seen.toArray last):=by rw[hheap];exact hb
   refine⟨_,.tuple #[.bool true,e.key,e.val],l6 w1 l.blk (.mapIter (some lm.blk) since (seen.toArray.push e.born) c),E,_,r',.inl ?_,ax.le_refl E,hs1.put' (q':=.mi m since (seen++[e.born]) c) hlt h64 hl hq rfl (fun j hj=>xR _ hj) ⟨hbase,lm,hlm,?_⟩,hbel.trans (DL _ hown),IY h1 h2,h4,h3⟩
   ·rw[hrun (some e) hy]
    have hset:=uZ (P:=P) (x:=.mapIter (some lm.blk) since (seen++[e.born]).toArray c) hb1 (fun _ _ _ h=>by cases h)
    simp[hset]
   ·rw[xQ _ (by rw[hheap];exact hbs)]
    simp
theorem MZ:∀l:List Nat,vV l=false->l.getLast? = some (yE l)
 |[],h=>by cases h
 |[x],_=>rfl
 |x::y::l,_=>by
  have:=MZ (y::l) rfl
  rw[List.getLast?_cons_cons,this]
  rfl
theorem y1s{f:AV->AV->Out}:∀{es:ME} {l:List MapEntry} {n:Nat},dI E es l->He es n f=some r->∃e k v,l.find? (fun e=>e.born==n)=some e/\ag E k e.key/\ag E v e.val/\f k v=some r:=by
 intro es
 induction es with
 |nil=>intro l n _ h;exact aS h
 |cons k v m rest ih =>
  intro l n h h1
  obtain⟨e,t,rfl,g1,g2,g3,g4⟩:=h
  rcases iB (show iff (Nat.beq m n) (f k v) (He rest n f)=some r from h1)with ⟨hm,h1⟩ | ⟨hm,h1⟩
  ·exact⟨e,k,v,by rw[List.find?_cons];simp[g3,Nat.eq_of_beq_eq_true hm],g1,g2,h1⟩
  ·obtain⟨e',k',v',i1,i2,i3,i4⟩:=ih g4 h1
   refine⟨e',k',v',?_,i2,i3,i4⟩
   rw[List.find?_cons]
   have:(e.born==n)=false:=by rw[g3,<-Qq];exact hm
   rw[this]
   exact i1
theorem Q3{x y:AV}{u v:Value}(h1:ag E x u)(h2:ag E y v):ag E (.t (.cn x (.cn y .nl))) (.tuple #[u,v]):=by
 simp only[ag]
 refine⟨[u,v],rfl,?_⟩
 simp only[au]
 exact⟨u,_,rfl,h1,v,[],rfl,h2,rfl⟩
theorem Zz(hs:aB B E st w)(ht:aU E nt tm a){x:Operand}(ho:o.op = .entry x)(h:Eu (co x) tm st k=some r):Reads P E st w a o k r:=by
 unfold Eu at h
 obtain⟨b,p,he,h⟩:=pG h
 obtain⟨h0,h1⟩:=aJ h
 clear h
 have h0:=Nat.eq_of_beq_eq_true h0
 subst h0
 obtain⟨q,hq,h3⟩:=jM h1
 clear h1
 have hx:=aT hs ht x
 rw[he]at hx
 rcases LG h3 with ⟨rfl,h⟩ | ⟨m,since,seen,last,rfl,h⟩
 ·exact aS h
 ·obtain⟨l,hl,hv,hr⟩:=hs.iter hx hq (fun l h=>h.1)
  obtain⟨hbase,lm,hlm,hb⟩:=hr
  obtain⟨hne,h⟩:=aJ h
  obtain⟨q2,hq2,h⟩:=jM h
  obtain⟨es,c,rfl,h4⟩:=vJ h
  obtain⟨hc,h5⟩:=aJ h4
  have hc:=Nat.eq_of_beq_eq_true hc
  clear h h4
  subst hc
  obtain⟨lm',hlm',ar,hm,hme⟩:=hs.live m _ (hs.lt hlm) hq2
  rw[hlm]at hlm'
  cases hlm'
  have hg:=Bf (P:=P) hb (fun _ _ _ h=>by cases h)
  have hg2:=run_getObj_map (P:=P) hm
  obtain⟨e,kk,vv,i1,i2,i3,i4⟩:=y1s hme h5
  have hne:vV seen=false:=by cases hE:vV seen with
   |false=>rfl
   |true=>rw[hE]at hne;cases hne
  have hlast:=MZ seen hne
  refine dW (s:=Instr.entry (a.eval x)) (u:=.tuple #[e.key,e.val]) (by unfold execOp;rw[ho]) ?_ (Q3 i2 i3) i4
  have hback:seen.toArray.back? = some (yE seen):=by rw[List.back?_toArray];exact hlast
  have hfind:ar.find? (fun e=>e.born==yE seen)=some e:=by rw[<-Array.find?_toList];exact i1
  rw[hv]
  simp[Instr.entry,hg,hg2,hback,hfind]
end
end Go.AM
