/-
  The abstract interpreter: a region whose order is open.
  Conditions: none.
-/
import Derived.Test.YtoifpgeocpjneaaDD03
import Derived.RangeFuncOwn
import Derived.RangeFuncLeaves
import Derived.LoopNIn
import Derived.ControlIn
import Derived.LoopN
import Derived.Scope
import Derived.Tactics
set_option maxRecDepth 100000
set_option maxHeartbeats 4000000
set_option linter.unusedSimpArgs false
set_option linter.unusedVariables false
namespace Go.Vi
theorem ancStep_bits {acc:List Nat} {l:List Edge} {m:Nat}:∀{s:Nat},(l.foldl (ancStep acc) s).testBit m=true→s.testBit m=true∨∃e∈l,Region.binds .any e=true∧(m=e.on∨(acc.getD e.on 0).testBit m=true):=by
 induction l with
 |nil=>intro s h;exact .inl h
 |cons e l ih=>
  intro s h
  simp only[List.foldl_cons] at h
  rcases ih h with h1|⟨e',he,h1,h2⟩
  ·unfold ancStep at h1
   split at h1
   ·rename_i hb
    simp only[Nat.testBit_or,Bool.or_eq_true,Nat.testBit_two_pow,decide_eq_true_eq] at h1
    rcases h1 with h1|h1|h1
    ·exact .inl h1
    ·exact .inr ⟨e,by simp,hb,.inl h1.symm⟩
    ·exact .inr ⟨e,by simp,hb,.inr h1⟩
   ·exact .inl h1
  ·exact .inr ⟨e',by simp[he],h1,h2⟩
def ancF (acc:List Nat) (o:Oper):Nat:=o.after.toList.foldl (ancStep acc) 0
theorem ancGo_spec:∀(L:List Oper) (acc:List Nat),∃r,L.foldl (fun acc o=>acc++[ancF acc o]) acc=acc++r∧r.length=L.length∧
  ∀(k:Nat) (o:Oper),L[k]?=some o→r[k]?=some (ancF (acc++r.take k) o)
 |[],acc=>⟨[],by simp,rfl,by simp⟩
 |o::L,acc=>by
  obtain⟨r,h1,h2,h3⟩:=ancGo_spec L (acc++[ancF acc o])
  refine⟨ancF acc o::r,by simp[h1],by simp[h2],fun k o' hk=>?_⟩
  cases k with
  |zero=>simp at hk;subst hk;simp
  |succ k=>
   simp only[List.getElem?_cons_succ] at hk ⊢
   rw[h3 k o' hk]
   simp
theorem ancs_bits {ops:Array Oper} {k m:Nat} {o:Oper} (ho:ops[k]?=some o) (h:((ancs ops).getD k 0).testBit m=true):
  ∃e∈o.after,Region.binds .any e=true∧(m=e.on∨((ancs ops).getD e.on 0).testBit m=true):=by
 obtain⟨r,h1,h2,h3⟩:=ancGo_spec ops.toList []
 have han:ancs ops=r:=by
  unfold ancs
  have:=h1
  simp only[ancF,List.nil_append] at this
  exact this
 rw[han] at h ⊢
 have hk:=h3 k o (by simpa using ho)
 rw[List.getD_eq_getElem?_getD,hk] at h
 simp only[Option.getD_some,List.nil_append] at h
 rcases ancStep_bits h with h0|⟨e,he,hb,hm⟩
 ·simp at h0
 ·refine⟨e,by simpa using he,hb,hm.imp_right fun hm=>?_⟩
  rw[List.getD_eq_getElem?_getD] at hm ⊢
  rw[List.getElem?_take] at hm
  split at hm
  ·exact hm
  ·simp at hm
theorem edgesB_spec:∀(L:List Oper) (i:Nat),edgesB i L=true→∀(k:Nat) (o:Oper),L[k]?=some o→∀e∈o.after,Region.binds .any e=true→e.on<i+k
 |[],i,_,k,o,hk,_,_,_=>by simp at hk
 |o::L,i,h,k,o',hk,e,he,hb=>by
  simp only[edgesB,Bool.and_eq_true,List.all_eq_true] at h
  cases k with
  |zero=>
   simp at hk;subst hk
   have:=h.1 e (by simpa using he)
   simpa[hb] using this
  |succ k=>
   have:=edgesB_spec L (i+1) h.2 k o' (by simpa using hk) e he hb
   omega
theorem swaps_spec {an:List Nat}:∀{l:List IOper},swapsOk an l=true→∀(p q:Nat) (y x:IOper),p<q→l[p]?=some y→l[q]?=some x→
  (an.getD x.idx 0).testBit y.idx=true∨(apartT y x=true∧(freeM y x=true∨mayM y x=true))
 |[],_,p,q,y,x,_,hy,_=>by simp at hy
 |a::r,h,p,q,y,x,hpq,hy,hx=>by
  simp only[swapsOk,Bool.and_eq_true,List.all_eq_true] at h
  match q,hpq with
  |q+1,hpq=>
   simp only[List.getElem?_cons_succ] at hx
   cases p with
   |zero=>
    simp at hy;subst hy
    have:=h.1 x (List.mem_of_getElem? hx)
    simpa using this
   |succ p=>exact swaps_spec h.2 p q y x (by omega) (by simpa using hy) hx
theorem pairs_spec {an:List Nat}:∀{l:List IOper} (p q:Nat) (y x:IOper),p<q→l[p]?=some y→l[q]?=some x→¬(an.getD x.idx 0).testBit y.idx=true→freeM y x=false→(y.idx,x.idx)∈pairsOf an l
 |[],p,q,y,x,_,hy,_,_,_=>by simp at hy
 |a::r,p,q,y,x,hpq,hy,hx,hb,hf=>by
  simp only[pairsOf,List.mem_append]
  match q,hpq with
  |q+1,hpq=>
   simp only[List.getElem?_cons_succ] at hx
   cases p with
   |zero=>
    simp at hy;subst hy
    left
    refine List.mem_filterMap.2 ⟨x,List.mem_of_getElem? hx,?_⟩
    rw[if_neg]
    simp only[Bool.or_eq_true,not_or]
    exact⟨hb,by simp[hf]⟩
   |succ p=>exact .inr (pairs_spec p q y x (by omega) (by simpa using hy) hx hb hf)
section
variable {P:Program} {A:Clr} {call:Oracle} {base:Nat}
theorem ents_entry:∀{l:List IOper} {st:St} {p:Nat} {x:IOper} {t:List Nat×List Nat},l[p]?=some x→(ents call base l st)[p]?=some t→∃st',t=entry call base x st'
 |[],st,p,x,t,hx,_=>by simp at hx
 |i::l,st,p,x,t,hx,ht=>by
  simp only[ents] at ht
  cases p with
  |zero=>simp at hx ht;subst hx;exact⟨st,ht.symm⟩
  |succ p=>
   simp only[List.getElem?_cons_succ] at hx ht
   split at ht
   ·exact ents_entry hx ht
   ·simp at ht
theorem trace_look:∀{l:List IOper} {st s:St} {p:Nat} {x:IOper} {t:List Nat×List Nat},runOps call base l st=some s→(l.map (·.idx)).Nodup→l[p]?=some x→(ents call base l st)[p]?=some t→lookT (traceOps call base l st) x.idx=t
 |[],st,s,p,x,t,_,_,hx,_=>by simp at hx
 |i::l,st,s,p,x,t,hr,hn,hx,ht=>by
  simp only[runOps] at hr
  split at hr
  ·rename_i s1 h1
   simp only[List.map_cons,List.nodup_cons] at hn
   have htr:traceOps call base (i::l) st=(i.idx,entry call base i st)::traceOps call base l s1:=by
    simp only[traceOps,h1,entry]
    congr 1
    cases hw:wantA st.env i.guard with
    |none=>rfl
    |some b=>cases b<;>rfl
   rw[htr]
   simp only[ents,h1] at ht
   cases p with
   |zero=>simp at hx ht;subst hx;simp[lookT,ht]
   |succ p=>
    simp only[List.getElem?_cons_succ] at hx ht
    have hne:i.idx≠x.idx:=fun h=>hn.1 (h▸List.mem_map_of_mem (f:=fun i:IOper=>i.idx) (List.mem_of_getElem? hx))
    simp only[lookT,beq_iff_eq,hne,if_false]
    exact trace_look hr hn.2 hx ht
  ·cases hr
theorem entry_c0 {i:IOper} {st:St} (h:i.op.cls=0):entry call base i st=([],[]):=by
 unfold entry
 split
 ·rw[tch_nil h,wrtC_nil (.inl h)]
 ·rfl
theorem entry_c1 {i:IOper} {st:St} (h:i.op.cls=1):(entry call base i st).2=[]:=by
 unfold entry
 split
 ·simp only;rw[wrtC_nil (.inr h)]
 ·rfl
theorem apartL_spec {a b:List Nat} (h:apartL a b=true):∀j∈a,j∉b:=by
 intro j hj hb
 have:=List.all_eq_true.1 h j hj
 simp at this
 exact this hb
theorem rel_of {n0:Nat} {an:List Nat} {l:List IOper} {st s:St} (hr:runOps call base l st=some s) (hn:(l.map (·.idx)).Nodup) (hsw:swapsOk an l=true)
  (hchk:((pairsOf an l).isEmpty||chkOk n0 (traceOps call base l st) (pairsOf an l))=true) {p q:Nat} {y x:IOper} {ty tx:List Nat×List Nat} (hpq:p<q) (hy:l[p]?=some y) (hx:l[q]?=some x)
  (hty:(ents call base l st)[p]?=some ty) (htx:(ents call base l st)[q]?=some tx):(an.getD x.idx 0).testBit y.idx=true∨RelT n0 y ty x tx:=by
 rcases swaps_spec hsw p q y x hpq hy hx with h|⟨h1,h2⟩
 ·exact .inl h
 by_cases hb:(an.getD x.idx 0).testBit y.idx=true
 ·exact .inl hb
 right
 obtain⟨sy,ey⟩:=ents_entry hy hty
 obtain⟨sx,ex⟩:=ents_entry hx htx
 cases hf:freeM y x with
 |true=>
  unfold freeM at hf
  simp only[Bool.or_eq_true,Bool.and_eq_true,beq_iff_eq] at hf
  rcases hf with(hf|hf)|⟨hf,hf2⟩
  ·have:=entry_c0 (call:=call) (base:=base) (st:=sy) hf
   rw[this] at ey
   subst ey
   exact⟨h1,by simp,by simp,fun h=>(by rw[hf] at h;cases h),by simp⟩
  ·have:=entry_c0 (call:=call) (base:=base) (st:=sx) hf
   rw[this] at ex
   subst ex
   exact⟨h1,by simp,by simp,fun _=>⟨by rw[hf];decide,by simp⟩,fun h=>(by rw[hf] at h;cases h)⟩
  ·have e1:=entry_c1 (call:=call) (base:=base) (st:=sy) hf
   have e2:=entry_c1 (call:=call) (base:=base) (st:=sx) hf2
   rw[←ey] at e1
   rw[←ex] at e2
   exact⟨h1,by simp[e1],by simp[e2],fun h=>(by rw[hf] at h;cases h),fun h=>(by rw[hf2] at h;cases h)⟩
 |false=>
  have hm:mayM y x=true:=h2.resolve_left (by simp[hf])
  have hp:=pairs_spec p q y x hpq hy hx hb hf
  have hne:(pairsOf an l).isEmpty=false:=by
   cases hq:pairsOf an l with
   |nil=>rw[hq] at hp;simp at hp
   |cons _ _=>rfl
  rw[hne,Bool.false_or] at hchk
  have hc:=List.all_eq_true.1 hchk _ hp
  simp only[trace_look hr hn hy hty,trace_look hr hn hx htx,Bool.and_eq_true,List.all_eq_true,decide_eq_true_eq] at hc
  obtain⟨⟨⟨c1,c2⟩,c3⟩,c4⟩:=hc
  refine⟨h1,apartL_spec c1,apartL_spec c2,fun h3=>⟨fun h4=>?_,c4⟩,fun _=>c3⟩
  unfold mayM at hm
  simp[h3,h4] at hm
theorem Sim.eq {nt:Nat} {w0:World} {σ0:Sig} {o0:Store} {st st':St} {a:Act} {w:World} {σ:Sig} (h:Sim A nt w0 σ0 o0 st a w σ) (he:StEq st st'):Sim A nt w0 σ0 o0 st' a w σ where
 sim:=he.2▸h.sim
 env:=fun s=>by rw[←he.1 s,←he.2];exact h.env s
 size:=h.size
 defers:=h.defers
 ext:=he.2▸h.ext
theorem Sim.drew {nt:Nat} {w0:World} {σ0:Sig} {o0:Store} {st:St} {a:Act} {w:World} {σ:Sig} (h:Sim A nt w0 σ0 o0 st a w σ):Sim A nt w0 σ0 o0 st a {w with drawn:=w.drawn+1} σ:=by
 have hE:Ext w σ st.o {w with drawn:=w.drawn+1} σ st.o:=⟨Nat.le_refl _,fun _ _ h=>⟨rfl,h⟩,Nat.le_refl _,fun _ _ h=>⟨h,fun _ h=>⟨h,rfl⟩⟩,fun _ h=>⟨h,rfl⟩,rfl,rfl,rfl⟩
 exact⟨⟨h.sim.len,h.sim.dist,h.sim.bnd,fun i x hx=>(h.sim.obj i x hx).ext hE rfl fun _ _ _=>rfl,h.sim.av,h.sim.avb⟩,fun s=>(h.env s).ext hE,h.size,h.defers,h.ext.trans hE⟩
theorem eraseIdx_mid {α:Type} (pre post:List α) (x:α):pre++post=(pre++x::post).eraseIdx pre.length:=by
 rw[List.eraseIdx_append_of_length_le (Nat.le_refl _)]
 simp
structure OInv (P:Program) (nt:Nat) (fl:List Nat) (ops:Array Oper) (call:Oracle) (base n0:Nat) (st2:St) (l:List IOper) (listed:Array Bool) (st:St):Prop where
 run:∃s,runOps call base l st=some s∧StEq st2 s
 len:n0≤st.o.length
 rel:∀(p q:Nat) (y x:IOper) (ty tx:List Nat×List Nat),p<q→l[p]?=some y→l[q]?=some x→(ents call base l st)[p]?=some ty→(ents call base l st)[q]?=some tx→((ancs ops).getD x.idx 0).testBit y.idx=true∨RelT n0 y ty x tx
 comp:∀x∈l,∃nid,compOper P nt fl ops nid x.idx=some x
 nodup:(l.map (·.idx)).Nodup
 sz:listed.size=ops.size
 lst:∀k,k<ops.size→(listed.getD k true=false↔∃x∈l,x.idx=k)
 closed:∀k m,listed.getD k false=true→((ancs ops).getD k 0).testBit m=true→listed.getD m false=true
theorem getD_lt {listed:Array Bool} {k:Nat} (h:k<listed.size) (a b:Bool):listed.getD k a=listed.getD k b:=by
 simp[Array.getD_eq_getD_getElem?,h]
theorem draw_any {nt:Nat} {fl:List Nat} {ops:Array Oper} (hcall:OracleOK P call) (hed:edgesB 0 ops.toList=true) {n0:Nat} {st2:St} {w0:World} {σ0:Sig} {o0:Store} {Q:Exit→Act→World→Prop}
  (hQ:∀a' w' σ',Sim A nt w0 σ0 o0 st2 a' w' σ'→Q .normal a' w') {rnd:Option Nat}:∀(fuel:Nat) (l:List IOper) (listed:Array Bool) (st:St) (a:Act) (w:World) (σ:Sig),l.length≤fuel→
   OInv P nt fl ops call base n0 st2 l listed st→Sim A nt w0 σ0 o0 st a w σ→wpAnyIn (FR rnd) 0 P .any ops Q fuel listed a w:=by
 have hdone:∀(listed:Array Bool) (st:St) (a:Act) (w:World) (σ:Sig),OInv P nt fl ops call base n0 st2 [] listed st→Sim A nt w0 σ0 o0 st a w σ→Q .normal a w:=by
  intro listed st a w σ hI hs
  obtain⟨s,h1,h2⟩:=hI.run
  simp only[runOps,Option.some.injEq] at h1
  subst h1
  exact hQ _ _ _ (hs.eq h2.symm)
 have hprog:∀(l:List IOper) (listed:Array Bool) (st:St),OInv P nt fl ops call base n0 st2 l listed st→∀(k:Nat),(∃x∈l,x.idx=k)→Region.ready .any ops listed≠[]:=by
  intro l listed st hI k
  induction k using Nat.strongRecOn with
  |_ k ih=>
   rintro⟨x,hx,rfl⟩
   obtain⟨nid,hc⟩:=hI.comp x hx
   cases ho:ops[x.idx]? with
   |none=>simp[compOper,ho] at hc
   |some o=>
    have hk:x.idx<ops.size:=(Array.getElem?_eq_some_iff.1 ho).1
    by_cases hall:∀e∈o.after,Region.binds .any e=true→listed.getD e.on false=true
    ·intro hnil
     have:x.idx∈Region.ready .any ops listed:=mem_ready.2 ⟨(hI.lst _ hk).2 ⟨x,hx,rfl⟩,o,ho,hall⟩
     rw[hnil] at this
     simp at this
    ·simp only[Classical.not_forall] at hall
     obtain⟨e,he,hb,hn⟩:=hall
     have hlt:=edgesB_spec ops.toList 0 hed x.idx o (by simpa using ho) e he hb
     simp only[Nat.zero_add] at hlt
     refine ih e.on hlt ((hI.lst e.on (by omega)).1 ?_)
     rw[getD_lt (by rw[hI.sz];omega) true false]
     simpa using hn
 intro fuel
 induction fuel with
 |zero=>
  intro l listed st a w σ hl hI hs
  have:l=[]:=List.eq_nil_of_length_eq_zero (by omega)
  subst this
  refine⟨?_,hdone listed st a w σ hI hs⟩
  rw[List.eq_nil_iff_forall_not_mem]
  intro k hk
  obtain⟨h0,o,ho,_⟩:=mem_ready.1 hk
  obtain⟨x,hx,_⟩:=(hI.lst k (Array.getElem?_eq_some_iff.1 ho).1).1 h0
  simp at hx
 |succ fuel ih=>
  intro l listed st a w σ hl hI hs
  refine⟨fun hnil=>?_,fun k hk=>?_⟩
  ·cases l with
   |nil=>exact hdone listed st a w σ hI hs
   |cons x l=>exact absurd hnil (hprog _ listed st hI x.idx ⟨x,by simp,rfl⟩)
  ·obtain⟨h0,o,ho,hall⟩:=mem_ready.1 hk
   have hks:k<ops.size:=(Array.getElem?_eq_some_iff.1 ho).1
   obtain⟨x,hx,rfl⟩:=(hI.lst k hks).1 h0
   obtain⟨pre,post,rfl⟩:=List.append_of_mem hx
   obtain⟨s,hrun,hseq⟩:=hI.run
   have hanc:∀m,((ancs ops).getD x.idx 0).testBit m=true→listed.getD m false=true:=by
    intro m hm
    obtain⟨e,he,hb,h1⟩:=ancs_bits ho hm
    rcases h1 with rfl|h1
    ·exact hall e he hb
    ·exact hI.closed _ _ (hall e he hb) h1
   obtain⟨s1,s',f1,f2,f3,f4,f5⟩:=front (n0:=n0) pre hrun hI.len fun p y ty tx hp h1 h2=>by
    have hpl:p<pre.length:=(List.getElem?_eq_some_iff.1 hp).1
    have hyl:(pre++x::post)[p]?=some y:=by rw[List.getElem?_append_left hpl];exact hp
    rcases hI.rel p pre.length y x ty tx hpl hyl (by simp) h1 h2 with h3|h3
    ·exfalso
     have h4:=hanc _ h3
     obtain⟨nid,hc⟩:=hI.comp y (List.mem_of_getElem? hyl)
     cases hoy:ops[y.idx]? with
     |none=>simp[compOper,hoy] at hc
     |some oy=>
      have hys:y.idx<ops.size:=(Array.getElem?_eq_some_iff.1 hoy).1
      have h5:=(hI.lst _ hys).2 ⟨y,List.mem_of_getElem? hyl,rfl⟩
      rw[getD_lt (by rw[hI.sz];exact hys) true false,h4] at h5
      cases h5
    ·exact h3
   obtain⟨nid,hc⟩:=hI.comp x hx
   refine runOp_wp hcall hc f1 hs fun a' w' σ' hs'=>?_
   have hnd:=hI.nodup
   have hmid:=eraseIdx_mid pre post x
   have hget:∀(p:Nat) (y:IOper),(pre++post)[p]?=some y→(pre++x::post)[if p<pre.length then p else p+1]?=some y:=by
    intro p y hp
    rw[hmid,List.getElem?_eraseIdx] at hp
    split<;>rename_i h<;>simpa[h] using hp
   have hent:∀(p:Nat) (t:List Nat×List Nat),(ents call base (pre++post) s1)[p]?=some t→(ents call base (pre++x::post) st)[if p<pre.length then p else p+1]?=some t:=by
    intro p t hp
    rw[f5,List.getElem?_eraseIdx] at hp
    split<;>rename_i h<;>simpa[h] using hp
   obtain⟨_,_,hlen1,_⟩:=step_loc f1
   refine ih (pre++post) _ s1 a' w' σ' (by simp at hl ⊢;omega) ⟨⟨s',f2,hseq.trans f3⟩,Nat.le_trans hI.len hlen1,fun p q y z ty tz hpq hy hz hty htz=>?_,fun y hy=>hI.comp y ?_,?_,by simp[hI.sz],fun k hk=>?_,fun k m hk hm=>?_⟩ hs'
   ·refine hI.rel _ _ y z ty tz ?_ (hget p y hy) (hget q z hz) (hent p ty hty) (hent q tz htz)
    split<;>split<;>omega
   ·rw[List.mem_append] at hy ⊢
    rcases hy with hy|hy<;>simp[hy]
   ·rw[List.map_append,List.map_cons] at hnd
    rw[List.map_append]
    exact hnd.sublist (List.Sublist.append (List.Sublist.refl _) (List.sublist_cons_self _ _))
   ·by_cases hkx:k=x.idx
    ·subst hkx
     have h1:(listed.setIfInBounds x.idx true).getD x.idx true=true:=by simp
     rw[h1]
     constructor
     ·intro h;cases h
     ·rintro⟨y,hy,hyx⟩
      exfalso
      rw[List.map_append,List.map_cons,List.nodup_append] at hnd
      obtain⟨_,h2,h3⟩:=hnd
      rw[List.nodup_cons] at h2
      rcases List.mem_append.1 hy with hy|hy
      ·exact h3 y.idx (List.mem_map_of_mem (f:=fun i:IOper=>i.idx) hy) x.idx (by simp) hyx
      ·exact h2.1 (hyx▸List.mem_map_of_mem (f:=fun i:IOper=>i.idx) hy)
    ·rw[getD_set_ne true (Ne.symm hkx),hI.lst k hk]
     constructor
     ·rintro⟨y,hy,rfl⟩
      refine⟨y,?_,rfl⟩
      rw[List.mem_append] at hy ⊢
      rcases hy with hy|hy
      ·exact .inl hy
      ·rcases List.mem_cons.1 hy with rfl|hy
       ·exact absurd rfl hkx
       ·exact .inr hy
     ·rintro⟨y,hy,rfl⟩
      refine⟨y,?_,rfl⟩
      rw[List.mem_append] at hy ⊢
      rcases hy with hy|hy<;>simp[hy]
   ·by_cases hkx:k=x.idx
    ·subst hkx
     exact getD_set_true (hanc m hm)
    ·rw[getD_set_ne false (Ne.symm hkx)] at hk
     exact getD_set_true (hI.closed k m hk hm)
theorem nodupB_spec:∀{l:List Nat},nodupB l=true→l.Nodup
 |[],_=>List.nodup_nil
 |a::r,h=>by
  simp only[nodupB,Bool.and_eq_true,Bool.not_eq_true',List.contains_eq_mem,decide_eq_false_iff_not] at h
  exact List.nodup_cons.2 ⟨h.1,nodupB_spec h.2⟩
theorem compOper_idx {nt:Nat} {fl:List Nat} {ops:Array Oper} {nid k:Nat} {x:IOper} (h:compOper P nt fl ops nid k=some x):x.idx=k∧k<ops.size:=by
 unfold compOper at h
 split at h
 ·cases h
 ·rename_i o ho
  split at h
  ·obtain⟨op,_,rfl⟩:=Option.map_eq_some_iff.1 h
   exact⟨rfl,(Array.getElem?_eq_some_iff.1 ho).1⟩
  ·cases h
theorem draw_wp (hcall:OracleOK P call) {nt:Nat} {fl:List Nat} {ops:Array Oper} {id k:Nat} {perm:List Nat} {l:List IOper} (hl:compOpers P nt fl ops 0 perm=some (l,k)) (hmix:P.follows .mixedOrders=true)
  (hlen:perm.length=ops.size) (hnd:nodupB perm=true) (hsw:swapsOk (ancs ops) l=true) (hed:edgesB 0 ops.toList=true) (hall:(List.range ops.size).all perm.contains=true)
  {st1 st2:St} (hr:runOps call st1.o.length l ⟨st1.env,st1.o++deads k⟩=some st2)
  (hchk:((pairsOf (ancs ops) l).isEmpty||chkOk (st1.o++deads k).length (traceOps call st1.o.length l ⟨st1.env,st1.o++deads k⟩) (pairsOf (ancs ops) l))=true)
  {w0:World} {σ0:Sig} {o0:Store} {a:Act} {w:World} {σ:Sig} {Q:Exit→Act→World→Prop} (hs:Sim A nt w0 σ0 o0 ⟨st1.env,st1.o++deads k⟩ a w σ) (hQ:∀a' w' σ',Sim A nt w0 σ0 o0 st2 a' w' σ'→Q .normal a' w') {rnd:Option Nat}:(Code.region id ops true).wpIn (FR rnd) 0 P Q a w:=by
 obtain⟨g1,g2⟩:=compOpers_get hl
 have hidx:l.map (·.idx)=perm:=by
  apply List.ext_getElem?
  intro j
  rw[List.getElem?_map]
  cases hj:l[j]? with
  |none=>
   have:=List.getElem?_eq_none_iff.1 hj
   rw[List.getElem?_eq_none (by omega)];rfl
  |some x=>
   have hjl:=(List.getElem?_eq_some_iff.1 hj).1
   have hp:=List.getElem?_eq_getElem (l:=perm) (i:=j) (by omega)
   obtain⟨nid,hc⟩:=g2 j x _ hj hp
   rw[hp]
   simp[(compOper_idx hc).1]
 have hnodup:(l.map (·.idx)).Nodup:=by rw[hidx];exact nodupB_spec hnd
 refine wpIn_region_any hmix (draw_any (fl:=fl) (base:=st1.o.length) (n0:=(st1.o++deads k).length) hcall hed hQ ops.size l _ ⟨st1.env,st1.o++deads k⟩ a _ σ (by omega) ⟨⟨st2,hr,StEq.refl _⟩,Nat.le_refl _,fun p q y x ty tx hpq hy hx hty htx=>?_,fun x hx=>?_,hnodup,by simp,fun j hj=>?_,fun j m hj=>?_⟩ hs.drew)
 ·exact rel_of hr hnodup hsw hchk hpq hy hx hty htx
 ·obtain⟨j,hj⟩:=List.getElem?_of_mem hx
  have hjl:=(List.getElem?_eq_some_iff.1 hj).1
  have hp:=List.getElem?_eq_getElem (l:=perm) (i:=j) (by omega)
  obtain⟨nid,hc⟩:=g2 j x _ hj hp
  exact⟨nid,by rw[(compOper_idx hc).1];exact hc⟩
 ·have h1:(Array.replicate ops.size false).getD j true=false:=by simp[hj]
  rw[h1]
  refine⟨fun _=>?_,fun _=>rfl⟩
  have:=List.all_eq_true.1 hall j (List.mem_range.2 hj)
  rw[List.contains_iff_mem,←hidx] at this
  obtain⟨x,hx,h2⟩:=List.mem_map.1 this
  exact⟨x,hx,h2⟩
 ·exfalso
  rw[Array.getD_eq_getD_getElem?,Array.getElem?_replicate] at hj
  split at hj<;>simp at hj
end
section
variable {P:Program} {A:Clr} {w w':World} {σ σ':Sig} {o o':Store}
theorem SimO.fresh (hS:SimO A w σ o) (e:TypeId) (sz:Nat) (pu:Bool):∃σ',SimO A w σ' (o++[.cells [] e sz pu])∧Ext w σ o w σ' (o++[.cells [] e sz pu])∧σ'[o.length]?=some none:=by
 obtain⟨h1,h2⟩:=hS.deads 1
 have hget:(o++Go.Vi.deads 1)[o.length]?=some .dead:=by simp[Go.Vi.deads]
 have hset:(o++Go.Vi.deads 1).set o.length (.cells [] e sz pu)=o++[.cells [] e sz pu]:=by
  rw[List.set_append_right _ _ (Nat.le_refl _)]
  simp[Go.Vi.deads]
 have hlen:o.length<(σ++List.replicate 1 none).length:=by simp[hS.len]
 obtain⟨k1,k2⟩:=h1.upd (w':=w) (x':=.cells [] e sz pu) (s':=none) hget (Nat.le_refl _) rfl rfl rfl (fun _ _ _=>rfl) (fun _ _ h=>by cases h) trivial (fun hE=>by
  simp only[ObjOK]
  exact⟨fun _=>rfl,rfl,.inl ⟨by rw[List.getElem?_set_self hlen],trivial⟩⟩)
 rw[hset] at k1 k2
 exact⟨_,k1,h2.trans k2,by rw[List.getElem?_set_self hlen]⟩
theorem rep_fresh {n:Nat} {e:TypeId} {sz:Nat} {pu:Bool} (ho:o[n]?=some (.cells [] e sz pu)) (hσ:σ[n]?=some none):Rep A w σ o (.os n 0 0 0) (.slice none 0 0):=by
 simp only[Rep]
 refine⟨⟨[],e,sz,pu,ho,Nat.le_refl _⟩,none,0,rfl,Nat.le_refl _,fun sz' _=>?_⟩
 unfold OsOk
 rw[hσ]
 exact⟨rfl,rfl,rfl,rfl⟩
theorem Sim.unp {nt:Nat} {w0:World} {σ0:Sig} {o0:Store} {st:St} {a:Act} (h:Sim A nt w0 σ0 o0 st a w σ) (id:Nat):∃σ',Sim A nt w0 σ0 o0 (unpH id st) a w σ':=by
 unfold unpH
 split
 ·rename_i cs e sz ho
  have hid:id<st.o.length:=(List.getElem?_eq_some_iff.1 ho).1
  have hidσ:id<σ.length:=by rw[h.sim.len];exact hid
  obtain⟨m1,m2⟩:=h.sim.upd (w':=w) (x':=.cells cs e sz false) (s':=σ[id]) ho (Nat.le_refl _) rfl rfl rfl (fun _ _ _=>rfl)
   (fun b c hs=> .inl ⟨c,by rw[List.getElem?_eq_getElem hidσ,hs]⟩) ⟨_,e,false,rfl,by simp,fun _=>List.getElem?_eq_getElem hidσ⟩ (fun hE=>by
    have hob:=h.sim.obj id _ ho
    simp only[ObjOK] at hob ⊢
    obtain⟨q1,q2,q3⟩:=hob
    refine⟨fun hh=>(by cases hh),q2,?_⟩
    rcases q3 with⟨h1,h0⟩|⟨b,cap,arr,r1,r2,r3,r4,r5,r6⟩
    ·exact .inl ⟨by rw[List.getElem?_set_self hidσ,←List.getElem?_eq_getElem hidσ];exact h1,h0⟩
    ·refine .inr ⟨b,cap,arr,?_,r2,r3,r4,r5,fun j c hj=>?_⟩
     ·rw[List.getElem?_set_self hidσ,←List.getElem?_eq_getElem hidσ];exact r1
     ·obtain⟨v,hv,hr⟩:=r6 j c hj
      exact⟨v,hv,hr.ext hE⟩)
  exact⟨_,m1,fun s=>(h.env s).ext m2,h.size,h.defers,h.ext.trans m2⟩
 ·exact⟨σ,h⟩
theorem Sim.own1 {nt:Nat} {w0:World} {σ0:Sig} {o0:Store} {st:St} {a:Act} (h:Sim A nt w0 σ0 o0 st a w σ) (x:OwnH):∃σ',Sim A nt w0 σ0 o0 (ownH1 x st) a w σ':=by
 obtain⟨σ1,k1,k2,k3⟩:=h.sim.fresh x.e x.sz x.pu
 have hnew:(st.o++[AObj.cells [] x.e x.sz x.pu])[st.o.length]?=some (.cells [] x.e x.sz x.pu):=by simp
 unfold ownH1
 split
 ·split
  ·rename_i hs
   refine⟨σ1,k1,fun s=>?_,h.size,h.defers,h.ext.trans k2⟩
   simp only[getE]
   cases hq:Nat.beq x.slot s with
   |true=>
    have:=Nat.eq_of_beq_eq_true hq
    subst this
    have:=h.env x.slot
    rw[hs] at this
    rw[rep_sc this]
    exact rep_fresh hnew k3
   |false=>exact(h.env s).ext k2
  ·split
   ·exact h.unp _
   ·exact⟨σ,h⟩
  ·exact⟨σ,h⟩
 ·rename_i k _
  split
  ·rename_i id off tot hs
   split
   ·rename_i cs e sz pu ho
    split
    ·rename_i hc
     split
     ·rename_i hcond
      obtain⟨htot,rfl⟩:=hcond
      have hid:id<st.o.length:=(List.getElem?_eq_some_iff.1 ho).1
      have hidσ:id<σ1.length:=by rw[k1.len];simp;omega
      have ho1:(st.o++[AObj.cells [] x.e x.sz x.pu])[id]?=some (.cells cs e sz false):=by rw[List.getElem?_append_left hid];exact ho
      have hkl:off+k<cs.length:=(List.getElem?_eq_some_iff.1 hc).1
      obtain⟨m1,m2⟩:=k1.upd (w':=w) (x':=.cells (cs.set (off+k) (.os st.o.length 0 0 0)) e sz false) (s':=σ1[id]) ho1 (Nat.le_refl _) rfl rfl rfl (fun _ _ _=>rfl)
       (fun b c hs=> .inl ⟨c,by rw[List.getElem?_eq_getElem hidσ,hs]⟩) ⟨_,e,false,rfl,by simp,fun _=>List.getElem?_eq_getElem hidσ⟩ (fun hE=>by
        have hob:=k1.obj id _ ho1
        simp only[ObjOK] at hob ⊢
        obtain⟨q1,q2,q3⟩:=hob
        refine⟨fun h=>(by cases h),?_,?_⟩
        ·refine oneL_of.2 fun c hc2=>?_
         rcases List.mem_or_eq_of_mem_set hc2 with h1|h1
         ·exact oneL_of.1 q2 c h1
         ·subst h1;rfl
        ·rcases q3 with⟨_,h0⟩|⟨b,cap,arr,r1,r2,r3,r4,r5,r6⟩
         ·subst h0;simp at hkl
         ·refine .inr ⟨b,cap,arr,?_,r2,r3,r4,by simpa using r5,fun j c hj=>?_⟩
          ·rw[List.getElem?_set_self hidσ,←List.getElem?_eq_getElem hidσ];exact r1
          ·rw[List.getElem?_set] at hj
           split at hj
           ·rename_i hjk
            subst hjk
            injection hj with hj;subst hj
            obtain⟨v,hv,hr⟩:=r6 _ _ hc
            refine⟨v,hv,?_⟩
            rw[rep_sc hr]
            exact(rep_fresh hnew k3).ext hE
           ·obtain⟨v,hv,hr⟩:=r6 j c hj
            exact⟨v,hv,hr.ext hE⟩)
      have hset:(st.o++[AObj.cells [] x.e x.sz x.pu]).set id (.cells (cs.set (off+k) (.os st.o.length 0 0 0)) e sz false)=(st.o.set id (.cells (cs.set (off+k) (.os st.o.length 0 0 0)) e sz false))++[AObj.cells [] x.e x.sz x.pu]:=by
       rw[List.set_append_left _ _ hid]
      rw[hset] at m1 m2
      exact⟨_,m1,fun s=>((h.env s).ext k2).ext m2,h.size,h.defers,(h.ext.trans k2).trans m2⟩
     ·exact⟨σ,h⟩
    ·exact⟨σ,h⟩
   ·exact⟨σ,h⟩
  ·exact⟨σ,h⟩
theorem Sim.pur {nt:Nat} {w0:World} {σ0:Sig} {o0:Store} {st:St} {a:Act} (h:Sim A nt w0 σ0 o0 st a w σ) (id:Nat):∃σ',Sim A nt w0 σ0 o0 (purH id st) a w σ':=by
 unfold purH
 split
 ·rename_i cs e sz ho
  split
  ·rename_i hp
   have hid:id<st.o.length:=(List.getElem?_eq_some_iff.1 ho).1
   have hidσ:id<σ.length:=by rw[h.sim.len];exact hid
   obtain⟨m1,m2⟩:=h.sim.upd (w':=w) (x':=.cells cs e sz true) (s':=σ[id]) ho (Nat.le_refl _) rfl rfl rfl (fun _ _ _=>rfl)
    (fun b c hs=> .inl ⟨c,by rw[List.getElem?_eq_getElem hidσ,hs]⟩) ⟨_,e,true,rfl,by simp,fun _=>List.getElem?_eq_getElem hidσ⟩ (fun hE=>by
     have hob:=h.sim.obj id _ ho
     simp only[ObjOK] at hob ⊢
     obtain⟨q1,q2,q3⟩:=hob
     refine⟨fun _=>hp,q2,?_⟩
     rcases q3 with⟨h1,h0⟩|⟨b,cap,arr,r1,r2,r3,r4,r5,r6⟩
     ·exact .inl ⟨by rw[List.getElem?_set_self hidσ,←List.getElem?_eq_getElem hidσ];exact h1,h0⟩
     ·refine .inr ⟨b,cap,arr,?_,r2,r3,r4,r5,fun j c hj=>?_⟩
      ·rw[List.getElem?_set_self hidσ,←List.getElem?_eq_getElem hidσ];exact r1
      ·obtain⟨v,hv,hr⟩:=r6 j c hj
       exact⟨v,hv,hr.ext hE⟩)
   exact⟨_,m1,fun s=>(h.env s).ext m2,h.size,h.defers,h.ext.trans m2⟩
  ·exact⟨σ,h⟩
 ·exact⟨σ,h⟩
theorem Sim.hint {nt:Nat} {w0:World} {σ0:Sig} {o0:Store} {st:St} {a:Act} {lo:Nat} (hlo:o0.length≤lo) (h:Sim A nt w0 σ0 o0 st a w σ) (x:OwnH):∃σ',Sim A nt w0 σ0 o0 (ownH lo x st) a w σ':=by
 unfold ownH
 split
 ·exact h.own1 x
 ·split
  ·rename_i id _ _ _ _
   split
   ·rename_i hb
    have hid:=Nat.le_of_ble_eq_true hb
    obtain⟨σ2,h⟩:=h.pur id
    unfold frzH
    simp only
    split
    ·rename_i env o1 he ho
     have hF:=frz_of ho
     exact⟨_,h.sim.frz hF,fun s=>Rep.frz h.sim hF _ _ _ (frzE_get he s) (h.env s),h.size,h.defers,h.ext.frz hF fun i hi=>by
      simp only[beq_eq_false_iff_ne];omega⟩
    ·exact⟨σ2,h⟩
   ·exact⟨σ,h⟩
  ·exact⟨σ,h⟩
theorem finish_sound {w0:World} {σ0:Sig} {o0:Store} (hS:SimO A w σ o) (hE:Ext w0 σ0 o0 w σ o) {r0 r:AV} {u:Value} (hr:Rep A w σ o r0 u) {own:Bool} (hf:finish own o0.length r0 o=some (r,o')):
  ∃σ',SimO A w σ' o'∧Rep A w σ' o' r u∧Ext w0 σ0 o0 w σ' o':=by
 unfold finish at hf
 cases own with
 |true=>exact finishOwn_sound hS hE hr hf
 |false=>
  simp only[Bool.false_eq_true,if_false] at hf
  split at hf
  ·rename_i hk
   split at hf
   ·rename_i r' hfr
    simp only[Option.some.injEq,Prod.mk.injEq] at hf
    obtain⟨rfl,rfl⟩:=hf
    have h0:o0=[]:=List.eq_nil_of_length_eq_zero hk
    subst h0
    refine⟨[],simO_nil w hS.avb,freeze_rep hS (fun b _ hf=>hf.2) 6 r0 r' u hfr (fun id _ b c hσ=>hS.av id b c hσ) hr,hE.size,fun b hb hn=>⟨(hE.blk b hb hn).1,fun⟨i,c,hi⟩=>by simp at hi⟩,Nat.le_refl _,fun id tot ha=>?_,fun id ha=>?_,hE.os,hE.tape,hE.output⟩
    ·obtain⟨cs,e,sz,pu,ho,_⟩:=ha;simp at ho
    ·obtain⟨es,kt,pu,ho⟩:=ha;simp at ho
   ·cases hf
  ·cases hf
end
open Go.RowKit
mutual
theorem pure_noY:∀(c:AV),c.pure=true→c.noY=true
 | .sc _,_=>by simp[AV.noY]
 | .sl _ _,_=>by simp[AV.noY]
 | .ud,h| .agg _,h| .tup _,h| .ep _ _,h| .ptr _ _ _,h| .os _ _ _ _,h| .mp _,h| .fn _ _ _,h=>by simp[AV.pure] at h
theorem pureL_noY:∀(cs:List AV),pureL cs=true→noYL cs=true
 |[],_=>by simp[noYL]
 |c::cs,h=>by
  simp only[pureL,Bool.and_eq_true] at h
  simp only[noYL,Bool.and_eq_true]
  exact⟨pure_noY c h.1,pureL_noY cs h.2⟩
end
theorem noYL_mem:∀{cs:List AV},noYL cs=true→∀c∈cs,c.noY=true
 |[],_,c,hc=>by simp at hc
 |x::cs,h,c,hc=>by
  simp only[noYL,Bool.and_eq_true] at h
  rcases List.mem_cons.1 hc with rfl|hc
  ·exact h.1
  ·exact noYL_mem h.2 c hc
section
variable {A A':Clr} {w w':World} {σ:Sig} {o:Store}
mutual
theorem Rep.to (hc:∀(p:Addr) (v:Value),w.cell? p=some v→w'.cell? p=some v) (hp:∀b,Fr A σ b→Fr A' σ b):
  ∀(c:AV) (v:Value),(A'.l=A.l∨c.noY=true)→Rep A w σ o c v→Rep A' w' σ o c v
 | .ud,_,_,_=>by simp[Rep]
 | .sc u,v,_,hr=>by simpa[Rep] using hr
 | .agg cs,v,hy,hr=>by
  simp only[Rep,AV.noY] at hr hy ⊢
  obtain⟨vs,rfl,hl⟩:=hr
  exact⟨vs,rfl,RepL.to hc hp cs _ hy hl⟩
 | .tup cs,v,hy,hr=>by
  simp only[Rep,AV.noY] at hr hy ⊢
  obtain⟨vs,rfl,hl⟩:=hr
  exact⟨vs,rfl,RepL.to hc hp cs _ hy hl⟩
 | .sl n cs,v,_,hr=>by
  simp only[Rep] at hr ⊢
  obtain⟨a,cap,rfl,hn,hq,hm⟩:=hr
  exact⟨a,cap,rfl,hn,hq,RepM.to hc hp cs a 0 hq hm⟩
 | .ep cs off,v,_,hr=>by
  simp only[Rep] at hr ⊢
  obtain⟨a,rfl,hq,hm⟩:=hr
  exact⟨a,rfl,hq,RepM.to hc hp cs _ 0 hq hm⟩
 | .ptr id off tot,v,_,hr=>by simpa only[Rep] using hr
 | .os id off len tot,v,_,hr=>by simpa only[Rep] using hr
 | .mp id,v,_,hr=>by simpa only[Rep] using hr
 | .fn f a b,v,hy,hr=>by
  simp only[Rep] at hr ⊢
  obtain⟨a',b',rfl,ha,hb⟩:=hr
  have hf:fnL A'.l f=fnL A.l f∧(A'.l=A.l∨(noYL a=true∧noYL b=true)):=by
   rcases hy with hy|hy
   ·exact⟨by rw[hy],.inl hy⟩
   ·cases f<;>simp only[AV.noY,Bool.and_eq_true,Bool.false_eq_true] at hy<;>first|exact⟨rfl,.inr hy⟩|exact hy.elim
  exact⟨a',b',by rw[hf.1],RepL.to hc hp a _ (hf.2.imp id And.left) ha,RepL.to hc hp b _ (hf.2.imp id And.right) hb⟩
theorem RepL.to (hc:∀(p:Addr) (v:Value),w.cell? p=some v→w'.cell? p=some v) (hp:∀b,Fr A σ b→Fr A' σ b):
  ∀(cs:List AV) (vs:List Value),(A'.l=A.l∨noYL cs=true)→RepL A w σ o cs vs→RepL A' w' σ o cs vs
 |[],_,_,h=>by simpa[RepL] using h
 |c::cs,vs,hy,h=>by
  simp only[RepL,noYL,Bool.and_eq_true] at h hy ⊢
  obtain⟨v,r,rfl,hv,hl⟩:=h
  exact⟨v,r,rfl,Rep.to hc hp c v (hy.imp id And.left) hv,RepL.to hc hp cs r (hy.imp id And.right) hl⟩
theorem RepM.to (hc:∀(p:Addr) (v:Value),w.cell? p=some v→w'.cell? p=some v) (hp:∀b,Fr A σ b→Fr A' σ b):
  ∀(cs:List AV) (a:Option Addr) (j:Nat),pureL cs=true→RepM A w σ o cs a j→RepM A' w' σ o cs a j
 |[],_,_,_,_=>by simp[RepM]
 |c::cs,a,j,hq,h=>by
  simp only[RepM] at h ⊢
  simp only[pureL,Bool.and_eq_true] at hq
  obtain⟨⟨b,v,rfl,hf,hv,hr⟩,hl⟩:=h
  exact⟨⟨b,v,rfl,hp _ hf,hc _ _ hv,Rep.to hc hp c v (.inr (pure_noY c hq.1)) hr⟩,RepM.to hc hp cs _ (j+1) hq.2 hl⟩
end
theorem ObjOK.to (hc:∀(p:Addr) (v:Value),w.cell? p=some v→w'.cell? p=some v) (hp:∀b,Fr A σ b→Fr A' σ b) (hb:∀(i b c:Nat),σ[i]?=some (some (b,c))→w'.heap[b]?=w.heap[b]?)
  {i:Nat} {x:AObj} (hy:A'.l=A.l∨x.noY=true) (h:ObjOK A w σ o i x):ObjOK A' w' σ o i x:=by
 cases x with
 |dead=>simpa only[ObjOK] using h
 |cells cs e sz pu=>
  simp only[ObjOK] at h ⊢
  have hcs:∀c∈cs,A'.l=A.l∨c.noY=true:=fun c hcm=>by
   rcases hy with hy|hy
   ·exact .inl hy
   ·simp only[AObj.noY,Bool.or_eq_true] at hy
    rcases hy with hy|hy
    ·exact .inr (noYL_mem (pureL_noY cs (h.1 hy)) c hcm)
    ·exact .inr (noYL_mem hy c hcm)
  refine⟨h.1,h.2.1,?_⟩
  rcases h.2.2 with h0|⟨b,cap,arr,h1,h2,h3,h4,h5,h6⟩
  ·exact .inl h0
  ·refine .inr ⟨b,cap,arr,h1,h2,by rw[hb i b cap h1];exact h3,h4,h5,fun j c hj=>?_⟩
   obtain⟨v,hv,hr⟩:=h6 j c hj
   exact⟨v,hv,hr.to hc hp c v (hcs c (List.mem_of_getElem? hj))⟩
 |map es kt pu=>
  simp only[ObjOK] at h ⊢
  obtain⟨h0,h00,b,c,en,cl,h1,h2,h3,h4⟩:=h
  refine⟨h0,h00,b,c,en,cl,h1,by rw[hb i b c h1];exact h2,h3,fun j e hj=>?_⟩
  obtain⟨m,hm,hk,hr⟩:=h4 j e hj
  refine⟨m,hm,hk,hr.to hc hp e.2 _ ?_⟩
  rcases hy with hy|hy
  ·exact .inl hy
  ·simp only[AObj.noY,Bool.or_eq_true] at hy
   rcases hy with hy|hy
   ·exact .inr (pure_noY _ (h0 hy e (List.mem_of_getElem? hj)))
   ·exact .inr (noYL_mem hy _ (List.mem_map_of_mem (List.mem_of_getElem? hj)))
theorem SimO.to (hS:SimO A w σ o) (hc:∀(p:Addr) (v:Value),w.cell? p=some v→w'.cell? p=some v) (hb:∀(i b c:Nat),σ[i]?=some (some (b,c))→w'.heap[b]?=w.heap[b]?)
  (hsz:w.heap.size≤w'.heap.size) (hpp:A'.p=A.p) (hy:A'.l=A.l∨o.all AObj.noY=true):SimO A' w' σ o:=by
 have hp:∀b,Fr A σ b→Fr A' σ b:=fun b h=>⟨h.1,by have:=h.2;show ¬A'.p b;rw[hpp];exact this⟩
 refine⟨hS.len,hS.dist,fun i b c h=>Nat.lt_of_lt_of_le (hS.bnd i b c h) hsz,fun i x hx=>(hS.obj i x hx).to hc hp hb ?_,fun i b c h=>by have:=hS.av i b c h;show ¬A'.p b;rw[hpp];exact this,
  fun b h=>Nat.lt_of_lt_of_le (hS.avb b (by have h:A'.p b:=h;rw[hpp] at h;exact h)) hsz⟩
 rcases hy with hy|hy
 ·exact .inl hy
 ·exact .inr (List.all_eq_true.1 hy x (List.mem_of_getElem? hx))
theorem putObj_ne {r b:Nat} {y:Obj} (h:b≠r):(w.putObj r y).heap[b]?=w.heap[b]?:=by
 simp only[World.putObj]
 exact Array.getElem?_setIfInBounds_ne (Ne.symm h)
theorem putObj_size {r:Nat} {y:Obj}:(w.putObj r y).heap.size=w.heap.size:=by simp[World.putObj]
theorem putObj_cell {r:Nat} {x y:Obj} (h:w.heap[r]?=some x) (hx:x.isCells=false) (p:Addr) (v:Value) (hv:w.cell? p=some v):(w.putObj r y).cell? p=some v:=by
 obtain⟨z,hz,hzc⟩:=cells_of_cell hv
 have hne:p.block≠r:=fun e=>by rw[e,h] at hz;injection hz with hz;subst hz;rw[hx] at hzc;cases hzc
 exact(World.cell?_of_block (putObj_ne hne)).trans hv
theorem SimO.putB (hS:SimO A w σ o) {r:Nat} {x y:Obj} (h:w.heap[r]?=some x) (hx:x.isCells=false) (hn:¬Own σ r):SimO A (w.putObj r y) σ o:=
 hS.to (putObj_cell h hx) (fun i b c hi=>putObj_ne fun e=>hn ⟨i,c,e▸hi⟩) (by rw[putObj_size];exact Nat.le_refl _) rfl (.inl rfl)
theorem Rep.putB {c:AV} {v:Value} (hr:Rep A w σ o c v) {r:Nat} {x y:Obj} (h:w.heap[r]?=some x) (hx:x.isCells=false):Rep A (w.putObj r y) σ o c v:=
 hr.to (putObj_cell h hx) (fun _ h=>h) c v (.inl rfl)
theorem Ext.putB {w0:World} {σ0:Sig} {o0:Store} (h:Ext w0 σ0 o0 w σ o) {r:Nat} {y:Obj} (hr:w0.heap.size≤r):Ext w0 σ0 o0 (w.putObj r y) σ o where
 size:=by rw[putObj_size];exact h.size
 blk:=fun b hb hn=>by
  obtain⟨h1,h2⟩:=h.blk b hb hn
  exact⟨by rw[putObj_ne (by omega)];exact h1,h2⟩
 len:=h.len
 cur:=h.cur
 isMap:=h.isMap
 os:=h.os
 tape:=h.tape
 output:=h.output
theorem Ext.alloc (w:World) (σ:Sig) (o:Store) (hS:SimO A w σ o) (x:Obj):Ext w σ o (w.alloc x) σ o where
 size:=by rw[World.size_alloc];omega
 blk:=fun b hb hn=>⟨Below.heap_alloc _ _ _ hb,hn⟩
 len:=Nat.le_refl _
 cur:=fun _ _ h=>⟨h,fun _ h=>⟨h,rfl⟩⟩
 isMap:=fun _ h=>⟨h,rfl⟩
 os:=rfl
 tape:=rfl
 output:=rfl
theorem SimO.alloc (hS:SimO A w σ o) (x:Obj):SimO A (w.alloc x) σ o:=
 have hE:=Ext.alloc w σ o hS x
 hS.to (fun p v hv=>by
  obtain⟨z,hz,_⟩:=cells_of_cell hv
  exact(World.cell?_of_block (Below.heap_alloc _ _ _ (Array.getElem?_eq_some_iff.1 hz).1)).trans hv) (fun i b c hi=>Below.heap_alloc _ _ _ (hS.bnd i b c hi)) hE.size rfl (.inl rfl)
theorem leaves_marks {P:Program} {fn:Func} {tmps:Array Value} {w0:World} {R:Ending→World→Prop}:∀(ds:List Deferred) (w:World),MkD w0 w ds→SimO A w σ o→
  (∀w',SimO A w' σ o→(∀{σ0:Sig} {o0:Store},Ext w0 σ0 o0 w σ o→Ext w0 σ0 o0 w' σ o)→(∀s v,Rep A w σ o s v→Rep A w' σ o s v)→∃v,(results fn tmps).run P w'= .ok v w'∧R (.returned v) w')→
  LeavesInM (FR none) 0 P fn tmps R ds .returning w
 |[],w,_,hS,hk=>by
  simp only[LeavesInM,LeavesIn]
  exact hk w hS (fun h=>h) (fun _ _ h=>h)
 |d::ds,w,hM,hS,hk=>by
  obtain⟨r,hd,hr0,hh⟩:=hM.2 d (by simp)
  have hn:=hS.notOwn hh (by simp) (by simp)
  simp only[LeavesInM]
  refine⟨by simp,.inl ⟨r,w.putObj r (.deferred none),by rw[hd],run_takeDeferred hh,?_⟩⟩
  refine leaves_marks ds _ ⟨(List.pairwise_cons.1 hM.1).2,fun e he=>?_⟩ (hS.putB hh rfl hn) fun w' q1 q3 q4=>hk w' q1 (fun h=>q3 (h.putB hr0)) (fun s v h=>q4 s v (h.putB hh rfl))
  obtain⟨r',he',hr0',hh'⟩:=hM.2 e (List.mem_cons_of_mem _ he)
  refine⟨r',he',hr0',?_⟩
  have:=(List.pairwise_cons.1 hM.1).1 e he
  rw[putObj_ne]
  ·exact hh'
  ·rintro rfl
   exact this (by rw[hd,he'])
end
open Go.RowKit
def Out.toExit:Out→Exit
 | .norm=> .normal
 | .exit id=> .exit id
 | .ret=> .ret
 | .goto l=> .goto l
section
variable {P:Program} {A:Clr} {w w':World} {σ σ':Sig} {o o':Store}
theorem getE_prune (live:List Nat) (env:EnvA) (s:Nat):getE (prune live env) s=getE env s∨getE (prune live env) s= .ud:=by
 unfold prune
 induction live with
 |nil=>right;rfl
 |cons x live ih=>
  simp only[List.map_cons,getE]
  cases hq:Nat.beq x s with
  |true=>left;have:=Nat.eq_of_beq_eq_true hq;subst this;rfl
  |false=>exact ih
theorem getE_dropL (t:Nat) (env:EnvA) (s:Nat):getE (dropL t env) s=getE env s∨getE (dropL t env) s= .ud:=by
 induction env with
 |nil=>left;rfl
 |cons p env ih=>
  simp only[dropL]
  cases hq:Nat.beq p.1 t with
  |true=>
   simp only[cond_true]
   by_cases hs:p.1=s
   ·have ht:=Nat.eq_of_beq_eq_true hq
    right
    have:∀env:EnvA,getE (dropL t env) t= .ud:=by
     intro env
     induction env with
     |nil=>rfl
     |cons q env ih=>
      simp only[dropL]
      cases hq2:Nat.beq q.1 t with
      |true=>simpa using ih
      |false=>simp only[cond_false,getE,hq2];exact ih
    rw[←hs,ht]
    exact this env
   ·have:getE (p::env) s=getE env s:=by
     simp only[getE]
     have:Nat.beq p.1 s=false:=by
      cases h:Nat.beq p.1 s with
      |true=>exact absurd (Nat.eq_of_beq_eq_true h) hs
      |false=>rfl
     rw[this];rfl
    rw[this]
    exact ih
  |false=>
   simp only[cond_false,getE]
   cases Nat.beq p.1 s with
   |true=>left;rfl
   |false=>exact ih
theorem Sim.drop {nt:Nat} {w0:World} {σ0:Sig} {o0:Store} {st:St} {a:Act} (h:Sim A nt w0 σ0 o0 st a w σ) (x:Operand):Sim A nt w0 σ0 o0 ⟨dropE x st.env,st.o⟩ a w σ where
 sim:=h.sim
 env:=fun s=>by
  unfold dropE
  split
  ·rename_i t
   rcases getE_dropL t st.env s with h1|h1
   ·simp only[h1];exact h.env s
   ·simp only[h1];simp[Rep]
  ·exact h.env s
 size:=h.size
 defers:=h.defers
 ext:=h.ext
theorem Sim.prune {nt:Nat} {w0:World} {σ0:Sig} {o0:Store} {st:St} {a:Act} (h:Sim A nt w0 σ0 o0 st a w σ) (live:List Nat):Sim A nt w0 σ0 o0 ⟨Go.Vi.prune live st.env,st.o⟩ a w σ where
 sim:=h.sim
 env:=fun s=>by
  rcases getE_prune live st.env s with h1|h1
  ·simp only[h1];exact h.env s
  ·simp only[h1];simp[Rep]
 size:=h.size
 defers:=h.defers
 ext:=h.ext
theorem getE_mem {env:EnvA} {s:Nat}:getE env s= .ud∨∃p∈env,p.2=getE env s:=by
 induction env with
 |nil=>left;rfl
 |cons p env ih=>
  obtain⟨k,v⟩:=p
  simp only[getE]
  cases hq:Nat.beq k s with
  |true=>right;exact⟨(k,v),by simp,by simp⟩
  |false=>
   rcases ih with ih|⟨p,hp,h2⟩
   ·exact .inl ih
   ·exact .inr ⟨p,by simp[hp],h2⟩
theorem trim_le (k:Nat) (st:St) (h:k≤st.o.length):k≤(trim k st).o.length:=by
 unfold trim
 split
 ·exact h
 ·split
  ·simp;omega
  ·exact h
theorem Sim.trim {nt:Nat} {w0:World} {σ0:Sig} {o0:Store} {st:St} {a:Act} (h:Sim A nt w0 σ0 o0 st a w σ) {k:Nat} (hk:o0.length≤k):∃σ',Sim A nt w0 σ0 o0 (Go.Vi.trim k st) a w σ':=by
 unfold Go.Vi.trim
 split
 ·exact⟨σ,h⟩
 ·split
  ·rename_i hc
   simp only[Bool.and_eq_true,List.all_eq_true] at hc
   refine⟨σ.take k,⟨h.sim.take hc.2,fun s=>?_,h.size,h.defers,h.ext.take hk⟩⟩
   have hr:=h.env s
   simp only
   rcases getE_mem (env:=st.env) (s:=s) with h1|⟨p,hp,h1⟩
   ·rw[h1];simp[Rep]
   ·refine Rep.take hr ?_
    rw[←h1];exact hc.1 p hp
  ·exact⟨σ,h⟩
theorem Sim.deads {nt:Nat} {w0:World} {σ0:Sig} {o0:Store} {st:St} {a:Act} (h:Sim A nt w0 σ0 o0 st a w σ) (n:Nat):∃σ',Sim A nt w0 σ0 o0 ⟨st.env,st.o++Go.Vi.deads n⟩ a w σ':=by
 obtain⟨h1,h2⟩:=h.sim.deads n
 exact⟨_,h1,fun s=>(h.env s).ext h2,h.size,h.defers,h.ext.trans h2⟩
theorem Sim.sweep {nt:Nat} {w0:World} {σ0:Sig} {o0:Store} {st:St} {a:Act} (h:Sim A nt w0 σ0 o0 st a w σ) {k:Nat} (hk:o0.length≤k):∃σ',Sim A nt w0 σ0 o0 ⟨st.env,Go.Vi.sweep k st.o⟩ a w σ':=by
 obtain⟨σ',h1,h2,h3⟩:=sweep_sim h.sim k
 exact⟨σ',h1,fun s=>h2 _ _ (h.env s),h.size,h.defers,h3 _ _ _ hk h.ext⟩
theorem Sim.len {nt:Nat} {w0:World} {σ0:Sig} {o0:Store} {st:St} {a:Act} (h:Sim A nt w0 σ0 o0 st a w σ):o0.length≤st.o.length:=h.ext.len
theorem Sim.hints {nt:Nat} {w0:World} {σ0:Sig} {o0:Store} {lo:Nat} (hlo:o0.length≤lo) (l:List OwnH):∀{st:St} {a:Act} {σ:Sig},Sim A nt w0 σ0 o0 st a w σ→∃σ',Sim A nt w0 σ0 o0 (l.foldl (fun s h=>ownH lo h s) st) a w σ':=by
 induction l with
 |nil=>intro st a σ h;exact⟨σ,h⟩
 |cons x l ih=>
  intro st a σ h
  obtain⟨σ1,h1⟩:=Sim.hint hlo h x
  exact ih h1
theorem region_wp {rnd:Option Nat} {call:Oracle} (hcall:OracleOK P call) {lo nt:Nat} {H:List RH} {id:Nat} {ops:Array Oper} {draw:Bool} {c:IR} (hc:compReg P nt H id ops draw=some c):
  ∃k l chk live pre post,c= .region id draw k l chk live pre post∧∀{st st':St},runReg call k l chk (pre.foldl (fun s h=>ownH lo h s) st)=some st'→∀{w0:World} {σ0:Sig} {o0:Store} {a:Act} {w:World} {σ:Sig},o0.length≤lo→Sim A nt w0 σ0 o0 st a w σ→
   (Code.region id ops draw).wpIn (FR rnd) 0 P (fun e a' w'=>e= .normal∧∃σ',Sim A nt w0 σ0 o0 (post.foldl (fun s h=>ownH lo h s) ⟨Go.Vi.prune live st'.env,st'.o⟩) a' w' σ') a w:=by
 unfold compReg at hc
 split at hc
 ·cases hc
 ·rename_i h hh
  have fin:∀(k:Nat) (l:List IOper) (chk:List (Nat×Nat)),(∀{st1 st2:St},runOps call st1.o.length l ⟨st1.env,st1.o++deads k⟩=some st2→(chk.isEmpty||chkOk (st1.o++deads k).length (traceOps call st1.o.length l ⟨st1.env,st1.o++deads k⟩) chk)=true→
     ∀{w0:World} {σ0:Sig} {o0:Store} {a:Act} {w:World} {σ:Sig} {Q:Exit→Act→World→Prop},Sim A nt w0 σ0 o0 ⟨st1.env,st1.o++deads k⟩ a w σ→(∀a' w' σ',Sim A nt w0 σ0 o0 st2 a' w' σ'→Q .normal a' w')→(Code.region id ops draw).wpIn (FR rnd) 0 P Q a w)→
    ∀{st st':St},runReg call k l chk (h.pre.foldl (fun s h=>ownH lo h s) st)=some st'→∀{w0:World} {σ0:Sig} {o0:Store} {a:Act} {w:World} {σ:Sig},o0.length≤lo→Sim A nt w0 σ0 o0 st a w σ→
     (Code.region id ops draw).wpIn (FR rnd) 0 P (fun e a' w'=>e= .normal∧∃σ',Sim A nt w0 σ0 o0 (h.post.foldl (fun s h=>ownH lo h s) ⟨Go.Vi.prune h.live st'.env,st'.o⟩) a' w' σ') a w:=by
   intro k l chk hrun st st' hr w0 σ0 o0 a w σ hlo hs
   obtain⟨σ1,hs1⟩:=Sim.hints hlo h.pre hs
   generalize hst1:h.pre.foldl (fun s h=>ownH lo h s) st=st1 at hr hs1
   unfold runReg at hr
   simp only at hr
   split at hr
   ·rename_i st2 h2
    split at hr
    ·rename_i hchk
     injection hr with hr
     obtain⟨σ2,hs2⟩:=hs1.deads k
     refine hrun h2 hchk hs2 fun a' w' σ' h3=>⟨rfl,?_⟩
     have h4:∃σ4,Sim A nt w0 σ0 o0 st' a' w' σ4:=by
      subst hr
      by_cases hk:k=0
      ·simp only[hk,if_true];exact⟨σ',h3⟩
      ·simp only[hk,if_false];exact h3.sweep hs1.len
     obtain⟨σ4,h4⟩:=h4
     exact Sim.hints hlo h.post (h4.prune h.live)
    ·cases hr
   ·cases hr
  cases draw with
  |false=>
   simp only[Bool.false_eq_true,if_false] at hc
   obtain⟨⟨l,k⟩,hl,rfl⟩:=Option.map_eq_some_iff.1 hc
   refine⟨k,l,[],h.live,h.pre,h.post,rfl,fin k l [] fun {st1 st2} h2 _ w0 σ0 o0 a w σ Q hs hQ=>?_⟩
   obtain⟨g1,g2⟩:=compOpers_get hl
   exact wpIn_region (runOps_wp hcall l (List.range ops.size) g1 g2 _ _ a w σ h2 hs hQ)
  |true=>
   simp only[if_true] at hc
   generalize (if h.perm.isEmpty=true then List.range ops.size else h.perm)=perm at hc
   split at hc
   ·rename_i l k hl
    split at hc
    ·rename_i hcond
     injection hc with hc
     refine⟨k,l,pairsOf (ancs ops) l,h.live,h.pre,h.post,hc.symm,fin k l _ fun {st1 st2} h2 hchk w0 σ0 o0 a w σ Q hs hQ=>?_⟩
     simp only[Bool.and_eq_true,beq_iff_eq] at hcond
     exact draw_wp hcall hl hcond.1.1.1.1.1 hcond.1.1.1.1.2 hcond.1.1.1.2 hcond.1.1.2 hcond.1.2 hcond.2 h2 hchk hs hQ
    ·cases hc
   ·cases hc
def YieldO (P:Program) (B:Clr→World→Sig→Store→Prop) (vs:List AV) (o:Store) (r:AV) (o':Store):Prop:=
 ∀(A:Clr) (w:World) (σ:Sig) (us:List Value),SimO A w σ o→B A w σ o→RepL A w σ o vs us→
  YieldAt Fence.wide 0 P A.l us.toArray w fun e w'=>∃u σ',e= .returned u∧SimO A w' σ' o'∧Rep A w' σ' o' r u∧Ext w σ o w' σ' o'
def MdOK (P:Program) (rnd:Option Nat) (B:Clr→World→Sig→Store→Prop):Md→Prop
 | .plain=>rnd=none
 | .round=>True
 | .iter y=>rnd=none∧∀vs o r o',y vs o=some (r,o')→YieldO P B vs o r o'
def Closed (B:Clr→World→Sig→Store→Prop):Prop:=∀A w σ o w' σ' o',B A w σ o→Ext w σ o w' σ' o'→B A w' σ' o'
theorem runOpY_wp {call:Oracle} (hcall:OracleOK P call) {y:YO} {B:Clr→World→Sig→Store→Prop} (hy:∀vs o r o',y vs o=some (r,o')→YieldO P B vs o r o') (hB:Closed B)
  {nt:Nat} {fl:List Nat} {ops:Array Oper} {nid k:Nat} {i:IOper} (hc:compOper P nt fl ops nid k=some i) {base:Nat} {st st':St} (hr:runOpY call y base i st=some st')
  {w0:World} {σ0:Sig} {o0:Store} {a:Act} (hB0:B A w0 σ0 o0) (h:Sim A nt w0 σ0 o0 st a w σ) {K:Act→World→Prop} {Q:Exit→Act→World→Prop} (hk:∀a' w' σ',Sim A nt w0 σ0 o0 st' a' w' σ'→K a' w'):wpOpIn (FR none) 0 P ops Q k K a w:=by
 unfold runOpY at hr
 split at hr
 ·rename_i x args own hop
  split at hr
  ·rename_i l hx
   have hc0:=hc
   unfold compOper at hc
   cases ho:ops[k]? with
   |none=>simp[ho] at hc
   |some oper=>
    simp only[ho] at hc
    split at hc
    ·rename_i hd
     obtain⟨op,hcop,rfl⟩:=Option.map_eq_some_iff.1 hc
     simp only at hop hr
     subst hop
     unfold wpOpIn
     simp only[ho]
     split at hr
     ·cases hr
     ·rename_i hw
      have:=wanted_of h hw
      rw[this]
      injection hr with hr
      subst hr
      simp only[Bool.false_eq_true,if_false]
      exact⟨fun _ _=>trivial,hk _ _ σ (h.put h.sim (Ext.refl _ _ _) hd (by simp only[Rep];exact⟨#[],rfl,by simp[RepL]⟩))⟩
     ·rename_i hw
      have:=wanted_of h hw
      rw[this]
      simp only[if_true]
      split at hr
      ·rename_i v o' hyo
       injection hr with hr
       subst hr
       obtain⟨c,hopc,hh⟩:=compOp_call hcop rfl
       rcases hh with⟨f,_,hf⟩|⟨x',hcal,hf⟩
       ·cases hf
       ·injection hf with hf1 hf2 hf3
        subst hf1
        subst hf2
        have h1:=h.ev x
        rw[hx] at h1
        simp only[Rep,RepL] at h1
        obtain⟨f',c',hv,hf,hcp⟩:=h1
        have hf0:f'=#[]:=Array.ext' (by simpa using hf)
        have hc0:c'=#[]:=Array.ext' (by simpa using hcp)
        subst hf0
        subst hc0
        obtain⟨fn,tmps,asg,body,hrun,hround⟩:=hy _ _ _ _ hyo A w σ (c.args.toList.map a.eval) h.sim (hB _ _ _ _ _ _ _ hB0 h.ext) (repL_map (fun x=>h.ev x) _)
        have hrun':(Instr.yield A.l (c.args.map a.eval)).run P w= .ok (.round A.l fn tmps asg body) w:=by
         rw[←hrun];congr 2;exact Array.ext' (by simp)
        unfold Oper.wpIn
        rw[show(FR none).round=none from rfl,Oper.semAt_none]
        refine⟨fun _ _=>trivial,?_⟩
        have he:(execOp a.eval oper).run P w= .ok (.round A.l fn tmps asg body) w:=by
         simp only[execOp,hopc,resolve,hcal]
         simp[hv,fnL,Deferred.ofValue,invoke,hrun']
        rw[he,Oper.uponIn_round]
        refine⟨fun h=>by simp[FR,Fence.wide] at h,hround.mono ?_⟩
        rintro e w' ⟨u,σ',rfl,q1,q2,q3⟩
        exact hk _ _ σ' (h.put q1 q3 hd q2)
      ·cases hr
    ·cases hc
  ·exact runOp_wp hcall hc hr h hk
 ·exact runOp_wp hcall hc hr h hk
theorem runOpsY_wp {call:Oracle} (hcall:OracleOK P call) {y:YO} {B:Clr→World→Sig→Store→Prop} (hy:∀vs o r o',y vs o=some (r,o')→YieldO P B vs o r o') (hB:Closed B)
  {nt:Nat} {fl:List Nat} {ops:Array Oper} {base:Nat} {w0:World} {σ0:Sig} {o0:Store} (hB0:B A w0 σ0 o0) {Q:Exit→Act→World→Prop}:
  ∀(l:List IOper) (idx:List Nat),l.length=idx.length→(∀(j:Nat) (i:IOper) (k:Nat),l[j]?=some i→idx[j]?=some k→∃nid,compOper P nt fl ops nid k=some i)→∀(st st':St) (a:Act) (w:World) (σ:Sig),
   runOpsY call y base l st=some st'→Sim A nt w0 σ0 o0 st a w σ→(∀a' w' σ',Sim A nt w0 σ0 o0 st' a' w' σ'→Q .normal a' w')→wpOpsIn (FR none) 0 P ops Q idx a w
 |[],[],_,_,st,st',a,w,σ,hr,h,hQ=>by
  simp only[runOpsY,Option.some.injEq] at hr
  subst hr
  exact hQ a w σ h
 |[],_::_,hl,_,_,_,_,_,_,_,_,_=>by simp at hl
 |_::_,[],hl,_,_,_,_,_,_,_,_,_=>by simp at hl
 |i::l,k::idx,hl,hc,st,st',a,w,σ,hr,h,hQ=>by
  simp only[runOpsY] at hr
  split at hr
  ·rename_i st1 h1
   obtain⟨nid,hci⟩:=hc 0 i k (by simp) (by simp)
   rw[wpOpsIn_cons]
   exact runOpY_wp hcall hy hB hci h1 hB0 h fun a' w' σ' h'=>runOpsY_wp hcall hy hB hB0 l idx (by simpa using hl) (fun j i' k' hi hk=>hc (j+1) i' k' (by simpa using hi) (by simpa using hk)) st1 st' a' w' σ' hr h' hQ
  ·cases hr
theorem region_wpM {call:Oracle} (hcall:OracleOK P call) {rnd:Option Nat} {B:Clr→World→Sig→Store→Prop} {md:Md} (hm:MdOK P rnd B md) (hB:Closed B) {lo nt:Nat} {H:List RH} {id:Nat} {ops:Array Oper} {draw:Bool} {c:IR} (hc:compReg P nt H id ops draw=some c):
  ∃k l chk live pre post,c= .region id draw k l chk live pre post∧∀{st st':St},runRegM md draw call k l chk (pre.foldl (fun s h=>ownH lo h s) st)=some st'→∀{w0:World} {σ0:Sig} {o0:Store} {a:Act} {w:World} {σ:Sig},B A w0 σ0 o0→o0.length≤lo→Sim A nt w0 σ0 o0 st a w σ→
   (Code.region id ops draw).wpIn (FR rnd) 0 P (fun e a' w'=>e= .normal∧∃σ',Sim A nt w0 σ0 o0 (post.foldl (fun s h=>ownH lo h s) ⟨Go.Vi.prune live st'.env,st'.o⟩) a' w' σ') a w:=by
 by_cases hcase:∃y,md= .iter y∧draw=false
 ·obtain⟨y,rfl,rfl⟩:=hcase
  obtain⟨rfl,hy⟩:=hm
  unfold compReg at hc
  split at hc
  ·cases hc
  ·rename_i h hh
   simp only[Bool.false_eq_true,if_false] at hc
   obtain⟨⟨l,k⟩,hl,rfl⟩:=Option.map_eq_some_iff.1 hc
   obtain⟨g1,g2⟩:=compOpers_get hl
   refine⟨k,l,[],h.live,h.pre,h.post,rfl,?_⟩
   intro st st' hr w0 σ0 o0 a w σ hB0 hlo hs
   obtain⟨σ1,hs1⟩:=Sim.hints hlo h.pre hs
   generalize hst1:h.pre.foldl (fun s h=>ownH lo h s) st=st1 at hr hs1
   simp only[runRegM,runRegY] at hr
   split at hr
   ·rename_i st2 h2
    injection hr with hr
    obtain⟨σ2,hs2⟩:=hs1.deads k
    refine wpIn_region (runOpsY_wp hcall hy hB hB0 l (List.range ops.size) g1 g2 _ _ a w σ2 h2 hs2 fun a' w' σ' h3=>⟨rfl,?_⟩)
    have h4:∃σ4,Sim A nt w0 σ0 o0 st' a' w' σ4:=by
     subst hr
     by_cases hk:k=0
     ·simp only[hk,if_true];exact⟨σ',h3⟩
     ·simp only[hk,if_false];exact h3.sweep hs1.len
    obtain⟨σ4,h4⟩:=h4
    exact Sim.hints hlo h.post (h4.prune h.live)
   ·cases hr
 ·obtain⟨k,l,chk,live,pre,post,h1,h2⟩:=region_wp (rnd:=rnd) hcall (A:=A) (lo:=lo) hc
  refine⟨k,l,chk,live,pre,post,h1,?_⟩
  intro st st' hr w0 σ0 o0 a w σ _ hlo hs
  refine h2 ?_ hlo hs
  rw[←hr]
  unfold runRegM
  cases md with
  |plain=>rfl
  |round=>rfl
  |iter y=>cases draw with
   |false=>exact absurd ⟨y,rfl,rfl⟩ hcase
   |true=>rfl
structure TabOK (P:Program) (T:Tab):Prop where
 fn:∀f F,T.fn f=some F→∃fn H,P.funcs[f]?=some fn∧compFn P H fn=some F∧goodF P f=true
 K:∀f args o own r o',T.K f args o own=some (r,o')→goodF P f=true∧CallO P f args o r o'∧(own=false→o'=[])
def ExecOK (P:Program) (T:Tab) (n:Nat):Prop:=
 ∀(rnd:Option Nat) (md:Md) (B:Clr→World→Sig→Store→Prop),MdOK P rnd B md→Closed B→
 ∀(lo:Nat) (c:IR) (st:St) (out:Out) (st':St),exec T md n lo c st=some (out,st')→∀(nt:Nat) (H:List RH) (code:Code),comp P nt H code=some c→∀(A:Clr) (w0:World) (σ0:Sig) (o0:Store) (a:Act) (w:World) (σ:Sig),B A w0 σ0 o0→o0.length≤lo→Sim A nt w0 σ0 o0 st a w σ→
  code.wpIn (FR rnd) 0 P (fun e a' w'=>e=out.toExit∧∃σ',Sim A nt w0 σ0 o0 st' a' w' σ') a w
def anyB:Clr→World→Sig→Store→Prop:=fun _ _ _ _=>True
theorem anyB_closed:Closed anyB:=fun _ _ _ _ _ _ _ _ _=>trivial
theorem getE_bind:∀(k:Nat) (args:List AV) (s:Nat),getE (bindArgs k args) s=if k≤s then(args[s - k]?).getD .ud else .ud
 |k,[],s=>by simp[bindArgs,getE]
 |k,v::vs,s=>by
  simp only[bindArgs,getE]
  by_cases h:k=s
  ·subst h;simp
  ·have hq:Nat.beq k s=false:=by
    cases hq:Nat.beq k s with
    |false=>rfl
    |true=>exact absurd (Nat.eq_of_beq_eq_true hq) h
   simp only[hq,cond_false]
   rw[getE_bind (k+1) vs s]
   by_cases h2:k≤s
   ·rw[if_pos h2,if_pos (by omega),show s - k=(s - (k+1))+1 from by omega];simp
   ·rw[if_neg h2,if_neg (by omega)]
def resF (tmps:Array Value):ResultVar→Sem Value
 | .tmp t=>pure (tmps.getD t undef)
 | .cell x t=>do loadVar t (←asAddr (tmps.getD x undef))
theorem results_eq (fn:Func) (tmps:Array Value):results fn tmps=(do let vs ←fn.results.mapM (resF tmps);pure (if h:vs.size=1 then vs[0] else .tuple vs)):=by
 unfold results
 congr 1
theorem resA_rep {nt:Nat} {w0:World} {σ0:Sig} {o0:Store} {st:St} {a:Act} (h:Sim A nt w0 σ0 o0 st a w σ) {rv:ResultVar} {ir:IRes} (hc:compRes P rv=some ir) {r:AV} (hr:resA st ir=some r):
  ∃u,(resF a.tmps rv).run P w= .ok u w∧Rep A w σ st.o r u:=by
 cases rv with
 |tmp t=>
  simp only[compRes,Option.some.injEq] at hc
  subst hc
  simp only[resA,Option.some.injEq] at hr
  subst hr
  exact⟨_,rfl,h.env t⟩
 |cell x t=>
  simp only[compRes,Option.map_eq_some_iff] at hc
  obtain⟨n,hn,rfl⟩:=hc
  simp only[resA] at hr
  split at hr
  ·rename_i cs off hb
   obtain⟨p,hp,hcells⟩:=(h.env x).behindA h.sim hb
   obtain⟨u,hu,hru⟩:=run_loadVar' (P:=P) hn hcells hr
   exact⟨u,by simp only[resF,hp];simp[asAddr,hu],hru⟩
  ·cases hr
theorem results_rep {nt:Nat} {w0:World} {σ0:Sig} {o0:Store} {st:St} {a:Act} (h:Sim A nt w0 σ0 o0 st a w σ) {fn:Func} {rs:List IRes} (hc:optAll (compRes P) fn.results.toList=some rs) {r:AV} (hr:resultsA st rs=some r):
  ∃u,(results fn a.tmps).run P w= .ok u w∧Rep A w σ st.o r u:=by
 obtain⟨h1,h2⟩:=optAll_get hc
 unfold resultsA at hr
 have key:∀(rvs:List ResultVar) (irs:List IRes) (vs:List AV),rvs.length=irs.length→(∀(i:Nat) (x:ResultVar) (y:IRes),rvs[i]?=some x→irs[i]?=some y→compRes P x=some y)→irs.mapM (resA st)=some vs→
   ∃us:List Value,(rvs.mapM (resF a.tmps)).run P w= .ok us w∧RepL A w σ st.o vs us:=by
  intro rvs
  induction rvs with
  |nil=>
   intro irs vs hl _ hm
   have:irs=[]:=List.eq_nil_of_length_eq_zero (by simpa using hl.symm)
   subst this
   simp at hm
   subst hm
   exact⟨[],by simp,by simp[RepL]⟩
  |cons x rvs ih=>
   intro irs vs hl hg hm
   match irs,hl with
   |y::irs,hl=>
    rw[List.mapM_cons] at hm
    cases hy:resA st y with
    |none=>simp[hy] at hm
    |some v=>
     cases hrest:irs.mapM (resA st) with
     |none=>simp[hy,hrest] at hm
     |some vs'=>
      simp[hy,hrest] at hm
      subst hm
      obtain⟨u,hu,hru⟩:=resA_rep h (hg 0 x y (by simp) (by simp)) hy
      obtain⟨us,hus,hrus⟩:=ih irs vs' (by simpa using hl) (fun i p q hp hq=>hg (i+1) p q (by simpa using hp) (by simpa using hq)) hrest
      refine⟨u::us,?_,by simp only[RepL];exact⟨u,us,rfl,hru,hrus⟩⟩
      rw[List.mapM_cons]
      simp only[Sem.run_bind]
      rw[hu]
      simp only[Result.andThen_ok,hus,Sem.run_pure]
 have conv:∀us:List Value,(fn.results.toList.mapM (resF a.tmps)).run P w= .ok us w→
   (results fn a.tmps).run P w= .ok (if h:us.length=1 then us[0]'(by omega) else .tuple us.toArray) w:=by
  intro us hus
  rw[results_eq,Array.mapM_eq_mapM_toList]
  simp only[Sem.run_bind,Sem.run_map,hus,Result.andThen_ok,Sem.run_pure]
  by_cases h1:us.length=1
  ·simp[h1]
  ·simp[h1]
 split at hr
 ·rename_i v hm
  injection hr with hr;subst hr
  obtain⟨us,hus,hl⟩:=key _ _ _ h1 h2 hm
  simp only[RepL] at hl
  obtain⟨u,rest,rfl,hu,rfl⟩:=hl
  exact⟨u,by rw[conv _ hus];simp,hu⟩
 ·rename_i vs hne hm
  injection hr with hr;subst hr
  obtain⟨us,hus,hl⟩:=key _ _ _ h1 h2 hm
  have hlen:=RepL.length _ _ hl
  have h1':¬us.length=1:=by
   intro h1
   match vs,hlen.trans h1 with
   |[v],_=>exact hne v rfl
  refine⟨.tuple us.toArray,by rw[conv _ hus];simp[h1'],?_⟩
  simp only[Rep]
  exact⟨_,rfl,by simpa using hl⟩
 ·cases hr
theorem fn_run {T:Tab} {n:Nat} (ih:ExecOK P T n) {md:Md} {B:Clr→World→Sig→Store→Prop} (hm:MdOK P none B md) (hB:Closed B) {f:FuncId} {fn:Func} {code:Code} {H:List RH} {b:IR} {rs:List IRes}
  (hfn:P.funcs[f]?=some fn) (hcode:fn.body=some code) (hb:comp P fn.ntmps H code=some b) (hrs:optAll (compRes P) fn.results.toList=some rs) (hnt:¬fn.ntmps<fn.params.size+fn.nfree)
  {args:List AV} {out:Out} {st:St} (hlen:args.length=fn.params.size+fn.nfree) (hout:out= .norm∨out= .ret) (hex:exec T md n o.length b ⟨bindArgs 0 args,o⟩=some (out,st)) {r0 r:AV} (hr0:resultsA st rs=some r0) {own:Bool} (hfi:finish own o.length r0 st.o=some (r,o'))
  {vs:List Value} (hB0:B A w σ o) (hS:SimO A w σ o) (hr:RepL A w σ o args vs):
  CallsIn (FR none) 0 P f vs.toArray w fun e w'=>∃u σ',e= .returned u∧SimO A w' σ' o'∧Rep A w' σ' o' r u∧Ext w σ o w' σ' o':=by
 have hvl:=RepL.length _ _ hr
 refine callsIn_of_wp_marks (F:=FR none) hfn hcode trivial (wpIn_mono (ih none md B hm hB _ b _ out st hex fn.ntmps H code hb A w σ o {tmps:=vs.toArray++Array.replicate (fn.ntmps - vs.toArray.size) undef,defers:=[]} w σ hB0 (Nat.le_refl _) ⟨hS,fun s=>?_,?_,⟨List.Pairwise.nil,by simp⟩,Ext.refl _ _ _⟩) ?_)
 ·simp only[getE_bind,Nat.zero_le,if_true,Nat.sub_zero]
  cases hs:args[s]? with
  |none=>simp[Rep]
  |some c=>
   obtain⟨v,hv,hrv⟩:=RepL.get _ _ hr s c hs
   have hsl:s<vs.length:=(List.getElem?_eq_some_iff.1 hv).1
   have:(vs.toArray++Array.replicate (fn.ntmps - vs.toArray.size) undef).getD s undef=v:=by
    rw[Array.getD_eq_getD_getElem?,Array.getElem?_append_left (by simpa using hsl)]
    simp[hv]
   rw[this]
   simpa using hrv
 ·simp;omega
 ·rintro e a' w' ⟨rfl,σ',hs'⟩
  have key:LeavesInM (FR none) 0 P fn a'.tmps (fun e w'=>∃u σ',e= .returned u∧SimO A w' σ' o'∧Rep A w' σ' o' r u∧Ext w σ o w' σ' o') a'.defers .returning w':=by
   refine leaves_marks a'.defers w' hs'.defers hs'.sim fun w2 q1 q3 q4=>?_
   have hs2:Sim A fn.ntmps w σ o st {a' with defers:=[]} w2 σ':=⟨q1,fun s=>q4 _ _ (hs'.env s),hs'.size,⟨List.Pairwise.nil,by simp⟩,q3 hs'.ext⟩
   obtain⟨u,hu,hru⟩:=results_rep hs2 hrs hr0
   have hfin:=finish_sound hs2.sim hs2.ext hru hfi
   exact⟨u,hu,u,hfin.choose,rfl,hfin.choose_spec⟩
  rcases hout with rfl|rfl
  ·exact key
  ·exact key
theorem callF_ok {T:Tab} (hT:TabOK P T) {n:Nat} (ih:ExecOK P T n):OracleOK P (callF T (exec T .plain n)):=by
 intro f args o own r o' hc
 unfold callF at hc
 split at hc
 ·rename_i x hK
  injection hc with hc
  subst hc
  exact hT.K _ _ _ _ _ _ hK
 ·split at hc
  ·cases hc
  ·rename_i F hF
   obtain⟨fn,H,hfn,hcomp,hg⟩:=hT.fn f F hF
   split at hc
   ·rename_i hlen
    unfold compFn at hcomp
    split at hcomp
    ·cases hcomp
    ·rename_i code hcode
     split at hcomp
     ·rename_i b rs hb hrs
      split at hcomp
      ·cases hcomp
      ·rename_i hnt
       injection hcomp with hcomp
       subst hcomp
       simp only at hc hlen
       have fin:∀(out:Out) (st:St),(out= .norm∨out= .ret)→exec T .plain n o.length b ⟨bindArgs 0 args,o⟩=some (out,st)→∀r0,resultsA st rs=some r0→finish own o.length r0 st.o=some (r,o')→
         goodF P f=true∧CallO P f args o r o'∧(own=false→o'=[]):=by
        intro out st hout hex r0 hr0 hfi
        refine⟨hg,fun A w σ vs hS hr=>?_,fun ho=>?_⟩
        ·exact(callsIn_wide (n:=0)).1 (fn_run ih (md:=.plain) (B:=anyB) rfl anyB_closed hfn hcode hb hrs hnt hlen hout hex hr0 hfi trivial hS hr)
        ·subst ho
         unfold finish at hfi
         simp only[Bool.false_eq_true,if_false] at hfi
         split at hfi
         ·split at hfi
          ·simp only[Option.some.injEq,Prod.mk.injEq] at hfi;exact hfi.2.symm
          ·cases hfi
         ·cases hfi
       split at hc
       ·rename_i st hex
        split at hc
        ·rename_i r0 hr0;exact fin .norm st (.inl rfl) hex r0 hr0 hc
        ·cases hc
       ·rename_i st hex
        split at hc
        ·rename_i r0 hr0;exact fin .ret st (.inr rfl) hex r0 hr0 hc
        ·cases hc
       ·cases hc
     ·cases hcomp
   ·cases hc
end
open Go.RowKit
section
variable {P:Program} {A:Clr} {w w':World} {σ σ':Sig} {o o':Store}
def LoopB (L:Nat) (R:Loop) (env:EnvA):Clr→World→Sig→Store→Prop:=fun A w σ o=>
 A.l=L∧w.heap[L]?=some (.loop R)∧¬Own σ L∧∀s,Rep A w σ o (getE env s) (R.tmps.getD s undef)
theorem LoopB.closed {L:Nat} {R:Loop} {env:EnvA}:Closed (LoopB L R env):=by
 rintro A w σ o w' σ' o' ⟨h1,h2,h3,h4⟩ hE
 obtain⟨h5,h6⟩:=hE.blk L (Array.getElem?_eq_some_iff.1 h2).1 h3
 exact⟨h1,by rw[h5];exact h2,h6,fun s=>(h4 s).ext hE⟩
theorem getE_cons (p:Nat) (v:AV) (env:EnvA) (s:Nat):getE ((p,v)::env) s=if p=s then v else getE env s:=by
 simp only[getE]
 by_cases h:p=s
 ·subst h;simp
 ·have:Nat.beq p s=false:=by
   cases hq:Nat.beq p s with
   |false=>rfl
   |true=>exact absurd (Nat.eq_of_beq_eq_true hq) h
  simp[this,h]
theorem bindPs_rep:∀(ps:List Nat) (vs:List AV) (us:List Value) (env:EnvA) (tmps:Array Value),vs.length=ps.length→RepL A w σ o vs us→(∀p∈ps,p<tmps.size)→(∀s,Rep A w σ o (getE env s) (tmps.getD s undef))→
  (∀s,Rep A w σ o (getE (bindPs ps vs env) s) (((ps.zip us).foldl (fun t (p:Nat×Value)=>t.setIfInBounds p.1 p.2) tmps).getD s undef))∧((ps.zip us).foldl (fun t (p:Nat×Value)=>t.setIfInBounds p.1 p.2) tmps).size=tmps.size
 |[],[],us,env,tmps,_,_,_,h=>by simpa[bindPs] using h
 |[],_::_,_,_,_,hl,_,_,_=>by simp at hl
 |_::_,[],_,_,_,hl,_,_,_=>by simp at hl
 |p::ps,v::vs,us,env,tmps,hl,hr,hp,h=>by
  simp only[RepL] at hr
  obtain⟨u,r,rfl,hv,hr⟩:=hr
  have hpl:=hp p (by simp)
  have:=bindPs_rep ps vs r ((p,v)::env) (tmps.setIfInBounds p u) (by simpa using hl) hr (fun q hq=>by simpa using hp q (by simp[hq])) (fun s=>by
   rw[getE_cons]
   by_cases hs:p=s
   ·subst hs
    rw[if_pos rfl]
    simpa[Array.getD_eq_getD_getElem?,hpl] using hv
   ·rw[if_neg hs]
    have e:(tmps.setIfInBounds p u).getD s undef=tmps.getD s undef:=by
     simp[Array.getD_eq_getD_getElem?,Array.getElem?_setIfInBounds_ne hs]
    rw[e]
    exact h s)
  simp only[List.zip_cons_cons,List.foldl_cons,bindPs]
  simpa using this
theorem round_ok {T:Tab} {n:Nat} (ih:ExecOK P T n) {nt:Nat} {H:List RH} {psA:Array Tmp} {asg body:Code} {az bd:IR} (ha:comp P nt H asg=some az) (hb:comp P nt H body=some bd) (hps:∀p∈psA.toList,p<nt)
  {env:EnvA} {L:Nat} {R:Loop} (hR:R.state= .ready∧R.pending=none∧R.params=psA∧R.assign=asg∧R.body=body∧R.tmps.size=nt) {vs:List AV} {o:Store} {r:AV} {o':Store}
  (h:(if vs.length=psA.toList.length then
        match exec T .round n o.length az ⟨bindPs psA.toList vs env,o⟩ with
        |some (.norm,st1)=>match exec T .round n st1.o.length bd st1 with
         |some (.norm,st2)=>some (AV.sc (.bool true),(trim o.length ⟨[],st2.o⟩).o)
         |_=>none
        |_=>none
       else none)=some (r,o')):YieldO P (LoopB L R env) vs o r o':=by
 obtain⟨hready,hpend,hpar,hasg,hbod,hsz⟩:=hR
 split at h
 ·rename_i hlen
  split at h
  ·rename_i st1 h1
   split at h
   ·rename_i st2 h2
    simp only[Option.some.injEq,Prod.mk.injEq] at h
    obtain⟨rfl,rfl⟩:=h
    intro A w σ us hS hB hr
    obtain⟨hAl,hL,hnL,henv⟩:=hB
    have hul:=RepL.length _ _ hr
    have hLt:=(Array.getElem?_eq_some_iff.1 hL).1
    obtain⟨be,bs⟩:=bindPs_rep psA.toList vs us env R.tmps (by simpa using hlen) hr (fun p hp=>by rw[hsz];exact hps p hp) henv
    rw[hAl]
    have hy:=run_yield (P:=P) (args:=us.toArray) hL (by rw[hpar];simp at hlen ⊢;omega)
    refine⟨_,_,_,_,hy,roundIn_of_wpIn trivial ?_⟩
    have et:(R.params.zip us.toArray).foldl (fun tmps (t,a)=>tmps.setIfInBounds t a) R.tmps=(psA.toList.zip us).foldl (fun t (p:Nat×Value)=>t.setIfInBounds p.1 p.2) R.tmps:=by
     rw[hpar,←Array.foldl_toList];simp
    rw[et,hasg,hbod]
    have s0:Sim A nt w σ o ⟨bindPs psA.toList vs env,o⟩ {tmps:=(psA.toList.zip us).foldl (fun t (p:Nat×Value)=>t.setIfInBounds p.1 p.2) R.tmps,defers:=[]} w σ:=
     ⟨hS,be,by rw[bs];exact hsz,⟨List.Pairwise.nil,by simp⟩,Ext.refl _ _ _⟩
    refine wpIn_mono (ih (some L) .round anyB trivial anyB_closed _ az _ .norm st1 h1 nt H asg ha A w σ o _ w σ trivial (Nat.le_refl _) s0) ?_
    rintro e a1 w1 ⟨rfl,σ1,s1⟩
    obtain⟨k1,k2⟩:=s1.ext.blk L hLt hnL
    have hL1:w1.heap[L]?=some (.loop R):=by rw[k1];exact hL
    refine⟨_,run_beginRound hL1 hready,?_⟩
    have hLt1:=(Array.getElem?_eq_some_iff.1 hL1).1
    have hlt1:w.heap.size≤w1.heap.size:=s1.ext.size
    obtain⟨W1,hW1⟩:∃W1,w1.putObj L (.loop {R with state:=.busy})=W1:=⟨_,rfl⟩
    have hLW1:W1.heap[L]?=some (.loop {R with state:=.busy}):=by rw[←hW1];exact World.putObj_heap_same hLt1
    have hne1:∀b,b≠L→W1.heap[b]?=w1.heap[b]?:=fun b hb=>by rw[←hW1];exact putObj_ne hb
    have hsz1:W1.heap.size=w1.heap.size:=by rw[←hW1];exact putObj_size
    rw[hW1]
    obtain⟨WB,hWB⟩:∃WB,({W1 with heap:=W1.heap.extract 0 w.heap.size}:World)=WB:=⟨_,rfl⟩
    have hszB:WB.heap.size=w.heap.size:=by rw[←hWB];simp;omega
    have hBh:∀b,b<w.heap.size→W1.heap[b]?=WB.heap[b]?:=fun b hb=>by
     rw[←hWB]
     simp only[Array.getElem?_extract]
     rw[if_pos (by omega)]
     simp
    have hEB:Ext WB σ1 st1.o W1 σ1 st1.o:=⟨by omega,fun b hb hn=>⟨hBh b (by omega),hn⟩,Nat.le_refl _,fun _ _ h=>⟨h,fun _ h=>⟨h,rfl⟩⟩,fun _ h=>⟨h,rfl⟩,by rw[←hWB],by rw[←hWB],by rw[←hWB]⟩
    have s1':Sim A nt WB σ1 st1.o st1 a1 W1 σ1:=by
     refine⟨by rw[←hW1];exact s1.sim.putB hL1 rfl k2,fun s=>by rw[←hW1];exact(s1.env s).putB hL1 rfl,s1.size,⟨s1.defers.1,fun d hd=>?_⟩,hEB⟩
     obtain⟨r,q1,q2,q3⟩:=s1.defers.2 d hd
     exact⟨r,q1,by omega,by rw[hne1 r (by omega)];exact q3⟩
    refine wpIn_mono (ih (some L) .round anyB trivial anyB_closed _ bd _ .norm st2 h2 nt H body hb A WB σ1 st1.o _ W1 σ1 trivial (Nat.le_refl _) s1') ?_
    rintro e a2 w2 ⟨rfl,σ2,s2⟩
    obtain⟨m1,m2⟩:=s2.ext.blk L (by omega) k2
    have hL2:w2.heap[L]?=some (.loop {R with state:=.busy}):=by rw[m1,←hBh L hLt];exact hLW1
    have hrun:=run_endRound (P:=P) none hL2
    refine⟨_,_,hrun,?_⟩
    have hrec:({({R with state:=.busy}:Loop) with state:=if(none:Option Code).isNone then .ready else .done,pending:=none}:Loop)=R:=by
     cases R;simp at hready hpend ⊢;exact⟨hready.symm,hpend.symm⟩
    rw[hrec]
    have hLt2:=(Array.getElem?_eq_some_iff.1 hL2).1
    have hS3:SimO A (w2.putObj L (.loop R)) σ2 st2.o:=s2.sim.putB hL2 rfl m2
    have hE3:Ext w σ o (w2.putObj L (.loop R)) σ2 st2.o:=by
     have e1:=s1.ext
     have e2:=s2.ext
     refine⟨by rw[putObj_size];have:=e2.size;omega,fun b hb hn=>?_,Nat.le_trans e1.len e2.len,fun id tot ha=>?_,fun id ha=>?_,?_,?_,?_⟩
     ·obtain⟨p1,p2⟩:=e1.blk b hb hn
      obtain⟨p3,p4⟩:=e2.blk b (by omega) p2
      refine⟨?_,p4⟩
      by_cases hbL:b=L
      ·subst hbL
       rw[World.putObj_heap_same hLt2];exact hL.symm
      ·rw[putObj_ne hbL,p3,←hBh b hb,hne1 b hbL,p1]
     ·obtain⟨h1,h2⟩:=e1.cur id tot ha
      obtain⟨k1,k2⟩:=e2.cur id tot h1
      refine⟨k1,fun sz hc=>?_⟩
      obtain⟨k3,k4⟩:=k2 sz hc
      obtain⟨h3,h4⟩:=h2 sz k3
      exact⟨h3,k4.trans h4⟩
     ·obtain⟨h1,h2⟩:=e1.isMap id ha
      obtain⟨k1,k2⟩:=e2.isMap id h1
      exact⟨k1,k2.trans h2⟩
     ·show w2.os=w.os
      rw[e2.os,←hWB];show W1.os=w.os;rw[←hW1];exact e1.os
     ·show w2.tape=w.tape
      rw[e2.tape,←hWB];show W1.tape=w.tape;rw[←hW1];exact e1.tape
     ·show w2.output=w.output
      rw[e2.output,←hWB];show W1.output=w.output;rw[←hW1];exact e1.output
    have hfin:∃σ3,SimO A (w2.putObj L (.loop R)) σ3 (trim o.length ⟨[],st2.o⟩).o∧Ext w σ o (w2.putObj L (.loop R)) σ3 (trim o.length ⟨[],st2.o⟩).o:=by
     unfold trim
     split
     ·exact⟨σ2,hS3,hE3⟩
     ·split
      ·rename_i hc
       simp only[Bool.and_eq_true,List.all_eq_true] at hc
       exact⟨σ2.take o.length,hS3.take hc.2,hE3.take (Nat.le_refl _)⟩
      ·exact⟨σ2,hS3,hE3⟩
    obtain⟨σ3,q1,q2⟩:=hfin
    exact⟨_,σ3,rfl,q1,by simp[Rep,Value.oneCell'],q2⟩
   ·cases h
  ·cases h
 ·cases h
theorem noYL_sc:∀(vs:List Value),noYL (vs.map AV.sc)=true
 |[]=>rfl
 |_::vs=>by simp[noYL,AV.noY,noYL_sc vs]
theorem noY_ofVal (v:Value):(AV.ofVal v).noY=true:=by
 cases v<;>simp only[AV.ofVal,AV.noY]
 split
 ·simp only[AV.noY,noYL_sc]
 ·simp only[AV.noY]
theorem each_ok {T:Tab} (hT:TabOK P T) {n:Nat} (ih:ExecOK P T n) {x:Operand} {az bd:IR} {st:St} {f:FuncId} {first captured:List AV} {F:IFn} (hx:evA st.env x= .fn (.func f) first captured) (hF:T.fn f=some F)
  (hlen:first.length+1+captured.length=F.params) (hye:st.env.all (fun p=>p.2.noY)=true) (hyo:st.o.all AObj.noY=true) {nt:Nat} {H:List RH} {psA:Array Tmp} {asg body:Code} (ha:comp P nt H asg=some az) (hb:comp P nt H body=some bd) (hps:∀p∈psA.toList,p<nt)
  {out:Out} {st2:St} (hex:exec T (.iter fun vs o=>if vs.length=psA.toList.length then
        match exec T .round n o.length az ⟨bindPs psA.toList vs st.env,o⟩ with
        |some (.norm,st1)=>match exec T .round n st1.o.length bd st1 with
         |some (.norm,st2)=>some (AV.sc (.bool true),(trim o.length ⟨[],st2.o⟩).o)
         |_=>none
        |_=>none
       else none) n st.o.length F.body ⟨bindArgs 0 (first++[.fn (.yield 0) [] []]++captured),st.o⟩=some (out,st2)) (hout:out= .norm∨out= .ret) {r r':AV} (hr:resultsA st2 F.res=some r) (hfi:finishOwn st.o.length r st2.o=some (r',o')) (hy':o'.all AObj.noY=true)
  {w0:World} {σ0:Sig} {o0:Store} {a:Act} (h:Sim A nt w0 σ0 o0 st a w σ):
  (Code.rangeFunc x psA asg body).wpIn (FR none) 0 P (fun e a' w'=>e= .normal∧∃σ',Sim A nt w0 σ0 o0 ⟨st.env,o'⟩ a' w' σ') a w:=by
 obtain⟨fn,H',hfn,hcomp,hg⟩:=hT.fn f F hF
 refine wpIn_rangeFunc fun fid _=>?_
 have h1:=h.ev x
 rw[hx] at h1
 simp only[Rep] at h1
 obtain⟨f',c',hv,hfr,hcr⟩:=h1
 have hv:a.eval x= .func (.func f) f' c':=hv
 have hA1:SimO A ((w.alloc (.deferred (some [])))) σ st.o:=h.sim.alloc _
 obtain⟨R,hR⟩:∃R:Loop,R={state:=.ready,pending:=none,fn:=fid,tmps:=a.tmps,params:=psA,assign:=asg,body,defers:=w.heap.size}:=⟨_,rfl⟩
 obtain⟨W1,hW1⟩:∃W1,(w.alloc (.deferred (some []))).alloc (.loop R)=W1:=⟨_,rfl⟩
 have hL1:W1.heap[w.heap.size+1]?=some (.loop R):=by
  rw[←hW1];have:=World.alloc_heap_new (w.alloc (.deferred (some []))) (.loop R);rwa [World.size_alloc] at this
 have hK1:W1.heap[w.heap.size]?=some (.deferred (some [])):=by
  rw[←hW1];exact(Below.heap_alloc _ _ _ (by simp)).trans (World.alloc_heap_new w _)
 have hE1:Ext w σ st.o W1 σ st.o:=by rw[←hW1];exact(Ext.alloc w σ st.o h.sim _).trans (Ext.alloc _ σ st.o hA1 _)
 have hS1:SimO A W1 σ st.o:=by rw[←hW1];exact hA1.alloc _
 have hall:∀s,(getE st.env s).noY=true:=fun s=>by
  rcases getE_mem (env:=st.env) (s:=s) with h0|⟨p,hp,h0⟩
  ·rw[h0];simp[AV.noY]
  ·rw[←h0];exact List.all_eq_true.1 hye p hp
 let A':Clr:=⟨A.p,w.heap.size+1⟩
 have hS1':SimO A' W1 σ st.o:=hS1.to (fun _ _ h=>h) (fun _ _ _ _=>rfl) (Nat.le_refl _) rfl (.inr hyo)
 have henv':∀s,Rep A' W1 σ st.o (getE st.env s) (a.tmps.getD s undef):=fun s=>Rep.to (A:=A) (A':=A') (fun _ _ h=>h) (fun _ h=>h) _ _ (.inr (hall s)) ((h.env s).ext hE1)
 have hnL:¬Own σ (w.heap.size+1):=hS1.notOwn hL1 (by simp) (by simp)
 have hyf:(AV.fn (.func f) first captured).noY=true:=by
  rw[←hx]
  cases x with
  |tmp t=>exact hall t
  |const v=>exact noY_ofVal v
  |global g=>simp[evA,AV.noY]
  |func g=>simp[evA,AV.noY,noYL]
 simp only[AV.noY,Bool.and_eq_true] at hyf
 have hargs:RepL A' W1 σ st.o (first++[.fn (.yield 0) [] []]++captured) (f'.toList++[.func (.yield (w.heap.size+1)) #[] #[]]++c'.toList):=by
  refine RepL.append (RepL.append (RepL.to (A:=A) (A':=A') (fun _ _ h=>h) (fun _ h=>h) _ _ (.inr hyf.1) (RepL.ext hE1 _ _ hfr)) ?_) (RepL.to (A:=A) (A':=A') (fun _ _ h=>h) (fun _ h=>h) _ _ (.inr hyf.2) (RepL.ext hE1 _ _ hcr))
  simp only[RepL]
  exact⟨_,[],rfl,by simp only[Rep];exact⟨#[],#[],rfl,by simp[RepL],by simp[RepL]⟩,rfl⟩
 refine⟨w.heap.size+1,[{target:=.collected w.heap.size,args:=#[]}],W1,{target:=.fn (.func f) c',args:=f'++#[.func (.yield (w.heap.size+1)) #[] #[]]},W1,f,
  f'++#[.func (.yield (w.heap.size+1)) #[] #[]]++c',W1,?_,?_,fun _ _=>trivial,?_,fun h=>by simp[FR,Fence.wide] at h,?_⟩
 ·rw[←hW1,hR];exact run_enterLoop_outer _ _ _ _ _
 ·simp only[resolve,hv]
  simp[go_sem,Act.eval,Deferred.ofValue]
 ·simp[invoke,run_callFunc hg]
 ·unfold compFn at hcomp
  split at hcomp
  ·cases hcomp
  ·rename_i code hcode
   split at hcomp
   ·rename_i b rs hb0 hrs
    split at hcomp
    ·cases hcomp
    ·rename_i hnt
     injection hcomp with hcomp
     subst hcomp
     simp only at hlen hr hex
     have hrun:=fn_run (A:=A') (w:=W1) (σ:=σ) ih (md:=.iter fun vs o=>if vs.length=psA.toList.length then
        match exec T .round n o.length az ⟨bindPs psA.toList vs st.env,o⟩ with
        |some (.norm,st1)=>match exec T .round n st1.o.length bd st1 with
         |some (.norm,st2)=>some (AV.sc (.bool true),(trim o.length ⟨[],st2.o⟩).o)
         |_=>none
        |_=>none
       else none) (B:=LoopB (w.heap.size+1) R st.env) ⟨rfl,fun vs o r o' hyy=>round_ok ih ha hb hps (by rw[hR];exact⟨rfl,rfl,rfl,rfl,rfl,h.size⟩) hyy⟩ LoopB.closed hfn hcode hb0 hrs hnt (by simp;omega) hout hex hr (own:=true) (by simpa[finish] using hfi)
      (vs:=f'.toList++[.func (.yield (w.heap.size+1)) #[] #[]]++c'.toList) ⟨rfl,hL1,hnL,by rw[hR];exact henv'⟩ hS1' hargs
     have eargs:(f'.toList++[Value.func (.yield (w.heap.size+1)) #[] #[]]++c'.toList).toArray=f'++#[.func (.yield (w.heap.size+1)) #[] #[]]++c':=Array.ext' (by simp)
     rw[eargs] at hrun
     refine hrun.mono ?_
     rintro e w2 ⟨u,σ',rfl,q1,q2,q3⟩
     obtain⟨k1,k2⟩:=q3.blk _ (Array.getElem?_eq_some_iff.1 hL1).1 hnL
     have hL2:w2.heap[w.heap.size+1]?=some (.loop R):=by rw[k1];exact hL1
     have hK2:w2.heap[w.heap.size]?=some (.deferred (some [])):=by
      rw[(q3.blk _ (Array.getElem?_eq_some_iff.1 hK1).1 (hS1.notOwn hK1 (by simp) (by simp))).1];exact hK1
     have hpe:R.pending=none:=by rw[hR]
     have hen:=run_endLoop (P:=P) hL2 (by rw[hR];simp)
     generalize hrec:({R with state:=.exhausted}:Loop)=R2 at hen
     rw[hpe] at hen
     refine⟨none,_,hen,?_⟩
     refine⟨rfl,σ',?_⟩
     have hE2:Ext w σ st.o w2 σ' o':=hE1.trans q3
     have hE3:Ext w σ st.o (w2.putObj (w.heap.size+1) (.loop R2)) σ' o':=hE2.putB (by omega)
     have hS3:SimO A (w2.putObj (w.heap.size+1) (.loop R2)) σ' o':=(q1.to (A':=A) (fun _ _ h=>h) (fun _ _ _ _=>rfl) (Nat.le_refl _) rfl (.inr hy')).putB hL2 rfl k2
     have hw0:=h.ext.size
     refine⟨hS3,fun s=>(h.env s).ext hE3,h.size,⟨?_,fun d hd=>?_⟩,h.ext.trans hE3⟩
     ·simp only[List.cons_append,List.nil_append]
      refine List.pairwise_cons.2 ⟨fun d hd=>?_,h.defers.1⟩
      obtain⟨r,p1,p2,p3⟩:=h.defers.2 d hd
      have:=(Array.getElem?_eq_some_iff.1 p3).1
      rw[p1]
      intro e
      simp only[Target.collected.injEq] at e
      omega
     ·simp only[List.cons_append,List.nil_append,List.mem_cons] at hd
      rcases hd with rfl|hd
      ·exact⟨_,rfl,hw0,by rw[putObj_ne (by omega)];exact hK2⟩
      ·obtain⟨r,p1,p2,p3⟩:=(h.defers.ext h.sim hE3).2 d hd
       exact⟨r,p1,p2,p3⟩
   ·cases hcomp
theorem wpIn_scope_straight {rnd:Option Nat} {Q:Exit→Act→World→Prop} {a:Act} {w:World} {c:Code} (h:c.wpIn (FR rnd) 0 P (Exit.noGoto Q) a w):(Code.scope c).wpIn (FR rnd) 0 P Q a w:=by
 intro b k cs hro hb hr
 obtain⟨e,a₁,w₁,hq,harr⟩:=h b (.inScope c::k) cs hro hb hr
 have s1:step P (lone (b.atR a (.code (.scope c)::k)) cs w)= .next (lone (b.atR a (.code c:: .inScope c::k)) cs w):=step_lone_go (by simp[stepG,stepG.exec,Frame.atR])
 have s2:step P (lone (b.atR a₁ (.inScope c::k)) cs w₁)= .next (lone (b.atR a₁ k) cs w₁):=step_lone_go (by simp[stepG,stepG.exec,Frame.atR])
 have s1':=StepsIn.one (I:=Machine.fenced P (FR rnd)) (fenced_calm (fr:=b.atR a (.code (.scope c)::k)) hb hr rfl) s1
 cases e with
 |normal=>exact⟨.normal,a₁,w₁,hq,(StepsIn.trans s1' (StepsIn.trans harr (.one (fenced_calm (fr:=b.atR a₁ (.inScope c::k)) hb hr rfl) s2)))⟩
 |exit id=>exact⟨.exit id,a₁,w₁,hq,.of_steps s1' ⟨fun k' hk=>harr.1 k' (by simpa[exitTo] using hk),fun hr hk=>by obtain⟨k1,h1,h2⟩:=harr.2 hr (by simpa[exitTo] using hk);exact⟨k1,by simpa[exitTo] using h1,h2⟩⟩⟩
 |goto l=>exact hq.elim
 |ret=>exact⟨_,a₁,w₁,hq,.of_steps s1' harr⟩
 |panic ch=>exact⟨_,a₁,w₁,hq,.of_steps s1' harr⟩
 |outgrown=>exact⟨_,a₁,w₁,hq,.of_steps s1' harr⟩
def scopeR (rnd:Option Nat) (P:Program) (rest:Code) (l:Nat) (Q:Exit→Act→World→Prop):Nat→Code→Act→World→Prop
 |0,_,_,_=>False
 |n+1,x,a,w=>x.wpIn (FR rnd) 0 P (fun e a' w'=>match e with
   | .goto l'=>l'=l∧scopeR rnd P rest l Q n rest a' w'
   |e=>Q e a' w') a w
theorem wpIn_scope_turns {rnd:Option Nat} {Q:Exit→Act→World→Prop} {a:Act} {w:World} {c rest:Code} {l:Nat} (hf:findLabel c l=some rest) {n:Nat} (h:scopeR rnd P rest l Q n c a w):(Code.scope c).wpIn (FR rnd) 0 P Q a w:=by
 intro b k cs hro hb hr
 have hg:gotoIn l (.inScope c::k)=some (.code rest:: .inScope c::k):=by simp[gotoIn,hf]
 have key:∀n x a w,scopeR rnd P rest l Q n x a w→∃e a' w',Q e a' w'∧ArrivesIn (Machine.fenced P (FR rnd)) P (lone (b.atR a (.code x:: .inScope c::k)) cs w) b k cs e a' w':=by
  intro n
  induction n with
  |zero=>intro x a w h;exact h.elim
  |succ n ih=>
   intro x a w h
   obtain⟨e,a₁,w₁,hq,harr⟩:=h b (.inScope c::k) cs hro hb hr
   have s2:step P (lone (b.atR a₁ (.inScope c::k)) cs w₁)= .next (lone (b.atR a₁ k) cs w₁):=step_lone_go (by simp[stepG,stepG.exec,Frame.atR])
   cases e with
   |normal=>exact⟨.normal,a₁,w₁,hq,StepsIn.trans harr (.one (fenced_calm (fr:=b.atR a₁ (.inScope c::k)) hb hr rfl) s2)⟩
   |exit id=>exact⟨.exit id,a₁,w₁,hq,fun k' hk=>harr.1 k' (by simpa[exitTo] using hk),fun hr hk=>by obtain⟨k1,h1,h2⟩:=harr.2 hr (by simpa[exitTo] using hk);exact⟨k1,by simpa[exitTo] using h1,h2⟩⟩
   |goto l'=>
    obtain⟨rfl,hn⟩:=hq
    obtain⟨e₂,a₂,w₂,hq₂,harr₂⟩:=ih rest a₁ w₁ hn
    exact⟨e₂,a₂,w₂,hq₂,.of_steps (harr.1 _ hg) harr₂⟩
   |ret=>exact⟨_,a₁,w₁,hq,harr⟩
   |panic ch=>exact⟨_,a₁,w₁,hq,harr⟩
   |outgrown=>exact⟨_,a₁,w₁,hq,harr⟩
 have s1:step P (lone (b.atR a (.code (.scope c)::k)) cs w)= .next (lone (b.atR a (.code c:: .inScope c::k)) cs w):=step_lone_go (by simp[stepG,stepG.exec,Frame.atR])
 have s1':=StepsIn.one (I:=Machine.fenced P (FR rnd)) (fenced_calm (fr:=b.atR a (.code (.scope c)::k)) hb hr rfl) s1
 obtain⟨e,a',w',hq,harr⟩:=key n c a w h
 exact⟨e,a',w',hq,.of_steps s1' harr⟩
theorem labelOf_rest {b:Code} {l nt:Nat} {H:List RH} {x:IR} (h:labelOf b=some l) (hb:comp P nt H b=some x):∃rest,findLabel b l=some rest∧comp P nt H rest=some x:=by
 unfold labelOf at h
 split at h
 ·rename_i l' c
  split at h
  ·injection h with h
   subst h
   refine⟨.seq .skip c,by simp[findLabel],?_⟩
   rw[←hb]
   simp only[comp]
  ·cases h
 ·cases h
theorem exec_ok {T:Tab} (hT:TabOK P T):∀n,ExecOK P T n∧(∀(rnd:Option Nat) (md:Md) (B:Clr→World→Sig→Store→Prop),MdOK P rnd B md→Closed B→∀(lo:Nat) (b:IR) (st:St) (out:Out) (st':St),exec T md n lo (.loop b) st=some (out,st')→∀(nt:Nat) (H:List RH) (code:Code),comp P nt H code=some b→∀(A:Clr) (w0:World) (σ0:Sig) (o0:Store) (a:Act) (w:World) (σ:Sig),B A w0 σ0 o0→
   o0.length≤lo→Sim A nt w0 σ0 o0 st a w σ→Code.roundsIn (FR rnd) 0 P code (fun e a' w'=>e=out.toExit∧∃σ',Sim A nt w0 σ0 o0 st' a' w' σ') n a w)∧∀(rnd:Option Nat) (md:Md) (B:Clr→World→Sig→Store→Prop),MdOK P rnd B md→Closed B→∀(lo l:Nat) (b:IR) (st:St) (out:Out) (st':St),exec T md n lo (.turns (some l) b) st=some (out,st')→∀(nt:Nat) (H:List RH) (code rest:Code),comp P nt H code=some b→comp P nt H rest=some b→∀(A:Clr) (w0:World) (σ0:Sig) (o0:Store) (a:Act) (w:World) (σ:Sig),B A w0 σ0 o0→
   o0.length≤lo→Sim A nt w0 σ0 o0 st a w σ→scopeR rnd P rest l (fun e a' w'=>e=out.toExit∧∃σ',Sim A nt w0 σ0 o0 st' a' w' σ') n code a w
 |0=>⟨fun rnd md B _ _ lo c st out st' h=>by cases md<;>simp[exec] at h,fun rnd md B _ _ lo b st out st' h=>by cases md<;>simp[exec] at h,fun rnd md B _ _ lo l b st out st' h=>by cases md<;>simp[exec] at h⟩
 |n+1=>by
  obtain⟨ih,ihl,iht⟩:=exec_ok hT n
  have hloop:∀(rnd:Option Nat) (md:Md) (B:Clr→World→Sig→Store→Prop),MdOK P rnd B md→Closed B→∀(lo:Nat) (b:IR) (st:St) (out:Out) (st':St),exec T md (n+1) lo (.loop b) st=some (out,st')→∀(nt:Nat) (H:List RH) (code:Code),comp P nt H code=some b→∀(A:Clr) (w0:World) (σ0:Sig) (o0:Store) (a:Act) (w:World) (σ:Sig),B A w0 σ0 o0→
    o0.length≤lo→Sim A nt w0 σ0 o0 st a w σ→Code.roundsIn (FR rnd) 0 P code (fun e a' w'=>e=out.toExit∧∃σ',Sim A nt w0 σ0 o0 st' a' w' σ') (n+1) a w:=by
   intro rnd md B hm hB lo b st out st' h nt H code hc A w0 σ0 o0 a w σ hB0 hlo hs
   simp only[exec] at h
   split at h
   ·rename_i st1 h1
    have hb:=ih rnd md B hm hB lo b st .norm st1 h1 nt H code hc A w0 σ0 o0 a w σ hB0 hlo hs
    rw[roundsIn_succ]
    refine wpIn_mono hb ?_
    rintro e a' w' ⟨rfl,σ',hs'⟩
    obtain⟨σ2,hs2⟩:=hs'.trim (k:=st.o.length) hs.len
    exact ihl rnd md B hm hB lo b _ out st' h nt H code hc A w0 σ0 o0 a' w' σ2 hB0 hlo hs2
   ·rename_i hne
    have hb:=ih rnd md B hm hB lo b st out st' h nt H code hc A w0 σ0 o0 a w σ hB0 hlo hs
    rw[roundsIn_succ]
    refine wpIn_mono hb ?_
    rintro e a' w' ⟨rfl,hs'⟩
    cases out with
    |norm=>exact absurd h (hne st')
    |exit id=>exact⟨rfl,hs'⟩
    |ret=>exact⟨rfl,hs'⟩
    |goto l=>exact⟨rfl,hs'⟩
  have hturn:∀(rnd:Option Nat) (md:Md) (B:Clr→World→Sig→Store→Prop),MdOK P rnd B md→Closed B→∀(lo l:Nat) (b:IR) (st:St) (out:Out) (st':St),exec T md (n+1) lo (.turns (some l) b) st=some (out,st')→∀(nt:Nat) (H:List RH) (code rest:Code),comp P nt H code=some b→comp P nt H rest=some b→∀(A:Clr) (w0:World) (σ0:Sig) (o0:Store) (a:Act) (w:World) (σ:Sig),B A w0 σ0 o0→
    o0.length≤lo→Sim A nt w0 σ0 o0 st a w σ→scopeR rnd P rest l (fun e a' w'=>e=out.toExit∧∃σ',Sim A nt w0 σ0 o0 st' a' w' σ') (n+1) code a w:=by
   intro rnd md B hm hB lo l b st out st' h nt H code rest hc hr A w0 σ0 o0 a w σ hB0 hlo hs
   simp only[exec] at h
   split at h
   ·rename_i l' st1 h1
    split at h
    ·rename_i hl
     injection hl with hl
     subst hl
     refine wpIn_mono (ih rnd md B hm hB lo b st (.goto l) st1 h1 nt H code hc A w0 σ0 o0 a w σ hB0 hlo hs) ?_
     rintro e a' w' ⟨rfl,σ',hs'⟩
     obtain⟨σ2,hs2⟩:=hs'.trim (k:=st.o.length) hs.len
     exact⟨rfl,iht rnd md B hm hB lo l b _ out st' h nt H rest rest hr hr A w0 σ0 o0 a' w' σ2 hB0 hlo hs2⟩
    ·cases h
   ·rename_i hne
    refine wpIn_mono (ih rnd md B hm hB lo b st out st' h nt H code hc A w0 σ0 o0 a w σ hB0 hlo hs) ?_
    rintro e a' w' ⟨rfl,hs'⟩
    cases out with
    |norm=>exact⟨rfl,hs'⟩
    |exit id=>exact⟨rfl,hs'⟩
    |ret=>exact⟨rfl,hs'⟩
    |goto l=>exact absurd h (hne l st')
  refine⟨fun rnd md B hm hB lo c st out st' h nt H code hc A w0 σ0 o0 a w σ hB0 hlo hs=>?_,hloop,hturn⟩
  cases code with
  |skip=>
   simp only[comp,Option.some.injEq] at hc
   subst hc
   simp only[exec,Option.some.injEq,Prod.mk.injEq] at h
   obtain⟨rfl,rfl⟩:=h
   exact wpIn_skip ⟨rfl,σ,hs⟩
  |scope b=>
   simp only[comp] at hc
   obtain⟨x',hx,rfl⟩:=Option.map_eq_some_iff.1 hc
   cases hl:labelOf b with
   |some l=>
    rw[hl] at h
    obtain⟨rest,hf,hrc⟩:=labelOf_rest hl hx
    exact wpIn_scope_turns hf (hturn rnd md B hm hB lo l x' st out st' h nt H b rest hx hrc A w0 σ0 o0 a w σ hB0 hlo hs)
   |none=>
    rw[hl] at h
    simp only[exec] at h
    refine wpIn_scope_straight ?_
    split at h
    ·rename_i l' st1 h1
     simp at h
    ·rename_i hne
     refine wpIn_mono (ih rnd md B hm hB lo x' st out st' h nt H b hx A w0 σ0 o0 a w σ hB0 hlo hs) ?_
     rintro e a' w' ⟨rfl,hs'⟩
     cases out with
     |norm=>exact⟨rfl,hs'⟩
     |exit id=>exact⟨rfl,hs'⟩
     |ret=>exact⟨rfl,hs'⟩
     |goto l=>exact absurd h (hne l st')
  |goto l=>
   simp only[comp,Option.some.injEq] at hc
   subst hc
   simp only[exec,Option.some.injEq,Prod.mk.injEq] at h
   obtain⟨rfl,rfl⟩:=h
   exact wpIn_goto ⟨rfl,σ,hs⟩
  |label l=>
   simp only[comp,Option.some.injEq] at hc
   subst hc
   simp only[exec,Option.some.injEq,Prod.mk.injEq] at h
   obtain⟨rfl,rfl⟩:=h
   exact wpIn_label ⟨rfl,σ,hs⟩
  |region id ops draw=>
   simp only[comp] at hc
   obtain⟨k,l,chk,live,pre,post,rfl,hw⟩:=region_wpM (callF_ok hT ih) hm hB (A:=A) (lo:=lo) hc
   simp only[exec] at h
   split at h
   ·rename_i st2 h2
    simp only[Option.some.injEq,Prod.mk.injEq] at h
    obtain⟨rfl,rfl⟩:=h
    exact hw h2 hB0 hlo hs
   ·cases h
  |seq x y=>
   simp only[comp] at hc
   split at hc
   ·rename_i x' y' hx hy
    injection hc with hc;subst hc
    simp only[exec] at h
    split at h
    ·rename_i st1 h1
     refine wpIn_seq (wpIn_mono (ih rnd md B hm hB lo x' st .norm st1 h1 nt H x hx A w0 σ0 o0 a w σ hB0 hlo hs) ?_)
     rintro e a' w' ⟨rfl,σ',hs'⟩
     exact ih rnd md B hm hB lo y' st1 out st' h nt H y hy A w0 σ0 o0 a' w' σ' hB0 hlo hs'
    ·rename_i hne
     refine wpIn_seq (wpIn_mono (ih rnd md B hm hB lo x' st out st' h nt H x hx A w0 σ0 o0 a w σ hB0 hlo hs) ?_)
     rintro e a' w' ⟨rfl,hs'⟩
     cases out with
     |norm=>exact absurd h (hne st')
     |exit id=>exact⟨rfl,hs'⟩
     |ret=>exact⟨rfl,hs'⟩
     |goto l=>exact⟨rfl,hs'⟩
   ·cases hc
  |cond x y z=>
   simp only[comp] at hc
   split at hc
   ·rename_i y' z' hy hz
    injection hc with hc;subst hc
    by_cases hk:keptS H x=true
    ·rw[if_pos hk] at h
     simp only[exec] at h
     have hx:=hs.ev x
     split at h
     ·rename_i hxx
      rw[hxx] at hx
      exact wpIn_cond_true (rep_sc hx) (ih rnd md B hm hB lo y' _ out st' h nt H y hy A w0 σ0 o0 a w σ hB0 hlo hs)
     ·rename_i hxx
      rw[hxx] at hx
      exact wpIn_cond_false (rep_sc hx) (ih rnd md B hm hB lo z' _ out st' h nt H z hz A w0 σ0 o0 a w σ hB0 hlo hs)
     ·cases h
    rw[if_neg hk] at h
    simp only[exec] at h
    have hx:=hs.ev x
    split at h
    ·rename_i hxx
     rw[hxx] at hx
     exact wpIn_cond_true (rep_sc hx) (ih rnd md B hm hB lo y' _ out st' h nt H y hy A w0 σ0 o0 a w σ hB0 hlo (hs.drop x))
    ·rename_i hxx
     rw[hxx] at hx
     exact wpIn_cond_false (rep_sc hx) (ih rnd md B hm hB lo z' _ out st' h nt H z hz A w0 σ0 o0 a w σ hB0 hlo (hs.drop x))
    ·cases h
   ·cases hc
  |block id b=>
   simp only[comp] at hc
   obtain⟨b',hb,rfl⟩:=Option.map_eq_some_iff.1 hc
   simp only[exec] at h
   split at h
   ·rename_i id' st1 h1
    refine wpIn_block (wpIn_mono (ih rnd md B hm hB lo b' st (.exit id') st1 h1 nt H b hb A w0 σ0 o0 a w σ hB0 hlo hs) ?_)
    rintro e a' w' ⟨rfl,hs'⟩
    simp only[Out.toExit,Exit.inBlock]
    split at h
    ·rename_i hid
     simp only[Option.some.injEq,Prod.mk.injEq] at h
     obtain⟨rfl,rfl⟩:=h
     rw[if_pos hid]
     exact⟨rfl,hs'⟩
    ·rename_i hid
     simp only[Option.some.injEq,Prod.mk.injEq] at h
     obtain⟨rfl,rfl⟩:=h
     rw[if_neg hid]
     exact⟨rfl,hs'⟩
   ·rename_i hne
    refine wpIn_block (wpIn_mono (ih rnd md B hm hB lo b' st out st' h nt H b hb A w0 σ0 o0 a w σ hB0 hlo hs) ?_)
    rintro e a' w' ⟨rfl,hs'⟩
    cases out with
    |norm=>exact⟨rfl,hs'⟩
    |exit id2=>exact absurd h (hne id2 st')
    |ret=>exact⟨rfl,hs'⟩
    |goto l=>exact⟨rfl,hs'⟩
  |loop b=>
   simp only[comp] at hc
   obtain⟨b',hb,rfl⟩:=Option.map_eq_some_iff.1 hc
   exact wpIn_loop_rounds (n+1) (hloop rnd md B hm hB lo b' st out st' h nt H b hb A w0 σ0 o0 a w σ hB0 hlo hs)
  |exit id=>
   simp only[comp,Option.some.injEq] at hc
   subst hc
   simp only[exec,Option.some.injEq,Prod.mk.injEq] at h
   obtain⟨rfl,rfl⟩:=h
   exact wpIn_exit ⟨rfl,σ,hs⟩
  |ret=>
   simp only[comp,Option.some.injEq] at hc
   subst hc
   simp only[exec,Option.some.injEq,Prod.mk.injEq] at h
   obtain⟨rfl,rfl⟩:=h
   exact wpIn_ret ⟨rfl,σ,hs⟩
  |rangeFunc x psA asg body=>
   simp only[comp] at hc
   split at hc
   ·rename_i x' y' ha hb
    split at hc
    ·rename_i hps
     injection hc with hc;subst hc
     simp only[exec] at h
     split at h
     ·rename_i f first captured hmd hx
      obtain rfl:rnd=none:=hm
      split at h
      ·rename_i F hF
       split at h
       ·rename_i hcond
        have hps':∀p∈psA.toList,p<nt:=fun p hp=>by simpa using List.all_eq_true.1 hps p hp
        have fin:∀(out2:Out) (st2:St),(out2= .norm∨out2= .ret)→_:=fun out2 st2 hout hex r hr r' o' hfi hy'=>each_ok hT ih hx hF hcond.1 hcond.2.1 hcond.2.2 ha hb hps' (out:=out2) (st2:=st2) hex hout (r:=r) hr (r':=r') (o':=o') hfi hy' hs
        split at h
        ·rename_i st2 hex
         split at h
         ·rename_i r hr
          split at h
          ·rename_i r' o' hfi
           split at h
           ·rename_i hy'
            simp only[Option.some.injEq,Prod.mk.injEq] at h
            obtain⟨rfl,rfl⟩:=h
            exact fin _ _ (.inl rfl) hex r hr r' o' hfi hy'
           ·cases h
          ·cases h
         ·cases h
        ·rename_i st2 hex
         split at h
         ·rename_i r hr
          split at h
          ·rename_i r' o' hfi
           split at h
           ·rename_i hy'
            simp only[Option.some.injEq,Prod.mk.injEq] at h
            obtain⟨rfl,rfl⟩:=h
            exact fin _ _ (.inr rfl) hex r hr r' o' hfi hy'
           ·cases h
          ·cases h
         ·cases h
        ·cases h
       ·cases h
      ·cases h
     ·cases h
    ·cases hc
   ·cases hc
  |_=>simp only[comp,reduceCtorEq] at hc
theorem call_sound {T:Tab} (hT:TabOK P T) (n:Nat):OracleOK P (callF T (exec T .plain n)):=callF_ok hT (exec_ok hT n).1
end
def Ev (T:Tab) (md:Nat→Md) (lo:Nat) (c:IR) (st:St) (r:Out×St):Prop:=∃N,∀m n,N≤m→N≤n→exec T (md m) n lo c st=some r
abbrev plainM:Nat→Md:=fun _=> .plain
section
variable {T:Tab} {md:Nat→Md} {lo:Nat} {st st1 st':St} {r:Out×St} {a b:IR} {out:Out}
theorem Ev.mk (N:Nat) (h:∀m n,N≤m→N≤n→exec T (md m) (n+1) lo a st=some r):Ev T md lo a st r:=
 ⟨N+1,fun m n hm hn=>by
  match n,hn with
  |n+1,hn=>exact h m n (by omega) (by omega)⟩
theorem Ev.skip:Ev T md lo .skip st (.norm,st):=.mk 0 fun _ _ _ _=>by simp only[exec]
theorem Ev.ret:Ev T md lo .ret st (.ret,st):=.mk 0 fun _ _ _ _=>by simp only[exec]
theorem Ev.exit {id:Nat}:Ev T md lo (.exit id) st (.exit id,st):=.mk 0 fun _ _ _ _=>by simp only[exec]
theorem Ev.seq (h:Ev T md lo a st (.norm,st1)) (k:Ev T md lo b st1 r):Ev T md lo (.seq a b) st r:=by
 obtain⟨N,h⟩:=h
 obtain⟨M,k⟩:=k
 exact .mk (N+M) fun m n hm hn=>by simp only[exec,h m n (by omega) (by omega),k m n (by omega) (by omega)]
theorem Ev.seq_out (h:Ev T md lo a st (out,st1)) (hne:out≠ .norm):Ev T md lo (.seq a b) st (out,st1):=by
 obtain⟨N,h⟩:=h
 exact .mk N fun m n hm hn=>by
  simp only[exec,h m n hm hn]
  cases out<;>first|rfl|exact absurd rfl hne
theorem Ev.condT {x:Operand} (hx:evA st.env x= .sc (.bool true)) (h:Ev T md lo a ⟨dropE x st.env,st.o⟩ r):Ev T md lo (.cond x a b) st r:=by
 obtain⟨N,h⟩:=h
 exact .mk N fun m n hm hn=>by simp only[exec,hx];exact h m n hm hn
theorem Ev.condF {x:Operand} (hx:evA st.env x= .sc (.bool false)) (h:Ev T md lo b ⟨dropE x st.env,st.o⟩ r):Ev T md lo (.cond x a b) st r:=by
 obtain⟨N,h⟩:=h
 exact .mk N fun m n hm hn=>by simp only[exec,hx];exact h m n hm hn
theorem Ev.cond {x:Operand} {q:Bool} (hx:evA st.env x= .sc (.bool q)) (ht:q=true→Ev T md lo a ⟨dropE x st.env,st.o⟩ r) (hf:q=false→Ev T md lo b ⟨dropE x st.env,st.o⟩ r):Ev T md lo (.cond x a b) st r:=by
 cases q with
 |true=>exact .condT hx (ht rfl)
 |false=>exact .condF hx (hf rfl)
theorem Ev.condK {x:Operand} {q:Bool} (hx:evA st.env x= .sc (.bool q)) (ht:q=true→Ev T md lo a st r) (hf:q=false→Ev T md lo b st r):Ev T md lo (.condK x a b) st r:=by
 cases q with
 |true=>
  obtain⟨N,h⟩:=ht rfl
  exact .mk N fun m n hm hn=>by simp only[exec,hx];exact h m n hm hn
 |false=>
  obtain⟨N,h⟩:=hf rfl
  exact .mk N fun m n hm hn=>by simp only[exec,hx];exact h m n hm hn
def Out.inBlock (id:Nat):Out→Out
 | .exit id'=>if id'=id then .norm else .exit id'
 |o=>o
theorem Ev.block {id:Nat} (h:Ev T md lo a st (out,st1)):Ev T md lo (.block id a) st (out.inBlock id,st1):=by
 obtain⟨N,h⟩:=h
 exact .mk N fun m n hm hn=>by
  simp only[exec,h m n hm hn]
  cases out with
  |exit id'=>simp only[Out.inBlock];split<;>rfl
  |_=>rfl
theorem Ev.loop_step (h:Ev T md lo a st (.norm,st1)) (k:Ev T md lo (.loop a) (trim st.o.length st1) r):Ev T md lo (.loop a) st r:=by
 obtain⟨N,h⟩:=h
 obtain⟨M,k⟩:=k
 exact .mk (N+M) fun m n hm hn=>by
  simp only[exec,h m n (by omega) (by omega)]
  exact k m n (by omega) (by omega)
theorem Ev.loop_out (h:Ev T md lo a st (out,st1)) (hne:out≠ .norm):Ev T md lo (.loop a) st (out,st1):=by
 obtain⟨N,h⟩:=h
 exact .mk N fun m n hm hn=>by
  simp only[exec,h m n hm hn]
  cases out<;>first|rfl|exact absurd rfl hne
theorem Ev.goto {l:Nat}:Ev T md lo (.goto l) st (.goto l,st):=.mk 0 fun _ _ _ _=>by simp only[exec]
theorem Ev.turn_step {l:Nat} (h:Ev T md lo a st (.goto l,st1)) (k:Ev T md lo (.turns (some l) a) (trim st.o.length st1) r):Ev T md lo (.turns (some l) a) st r:=by
 obtain⟨N,h⟩:=h
 obtain⟨M,k⟩:=k
 exact .mk (N+M) fun m n hm hn=>by
  simp only[exec,h m n (by omega) (by omega),if_true]
  exact k m n (by omega) (by omega)
theorem Ev.turn_out {l:Option Nat} (h:Ev T md lo a st (out,st1)) (hne:∀l',out≠ .goto l'):Ev T md lo (.turns l a) st (out,st1):=by
 obtain⟨N,h⟩:=h
 exact .mk N fun m n hm hn=>by
  simp only[exec,h m n hm hn]
  cases out<;>first|rfl|exact absurd rfl (hne _)
theorem Ev.region {id k:Nat} {draw:Bool} {ops:List IOper} {chk:List (Nat×Nat)} {live:List Nat} {pre post:List OwnH}
  (h:∃N,∀ex m,N≤m→runRegM (md m) draw (callF T ex) k ops chk (pre.foldl (fun s h=>ownH lo h s) st)=some st'):
  Ev T md lo (.region id draw k ops chk live pre post) st (.norm,post.foldl (fun s h=>ownH lo h s) ⟨prune live st'.env,st'.o⟩):=by
 obtain⟨N,h⟩:=h
 exact .mk N fun m n hm _=>by simp only[exec,h _ m hm]
theorem call_of {P:Program} (hT:TabOK P T) {f:FuncId} {F:IFn} (hF:T.fn f=some F) {args:List AV} {o:Store} {own:Bool} (hK:T.K f args o own=none) (hlen:args.length=F.params)
  (h:Ev T plainM o.length F.body ⟨bindArgs 0 args,o⟩ (out,st')) (hout:out= .norm∨out= .ret) {r0 v:AV} {o':Store} (hr:resultsA st' F.res=some r0) (hfin:finish own o.length r0 st'.o=some (v,o')):
  goodF P f=true∧CallO P f args o v o'∧(own=false→o'=[]):=by
 obtain⟨N,h⟩:=h
 refine call_sound hT N f args o own v o' ?_
 unfold callF
 rw[hK]
 have h:=h N N (Nat.le_refl _) (Nat.le_refl _)
 simp only[hF,if_pos hlen,h]
 rcases hout with rfl|rfl<;>simp only[hr,hfin]
end
section
variable {call call':Oracle}
def OLe (call call':Oracle):Prop:=∀f args o own r,call f args o own=some r→call' f args o own=some r
theorem OLe.callF (T:Tab) (ex:Nat→IR→St→Option (Out×St)):OLe T.K (callF T ex):=by
 intro f args o own r h
 unfold Go.Vi.callF
 rw[h]
theorem OLe.callA (h:OLe call call') {f:FuncId} {args:List AV} {o:Store} {own:Bool} {r:AV×Store} (hc:callA call f args o own=some r):callA call' f args o own=some r:=by
 unfold Go.Vi.callA at hc ⊢
 split at hc
 ·rename_i how
  rw[if_pos how]
  unfold callOwn at hc ⊢
  simp only at hc ⊢
  split at hc
  ·split at hc
   ·rename_i r1 s1 h1
    rw[h _ _ _ _ _ h1]
    exact hc
   ·cases hc
  ·cases hc
 ·rename_i how
  rw[if_neg how]
  split at hc
  ·cases hc
  ·split at hc
   ·rename_i h1
    rw[h _ _ _ _ _ h1]
    exact hc
   ·cases hc
theorem OLe.eff (h:OLe call call') {op:IOp} {ρ:Operand→AV} {o:Store} {nid:Nat} {r:AV×Store} (hc:eff call op ρ o nid=some r):eff call' op ρ o nid=some r:=by
 cases op with
 |call f args own=>exact h.callA hc
 |callv f args own=>
  simp only[Go.Vi.eff,effD,e_callv] at hc ⊢
  split at hc
  ·exact h.callA hc
  ·cases hc
 |_=>exact hc
theorem OLe.runOp (h:OLe call call') {base:Nat} {i:IOper} {st st':St} (hc:runOp call base i st=some st'):runOp call' base i st=some st':=by
 unfold Go.Vi.runOp at hc ⊢
 split at hc
 ·cases hc
 ·exact hc
 ·split at hc
  ·rename_i h1
   rw[h.eff h1]
   exact hc
  ·cases hc
theorem OLe.wrtC (h:OLe call call') {op:IOp} {ρ:Operand→AV} {o:Store} {nid:Nat} {r:AV×Store} (hc:Go.Vi.eff call op ρ o nid=some r):Go.Vi.wrtC call' op ρ o nid=Go.Vi.wrtC call op ρ o nid:=by
 unfold Go.Vi.wrtC
 split
 ·rename_i f args
  have h1:Go.Vi.callA call f (args.map ρ) o true=some r:=hc
  have h2:=h.callA h1
  simp only[Go.Vi.callA,if_true] at h1 h2
  rw[h1,h2]
 ·rfl
theorem OLe.runOps (h:OLe call call') {base:Nat}:∀{l:List IOper} {st st':St},runOps call base l st=some st'→runOps call' base l st=some st'∧traceOps call' base l st=traceOps call base l st
 |[],_,_,hc=>⟨hc,rfl⟩
 |i::l,st,st',hc=>by
  simp only[Go.Vi.runOps] at hc ⊢
  split at hc
  ·rename_i s1 h1
   obtain⟨k1,k2⟩:=h.runOps hc
   have h2:=h.runOp h1
   refine⟨by rw[h2];exact k1,?_⟩
   simp only[traceOps,h1,h2,k2]
   congr 1
   split
   ·rename_i hw
    unfold Go.Vi.runOp at h1
    rw[hw] at h1
    simp only at h1
    split at h1
    ·rename_i he
     rw[h.wrtC he]
    ·cases h1
   ·rfl
  ·cases hc
theorem OLe.runReg (h:OLe call call') {k:Nat} {ops:List IOper} {chk:List (Nat×Nat)} {st st':St} (hc:runReg call k ops chk st=some st'):runReg call' k ops chk st=some st':=by
 unfold Go.Vi.runReg at hc ⊢
 simp only at hc ⊢
 split at hc
 ·rename_i s1 h1
  obtain⟨k1,k2⟩:=h.runOps h1
  rw[k1,k2]
  exact hc
 ·cases hc
end
def VW (T:Tab) (md:Nat→Md) (lo:Nat) (c:IR) (st:St) (Q:Out→St→Prop):Prop:=∃out st',Ev T md lo c st (out,st')∧Q out st'
def RQ (x:Option St) (Q:St→Prop):Prop:=match x with|some st=>Q st|none=>False
section
variable {T:Tab} {md:Nat→Md} {lo:Nat} {st:St} {a b:IR} {Q Q':Out→St→Prop}
theorem VW.mono (h:VW T md lo a st Q) (hq:∀o s,Q o s→Q' o s):VW T md lo a st Q':=by
 obtain⟨o,s,h1,h2⟩:=h
 exact⟨o,s,h1,hq o s h2⟩
theorem VW.skip (h:Q .norm st):VW T md lo .skip st Q:=⟨_,_,.skip,h⟩
theorem VW.ret (h:Q .ret st):VW T md lo .ret st Q:=⟨_,_,.ret,h⟩
theorem VW.exit {id:Nat} (h:Q (.exit id) st):VW T md lo (.exit id) st Q:=⟨_,_,.exit,h⟩
theorem VW.seq (h:VW T md lo a st fun out s=>if out= .norm then VW T md lo b s Q else Q out s):VW T md lo (.seq a b) st Q:=by
 obtain⟨o,s,h1,h2⟩:=h
 by_cases ho:o= .norm
 ·subst ho
  rw[if_pos rfl] at h2
  obtain⟨o2,s2,k1,k2⟩:=h2
  exact⟨o2,s2,h1.seq k1,k2⟩
 ·rw[if_neg ho] at h2
  exact⟨o,s,h1.seq_out ho,h2⟩
theorem VW.cond {x:Operand} {q:Bool} (hx:evA st.env x= .sc (.bool q)) (h:if q=true then VW T md lo a ⟨dropE x st.env,st.o⟩ Q else VW T md lo b ⟨dropE x st.env,st.o⟩ Q):VW T md lo (.cond x a b) st Q:=by
 cases q with
 |true=>obtain⟨o,s,h1,h2⟩:=(by simpa using h:VW T md lo a ⟨dropE x st.env,st.o⟩ Q);exact⟨o,s,.condT hx h1,h2⟩
 |false=>obtain⟨o,s,h1,h2⟩:=(by simpa using h:VW T md lo b ⟨dropE x st.env,st.o⟩ Q);exact⟨o,s,.condF hx h1,h2⟩
theorem VW.condK {x:Operand} {q:Bool} (hx:evA st.env x= .sc (.bool q)) (h:if q=true then VW T md lo a st Q else VW T md lo b st Q):VW T md lo (.condK x a b) st Q:=by
 cases q with
 |true=>obtain⟨o,s,h1,h2⟩:=(by simpa using h:VW T md lo a st Q);exact⟨o,s,.condK hx (fun _=>h1) (fun h=>by cases h),h2⟩
 |false=>obtain⟨o,s,h1,h2⟩:=(by simpa using h:VW T md lo b st Q);exact⟨o,s,.condK hx (fun h=>by cases h) (fun _=>h1),h2⟩
theorem VW.block {id:Nat} (h:VW T md lo a st fun out s=>Q (out.inBlock id) s):VW T md lo (.block id a) st Q:=by
 obtain⟨o,s,h1,h2⟩:=h
 exact⟨_,_,h1.block,h2⟩
theorem VW.region (hm:∀m,md m= .plain∨md m= .round) {id k:Nat} {draw:Bool} {ops:List IOper} {chk:List (Nat×Nat)} {live:List Nat} {pre post:List OwnH}
  (h:RQ (runReg T.K k ops chk (pre.foldl (fun s h=>ownH lo h s) st)) fun st'=>Q .norm (post.foldl (fun s h=>ownH lo h s) ⟨prune live st'.env,st'.o⟩)):
  VW T md lo (.region id draw k ops chk live pre post) st Q:=by
 unfold RQ at h
 split at h
 ·rename_i st' hs
  refine⟨_,_,Ev.region ⟨0,fun ex m _=>?_⟩,h⟩
  have:=(OLe.callF T ex).runReg hs
  rcases hm m with e|e<;>rw[e]<;>exact this
 ·exact h.elim
theorem VW.regionD {id k:Nat} {draw:Bool} (hm:∀m,draw=true∨md m= .plain∨md m= .round) {ops:List IOper} {chk:List (Nat×Nat)} {live:List Nat} {pre post:List OwnH}
  (h:RQ (runReg T.K k ops chk (pre.foldl (fun s h=>ownH lo h s) st)) fun st'=>Q .norm (post.foldl (fun s h=>ownH lo h s) ⟨prune live st'.env,st'.o⟩)):
  VW T md lo (.region id draw k ops chk live pre post) st Q:=by
 unfold RQ at h
 split at h
 ·rename_i st' hs
  refine⟨_,_,Ev.region ⟨0,fun ex m _=>?_⟩,h⟩
  have:=(OLe.callF T ex).runReg hs
  rcases hm m with e|e|e
  ·subst e;unfold runRegM;cases md m<;>exact this
  ·rw[e];exact this
  ·rw[e];exact this
 ·exact h.elim
theorem VW.regionY {y:Nat→YO} {id k:Nat} {ops:List IOper} {chk:List (Nat×Nat)} {live:List Nat} {pre post:List OwnH} {st':St}
  (h:∃N,∀m,N≤m→∀call,OLe T.K call→runRegY call (y m) k ops (pre.foldl (fun s h=>ownH lo h s) st)=some st') (hq:Q .norm (post.foldl (fun s h=>ownH lo h s) ⟨prune live st'.env,st'.o⟩)):
  VW T (fun m=> .iter (y m)) lo (.region id false k ops chk live pre post) st Q:=by
 obtain⟨N,h⟩:=h
 exact⟨_,_,Ev.region ⟨N,fun ex m hm=>h m hm _ (OLe.callF T ex)⟩,hq⟩
noncomputable def roundY (T:Tab) (ps:List Nat) (az bd:IR) (env:EnvA) (m:Nat):YO:=fun vs o=>if vs.length=ps.length then
  match exec T .round m o.length az ⟨bindPs ps vs env,o⟩ with
  |some (.norm,st1)=>match exec T .round m st1.o.length bd st1 with
   |some (.norm,st2)=>some (.sc (.bool true),(trim o.length ⟨[],st2.o⟩).o)
   |_=>none
  |_=>none
 else none
theorem VW.each {x:Operand} {ps:List Nat} {az bd:IR} {f:FuncId} {first captured:List AV} (hx:evA st.env x= .fn (.func f) first captured) {F:IFn} (hF:T.fn f=some F) (hlen:first.length+1+captured.length=F.params)
  (hye:st.env.all (fun p=>p.2.noY)=true) (hyo:st.o.all AObj.noY=true)
  (h:VW T (fun m=> .iter (roundY T ps az bd st.env m)) st.o.length F.body ⟨bindArgs 0 (first++[.fn (.yield 0) [] []]++captured),st.o⟩ fun out s2=>(out= .norm∨out= .ret)∧
   ∃r r' o',resultsA s2 F.res=some r∧finishOwn st.o.length r s2.o=some (r',o')∧o'.all AObj.noY=true∧Q .norm ⟨st.env,o'⟩):VW T plainM lo (.each x ps az bd) st Q:=by
 obtain⟨out,s2,⟨N,h1⟩,hout,r,r',o',hr,hf,hy,hq⟩:=h
 refine⟨.norm,⟨st.env,o'⟩,.mk N fun m n hm hn=>?_,hq⟩
 have h2:=h1 n n hn hn
 simp only[exec,hx,hF]
 rw[if_pos ⟨hlen,hye,hyo⟩]
 generalize hE:exec T (.iter _) n _ _ _=R
 have h3:R=some (out,s2):=hE.symm.trans h2
 rw[h3]
 rcases hout with rfl|rfl<;>simp only[hr,hf,if_pos hy]
theorem VW.loop (h:VW T md lo a st fun out s=>if out= .norm then VW T md lo (.loop a) (trim st.o.length s) Q else Q out s):VW T md lo (.loop a) st Q:=by
 obtain⟨o,s,h1,h2⟩:=h
 by_cases ho:o= .norm
 ·subst ho
  rw[if_pos rfl] at h2
  obtain⟨o2,s2,k1,k2⟩:=h2
  exact⟨o2,s2,h1.loop_step k1,k2⟩
 ·rw[if_neg ho] at h2
  exact⟨o,s,h1.loop_out ho,h2⟩
theorem VW.loop_inv (I:Nat→St→Prop) (hstep:∀m s,I m s→VW T md lo a s fun out s'=>if out= .norm then ∃m',m'<m∧I m' (trim s.o.length s') else Q out s'):
  ∀(m:Nat) (s:St),I m s→VW T md lo (.loop a) s Q:=by
 intro m
 induction m using Nat.strongRecOn with
 |_ m ih=>
  intro s hs
  refine VW.loop ((hstep m s hs).mono fun o s' h=>?_)
  split
  ·rename_i ho
   rw[if_pos ho] at h
   obtain⟨m',h1,h2⟩:=h
   exact ih m' h1 _ h2
  ·rename_i ho
   rwa [if_neg ho] at h
theorem VW.goto {l:Nat} (h:Q (.goto l) st):VW T md lo (.goto l) st Q:=⟨_,_,.goto,h⟩
theorem VW.turn_no {l:Option Nat} (h:VW T md lo a st fun out s=>(∀l',out≠ .goto l')∧Q out s):VW T md lo (.turns l a) st Q:=by
 obtain⟨o,s,h1,h2,h3⟩:=h
 exact⟨o,s,h1.turn_out h2,h3⟩
theorem VW.turn_inv {l:Nat} (I:Nat→St→Prop) (hstep:∀m s,I m s→VW T md lo a s fun out s'=>(out= .goto l∧∃m',m'<m∧I m' (trim s.o.length s'))∨((∀l',out≠ .goto l')∧Q out s')):
  ∀(m:Nat) (s:St),I m s→VW T md lo (.turns (some l) a) s Q:=by
 intro m
 induction m using Nat.strongRecOn with
 |_ m ih=>
  intro s hs
  obtain⟨o,s',h1,h2⟩:=hstep m s hs
  rcases h2 with⟨rfl,m',h3,h4⟩|⟨h3,h4⟩
  ·obtain⟨o2,s2,k1,k2⟩:=ih m' h3 _ h4
   exact⟨o2,s2,h1.turn_step k1,k2⟩
  ·exact⟨o,s',h1.turn_out h3,h4⟩
theorem call_of_vw {P:Program} (hT:TabOK P T) {f:FuncId} {F:IFn} (hF:T.fn f=some F) {args:List AV} {o:Store} {own:Bool} (hK:T.K f args o own=none) (hlen:args.length=F.params) {v:AV} {o':Store}
  (h:VW T plainM o.length F.body ⟨bindArgs 0 args,o⟩ fun out st'=>(out= .norm∨out= .ret)∧(resultsA st' F.res).bind (fun r0=>finish own o.length r0 st'.o)=some (v,o')):
  goodF P f=true∧CallO P f args o v o'∧(own=false→o'=[]):=by
 obtain⟨out,st',h1,h2,h3⟩:=h
 obtain⟨r0,hr,hfin⟩:=Option.bind_eq_some_iff.1 h3
 exact call_of hT hF hK hlen h1 h2 hr hfin
end
open Classical in
noncomputable def ans {α:Type} (enc:α→List AV) (dom:α→Prop) (spec:α→AV) (args:List AV):Option AV:=
 if h:∃a,args=enc a∧dom a then some (spec (Classical.choose h)) else none
theorem ans_eq {α:Type} {enc:α→List AV} {dom:α→Prop} {spec:α→AV} (hinj:∀a b,enc a=enc b→a=b) {a:α} (hd:dom a):ans enc dom spec (enc a)=some (spec a):=by
 have h:∃b,enc a=enc b∧dom b:=⟨a,rfl,hd⟩
 unfold ans
 rw[dif_pos h,←hinj _ _ (Classical.choose_spec h).1]
theorem ans_some {α:Type} {enc:α→List AV} {dom:α→Prop} {spec:α→AV} {args:List AV} {v:AV} (h:ans enc dom spec args=some v):∃a,args=enc a∧dom a∧v=spec a:=by
 unfold ans at h
 split at h
 ·rename_i hx
  injection h with h
  exact⟨_,(Classical.choose_spec hx).1,(Classical.choose_spec hx).2,h.symm⟩
 ·cases h
def Con (P:Program) (f:FuncId) {α:Type} (enc:α→List AV) (dom:α→Prop) (spec:α→AV):Prop:=
 ∀a,dom a→goodF P f=true∧CallO P f (enc a) [] (spec a) []
noncomputable def Tab.add {α:Type} (T:Tab) (f:FuncId) (enc:α→List AV) (dom:α→Prop) (spec:α→AV):Tab:=
 ⟨T.fn,fun g args o own=>if g=f∧o=[]∧own=false then(ans enc dom spec args).map fun v=>(v,[]) else T.K g args o own⟩
theorem TabOK.add {P:Program} {T:Tab} (hT:TabOK P T) {f:FuncId} {α:Type} {enc:α→List AV} {dom:α→Prop} {spec:α→AV} (hc:Con P f enc dom spec):TabOK P (T.add f enc dom spec) where
 fn:=hT.fn
 K:=fun g args o own r o' h=>by
  simp only[Tab.add] at h
  split at h
  ·rename_i hg
   obtain⟨rfl,rfl,rfl⟩:=hg
   obtain⟨v,hv,h2⟩:=Option.map_eq_some_iff.1 h
   simp only[Prod.mk.injEq] at h2
   obtain⟨rfl,rfl⟩:=h2
   obtain⟨a,rfl,hd,rfl⟩:=ans_some hv
   exact⟨(hc a hd).1,(hc a hd).2,fun _=>rfl⟩
  ·exact hT.K g args o own r o' h
theorem Tab.add_hit {α:Type} {T:Tab} {f:FuncId} {enc:α→List AV} {dom:α→Prop} {spec:α→AV} (hinj:∀a b,enc a=enc b→a=b) {a:α} (hd:dom a):(T.add f enc dom spec).K f (enc a) [] false=some (spec a,[]):=by
 simp[Tab.add,ans_eq hinj hd]
theorem Tab.add_miss {α:Type} {T:Tab} {f g:FuncId} {enc:α→List AV} {dom:α→Prop} {spec:α→AV} {args:List AV} {o:Store} {own:Bool} (h:g≠f):(T.add f enc dom spec).K g args o own=T.K g args o own:=by
 simp[Tab.add,h]
structure Bun where
 (a0 a1 a2 a3 a4 a5:Int)
 deriving DecidableEq
structure Off where
 bidder:Int
 want:Bun
 value:Int
 deriving DecidableEq
structure Need where
 payers:Int
 least:Int
 deriving DecidableEq
structure BKey where
 bidder:Int
 want:Bun
 deriving DecidableEq
structure Sit where
 members:Int
 left:Bun
 opn:Bun
 deriving DecidableEq
def Bun.zero:Bun:=⟨0,0,0,0,0,0⟩
inductive SId where
 |i (k:IntKind)
 |b
 |bun
 |off
 |need
 |key
 |sit
 |lst (s:SId)
 |pair (s t:SId)
 deriving DecidableEq
@[reducible] def SId.T:SId→Type
 | .i _=>Int
 | .b=>Bool
 | .bun=>Bun
 | .off=>Off
 | .need=>Need
 | .key=>BKey
 | .sit=>Sit
 | .lst s=>List s.T
 | .pair s t=>s.T×t.T
def SId.dflt:(s:SId)→s.T
 | .i _=>(0:Int)
 | .b=>false
 | .bun=> .zero
 | .off=>⟨0,.zero,0⟩
 | .need=>⟨0,0⟩
 | .key=>⟨0,.zero⟩
 | .sit=>⟨0,.zero,.zero⟩
 | .lst _=>[]
 | .pair s t=>(s.dflt,t.dflt)
def SId.sz:SId→Nat
 | .i _=>1
 | .b=>1
 | .bun=>6
 | .off=>8
 | .need=>2
 | .key=>7
 | .sit=>13
 | .lst _=>1
 | .pair s t=>s.sz+t.sz
@[reducible] def SId.dec:(s:SId)→DecidableEq s.T
 | .i _=>inferInstanceAs (DecidableEq Int)
 | .b=>inferInstanceAs (DecidableEq Bool)
 | .bun=>inferInstanceAs (DecidableEq Bun)
 | .off=>inferInstanceAs (DecidableEq Off)
 | .need=>inferInstanceAs (DecidableEq Need)
 | .key=>inferInstanceAs (DecidableEq BKey)
 | .sit=>inferInstanceAs (DecidableEq Sit)
 | .lst s=>@instDecidableEqList _ s.dec
 | .pair s t=>@instDecidableEqProd _ _ s.dec t.dec
instance (s:SId):DecidableEq s.T:=s.dec
def SId.scal:SId→Bool
 | .i _| .b=>true
 |_=>false
def SId.flat:SId→Bool
 | .lst _=>false
 | .pair s t=>s.flat&&t.flat
 |_=>true
def iv (n:Int):Value:=.int .i64 n
def Bun.vs (b:Bun):List Value:=[iv b.a0,iv b.a1,iv b.a2,iv b.a3,iv b.a4,iv b.a5]
def encV:(s:SId)→s.T→List Value
 | .i k,n=>[.int k n]
 | .b,b=>[.bool b]
 | .bun,x=>[iv x.a0,iv x.a1,iv x.a2,iv x.a3,iv x.a4,iv x.a5]
 | .off,x=>[iv x.bidder,iv x.want.a0,iv x.want.a1,iv x.want.a2,iv x.want.a3,iv x.want.a4,iv x.want.a5,iv x.value]
 | .need,x=>[iv x.payers,iv x.least]
 | .key,x=>[iv x.bidder,iv x.want.a0,iv x.want.a1,iv x.want.a2,iv x.want.a3,iv x.want.a4,iv x.want.a5]
 | .sit,x=>[iv x.members,iv x.left.a0,iv x.left.a1,iv x.left.a2,iv x.left.a3,iv x.left.a4,iv x.left.a5,iv x.opn.a0,iv x.opn.a1,iv x.opn.a2,iv x.opn.a3,iv x.opn.a4,iv x.opn.a5]
 | .lst _,_=>[.bool false]
 | .pair s t,x=>encV s x.1++encV t x.2
def encA:(s:SId)→s.T→List AV
 | .lst s,l=>[.sl l.length (l.flatMap (encA s))]
 | .pair s t,x=>encA s x.1++encA t x.2
 | .i k,x=>(encV (.i k) x).map .sc
 | .b,x=>(encV .b x).map .sc
 | .bun,x=>(encV .bun x).map .sc
 | .off,x=>(encV .off x).map .sc
 | .need,x=>(encV .need x).map .sc
 | .key,x=>(encV .key x).map .sc
 | .sit,x=>(encV .sit x).map .sc
inductive SV where
 |ud
 |sc (v:Value)
 |il (k:IntKind) (n:Int)
 |si (k:IntKind) (n:Int)
 |bl (b:Bool)
 |sb (b:Bool)
 |agg (cs:List SV)
 |tup (cs:List SV)
 |row (s:SId) (l:List s.T)
 |ep (s:SId) (l:List s.T) (i off:Nat)
 |ptr (id off tot:Nat)
 |ap (id base sz len tot i:Nat)
 |rp (id i off n sz:Nat)
 |ow (id n sz:Nat)
 |os (id off len n sz:Nat)
 |oc (id off len n sz:Nat)
 |mp (id:Nat)
 |fn (f:Fn) (first captured:List SV)
inductive SObj where
 |dead
 |cells (cs:List SV) (e:TypeId) (sz:Nat) (pu:Bool)
 |row (s:SId) (l:List s.T) (e:TypeId) (pu:Bool)
 |map (sk sv:SId) (ka:Bool) (es:List (sk.T×sv.T)) (kt:List Nat×Bool) (pu:Bool)
 |rowp (s:SId) (l:List s.T) (e:TypeId) (t:List SV)
def flatA (s:SId) (l:List s.T):List AV:=l.flatMap (encA s)
def keyV (s:SId) (ka:Bool) (x:s.T):Value:=if ka then .agg (encV s x).toArray else(encV s x).headD (.bool false)
def valA (s:SId) (x:s.T):AV:=.sc ((encV s x).headD (.bool false))
mutual
def SV.g:SV→AV
 | .ud=> .ud
 | .sc v=> .sc v
 | .il k n=> .sc (.int k n)
 | .si k n=> .sc (.int k n)
 | .bl b=> .sc (.bool b)
 | .sb b=> .sc (.bool b)
 | .agg cs=> .agg (gL cs)
 | .tup cs=> .tup (gL cs)
 | .row s l=> .sl l.length (flatA s l)
 | .ep s l i off=> .ep (flatA s l) (i*s.sz+off)
 | .ptr id off tot=> .ptr id off tot
 | .ap id base sz _ tot i=> .ptr id (base+i*sz) tot
 | .rp id i off n sz=> .ptr id (i*sz+off) (n*sz)
 | .ow id n sz=> .os id 0 n (n*sz)
 | .os id off len n sz=> .os id (off*sz) len (n*sz)
 | .oc id off len n sz=> .os id (off*sz+(n*sz+sz)) len (n*sz)
 | .mp id=> .mp id
 | .fn f a b=> .fn f (gL a) (gL b)
def gL:List SV→List AV
 |[]=>[]
 |c::cs=>c.g::gL cs
end
theorem gL_map:∀(l:List SV),gL l=l.map SV.g
 |[]=>rfl
 |c::cs=>by simp[gL,gL_map cs]
def SObj.g:SObj→AObj
 | .dead=> .dead
 | .cells cs e sz pu=> .cells (gL cs) e sz pu
 | .row s l e pu=> .cells (flatA s l) e s.sz pu
 | .rowp s l e t=> .cells (flatA s l++gL t) e s.sz false
 | .map sk sv ka es kt pu=> .map (es.map fun p=>(keyV sk ka p.1,valA sv p.2)) kt pu
def encS:(s:SId)→s.T→List SV
 | .i k,n=>[.si k n]
 | .b,b=>[.sb b]
 | .bun,x=>[.si .i64 x.a0,.si .i64 x.a1,.si .i64 x.a2,.si .i64 x.a3,.si .i64 x.a4,.si .i64 x.a5]
 | .off,x=>[.si .i64 x.bidder,.si .i64 x.want.a0,.si .i64 x.want.a1,.si .i64 x.want.a2,.si .i64 x.want.a3,.si .i64 x.want.a4,.si .i64 x.want.a5,.si .i64 x.value]
 | .need,x=>[.si .i64 x.payers,.si .i64 x.least]
 | .key,x=>[.si .i64 x.bidder,.si .i64 x.want.a0,.si .i64 x.want.a1,.si .i64 x.want.a2,.si .i64 x.want.a3,.si .i64 x.want.a4,.si .i64 x.want.a5]
 | .sit,x=>[.si .i64 x.members,.si .i64 x.left.a0,.si .i64 x.left.a1,.si .i64 x.left.a2,.si .i64 x.left.a3,.si .i64 x.left.a4,.si .i64 x.left.a5,.si .i64 x.opn.a0,.si .i64 x.opn.a1,.si .i64 x.opn.a2,.si .i64 x.opn.a3,.si .i64 x.opn.a4,.si .i64 x.opn.a5]
 | .lst s,l=>[.row s l]
 | .pair s t,x=>encS s x.1++encS t x.2
def castL (s s':SId) (l:List s.T):Option (List s'.T):=if h:s=s' then some (h▸l) else none
def decRow (s:SId):SV→Option (List s.T)
 | .row s' l=>match castL s' s l with
  |some l=>some l
  |none=>match l with
   |[]=>some []
   |_=>none
 |_=>none
def SV.qn:SV→SV
 | .sc (.slice none 0 0)=> .row (.i .i64) []
 |v=>v
def SV.int:IntKind→SV→Option Int
 |k,.si k' n=>if k'=k then some n else none
 |k,.il k' n=>if k'=k then some n else none
 |_,_=>none
def SV.boo:SV→Option Bool
 | .sb b=>some b
 | .bl b=>some b
 |_=>none
def ints:List SV→Option (List Int)
 |[]=>some []
 |c::cs=>match c.int .i64,ints cs with
  |some n,some l=>some (n::l)
  |_,_=>none
def decS:(s:SId)→List SV→Option s.T
 | .i k,[c]=>c.int k
 | .b,[c]=>c.boo
 | .bun,cs=>match ints cs with
  |some [a0,a1,a2,a3,a4,a5]=>some (⟨a0,a1,a2,a3,a4,a5⟩:Bun)
  |_=>none
 | .off,cs=>match ints cs with
  |some [b,a0,a1,a2,a3,a4,a5,v]=>some (⟨b,⟨a0,a1,a2,a3,a4,a5⟩,v⟩:Off)
  |_=>none
 | .need,cs=>match ints cs with
  |some [a,b]=>some (⟨a,b⟩:Need)
  |_=>none
 | .key,cs=>match ints cs with
  |some [b,a0,a1,a2,a3,a4,a5]=>some (⟨b,⟨a0,a1,a2,a3,a4,a5⟩⟩:BKey)
  |_=>none
 | .sit,cs=>match ints cs with
  |some [m,a0,a1,a2,a3,a4,a5,b0,b1,b2,b3,b4,b5]=>some (⟨m,⟨a0,a1,a2,a3,a4,a5⟩,⟨b0,b1,b2,b3,b4,b5⟩⟩:Sit)
  |_=>none
 | .lst s,[c]=>decRow s c
 | .pair s t,cs=>match decS s (cs.take s.sz),decS t (cs.drop s.sz) with
  |some x,some y=>some (x,y)
  |_,_=>none
 |_,_=>none
theorem sz_pos:(s:SId)→0<s.sz
 | .i _| .b| .bun| .off| .need| .key| .sit| .lst _=>by simp[SId.sz]
 | .pair s t=>by
  have:=sz_pos s
  simp only[SId.sz]
  omega
theorem encS_g:(s:SId)→(x:s.T)→(encS s x).map SV.g=encA s x
 | .lst s,l=>by simp only[encS,encA,List.map_cons,List.map_nil,SV.g,flatA]
 | .pair s t,x=>by simp only[encS,encA,List.map_append,encS_g s x.1,encS_g t x.2]
 | .i _,x| .b,x| .bun,x| .off,x| .need,x| .key,x| .sit,x=>by simp[encS,encA,encV,SV.g,iv]
theorem encV_len:(s:SId)→(x:s.T)→(encV s x).length=s.sz
 | .pair s t,x=>by simp only[encV,List.length_append,encV_len s x.1,encV_len t x.2,SId.sz]
 | .lst _,x| .i _,x| .b,x| .bun,x| .off,x| .need,x| .key,x| .sit,x=>rfl
theorem encA_len:(s:SId)→(x:s.T)→(encA s x).length=s.sz
 | .pair s t,x=>by simp only[encA,List.length_append,encA_len s x.1,encA_len t x.2,SId.sz]
 | .lst _,x| .i _,x| .b,x| .bun,x| .off,x| .need,x| .key,x| .sit,x=>rfl
theorem encS_len (s:SId) (x:s.T):(encS s x).length=s.sz:=by
 have:=congrArg List.length (encS_g s x)
 simpa[encA_len] using this
theorem flat_encA:(s:SId)→s.flat=true→(x:s.T)→encA s x=(encV s x).map .sc
 | .pair s t,h,x=>by
  simp only[SId.flat,Bool.and_eq_true] at h
  simp only[encA,encV,List.map_append,flat_encA s h.1,flat_encA t h.2]
 | .lst _,h,x=>by simp[SId.flat] at h
 | .i _,_,x| .b,_,x| .bun,_,x| .off,_,x| .need,_,x| .key,_,x| .sit,_,x=>rfl
theorem int_g {k:IntKind} {c:SV} {n:Int} (h:c.int k=some n):c.g= .sc (.int k n):=by
 cases c<;>simp only[SV.int,reduceCtorEq] at h
 all_goals
  split at h
  ·rename_i hk;subst hk;simp at h;subst h;simp[SV.g]
  ·cases h
theorem boo_g {c:SV} {b:Bool} (h:c.boo=some b):c.g= .sc (.bool b):=by
 cases c<;>simp[SV.boo] at h<;>subst h<;>simp[SV.g]
theorem ints_g:∀{cs:List SV} {l:List Int},ints cs=some l→cs.map SV.g=l.map fun n=> .sc (iv n)
 |[],l,h=>by simp[ints] at h;subst h;rfl
 |c::cs,l,h=>by
  simp only[ints] at h
  split at h
  ·rename_i n l' h1 h2
   simp at h;subst h
   simp[int_g h1,ints_g h2,iv]
  ·cases h
theorem castL_eq {s s':SId} {l:List s.T} {l':List s'.T} (h:castL s s' l=some l'):s=s'∧HEq l l':=by
 unfold castL at h
 split at h
 ·rename_i hs
  subst hs
  simp only[Option.some.injEq] at h
  exact⟨rfl,heq_of_eq h⟩
 ·cases h
theorem decRow_g {s:SId} {v:SV} {l:List s.T} (h:decRow s v=some l):v.g= .sl l.length (flatA s l):=by
 cases v<;>simp only[decRow,reduceCtorEq] at h
 rename_i s' l'
 split at h
 ·rename_i l2 hc
  simp only[Option.some.injEq] at h;subst h
  obtain⟨rfl,hh⟩:=castL_eq hc
  cases hh
  rfl
 ·split at h
  ·simp only[Option.some.injEq] at h;subst h
   simp[SV.g,flatA]
  ·cases h
theorem decS_g:{s:SId}→{cs:List SV}→{x:s.T}→(h:decS s cs=some x)→cs.map SV.g=encA s x
 | .i k,[c],_,h=>by simp only[decS] at h;simp[encA,encV,int_g h]
 | .b,[c],_,h=>by simp only[decS] at h;simp[encA,encV,boo_g h]
 | .lst s,[c],_,h=>by simp only[decS] at h;simp only[List.map_cons,List.map_nil,decRow_g h,encA,flatA]
 | .pair s t,cs,_,h=>by
  simp only[decS] at h
  split at h
  ·rename_i x y h1 h2
   simp only[Option.some.injEq] at h;subst h
   have g1:=decS_g h1
   have g2:=decS_g h2
   simp only[encA,←g1,←g2]
   rw[←List.map_append,List.take_append_drop]
  ·cases h
 | .bun,cs,_,h| .off,cs,_,h| .need,cs,_,h| .key,cs,_,h| .sit,cs,_,h=>by
  simp only[decS] at h
  split at h
  ·rename_i h1
   simp at h;subst h
   rw[ints_g h1]
   simp[encA,encV]
  ·cases h
theorem qnS_g (v:SV):v.qn.g=v.g.qn:=by
 unfold SV.qn
 split
 ·simp[SV.g,AV.qn,flatA]
 ·rename_i h
  cases v with
  |sc v=>
   simp only[SV.g]
   unfold AV.qn
   split
   ·rename_i h2
    simp only[AV.sc.injEq] at h2
    exact absurd (by rw[h2]) h
   ·rfl
  |_=>simp only[SV.g,AV.qn]
theorem encV_one:(s:SId)→(x:s.T)→∀v∈encV s x,v.oneCell'=true
 | .pair s t,x=>by
  intro v hv
  simp only[encV] at hv
  rcases List.mem_append.1 hv with h|h
  ·exact encV_one s _ v h
  ·exact encV_one t _ v h
 | .lst _,x| .i _,x| .b,x| .bun,x| .off,x| .need,x| .key,x| .sit,x=>by simp[encV,iv,Value.oneCell']
def Plain (a:AV):Prop:=(∃v,a= .sc v∧v.oneCell'=true∧v≠ .slice none 0 0)∨∃n cs,a= .sl n cs∧pureL cs=true
theorem pureL_all:∀{l:List AV},(∀a∈l,a.pure=true)→pureL l=true
 |[],_=>by simp[pureL]
 |a::l,h=>by simp[pureL,h a (by simp),pureL_all (l:=l) fun b hb=>h b (by simp[hb])]
theorem belL_all {k:Nat}:∀{l:List AV},(∀a∈l,a.bel k=true)→belL k l=true
 |[],_=>by simp[belL]
 |a::l,h=>by simp[belL,h a (by simp),belL_all (l:=l) fun b hb=>h b (by simp[hb])]
theorem Plain.pure {a:AV} (h:Plain a):a.pure=true:=by
 rcases h with⟨v,rfl,_⟩|⟨n,cs,rfl,h⟩
 ·simp[AV.pure]
 ·simpa[AV.pure] using h
theorem Plain.bel {a:AV} (h:Plain a) (k:Nat):a.bel k=true:=by
 rcases h with⟨v,rfl,_⟩|⟨n,cs,rfl,h⟩<;>simp[AV.bel]
theorem Plain.one {a:AV} (h:Plain a):a.one=true:=by
 rcases h with⟨v,rfl,h,_⟩|⟨n,cs,rfl,h⟩
 ·simpa[AV.one] using h
 ·simp[AV.one]
theorem Plain.qn {a:AV} (h:Plain a):a.qn=a:=by
 rcases h with⟨v,rfl,_,h⟩|⟨n,cs,rfl,h⟩
 ·unfold AV.qn
  split
  ·rename_i h2
   simp only[AV.sc.injEq] at h2
   exact absurd h2 h
  ·rfl
 ·rfl
theorem encA_plain:(s:SId)→(x:s.T)→∀a∈encA s x,Plain a
 | .pair s t,x=>by
  intro a ha
  simp only[encA] at ha
  rcases List.mem_append.1 ha with h|h
  ·exact encA_plain s _ a h
  ·exact encA_plain t _ a h
 | .lst s,l=>by
  intro a ha
  simp only[encA,List.mem_singleton] at ha
  subst ha
  refine .inr ⟨_,_,rfl,pureL_all fun b hb=>?_⟩
  obtain⟨y,_,hy⟩:=List.mem_flatMap.1 hb
  exact(encA_plain s y b hy).pure
 | .i _,x| .b,x| .bun,x| .off,x| .need,x| .key,x| .sit,x=>by
  intro a ha
  simp only[encA] at ha
  obtain⟨v,hv,rfl⟩:=List.mem_map.1 ha
  refine .inl ⟨v,rfl,encV_one _ _ v hv,?_⟩
  rintro rfl
  simp[encV,iv] at hv
theorem flatA_plain {s:SId} {l:List s.T} {a:AV} (h:a∈flatA s l):Plain a:=by
 unfold flatA at h
 obtain⟨x,_,hx⟩:=List.mem_flatMap.1 h
 exact encA_plain s x a hx
theorem flatA_pure (s:SId) (l:List s.T):pureL (flatA s l)=true:=pureL_all fun a h=>(flatA_plain h).pure
theorem flatA_bel (k:Nat) (s:SId) (l:List s.T):belL k (flatA s l)=true:=belL_all fun a h=>(flatA_plain h).bel k
theorem flatA_one (s:SId) (l:List s.T):oneL (flatA s l)=true:=by
 simp only[oneL,List.all_eq_true]
 intro a h
 exact(flatA_plain h).one
theorem map_qn {l:List AV} (h:∀a∈l,Plain a):l.map .qn=l:=by
 have:l.map AV.qn=l.map id:=List.map_congr_left fun a ha=>(h a ha).qn
 simpa using this
theorem flatA_qn (pu:Bool) (s:SId) (l:List s.T):qnL pu (flatA s l)=flatA s l:=by
 unfold qnL
 split
 ·exact map_qn fun a ha=>flatA_plain ha
 ·rfl
theorem flatA_len (s:SId) (l:List s.T):(flatA s l).length=l.length*s.sz:=by
 induction l with
 |nil=>simp[flatA]
 |cons x l ih=>simp only[flatA,List.flatMap_cons,List.length_append,encA_len,List.length_cons] at ih ⊢;rw[ih,Nat.succ_mul];omega
theorem flatA_app (s:SId) (l l':List s.T):flatA s (l++l')=flatA s l++flatA s l':=by simp[flatA]
theorem flatA_drop (s:SId):∀(l:List s.T) (i:Nat),(flatA s l).drop (i*s.sz)=flatA s (l.drop i)
 |l,0=>by simp
 |[],i+1=>by simp[flatA]
 |x::l,i+1=>by
  have h:=flatA_drop s l i
  simp only[flatA,List.flatMap_cons,List.drop_succ_cons] at h ⊢
  rw[Nat.succ_mul,Nat.add_comm,List.drop_append,encA_len,Nat.add_sub_cancel_left,h,List.drop_of_length_le (by rw[encA_len];omega)]
  simp
theorem flatA_take (s:SId):∀(l:List s.T) (i:Nat),(flatA s l).take (i*s.sz)=flatA s (l.take i)
 |l,0=>by simp[flatA]
 |[],i+1=>by simp[flatA]
 |x::l,i+1=>by
  have h:=flatA_take s l i
  simp only[flatA,List.flatMap_cons,List.take_succ_cons] at h ⊢
  rw[Nat.succ_mul,Nat.add_comm,List.take_append,encA_len,Nat.add_sub_cancel_left,h,List.take_of_length_le (by rw[encA_len];omega)]
def nthD {α:Type} (l:List α) (i:Nat) (d:α):α:=(l[i]?).getD d
theorem nthD_eq {α:Type} {l:List α} {i:Nat} {d:α} (h:i<l.length):nthD l i d=l[i]:=by simp[nthD,h]
theorem flatA_at {s:SId} {l:List s.T} {i:Nat} (h:i<l.length):(flatA s l).drop (i*s.sz)=encA s (nthD l i s.dflt)++flatA s (l.drop (i+1)):=by
 rw[flatA_drop,List.drop_eq_getElem_cons h,nthD_eq h]
 simp only[flatA,List.flatMap_cons]
end Go.Vi
