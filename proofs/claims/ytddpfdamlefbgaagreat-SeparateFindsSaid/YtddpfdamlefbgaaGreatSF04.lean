/-
  The abstract interpreter: a region whose order is open.
  Conditions: none.
-/
import Derived.Test.YtddpfdamlefbgaaGreatSF03
import Derived.RangeFuncOwn
import Derived.RangeFuncLeaves
import Derived.LoopNIn
import Derived.ControlIn
import Derived.LoopN
import Derived.Scope
import Derived.Tactics
set_option maxRecDepth 100000
set_option maxHeartbeats 4000000
set_option linter.all false
namespace Go.Vi
section
variable {call:Oracle} {ρ ρ2:Operand→AV} {nid:Nat}
theorem wrt_tch {a:IOp} {o:Store} {j:Nat} (h:j∈wrt a ρ o nid):j∈tch a ρ o nid:=by
 cases a<;>simp only[wrt,tch,List.not_mem_nil] at h ⊢<;>try exact h
 all_goals grind
theorem wrt_nil {a:IOp} {o:Store} (h:a.cls=0∨a.cls=1):wrt a ρ o nid=[]:=by
 cases a<;>try (simp[IOp.cls] at h;done)
 case call f c b=>cases b<;>simp[IOp.cls] at h;rfl
 case callv f c b=>cases b<;>simp[IOp.cls] at h;rfl
 all_goals rfl
theorem tch_nil {b:IOp} {o:Store} (h:b.cls=0):tch b ρ o nid=[]:=by
 cases b<;>try (simp[IOp.cls] at h;done)
 case call f c a=>cases a<;>simp[IOp.cls] at h
 case callv f c a=>cases a<;>simp[IOp.cls] at h
 all_goals rfl
theorem cls_cases (a:IOp):a.cls=0∨a.cls=1∨a.cls=2∨a.cls=3:=by
 cases a<;>try (simp[IOp.cls];done)
 case call f c b=>cases b<;>simp[IOp.cls]
 case callv f c b=>cases b<;>simp[IOp.cls]
def ModO (a:IOp) (W:List Nat) (n j:Nat):Prop:=j∈W∨(a.cls=3∧n≤j)
theorem wrtC_sub {a:IOp} {o:Store} {j:Nat} (h:j∈wrtC call a ρ o nid):j∈wrt a ρ o nid:=by
 unfold wrtC at h
 split at h
 ·split at h
  ·exact(List.mem_filter.1 h).1
  ·simp at h
 ·exact h
theorem wrtC_tch {a:IOp} {o:Store} {j:Nat} (h:j∈wrtC call a ρ o nid):j∈tch a ρ o nid:=wrt_tch (wrtC_sub h)
theorem wrtC_nil {a:IOp} {o:Store} (h:a.cls=0∨a.cls=1):wrtC call a ρ o nid=[]:=by
 unfold wrtC
 grind[IOp.cls,wrt_nil]
theorem wrtC_two {a:IOp} {o:Store} (h:a.cls=2):wrtC call a ρ o nid=wrt a ρ o nid:=by
 unfold wrtC
 grind[IOp.cls]
open Classical in
theorem eff_loc {iop:IOp} {o o':Store} {v:AV} (he:effS call iop ρ o nid=some (v,o')):
  o.length≤o'.length∧(iop.cls≠3→o'.length=o.length)∧(∀j,¬ModO iop (wrtC call iop ρ o nid) o.length j→o'[j]?=o[j]?)∧
  ∀o2:Store,(∀j∈tch iop ρ o nid,o2[j]?=o[j]?)→(iop.cls=3→o2.length=o.length)→
   ∃o2',effS call iop ρ o2 nid=some (v,o2')∧tch iop ρ o2 nid=tch iop ρ o nid∧wrtC call iop ρ o2 nid=wrtC call iop ρ o nid∧∀j,ModO iop (wrtC call iop ρ o nid) o.length j→o2'[j]?=o'[j]?:=by
 rcases cls_cases iop with hc|hc|hc|hc
 ·have:=eff_pure_o hc he
  subst this
  refine⟨Nat.le_refl _,fun _=>rfl,fun _ _=>rfl,fun o2 _ _=>⟨o2,?_,by rw[tch_nil hc,tch_nil hc],by rw[wrtC_nil (.inl hc),wrtC_nil (.inl hc)],fun j hj=>?_⟩⟩
  ·rw[eff_pure hc o' o2,he];rfl
  ·rw[ModO,wrtC_nil (.inl hc)] at hj;simp[hc] at hj
 ·have:=eff_reads_o hc he
  subst this
  refine⟨Nat.le_refl _,fun _=>rfl,fun _ _=>rfl,fun o2 h _=>⟨o2,?_,(eff_reads (call:=call) hc h).2,by rw[wrtC_nil (.inr hc),wrtC_nil (.inr hc)],fun j hj=>?_⟩⟩
  ·rw[(eff_reads hc h).1,he];rfl
  ·rw[ModO,wrtC_nil (.inr hc)] at hj;simp[hc] at hj
 ·simp only[wrtC_two hc]
  obtain⟨id,x,hid,rfl,hk⟩:=eff_writes hc he
  refine⟨by simp,fun _=>by simp,fun j hj=>?_,fun o2 h _=>?_⟩
  ·have:j≠id:=fun hji=>hj (.inl (hji▸hid))
   rw[List.getElem?_set_ne (Ne.symm this)]
  ·obtain⟨k1,k2,k3⟩:=hk o2 h
   refine⟨_,k1,k2,k3,fun j hj=>?_⟩
   have hj:j∈wrt iop ρ o nid:=hj.resolve_right (by simp[hc])
   have hjo:=h j (wrt_tch hj)
   by_cases hji:id=j
   ·subst hji
    have hlen:(id<o2.length)↔(id<o.length):=by
     rcases Nat.lt_or_ge id o2.length with g1|g1<;>rcases Nat.lt_or_ge id o.length with g2|g2
     ·simp[g1,g2]
     ·rw[List.getElem?_eq_getElem g1,List.getElem?_eq_none g2] at hjo;cases hjo
     ·rw[List.getElem?_eq_getElem g2,List.getElem?_eq_none g1] at hjo;cases hjo
     ·omega
    rw[List.getElem?_set,List.getElem?_set]
    simp only[if_true]
    by_cases h1:id<o.length
    ·rw[if_pos h1,if_pos (hlen.2 h1)]
    ·rw[if_neg h1,if_neg fun h2=>h1 (hlen.1 h2)]
   ·rw[List.getElem?_set_ne hji,List.getElem?_set_ne hji];exact hjo
 ·have key:∀(f:FuncId) (args:List AV),callOwn call f args o=some (v,o')→wrtC call iop ρ o nid=reachF o reachD args []→tch iop ρ o nid=reachF o reachD args []→
    (∀o2:Store,effS call iop ρ o2 nid=callOwn call f args o2∧tch iop ρ o2 nid=reachF o2 reachD args []∧wrtC call iop ρ o2 nid=reachF o2 reachD args [])→
    o.length≤o'.length∧(iop.cls≠3→o'.length=o.length)∧(∀j,¬ModO iop (wrtC call iop ρ o nid) o.length j→o'[j]?=o[j]?)∧
    ∀o2:Store,(∀j∈tch iop ρ o nid,o2[j]?=o[j]?)→(iop.cls=3→o2.length=o.length)→
    ∃o2',effS call iop ρ o2 nid=some (v,o2')∧tch iop ρ o2 nid=tch iop ρ o nid∧wrtC call iop ρ o2 nid=wrtC call iop ρ o nid∧∀j,ModO iop (wrtC call iop ρ o nid) o.length j→o2'[j]?=o'[j]?:=by
   intro f args hcall hw ht hg
   obtain⟨c1,c2,c3⟩:=callOwn_loc hcall
   refine⟨c1,fun h=>absurd hc h,fun j hj=>?_,fun o2 h hl=>?_⟩
   ·simp only[ModO,hc,true_and,not_or,Nat.not_le,hw] at hj
    exact c2 j hj.2 hj.1
   ·rw[ht] at h
    obtain⟨o2',d1,d2,d3⟩:=c3 o2 (hl hc) h
    obtain⟨g1,g2,g3⟩:=hg o2
    refine⟨o2',by rw[g1,d1],by rw[g2,d2,ht],by rw[g3,d2,hw],fun j hj=>d3 j ?_⟩
    simp only[ModO,hc,true_and,hw] at hj
    exact hj
  cases iop<;>try (simp[IOp.cls] at hc;done)
  case call f args own=>
   cases own
   ·simp[IOp.cls] at hc
   ·simp only[effS,callA,if_true] at he
    obtain⟨c1,c2,c3⟩:=callOwn_loc he
    have hw:wrtC call (.call f args true) ρ o nid=(reachF o reachD (args.map ρ) []).filter fun j=>decide (o'[j]?≠o[j]?):=by simp only[wrtC,he]
    refine⟨c1,fun h=>absurd hc h,fun j hj=>?_,fun o2 h hl=>?_⟩
    ·simp only[ModO,hc,true_and,not_or,Nat.not_le,hw,List.mem_filter,decide_eq_true_eq,not_and,Classical.not_not,ne_eq] at hj
     by_cases hm:j∈reachF o reachD (args.map ρ) []
     ·exact hj.1 hm
     ·exact c2 j hj.2 hm
    ·obtain⟨o2',d1,d2,d3⟩:=c3 o2 (hl hc) h
     refine⟨o2',by simp only[effS,callA,if_true,d1],d2,?_,fun j hj=>?_⟩
     ·rw[hw]
      simp only[wrtC,d1,d2]
      refine List.filter_congr fun j hj=>?_
      rw[d3 j (.inl hj),h j hj]
     ·rw[ModO,hw,List.mem_filter] at hj
      exact d3 j (hj.imp (fun h=>h.1) fun h=>h.2)
  case callv f args own=>
   cases own
   ·simp[IOp.cls] at hc
   ·simp only[effS,callA,if_true] at he
    split at he
    ·rename_i g first captured hf
     exact key g (first++args.map ρ++captured) he (by simp[wrtC,wrt,hf]) (by simp[tch,hf]) fun o2=>⟨by simp[effS,callA,hf],by simp[tch,hf],by simp[wrtC,wrt,hf]⟩
    ·cases he
theorem map_rho {l:List Operand} (h:∀x∈l,ρ2 x=ρ x):l.map ρ2=l.map ρ:=List.map_congr_left h
theorem eff_rho {c:IOp} (h:∀x∈c.opds,ρ2 x=ρ x) (o:Store):effS call c ρ2 o nid=effS call c ρ o nid∧tch c ρ2 o nid=tch c ρ o nid∧wrtC call c ρ2 o nid=wrtC call c ρ o nid:=by
 cases c
 case build z i=>
  have:(i.map fun p=>(p.1,p.2.1,ρ2 p.2.2))=i.map fun p=>(p.1,p.2.1,ρ p.2.2):=List.map_congr_left fun p r=>by grind[IOp.opds]
  simp only[effS,tch,wrtC,wrt,this,and_self]
 case mkrow z n i e l=>
  have:(i.map fun p=>(p.1,l,ρ2 p.2))=i.map fun p=>(p.1,l,ρ p.2):=List.map_congr_left fun p r=>by grind[IOp.opds]
  simp only[effS,tch,wrtC,wrt,this,and_self]
 case mkimm z n i e l=>
  have:(i.map fun p=>(p.1,l,ρ2 p.2))=i.map fun p=>(p.1,l,ρ p.2):=List.map_congr_left fun p r=>by grind[IOp.opds]
  simp only[effS,tch,wrtC,wrt,this,and_self]
 case call f d k=>
  have:=map_rho h
  simp only[IOp.opds] at this
  cases k<;>simp only[effS,tch,wrtC,wrt,this,and_self]
 case callv f d k=>
  have m:d.map ρ2=d.map ρ:=map_rho fun x u=>h x (by grind[IOp.opds])
  have q:=h f (by simp[IOp.opds])
  cases k<;>simp only[effS,tch,wrtC,wrt,m,q,and_self]
 case callm s x d=>
  simp_all[map_rho,IOp.opds,effS,tch,wrtC,wrt]
 case mkfn f a b=>
  simp_all[IOp.opds,effS,tch,wrtC,wrt]
 case slice l x g j=>
  have m:g.map ρ2=g.map ρ:=by cases g<;>simp[IOp.opds] at h ⊢;exact h.2.1
  have q:j.map ρ2=j.map ρ:=by cases j<;>simp[IOp.opds] at h ⊢;simp_all
  simp_all[IOp.opds,effS,tch,wrtC,wrt]
 case sliceStr x g j=>
  have m:g.map ρ2=g.map ρ:=by cases g<;>simp[IOp.opds] at h ⊢;exact h.2.1
  have q:j.map ρ2=j.map ρ:=by cases j<;>simp[IOp.opds] at h ⊢;simp_all
  simp_all[IOp.opds,effS,tch,wrtC,wrt]
 case slice3 l x g j t=>
  have m:g.map ρ2=g.map ρ:=by
   cases g with
   |none=>rfl
   |some a=>simp_all[IOp.opds]
  simp_all[IOp.opds,effS,tch,wrtC,wrt]
 all_goals
  simp only[IOp.opds,List.mem_cons,List.not_mem_nil,or_false,forall_eq_or_imp,forall_eq] at h
  simp[effS,tch,wrtC,wrt,h]
end
section
variable {call:Oracle} {base:Nat}
noncomputable def entry (call:Oracle) (base:Nat) (i:IOper) (st:St):List Nat×List Nat:=
 match wantA st.env i.guard with
 |some true=>(tch i.op (evA st.env) st.o (base+i.nid),wrtC call i.op (evA st.env) st.o (base+i.nid))
 |_=>([],[])
theorem entry_sub {i:IOper} {st:St} {j:Nat} (h:j∈(entry call base i st).2):j∈(entry call base i st).1:=by
 grind[entry,wrtC_tch]
theorem evA_reads {i:IOper} {e a:EnvA} (h:∀s∈i.reads,getE a s=getE e s):(∀x∈i.op.opds,evA a x=evA e x)∧wantA a i.guard=wantA e i.guard:=by
 constructor
 ·intro x b
  cases x with
  |tmp t=>
   refine h t ?_
   simp only[IOper.reads,List.mem_append]
   left
   exact List.mem_filterMap.2 ⟨.tmp t,b,rfl⟩
  |_=>rfl
 ·unfold wantA
  grind[IOper.reads]
theorem step_loc {i:IOper} {st st':St} (a:runOp call base i st=some st'):
  ∃v,(∀s,getE st'.env s=if i.dst=some s then v else getE st.env s)∧st.o.length≤st'.o.length∧(i.op.cls≠3→st'.o.length=st.o.length)∧
   (∀j,¬ModO i.op (entry call base i st).2 st.o.length j→st'.o[j]?=st.o[j]?)∧
   ∀st2:St,(∀s∈i.reads,getE st2.env s=getE st.env s)→(∀j∈(entry call base i st).1,st2.o[j]?=st.o[j]?)→(i.op.cls=3→st2.o.length=st.o.length)→
    ∃b,runOp call base i st2=some b∧(∀s,getE b.env s=if i.dst=some s then v else getE st2.env s)∧entry call base i st2=entry call base i st∧
     ∀j,ModO i.op (entry call base i st).2 st.o.length j→b.o[j]?=st'.o[j]?:=by
 unfold runOp at a
 split at a
 ·cases a
 ·rename_i n
  injection a with a
  subst a
  refine⟨.tup [],fun s=>getE_put _ _ _ _,Nat.le_refl _,fun _=>rfl,fun _ _=>rfl,fun st2 c _ k=>?_⟩
  obtain⟨h,t⟩:=evA_reads c
  refine⟨⟨putE st2.env i.dst (.tup []),st2.o⟩,?_,fun s=>getE_put _ _ _ _,?_,fun j w=>?_⟩
  all_goals simp_all[runOp,entry,ModO]
 ·rename_i n
  split at a
  ·rename_i v y c
   injection a with a
   subst a
   rw[eff_eq] at c
   obtain⟨r,l,m,p⟩:=eff_loc c
   have e:entry call base i st=(tch i.op (evA st.env) st.o (base+i.nid),wrtC call i.op (evA st.env) st.o (base+i.nid)):=by grind[entry]
   rw[e]
   refine⟨v,fun s=>getE_put _ _ _ _,r,l,m,fun st2 f d k=>?_⟩
   obtain⟨h,t⟩:=evA_reads f
   obtain⟨g,z,x,B,q⟩:=p st2.o d k
   obtain⟨C,A,u⟩:=eff_rho (call:=call) (nid:=base+i.nid) h st2.o
   refine⟨⟨putE st2.env i.dst v,g⟩,?_,fun s=>getE_put _ _ _ _,?_,q⟩<;>grind[putE,getE_put,runOp,eff_eq,entry]
  ·cases a
def StEq (a b:St):Prop:=(∀s,getE a.env s=getE b.env s)∧a.o=b.o
theorem StEq.refl (a:St):StEq a a:=⟨fun _=>rfl,rfl⟩
theorem StEq.trans {a b c:St} (h:StEq a b) (k:StEq b c):StEq a c:=⟨fun s=>(h.1 s).trans (k.1 s),h.2.trans k.2⟩
theorem StEq.symm {a b:St} (h:StEq a b):StEq b a:=⟨fun s=>(h.1 s).symm,h.2.symm⟩
theorem StEq.run {i:IOper} {a b l:St} (h:StEq a b) (e:runOp call base i a=some l):∃k,runOp call base i b=some k∧StEq l k∧entry call base i b=entry call base i a:=by
 have j:evA b.env=evA a.env:=by
  funext x
  cases x with
  |tmp t=>exact(h.1 t).symm
  |_=>rfl
 have o:wantA b.env i.guard=wantA a.env i.guard:=by
  cases p:i.guard with
  |none=>rfl
  |some g=>
   obtain⟨c,d⟩:=g
   cases c with
   |none=>rfl
   |some s=>simp only[wantA];rw[h.1]
 have f:∀(v:AV) (s:Nat),getE (putE a.env i.dst v) s=getE (putE b.env i.dst v) s:=by
  intro v s
  simp only[getE_put]
  by_cases m:i.dst=some s
  ·simp_all
  ·rw[if_neg m,if_neg m];exact h.1 s
 have n:entry call base i b=entry call base i a:=by unfold entry;rw[o,j,h.2]
 unfold runOp at e ⊢
 rw[o,j,←h.2]
 split at e
 ·cases e
 ·injection e with e;subst e
  exact⟨_,rfl,⟨f _,rfl⟩,n⟩
 ·split at e
  ·injection e with e;subst e
   exact⟨_,rfl,⟨f _,rfl⟩,n⟩
  ·cases e
def RelT (n0:Nat) (y:IOper) (a:List Nat×List Nat) (x:IOper) (b:List Nat×List Nat):Prop:=
 apartT y x=true∧(∀j∈a.2,j∉b.1)∧(∀j∈b.2,j∉a.1)∧(y.op.cls=3→x.op.cls≠3∧∀j∈b.1,j<n0)∧(x.op.cls=3→∀j∈a.1,j<n0)
theorem apartT_spec {y x:IOper} (h:apartT y x=true):(∀d,y.dst=some d→d∉x.reads)∧(∀d,x.dst=some d→d∉y.reads)∧∀d,y.dst=some d→x.dst≠some d:=by
 grind[apartT,disj]
theorem swap {n0:Nat} {y x:IOper} {st c s2:St} (k:runOp call base y st=some c) (n:runOp call base x c=some s2) (P:n0≤st.o.length) (D:RelT n0 y (entry call base y st) x (entry call base x c)):
  ∃a b,runOp call base x st=some a∧runOp call base y a=some b∧StEq s2 b∧entry call base x st=entry call base x c∧entry call base y a=entry call base y st:=by
 obtain⟨d,Z,O,H,Q⟩:=D
 obtain⟨a1,K,U⟩:=apartT_spec d
 obtain⟨G,A,y2,S,C,F⟩:=step_loc k
 obtain⟨L,q,V,T,X,l⟩:=step_loc n
 obtain⟨a,h,u,f,p4⟩:=l st (fun s i=>by
   grind) (fun j m=>by
   rw[C j]
   rintro(z|⟨e,B⟩)<;>grind) (fun e=>by
   omega)
 obtain⟨E,J,W,I,r,_⟩:=step_loc h
 obtain⟨b,g,w,p,R⟩:=F a (fun s i=>by
   grind) (fun j m=>by
   rw[r j]
   rw[f]
   rintro(z|⟨e,B⟩)<;>grind) (fun e=>by
   omega)
 obtain⟨t,b1,M,Y,N,_⟩:=step_loc g
 refine⟨a,b,h,g,⟨fun s=>?_,?_⟩,f.symm▸rfl,p⟩
 ·rw[q s,w s,u s,A s]
  grind
 ·apply List.ext_getElem?
  intro j
  by_cases v:ModO x.op (entry call base x c).2 c.o.length j
  ·
   grind[ModO,entry_sub]
  grind[ModO]
noncomputable def ents (call:Oracle) (base:Nat):List IOper→St→List (List Nat×List Nat)
 |[],_=>[]
 |i::r,b=>entry call base i b::match runOp call base i b with
  |some a=>ents call base r a
  |none=>[]
theorem StEq.runs {l:List IOper}:∀{a b d:St},StEq a b→runOps call base l a=some d→∃e,runOps call base l b=some e∧StEq d e∧ents call base l b=ents call base l a:=by
 induction l with
 |nil=>intro a b d h c;simp only[runOps,Option.some.injEq] at c;subst c;exact⟨b,rfl,h,rfl⟩
 |cons i l o=>
  intro a b d h c
  simp only[runOps] at c
  split at c
  ·rename_i k f
   obtain⟨j,m,g,n⟩:=h.run f
   grind[runOps,ents]
  ·cases c
theorem front {n0:Nat} {x:IOper} {b:List IOper}:∀(a:List IOper) {st s:St},runOps call base (a++x::b) st=some s→n0≤st.o.length→
  (∀(k:Nat) (y:IOper) (p f:List Nat×List Nat),a[k]?=some y→(ents call base (a++x::b) st)[k]?=some p→(ents call base (a++x::b) st)[a.length]?=some f→RelT n0 y p x f)→
  ∃g s',runOp call base x st=some g∧runOps call base (a++b) g=some s'∧StEq s s'∧(ents call base (a++x::b) st)[a.length]?=some (entry call base x st)∧
   ents call base (a++b) g=(ents call base (a++x::b) st).eraseIdx a.length
 |[],st,s,d,_,_=>by
  grind[runOps,StEq.refl,ents]
 |y::a,st,s,d,n,m=>by
  simp only[List.cons_append,runOps] at d
  split at d
  ·rename_i l i
   have c:ents call base (y::(a++x::b)) st=entry call base y st::ents call base (a++x::b) l:=by simp[ents,i]
   obtain⟨_,_,h,_⟩:=step_loc i
   obtain⟨g,s',r,v,C,M,I⟩:=front a d (Nat.le_trans n h) fun k z u f t K L=>m (k+1) z u f (by simpa using t) (by simp_all) (by simp_all)
   have e:RelT n0 y (entry call base y st) x (entry call base x l):=m 0 y _ _ (by simp) (by simp[c]) (by simp_all)
   obtain⟨B,H,w,F,A,D,J⟩:=swap i r n e
   obtain⟨j,G,q,E⟩:=A.runs v
   refine⟨B,j,w,?_,C.trans q,?_,?_⟩<;>grind[runOps,ents]
  ·cases d
end
theorem ancStep_bits {acc:List Nat} {l:List Edge} {m:Nat}:∀{s:Nat},(l.foldl (ancStep acc) s).testBit m=true→s.testBit m=true∨∃e∈l,Region.binds .any e=true∧(m=e.on∨(acc.getD e.on 0).testBit m=true):=by
 induction l with
 |nil=>simp_all
 |cons e l b=>
  intro s h
  simp only[List.foldl_cons] at h
  rcases b h with a|⟨d,f,a,c⟩
  ·unfold ancStep at a
   grind
  grind
def ancF (acc:List Nat) (o:Oper):Nat:=o.after.toList.foldl (ancStep acc) 0
theorem ancGo_spec:∀(L:List Oper) (acc:List Nat),∃r,L.foldl (fun acc o=>acc++[ancF acc o]) acc=acc++r∧r.length=L.length∧
  ∀(k:Nat) (o:Oper),L[k]?=some o→r[k]?=some (ancF (acc++r.take k) o)
 |[],acc=>⟨[],by simp,rfl,by simp⟩
 |o::L,acc=>by
  obtain⟨r,b,a,d⟩:=ancGo_spec L (acc++[ancF acc o])
  refine⟨ancF acc o::r,by simp[b],by simp[a],fun k e c=>?_⟩
  cases k<;>simp_all
theorem ancs_bits {a:Array Oper} {k m:Nat} {o:Oper} (p:a[k]?=some o) (h:((ancs a).getD k 0).testBit m=true):
  ∃e∈o.after,Region.binds .any e=true∧(m=e.on∨((ancs a).getD e.on 0).testBit m=true):=by
 obtain⟨r,j,n,g⟩:=ancGo_spec a.toList []
 have c:ancs a=r:=by
  grind[ancs,ancF]
 rw[c] at h ⊢
 have d:=g k o (by simp_all)
 rw[List.getD_eq_getElem?_getD,d] at h
 simp only[Option.getD_some,List.nil_append] at h
 rcases ancStep_bits h with f|⟨e,l,i,b⟩
 ·simp at f
 ·refine⟨e,by simp_all,i,b.imp_right fun b=>?_⟩
  rw[List.getD_eq_getElem?_getD] at b ⊢
  rw[List.getElem?_take] at b
  grind
theorem edgesB_spec:∀(L:List Oper) (i:Nat),edgesB i L=true→∀(k:Nat) (o:Oper),L[k]?=some o→∀e∈o.after,Region.binds .any e=true→e.on<i+k
 |[],i,_,k,o,a,_,_,_=>by simp at a
 |o::L,i,h,k,c,a,e,d,b=>by
  simp only[edgesB,Bool.and_eq_true,List.all_eq_true] at h
  cases k with
  |zero=>
   grind
  |succ k=>
   have:=edgesB_spec L (i+1) h.2 k c (by simp_all) e d b
   omega
theorem swaps_spec {c:List Nat}:∀{l:List IOper},swapsOk c l=true→∀(p q:Nat) (y x:IOper),p<q→l[p]?=some y→l[q]?=some x→
  (c.getD x.idx 0).testBit y.idx=true∨(apartT y x=true∧(freeM y x=true∨mayM y x=true))
 |[],_,p,q,y,x,_,e,_=>by simp at e
 |a::r,h,p,q,y,x,b,e,d=>by
  simp only[swapsOk,Bool.and_eq_true,List.all_eq_true] at h
  match q,b with
  |q+1,b=>
   simp only[List.getElem?_cons_succ] at d
   cases p with
   |zero=>
    grind
   |succ p=>exact swaps_spec h.2 p q y x (by omega) (by simp_all) d
theorem pairs_spec {d:List Nat}:∀{l:List IOper} (p q:Nat) (y x:IOper),p<q→l[p]?=some y→l[q]?=some x→¬(d.getD x.idx 0).testBit y.idx=true→freeM y x=false→(y.idx,x.idx)∈pairsOf d l
 |[],p,q,y,x,_,c,_,_,_=>by simp at c
 |a::r,p,q,y,x,b,c,e,g,f=>by
  simp only[pairsOf,List.mem_append]
  match q,b with
  |q+1,b=>
   simp only[List.getElem?_cons_succ] at e
   cases p with
   |zero=>
    grind
   |succ p=>exact .inr (pairs_spec p q y x (by omega) (by simp_all) e g f)
section
variable {P:Program} {A:Clr} {D:List Deferred} {call:Oracle} {base:Nat}
theorem ents_entry:∀{l:List IOper} {st:St} {p:Nat} {x:IOper} {t:List Nat×List Nat},l[p]?=some x→(ents call base l st)[p]?=some t→∃st',t=entry call base x st'
 |[],st,p,x,t,b,_=>by simp at b
 |i::l,st,p,x,t,b,a=>by
  simp only[ents] at a
  cases p with
  |zero=>grind
  |succ p=>
   simp only[List.getElem?_cons_succ] at b a
   split at a
   ·exact ents_entry b a
   ·simp at a
theorem trace_look:∀{l:List IOper} {st s:St} {p:Nat} {x:IOper} {t:List Nat×List Nat},runOps call base l st=some s→(l.map (·.idx)).Nodup→l[p]?=some x→(ents call base l st)[p]?=some t→lookT (traceOps call base l st) x.idx=t
 |[],st,s,p,x,t,_,_,a,_=>by simp at a
 |i::l,st,s,p,x,t,b,g,a,d=>by
  simp only[runOps] at b
  split at b
  ·rename_i j k
   simp only[List.map_cons,List.nodup_cons] at g
   have e:traceOps call base (i::l) st=(i.idx,entry call base i st)::traceOps call base l j:=by
    grind[traceOps,entry]
   rw[e]
   simp only[ents,k] at d
   cases p with
   |zero=>grind[lookT]
   |succ p=>
    simp only[List.getElem?_cons_succ] at a d
    have c:i.idx≠x.idx:=fun h=>g.1 (h▸List.mem_map_of_mem (f:=fun i:IOper=>i.idx) (List.mem_of_getElem? a))
    simp only[lookT,beq_iff_eq,c,if_false]
    exact trace_look b g.2 a d
  ·cases b
theorem entry_c0 {i:IOper} {st:St} (h:i.op.cls=0):entry call base i st=([],[]):=by
 grind[entry,tch_nil,wrtC_nil]
theorem entry_c1 {i:IOper} {st:St} (h:i.op.cls=1):(entry call base i st).2=[]:=by
 grind[entry,wrtC_nil]
theorem apartL_spec {a b:List Nat} (h:apartL a b=true):∀j∈a,j∉b:=by
 intro j c d
 have:=List.all_eq_true.1 h j c
 simp_all
theorem rel_of {n0:Nat} {c:List Nat} {l:List IOper} {st s:St} (z:runOps call base l st=some s) (A:(l.map (·.idx)).Nodup) (r:swapsOk c l=true)
  (b:((pairsOf c l).isEmpty||chkOk n0 (traceOps call base l st) (pairsOf c l))=true) {p q:Nat} {y x:IOper} {E D:List Nat×List Nat} (e:p<q) (i:l[p]?=some y) (j:l[q]?=some x)
  (d:(ents call base l st)[p]?=some E) (f:(ents call base l st)[q]?=some D):(c.getD x.idx 0).testBit y.idx=true∨RelT n0 y E x D:=by
 rcases swaps_spec r p q y x e i j with h|⟨g,I⟩
 ·exact .inl h
 by_cases u:(c.getD x.idx 0).testBit y.idx=true
 ·exact .inl u
 right
 obtain⟨v,m⟩:=ents_entry i d
 obtain⟨C,k⟩:=ents_entry j f
 cases a:freeM y x with
 |true=>
  unfold freeM at a
  simp only[Bool.or_eq_true,Bool.and_eq_true,beq_iff_eq] at a
  rcases a with(a|a)|⟨a,n⟩
  ·have:=entry_c0 (call:=call) (base:=base) (st:=v) a
   rw[this] at m
   subst m
   exact⟨g,by simp,by simp,fun h=>(by omega),by simp⟩
  ·have:=entry_c0 (call:=call) (base:=base) (st:=C) a
   rw[this] at k
   subst k
   exact⟨g,by simp,by simp,fun _=>⟨by rw[a];decide,by simp⟩,fun h=>(by omega)⟩
  ·have B:=entry_c1 (call:=call) (base:=base) (st:=v) a
   have w:=entry_c1 (call:=call) (base:=base) (st:=C) n
   rw[←m] at B
   rw[←k] at w
   exact⟨g,by simp[B],by simp[w],fun h=>(by omega),fun h=>(by omega)⟩
 |false=>
  have M:mayM y x=true:=I.resolve_left (by simp[a])
  have J:=pairs_spec p q y x e i j u a
  have o:(pairsOf c l).isEmpty=false:=by
   grind
  rw[o,Bool.false_or] at b
  have t:=List.all_eq_true.1 b _ J
  simp only[trace_look z A i d,trace_look z A j f,Bool.and_eq_true,List.all_eq_true,decide_eq_true_eq] at t
  obtain⟨⟨⟨F,K⟩,H⟩,G⟩:=t
  refine⟨g,apartL_spec F,apartL_spec K,fun L=>⟨fun N=>?_,G⟩,fun _=>H⟩
  grind[mayM]
theorem Sim.eq {e:Nat} {f:World} {b:Sig} {d:Store} {st st':St} {a:Act} {w:World} {σ:Sig} (h:Sim A e D f b d st a w σ) (c:StEq st st'):Sim A e D f b d st' a w σ where
 sim:=c.2▸h.sim
 env:=fun s=>by rw[←c.1 s,←c.2];exact h.env s
 size:=h.size
 defers:=h.defers
 ext:=c.2▸h.ext
theorem Sim.drew {e:Nat} {f:World} {b:Sig} {d:Store} {st:St} {a:Act} {w:World} {σ:Sig} (h:Sim A e D f b d st a w σ):Sim A e D f b d st a {w with drawn:=w.drawn+1} σ:=by
 have c:Ext w σ st.o {w with drawn:=w.drawn+1} σ st.o:=⟨Nat.le_refl _,fun _ _ h=>⟨rfl,h⟩,Nat.le_refl _,fun _ _ h=>⟨h,fun _ h=>⟨h,rfl⟩⟩,fun _ h=>⟨h,rfl⟩,rfl,rfl,rfl⟩
 exact⟨⟨h.sim.len,h.sim.dist,h.sim.bnd,fun i x g=>(h.sim.obj i x g).ext c rfl fun _ _ _=>rfl,h.sim.av,h.sim.avb⟩,fun s=>(h.env s).ext c,h.size,h.defers,h.ext.trans c⟩
theorem eraseIdx_mid {c:Type} (b a:List c) (x:c):b++a=(b++x::a).eraseIdx b.length:=by
 grind
structure OInv (P:Program) (nt:Nat) (fl:List Nat) (ops:Array Oper) (call:Oracle) (base n0:Nat) (st2:St) (l:List IOper) (listed:Array Bool) (st:St):Prop where
 run:∃s,runOps call base l st=some s∧StEq st2 s
 len:n0≤st.o.length
 rel:∀(p q:Nat) (y x:IOper) (ty tx:List Nat×List Nat),p<q→l[p]?=some y→l[q]?=some x→(ents call base l st)[p]?=some ty→(ents call base l st)[q]?=some tx→((ancs ops).getD x.idx 0).testBit y.idx=true∨RelT n0 y ty x tx
 comp:∀x∈l,∃nid,compOper P nt fl ops nid x.idx=some x
 nodup:(l.map (·.idx)).Nodup
 sz:listed.size=ops.size
 lst:∀k,k<ops.size→(listed.getD k true=false↔∃x∈l,x.idx=k)
 closed:∀k m,listed.getD k false=true→((ancs ops).getD k 0).testBit m=true→listed.getD m false=true
theorem getD_lt {c:Array Bool} {k:Nat} (h:k<c.size) (a b:Bool):c.getD k a=c.getD k b:=by
 simp_all
theorem draw_any {M:Nat} {fl:List Nat} {c:Array Oper} (K:OracleOK P call) (a5:edgesB 0 c.toList=true) {n0:Nat} {st2:St} {w0:World} {L:Sig} {o0:Store} {Q:Exit→Act→World→Prop}
  (hQ:∀Y w' F,Sim A M D w0 L o0 st2 Y w' F→Q .normal Y w') {rnd:Option Nat}:∀(h:Nat) (l:List IOper) (b:Array Bool) (st:St) (a:Act) (w:World) (σ:Sig),l.length≤h→
   OInv P M fl c call base n0 st2 l b st→Sim A M D w0 L o0 st a w σ→wpAnyIn (FR rnd) 0 P .any c Q h b a w:=by
 have C:∀(b:Array Bool) (st:St) (a:Act) (w:World) (σ:Sig),OInv P M fl c call base n0 st2 [] b st→Sim A M D w0 L o0 st a w σ→Q .normal a w:=by
  intro b st a w σ d O
  obtain⟨s,n,h2⟩:=d.run
  simp only[runOps,Option.some.injEq] at n
  subst n
  exact hQ _ _ _ (O.eq h2.symm)
 have H:∀(l:List IOper) (b:Array Bool) (st:St),OInv P M fl c call base n0 st2 l b st→∀(k:Nat),(∃x∈l,x.idx=k)→Region.ready .any c b≠[]:=by
  intro l b st d k
  induction k using Nat.strongRecOn with
  |_ k ih=>
   rintro⟨x,G,rfl⟩
   obtain⟨V,X⟩:=d.comp x G
   cases I:c[x.idx]? with
   |none=>grind[compOper]
   |some o=>
    have j:x.idx<c.size:=(Array.getElem?_eq_some_iff.1 I).1
    by_cases i:∀e∈o.after,Region.binds .any e=true→b.getD e.on false=true
    ·intro u
     have:x.idx∈Region.ready .any c b:=mem_ready.2 ⟨(d.lst _ j).2 ⟨x,G,rfl⟩,o,I,i⟩
     simp_all
    ·simp only[Classical.not_forall] at i
     obtain⟨e,he,hb,hn⟩:=i
     have N:=edgesB_spec c.toList 0 a5 x.idx o (by simp_all) e he hb
     simp only[Nat.zero_add] at N
     refine ih e.on N ((d.lst e.on (by omega)).1 ?_)
     rw[getD_lt (by rw[d.sz];omega) true false]
     simp_all
 intro h
 induction h with
 |zero=>
  intro l b st a w σ hl d O
  have:l=[]:=List.eq_nil_of_length_eq_zero (by omega)
  subst this
  refine⟨?_,C b st a w σ d O⟩
  rw[List.eq_nil_iff_forall_not_mem]
  intro k j
  obtain⟨h0,o,I,_⟩:=mem_ready.1 j
  obtain⟨x,G,_⟩:=(d.lst k (Array.getElem?_eq_some_iff.1 I).1).1 h0
  simp at G
 |succ h ih=>
  intro l b st a w σ hl d O
  refine⟨fun u=>?_,fun k j=>?_⟩
  ·cases l with
   |nil=>grind
   |cons x l=>exact absurd u (H _ b st d x.idx ⟨x,by simp,rfl⟩)
  ·obtain⟨h0,o,I,i⟩:=mem_ready.1 j
   have a2:k<c.size:=(Array.getElem?_eq_some_iff.1 I).1
   obtain⟨x,G,rfl⟩:=(d.lst k a2).1 h0
   obtain⟨f,g,rfl⟩:=List.append_of_mem G
   obtain⟨s,R,S⟩:=d.run
   have T:∀m,((ancs c).getD x.idx 0).testBit m=true→b.getD m false=true:=by
    intro m hm
    obtain⟨e,he,hb,n⟩:=ancs_bits I hm
    rcases n with rfl|n
    ·simp_all
    ·exact d.closed _ _ (i e he hb) n
   obtain⟨s1,s',f1,f2,f3,f4,f5⟩:=front (n0:=n0) f R d.len fun p y W tx hp n h2=>by
    have a0:p<f.length:=(List.getElem?_eq_some_iff.1 hp).1
    have J:(f++x::g)[p]?=some y:=by grind
    rcases d.rel p f.length y x W tx a0 J (by simp) n h2 with Z|Z
    ·exfalso
     have h4:=T _ Z
     obtain⟨V,X⟩:=d.comp y (List.mem_of_getElem? J)
     cases U:c[y.idx]? with
     |none=>simp[compOper,U] at X
     |some oy=>
      have a6:y.idx<c.size:=(Array.getElem?_eq_some_iff.1 U).1
      have h5:=(d.lst _ a6).2 ⟨y,List.mem_of_getElem? J,rfl⟩
      grind
    ·exact Z
   obtain⟨V,X⟩:=d.comp x G
   refine runOp_wp K X f1 O fun Y w' F a4=>?_
   have a8:=d.nodup
   have a7:=eraseIdx_mid f g x
   have v:∀(p:Nat) (y:IOper),(f++g)[p]?=some y→(f++x::g)[if p<f.length then p else p+1]?=some y:=by
    grind
   have B:∀(p:Nat) (t:List Nat×List Nat),(ents call base (f++g) s1)[p]?=some t→(ents call base (f++x::g) st)[if p<f.length then p else p+1]?=some t:=by
    grind
   obtain⟨_,_,E,_⟩:=step_loc f1
   refine ih (f++g) _ s1 Y w' F (by grind) ⟨⟨s',f2,S.trans f3⟩,Nat.le_trans d.len E,fun p q y z W tz a9 hy hz a1 a3=>?_,fun y hy=>d.comp y ?_,?_,by simp[d.sz],fun k j=>?_,fun k m j hm=>?_⟩ a4
   ·refine d.rel _ _ y z W tz ?_ (v p y hy) (v q z hz) (B p W a1) (B q tz a3)
    split<;>split<;>omega
   ·grind
   ·grind
   ·by_cases r:k=x.idx
    ·subst r
     have n:(b.setIfInBounds x.idx true).getD x.idx true=true:=by simp
     grind
    ·rw[getD_set_ne true (Ne.symm r),d.lst k j]
     grind
   ·by_cases r:k=x.idx
    ·grind[getD_set_true]
    ·rw[getD_set_ne false (Ne.symm r)] at j
     exact getD_set_true (d.closed k m j hm)
theorem nodupB_spec:∀{l:List Nat},nodupB l=true→l.Nodup
 |[],_=>List.nodup_nil
 |a::r,h=>by
  simp only[nodupB,Bool.and_eq_true,Bool.not_eq_true',List.contains_eq_mem,decide_eq_false_iff_not] at h
  exact List.nodup_cons.2 ⟨h.1,nodupB_spec h.2⟩
theorem compOper_idx {b:Nat} {fl:List Nat} {a:Array Oper} {nid k:Nat} {x:IOper} (h:compOper P b fl a nid k=some x):x.idx=k∧k<a.size:=by
 unfold compOper at h
 split at h
 ·cases h
 ·rename_i o d
  split at h
  ·obtain⟨c,_,rfl⟩:=Option.map_eq_some_iff.1 h
   grind
  ·cases h
theorem draw_wp (g:OracleOK P call) {s:Nat} {fl:List Nat} {d:Array Oper} {id k:Nat} {c:List Nat} {l:List IOper} (S:compOpers P s fl d 0 c=some (l,k)) (h:P.follows .mixedOrders=true)
  (C:c.length=d.size) (L:nodupB c=true) (M:swapsOk (ancs d) l=true) (u:edgesB 0 d.toList=true) (r:(List.range d.size).all c.contains=true)
  {b st2:St} (T:runOps call b.o.length l ⟨b.env,b.o++deads k⟩=some st2)
  (G:((pairsOf (ancs d) l).isEmpty||chkOk (b.o++deads k).length (traceOps call b.o.length l ⟨b.env,b.o++deads k⟩) (pairsOf (ancs d) l))=true)
  {I:World} {n:Sig} {F:Store} {a:Act} {w:World} {σ:Sig} {Q:Exit→Act→World→Prop} (O:Sim A s D I n F ⟨b.env,b.o++deads k⟩ a w σ) (K:∀B w' t,Sim A s D I n F st2 B w' t→Q .normal B w') {rnd:Option Nat}:(Code.region id d true).wpIn (FR rnd) 0 P Q a w:=by
 obtain⟨Z,W⟩:=compOpers_get S
 have E:l.map (·.idx)=c:=by
  apply List.ext_getElem?
  intro j
  rw[List.getElem?_map]
  cases f:l[j]? with
  |none=>
   simp_all
  |some x=>
   have v:=(List.getElem?_eq_some_iff.1 f).1
   have z:=List.getElem?_eq_getElem (l:=c) (i:=j) (by omega)
   obtain⟨X,V⟩:=W j x _ f z
   rw[z]
   simp[(compOper_idx V).1]
 have e:(l.map (·.idx)).Nodup:=by grind[nodupB_spec]
 refine wpIn_region_any h (draw_any (fl:=fl) (base:=b.o.length) (n0:=(b.o++deads k).length) g u K d.size l _ ⟨b.env,b.o++deads k⟩ a _ σ (by omega) ⟨⟨st2,T,StEq.refl _⟩,Nat.le_refl _,fun p q y x ty tx R Y H N U=>?_,fun x H=>?_,e,by simp,fun j f=>?_,fun j m f=>?_⟩ O.drew)
 ·grind[rel_of]
 ·obtain⟨j,f⟩:=List.getElem?_of_mem H
  have v:=(List.getElem?_eq_some_iff.1 f).1
  have z:=List.getElem?_eq_getElem (l:=c) (i:=j) (by omega)
  grind
 ·have J:(Array.replicate d.size false).getD j true=false:=by simp[f]
  rw[J]
  refine⟨fun _=>?_,fun _=>rfl⟩
  have:=List.all_eq_true.1 r j (List.mem_range.2 f)
  grind
 ·exfalso
  rw[Array.getD_eq_getD_getElem?,Array.getElem?_replicate] at f
  grind
end
section
variable {P:Program} {A:Clr} {D:List Deferred} {w w':World} {σ σ':Sig} {o o':Store}
theorem SimO.fresh (i:SimO A w σ o) (e:TypeId) (sz:Nat) (pu:Bool):∃a,SimO A w a (o++[.cells [] e sz pu])∧Ext w σ o w a (o++[.cells [] e sz pu])∧a[o.length]?=some none:=by
 obtain⟨k,j⟩:=i.deads 1
 have b:(o++Go.Vi.deads 1)[o.length]?=some .dead:=by simp[Go.Vi.deads]
 have c:(o++Go.Vi.deads 1).set o.length (.cells [] e sz pu)=o++[.cells [] e sz pu]:=by
  grind[Go.Vi.deads]
 have f:o.length<(σ++List.replicate 1 none).length:=by simp[i.len]
 obtain⟨d,g⟩:=k.upd (w':=w) (x':=.cells [] e sz pu) (s':=none) b (Nat.le_refl _) rfl rfl rfl (fun _ _ _=>rfl) (fun _ _ h=>by cases h) trivial (fun l=>by
  simp only[ObjOK]
  exact⟨fun _=>rfl,rfl,.inl ⟨by simp_all,trivial⟩⟩)
 rw[c] at d g
 exact⟨_,d,j.trans g,by simp_all⟩
theorem rep_fresh {n:Nat} {e:TypeId} {sz:Nat} {pu:Bool} (c:o[n]?=some (.cells [] e sz pu)) (a:σ[n]?=some none):Rep A w σ o (.os n 0 0 0) (.slice none 0 0):=by
 simp only[Rep]
 refine⟨⟨[],e,sz,pu,c,Nat.le_refl _⟩,none,0,rfl,Nat.le_refl _,fun b _=>?_⟩
 grind[OsOk]
theorem Sim.unp {t:Nat} {r:World} {g:Sig} {p:Store} {st:St} {a:Act} (h:Sim A t D r g p st a w σ) (id:Nat):∃i,Sim A t D r g p (unpH id st) a w i:=by
 unfold unpH
 split
 ·rename_i E e L k
  have n:id<st.o.length:=(List.getElem?_eq_some_iff.1 k).1
  have d:id<σ.length:=by rw[h.sim.len];exact n
  obtain⟨x,q⟩:=h.sim.upd (w':=w) (x':=.cells E e L false) (s':=σ[id]) k (Nat.le_refl _) rfl rfl rfl (fun _ _ _=>rfl)
   (fun b c N=> .inl ⟨c,by simp_all⟩) ⟨_,e,false,rfl,by simp,fun _=>List.getElem?_eq_getElem d⟩ (fun K=>by
    have f:=h.sim.obj id _ k
    simp only[ObjOK] at f ⊢
    obtain⟨P,H,I⟩:=f
    refine⟨fun G=>(by cases G),H,?_⟩
    rcases I with⟨O,R⟩|⟨b,l,m,Q,J,u,y,F,M⟩
    ·simp_all
    ·refine .inr ⟨b,l,m,?_,J,u,y,F,fun j c C=>?_⟩
     ·simp_all
     ·obtain⟨v,z,B⟩:=M j c C
      exact⟨v,z,B.ext K⟩)
  exact⟨_,x,fun s=>(h.env s).ext q,h.size,h.defers,h.ext.trans q⟩
 grind
theorem Sim.own1 {M:Nat} {P:World} {u:Sig} {U:Store} {st:St} {a:Act} (h:Sim A M D P u U st a w σ) (x:OwnH):∃C,Sim A M D P u U (ownH1 x st) a w C:=by
 obtain⟨f,I,z,V⟩:=h.sim.fresh x.e x.sz x.pu
 have r:(st.o++[AObj.cells [] x.e x.sz x.pu])[st.o.length]?=some (.cells [] x.e x.sz x.pu):=by simp
 unfold ownH1
 split
 ·split
  ·rename_i N
   refine⟨f,I,fun s=>?_,h.size,h.defers,h.ext.trans z⟩
   simp only[getE]
   cases X:Nat.beq x.slot s with
   |true=>
    have:=Nat.eq_of_beq_eq_true X
    subst this
    have:=h.env x.slot
    grind[rep_sc,rep_fresh]
   |false=>exact(h.env s).ext z
  ·split
   ·exact h.unp _
   grind
  grind
 ·rename_i k _
  split
  ·rename_i i d a1 N
   split
   ·rename_i p e y pu ho
    split
    ·rename_i R
     split
     ·rename_i g
      obtain⟨L,rfl⟩:=g
      have a0:i<st.o.length:=(List.getElem?_eq_some_iff.1 ho).1
      have l:i<f.length:=by grind
      have n:(st.o++[AObj.cells [] x.e x.sz x.pu])[i]?=some (.cells p e y false):=by grind
      have Z:d+k<p.length:=(List.getElem?_eq_some_iff.1 R).1
      obtain⟨O,G⟩:=I.upd (w':=w) (x':=.cells (p.set (d+k) (.os st.o.length 0 0 0)) e y false) (s':=f[i]) n (Nat.le_refl _) rfl rfl rfl (fun _ _ _=>rfl)
       (fun b c N=> .inl ⟨c,by simp_all⟩) ⟨_,e,false,rfl,by simp,fun _=>List.getElem?_eq_getElem l⟩ (fun S=>by
        have t:=I.obj i _ n
        simp only[ObjOK] at t ⊢
        obtain⟨q1,q2,q3⟩:=t
        refine⟨fun h=>(by cases h),?_,?_⟩
        ·refine oneL_of.2 fun c H=>?_
         rcases List.mem_or_eq_of_mem_set H with T|T
         ·grind[oneL_of]
         ·subst T;rfl
        ·rcases q3 with⟨_,h0⟩|⟨b,K,B,r1,W,r3,Y,r5,Q⟩
         ·simp_all
         ·refine .inr ⟨b,K,B,?_,W,r3,Y,by simp_all,fun j c m=>?_⟩
          ·simp_all
          ·rw[List.getElem?_set] at m
           split at m
           ·rename_i J
            subst J
            injection m with m;subst m
            obtain⟨v,E,F⟩:=Q _ _ R
            refine⟨v,E,?_⟩
            rw[rep_sc F]
            exact(rep_fresh r V).ext S
           ·obtain⟨v,E,F⟩:=Q j c m
            exact⟨v,E,F.ext S⟩)
      have q:(st.o++[AObj.cells [] x.e x.sz x.pu]).set i (.cells (p.set (d+k) (.os st.o.length 0 0 0)) e y false)=(st.o.set i (.cells (p.set (d+k) (.os st.o.length 0 0 0)) e y false))++[AObj.cells [] x.e x.sz x.pu]:=by
       simp_all
      rw[q] at O G
      exact⟨_,O,fun s=>((h.env s).ext z).ext G,h.size,h.defers,(h.ext.trans z).trans G⟩
     grind
    grind
   grind
  grind
theorem Sim.pur {t:Nat} {r:World} {f:Sig} {p:Store} {st:St} {a:Act} (h:Sim A t D r f p st a w σ) (id:Nat):∃i,Sim A t D r f p (purH id st) a w i:=by
 unfold purH
 split
 ·rename_i G e x k
  split
  ·rename_i E
   have n:id<st.o.length:=(List.getElem?_eq_some_iff.1 k).1
   have d:id<σ.length:=by rw[h.sim.len];exact n
   obtain⟨y,q⟩:=h.sim.upd (w':=w) (x':=.cells G e x true) (s':=σ[id]) k (Nat.le_refl _) rfl rfl rfl (fun _ _ _=>rfl)
    (fun b c N=> .inl ⟨c,by simp_all⟩) ⟨_,e,true,rfl,by simp,fun _=>List.getElem?_eq_getElem d⟩ (fun H=>by
     have g:=h.sim.obj id _ k
     simp only[ObjOK] at g ⊢
     obtain⟨P,F,K⟩:=g
     refine⟨fun _=>E,F,?_⟩
     rcases K with⟨O,R⟩|⟨b,l,m,Q,L,u,z,I,M⟩
     ·simp_all
     ·refine .inr ⟨b,l,m,?_,L,u,z,I,fun j c B=>?_⟩
      ·simp_all
      ·obtain⟨v,C,J⟩:=M j c B
       exact⟨v,C,J.ext H⟩)
   exact⟨_,y,fun s=>(h.env s).ext q,h.size,h.defers,h.ext.trans q⟩
  grind
 grind
theorem Sim.hint {f:Nat} {g:World} {b:Sig} {e:Store} {st:St} {a:Act} {lo:Nat} (l:e.length≤lo) (h:Sim A f D g b e st a w σ) (x:OwnH):∃d,Sim A f D g b e (ownH lo x st) a w d:=by
 unfold ownH
 split
 ·exact h.own1 x
 ·split
  ·rename_i o _ _ _ _
   split
   ·rename_i p
    have m:=Nat.le_of_ble_eq_true p
    obtain⟨k,h⟩:=h.pur o
    unfold frzH
    simp only
    split
    ·rename_i q t n j
     have c:=frz_of j
     exact⟨_,h.sim.frz c,fun s=>Rep.frz h.sim c _ _ _ (frzE_get n s) (h.env s),h.size,h.defers,h.ext.frz c fun i r=>by
      grind⟩
    grind
   grind
  grind
theorem finish_sound {s:World} {f:Sig} {h:Store} (j:SimO A w σ o) (g:Ext s f h w σ o) {l r:AV} {u:Value} (y:Rep A w σ o l u) {own:Bool} (a:finish own h.length l o=some (r,o')):
  ∃d,SimO A w d o'∧Rep A w d o' r u∧Ext s f h w d o':=by
 unfold finish at a
 cases own with
 |true=>grind[finishOwn_sound]
 |false=>
  simp only[Bool.false_eq_true,if_false] at a
  split at a
  ·rename_i D
   split at a
   ·rename_i C m
    simp only[Option.some.injEq,Prod.mk.injEq] at a
    obtain⟨rfl,rfl⟩:=a
    have t:h=[]:=List.eq_nil_of_length_eq_zero D
    subst t
    refine⟨[],simO_nil w j.avb,freeze_rep j (fun b _ a=>a.2) 6 l C u m (fun q _ b c p=>j.av q b c p) y,g.size,fun b v B=>⟨(g.blk b v B).1,fun⟨i,c,z⟩=>by simp at z⟩,Nat.le_refl _,fun q x k=>?_,fun q k=>?_,g.os,g.tape,g.output⟩
    ·obtain⟨G,e,F,E,n,_⟩:=k;simp at n
    ·obtain⟨H,I,E,n⟩:=k;simp at n
   ·cases a
  ·cases a
end
open Go.RowKit
section
variable {A:Clr} {w w':World} {σ:Sig} {o:Store}
mutual
theorem Rep.to (g:∀(p:Addr) (v:Value),w.cell? p=some v→w'.cell? p=some v):∀(c:AV) (v:Value),Rep A w σ o c v→Rep A w' σ o c v
 | .ud,_,_=>by simp[Rep]
 | .sc u,v,d=>by grind[Rep]
 | .agg e,v,d=>by
  simp only[Rep] at d ⊢
  obtain⟨k,rfl,i⟩:=d
  exact⟨k,rfl,RepL.to g e _ i⟩
 | .tup e,v,d=>by
  simp only[Rep] at d ⊢
  obtain⟨k,rfl,i⟩:=d
  exact⟨k,rfl,RepL.to g e _ i⟩
 | .sl n e,v,d=>by
  simp only[Rep] at d ⊢
  obtain⟨a,q,rfl,G,x,y⟩:=d
  exact⟨a,q,rfl,G,x,RepM.to g e a 0 y⟩
 | .ep e l,v,d=>by
  simp only[Rep] at d ⊢
  obtain⟨a,rfl,x,y⟩:=d
  exact⟨a,rfl,x,RepM.to g e _ 0 y⟩
 | .ptr z l m,v,d=>by grind[Rep]
 | .os z l H m,v,d=>by grind[Rep]
 | .mp z,v,d=>by grind[Rep]
 | .fn f a b,v,d=>by
  simp only[Rep] at d ⊢
  obtain⟨E,F,rfl,C,I⟩:=d
  exact⟨E,F,rfl,RepL.to g a _ C,RepL.to g b _ I⟩
 | .ifc t e,v,d=>by
  simp only[Rep] at d ⊢
  obtain⟨k,rfl,B,i⟩:=d
  exact⟨k,rfl,B,RepL.to g e _ i⟩
theorem RepL.to (g:∀(p:Addr) (v:Value),w.cell? p=some v→w'.cell? p=some v):∀(e:List AV) (k:List Value),RepL A w σ o e k→RepL A w' σ o e k
 |[],_,h=>by grind[RepL]
 |c::e,k,h=>by
  simp only[RepL] at h ⊢
  obtain⟨v,r,rfl,s,i⟩:=h
  exact⟨v,r,rfl,Rep.to g c v s,RepL.to g e r i⟩
theorem RepM.to (g:∀(p:Addr) (v:Value),w.cell? p=some v→w'.cell? p=some v):∀(e:List AV) (a:Option Addr) (j:Nat),RepM A w σ o e a j→RepM A w' σ o e a j
 |[],_,_,_=>by simp[RepM]
 |c::e,a,j,h=>by
  simp only[RepM] at h ⊢
  obtain⟨⟨b,v,rfl,D,s,d⟩,i⟩:=h
  exact⟨⟨b,v,rfl,D,g _ _ s,Rep.to g c v d⟩,RepM.to g e _ (j+1) i⟩
end
theorem SimO.to (a:SimO A w σ o) (t:∀(p:Addr) (v:Value),w.cell? p=some v→w'.cell? p=some v) (J:∀(i b c:Nat),σ[i]?=some (some (b,c))→w'.heap[b]?=w.heap[b]?)
  (d:w.heap.size≤w'.heap.size):SimO A w' σ o:=by
 refine⟨a.len,a.dist,fun i b c h=>Nat.lt_of_lt_of_le (a.bnd i b c h) d,fun i x F=>?_,a.av,fun b h=>Nat.lt_of_lt_of_le (a.avb b h) d⟩
 have h:=a.obj i x F
 cases x with
 |dead=>grind[ObjOK]
 |cells N e K H=>
  simp only[ObjOK] at h ⊢
  refine⟨h.1,h.2.1,?_⟩
  rcases h.2.2 with s|⟨b,n,g,k,u,y,l,D,C⟩
  ·exact .inl s
  ·refine .inr ⟨b,n,g,k,u,by grind,l,D,fun j c q=>?_⟩
   obtain⟨v,I,f⟩:=C j c q
   exact⟨v,I,f.to t c v⟩
 |map M L H=>
  simp only[ObjOK] at h ⊢
  obtain⟨s,r,b,c,E,G,k,u,y,l⟩:=h
  refine⟨s,r,b,c,E,G,k,by grind,y,fun j e q=>?_⟩
  obtain⟨m,B,z,f⟩:=l j e q
  exact⟨m,B,z,f.to t e.2 _⟩
theorem putObj_ne {r b:Nat} {y:Obj} (h:b≠r):(w.putObj r y).heap[b]?=w.heap[b]?:=by
 simp_all[World.putObj,Ne.symm]
theorem putObj_size {r:Nat} {y:Obj}:(w.putObj r y).heap.size=w.heap.size:=by simp_all
theorem putObj_cell {r:Nat} {x y:Obj} (h:w.heap[r]?=some x) (b:x.isCells=false) (p:Addr) (v:Value) (a:w.cell? p=some v):(w.putObj r y).cell? p=some v:=by
 grind[cells_of_cell,World.cell?_of_block,putObj_ne]
theorem SimO.putB (a:SimO A w σ o) {r:Nat} {x y:Obj} (h:w.heap[r]?=some x) (d:x.isCells=false) (g:¬Own σ r):SimO A (w.putObj r y) σ o:=
 a.to (putObj_cell h d) (fun i b c f=>putObj_ne fun e=>g ⟨i,c,e▸f⟩) (by simp_all)
theorem Rep.putB {c:AV} {v:Value} (a:Rep A w σ o c v) {r:Nat} {x y:Obj} (h:w.heap[r]?=some x) (b:x.isCells=false):Rep A (w.putObj r y) σ o c v:=
 a.to (putObj_cell h b) c v
theorem Ext.putB {c:World} {a:Sig} {d:Store} (h:Ext c a d w σ o) {r:Nat} {y:Obj} (g:c.heap.size≤r):Ext c a d (w.putObj r y) σ o where
 size:=by rw[putObj_size];exact h.size
 blk:=fun b e f=>by
  obtain⟨i,j⟩:=h.blk b e f
  grind[putObj_ne]
 len:=h.len
 cur:=h.cur
 isMap:=h.isMap
 os:=h.os
 tape:=h.tape
 output:=h.output
theorem leaves_marks {P:Program} {t:Func} {a:Array Value} {m:World} {D:List Deferred} {R:Ending→World→Prop}:∀(j:List Deferred) (w:World),MkD m w j→SimO A w σ o→
  (∀w',SimO A w' σ o→(∀{c:Sig} {q:Store},Ext m c q w σ o→Ext m c q w' σ o)→(∀s v,Rep A w σ o s v→Rep A w' σ o s v)→LeavesInM (FR none) 0 P t a R D .returning w')→
  LeavesInM (FR none) 0 P t a R (j++D) .returning w
 |[],w,_,f,k=>k w f (fun h=>h) (fun _ _ h=>h)
 |d::j,w,g,f,k=>by
  obtain⟨r,x,n,i⟩:=g.2 d (by simp)
  have C:=f.notOwn i (by simp) (by simp)
  simp only[List.cons_append,LeavesInM]
  refine⟨by simp,.inl ⟨r,w.putObj r (.deferred none),by rw[x],run_takeDeferred i,?_⟩⟩
  refine leaves_marks j _ ⟨(List.pairwise_cons.1 g.1).2,fun e p=>?_⟩ (f.putB i rfl C) fun w' y z E=>k w' y (fun h=>z (h.putB n)) (fun s v h=>E s v (h.putB i rfl))
  obtain⟨B,l,b,u⟩:=g.2 e (List.mem_cons_of_mem _ p)
  refine⟨B,l,b,?_⟩
  have:=(List.pairwise_cons.1 g.1).1 e p
  grind[putObj_ne]
theorem marks_steps {P:Program} {m:World}:∀(f:List Deferred) (w:World) (fr:Frame) (cs:List Frame),fr.mode= .returning→fr.defers=f→MkD m w f→SimO A w σ o→
  ∃w',StepsIn (Machine.fenced P (FR none)) P (lone fr cs w) (lone {fr with defers:=[]} cs w')∧SimO A w' σ o∧(∀{a:Sig} {u:Store},Ext m a u w σ o→Ext m a u w' σ o)∧∀s v,Rep A w σ o s v→Rep A w' σ o s v
 |[],w,fr,cs,_,k,_,l=>by
  refine⟨w,?_,l,fun h=>h,fun _ _ h=>h⟩
  have:fr={fr with defers:=[]}:=by rw[←k]
  rw[←this]
  exact StepsIn.refl _
 |d::f,w,fr,cs,x,k,j,l=>by
  obtain⟨r,p,q,i⟩:=j.2 d (by simp)
  have C:=l.notOwn i (by simp) (by simp)
  have b:fr.mode≠ .run:=by rw[x];simp
  have I:=step_collected (cs:=cs) b k (by rw[p]) (run_takeDeferred (P:=P) i)
  have H:(lone fr cs w).fenced P (FR none):=fenced_out (n:=0) trivial (by simp[FR,Fence.wide,Fence.room]) b k (fun g J=>by grind[Target.leads])
  obtain⟨w',E,z,F,D⟩:=marks_steps f (w.putObj r (.deferred none)) {fr with defers:=[]++f} cs x rfl ⟨(List.pairwise_cons.1 j.1).2,fun e y=>by
   obtain⟨G,t,c,B⟩:=j.2 e (List.mem_cons_of_mem _ y)
   refine⟨G,t,c,?_⟩
   have:=(List.pairwise_cons.1 j.1).1 e y
   grind[putObj_ne]⟩ (l.putB i rfl C)
  exact⟨w',.head H I E,z,fun h=>F (h.putB q),fun s v h=>D s v (h.putB i rfl)⟩
theorem callsD_marks {P:Program} {f:FuncId} {m:Func} {c:Code} {args:Array Value} {u:FrameMode} {w:World} {R:Ending→World→Prop}
  (E:P.funcs[f]?=some m) (S:m.body=some c)
  (h:c.wpIn (FR none) 0 P (fun e a r=>(e= .normal∨e= .ret)∧∃(q:World) (g:Sig) (l:Store),MkD q r a.defers∧SimO A r g l∧∀i,SimO A i g l→(∀{n:Sig} {I:Store},Ext q n I r g l→Ext q n I i g l)→(∀s v,Rep A r g l s v→Rep A i g l s v)→
   ∃v,(results m a.tmps).run P i= .ok v i∧R (.returned v) i) {tmps:=args++Array.replicate (m.ntmps - args.size) undef,defers:=[]} w):
  CallsDIn (FR none) 0 P f args u w fun e L w'=>L=u∧R e w':=by
 refine⟨trivial,fun d z Q J=>?_⟩
 let b:Frame:={(default:Frame) with fn:=f,kind:=.deferred,roundOf:=none}
 have k:Frame.enter P f args .deferred=
   b.atR {tmps:=args++Array.replicate (m.ntmps - args.size) undef,defers:=[]} [.code c]:=by
  grind[Frame.enter,Frame.atR]
 have F:({d with mode:=u}:Frame)=d:=by subst Q;rfl
 obtain⟨e,p,w',O,j⟩:=h b [] (d::z) rfl trivial J
 rw[←k] at j
 obtain⟨N,q,g,l,H,K,G⟩:=O
 rcases N with rfl|rfl
 ·obtain⟨i,C,t,y,B⟩:=marks_steps (P:=P) p.defers w' {b.atR p [] with mode:=.returning} (d::z) rfl rfl H K
  obtain⟨v,D,x⟩:=G i t y B
  exact⟨.returned v,u,i,_,⟨rfl,x⟩,(by rw[F];exact StepsIn.trans (StepsIn.trans j (.one (fenced_calm (fr:=b.atR p []) trivial J rfl) (stepR_end rfl))) C),rfl,rfl,rfl,rfl,m,E,D⟩
 ·obtain⟨o,M⟩:=j.1 rfl
  obtain⟨i,C,t,y,B⟩:=marks_steps (P:=P) p.defers w' {b.atR p o with mode:=.returning} (d::z) rfl rfl H K
  obtain⟨v,D,x⟩:=G i t y B
  exact⟨.returned v,u,i,_,⟨rfl,x⟩,(by rw[F];exact StepsIn.trans M C),rfl,rfl,rfl,rfl,m,E,D⟩
end
open Go.RowKit
def Out.toExit:Out→Exit
 | .norm=> .normal
 | .exit a=> .exit a
 | .ret=> .ret
 | .goto l=> .goto l
section
variable {P:Program} {A:Clr} {D:List Deferred} {w w':World} {σ σ':Sig} {o o':Store}
theorem getE_prune (a:List Nat) (env:EnvA) (s:Nat):getE (prune a env) s=getE env s∨getE (prune a env) s= .ud:=by
 unfold prune
 induction a with
 |nil=>right;rfl
 |cons x a b=>
  simp only[List.map_cons,getE]
  cases c:Nat.beq x s<;>simp_all
theorem getE_dropL (t:Nat) (env:EnvA) (s:Nat):getE (dropL t env) s=getE env s∨getE (dropL t env) s= .ud:=by
 induction env with
 |nil=>left;rfl
 |cons p env c=>
  simp only[dropL]
  cases a:Nat.beq p.1 t with
  |true=>
   simp only[cond_true]
   by_cases d:p.1=s
   ·have e:=Nat.eq_of_beq_eq_true a
    right
    have:∀env:EnvA,getE (dropL t env) t= .ud:=by
     intro env
     induction env with
     |nil=>rfl
     |cons q env c=>
      simp only[dropL]
      cases b:Nat.beq q.1 t with
      |true=>simp_all
      |false=>simp_all[getE]
    simp_all
   ·have:getE (p::env) s=getE env s:=by
     simp only[getE]
     have:Nat.beq p.1 s=false:=by
      cases h:Nat.beq p.1 s<;>simp_all
     rw[this];rfl
    simp_all
  |false=>
   simp only[cond_false,getE]
   grind
theorem Sim.drop {d:Nat} {e:World} {b:Sig} {c:Store} {st:St} {a:Act} (h:Sim A d D e b c st a w σ) (x:Operand):Sim A d D e b c ⟨dropE x st.env,st.o⟩ a w σ where
 sim:=h.sim
 env:=fun s=>by
  unfold dropE
  split
  ·rename_i t
   rcases getE_dropL t st.env s with f|f
   ·simp only[f];exact h.env s
   grind[Rep]
  ·exact h.env s
 size:=h.size
 defers:=h.defers
 ext:=h.ext
theorem Sim.prune {e:Nat} {f:World} {c:Sig} {d:Store} {st:St} {a:Act} (h:Sim A e D f c d st a w σ) (b:List Nat):Sim A e D f c d ⟨Go.Vi.prune b st.env,st.o⟩ a w σ where
 sim:=h.sim
 env:=fun s=>by
  rcases getE_prune b st.env s with g|g
  ·simp only[g];exact h.env s
  grind[Rep]
 size:=h.size
 defers:=h.defers
 ext:=h.ext
theorem getE_mem {env:EnvA} {s:Nat}:getE env s= .ud∨∃p∈env,p.2=getE env s:=by
 induction env<;>grind[getE]
theorem Sim.trim {g:Nat} {f:World} {b:Sig} {d:Store} {st:St} {a:Act} (h:Sim A g D f b d st a w σ) {k:Nat} (i:d.length≤k):∃c,Sim A g D f b d (Go.Vi.trim k st) a w c:=by
 unfold Go.Vi.trim
 split
 ·grind
 ·split
  ·rename_i e
   simp only[Bool.and_eq_true,List.all_eq_true] at e
   refine⟨σ.take k,⟨h.sim.take e.2,fun s=>?_,h.size,h.defers,h.ext.take i⟩⟩
   grind[getE_mem,env,Rep,Rep.take]
  grind
theorem Sim.deads {e:Nat} {g:World} {b:Sig} {d:Store} {st:St} {a:Act} (h:Sim A e D g b d st a w σ) (n:Nat):∃c,Sim A e D g b d ⟨st.env,st.o++Go.Vi.deads n⟩ a w c:=by
 obtain⟨i,f⟩:=h.sim.deads n
 exact⟨_,i,fun s=>(h.env s).ext f,h.size,h.defers,h.ext.trans f⟩
theorem Sim.sweep {e:Nat} {f:World} {c:Sig} {d:Store} {st:St} {a:Act} (h:Sim A e D f c d st a w σ) {k:Nat} (g:d.length≤k):∃b,Sim A e D f c d ⟨st.env,Go.Vi.sweep k st.o⟩ a w b:=by
 obtain⟨b,l,j,i⟩:=sweep_sim h.sim k
 exact⟨b,l,fun s=>j _ _ (h.env s),h.size,h.defers,i _ _ _ g h.ext⟩
theorem Sim.len {d:Nat} {e:World} {b:Sig} {c:Store} {st:St} {a:Act} (h:Sim A d D e b c st a w σ):c.length≤st.o.length:=h.ext.len
theorem Sim.hints {nt:Nat} {w0:World} {σ0:Sig} {o0:Store} {lo:Nat} (hlo:o0.length≤lo) (l:List OwnH):∀{st:St} {a:Act} {σ:Sig},Sim A nt D w0 σ0 o0 st a w σ→∃σ',Sim A nt D w0 σ0 o0 (l.foldl (fun s h=>ownH lo h s) st) a w σ':=by
 induction l with
 |nil=>intro st a σ h;exact⟨σ,h⟩
 |cons x l ih=>
  intro st a σ h
  obtain⟨σ1,h1⟩:=Sim.hint hlo h x
  exact ih h1
theorem region_wp {rnd:Option Nat} {call:Oracle} (hcall:OracleOK P call) {lo nt:Nat} {H:List RH} {id:Nat} {ops:Array Oper} {draw:Bool} {c:IR} (hc:compReg P nt H id ops draw=some c):
  ∃k l chk live pre post,c= .region id draw k l chk live pre post∧∀{st st':St},runReg call k l chk (pre.foldl (fun s h=>ownH lo h s) st)=some st'→∀{w0:World} {σ0:Sig} {o0:Store} {a:Act} {w:World} {σ:Sig},o0.length≤lo→Sim A nt D w0 σ0 o0 st a w σ→
   (Code.region id ops draw).wpIn (FR rnd) 0 P (fun e a' w'=>e= .normal∧∃σ',Sim A nt D w0 σ0 o0 (post.foldl (fun s h=>ownH lo h s) ⟨Go.Vi.prune live st'.env,st'.o⟩) a' w' σ') a w:=by
 unfold compReg at hc
 split at hc
 ·cases hc
 ·rename_i h hh
  have fin:∀(k:Nat) (l:List IOper) (chk:List (Nat×Nat)),(∀{st1 st2:St},runOps call st1.o.length l ⟨st1.env,st1.o++deads k⟩=some st2→(chk.isEmpty||chkOk (st1.o++deads k).length (traceOps call st1.o.length l ⟨st1.env,st1.o++deads k⟩) chk)=true→
     ∀{w0:World} {σ0:Sig} {o0:Store} {a:Act} {w:World} {σ:Sig} {Q:Exit→Act→World→Prop},Sim A nt D w0 σ0 o0 ⟨st1.env,st1.o++deads k⟩ a w σ→(∀a' w' σ',Sim A nt D w0 σ0 o0 st2 a' w' σ'→Q .normal a' w')→(Code.region id ops draw).wpIn (FR rnd) 0 P Q a w)→
    ∀{st st':St},runReg call k l chk (h.pre.foldl (fun s h=>ownH lo h s) st)=some st'→∀{w0:World} {σ0:Sig} {o0:Store} {a:Act} {w:World} {σ:Sig},o0.length≤lo→Sim A nt D w0 σ0 o0 st a w σ→
     (Code.region id ops draw).wpIn (FR rnd) 0 P (fun e a' w'=>e= .normal∧∃σ',Sim A nt D w0 σ0 o0 (h.post.foldl (fun s h=>ownH lo h s) ⟨Go.Vi.prune h.live st'.env,st'.o⟩) a' w' σ') a w:=by
   intro k l chk hrun st st' hr w0 σ0 o0 a w σ hlo hs
   obtain⟨σ1,hs1⟩:=Sim.hints hlo h.pre hs
   generalize hst1:h.pre.foldl (fun s h=>ownH lo h s) st=st1 at hr hs1
   unfold runReg at hr
   simp only at hr
   split at hr
   ·rename_i st2 h2
    split at hr
    ·rename_i hchk
     injection hr with hr
     obtain⟨σ2,hs2⟩:=hs1.deads k
     refine hrun h2 hchk hs2 fun a' w' σ' h3=>⟨rfl,?_⟩
     have h4:∃σ4,Sim A nt D w0 σ0 o0 st' a' w' σ4:=by
      subst hr
      by_cases hk:k=0
      ·simp only[hk,if_true];exact⟨σ',h3⟩
      ·simp only[hk,if_false];exact h3.sweep hs1.len
     obtain⟨σ4,h4⟩:=h4
     exact Sim.hints hlo h.post (h4.prune h.live)
    ·cases hr
   ·cases hr
  cases draw with
  |false=>
   simp only[Bool.false_eq_true,if_false] at hc
   obtain⟨⟨l,k⟩,hl,rfl⟩:=Option.map_eq_some_iff.1 hc
   refine⟨k,l,[],h.live,h.pre,h.post,rfl,fin k l [] fun {st1 st2} h2 _ w0 σ0 o0 a w σ Q hs hQ=>?_⟩
   obtain⟨g1,g2⟩:=compOpers_get hl
   exact wpIn_region (runOps_wp hcall l (List.range ops.size) g1 g2 _ _ a w σ h2 hs hQ)
  |true=>
   simp only[if_true] at hc
   generalize (if h.perm.isEmpty=true then List.range ops.size else h.perm)=perm at hc
   split at hc
   ·rename_i l k hl
    split at hc
    ·rename_i hcond
     injection hc with hc
     refine⟨k,l,pairsOf (ancs ops) l,h.live,h.pre,h.post,hc.symm,fin k l _ fun {st1 st2} h2 hchk w0 σ0 o0 a w σ Q hs hQ=>?_⟩
     simp only[Bool.and_eq_true,beq_iff_eq] at hcond
     exact draw_wp hcall hl hcond.1.1.1.1.1 hcond.1.1.1.1.2 hcond.1.1.1.2 hcond.1.1.2 hcond.1.2 hcond.2 h2 hchk hs hQ
    ·cases hc
   ·cases hc
def MdOK (_:Program) (rnd:Option Nat) (_:Clr→World→Sig→Store→Prop):Md→Prop
 | .plain=>rnd=none
def Closed (B:Clr→World→Sig→Store→Prop):Prop:=∀A w c o b a d,B A w c o→Ext w c o b a d→B A b a d
theorem region_wpM {call:Oracle} (m:OracleOK P call) {rnd:Option Nat} {B:Clr→World→Sig→Store→Prop} {md:Md} (G:MdOK P rnd B md) (F:Closed B) {lo r:Nat} {H:List RH} {id:Nat} {p:Array Oper} {d:Bool} {c:IR} (y:compReg P r H id p d=some c):
  ∃k l j f g b,c= .region id d k l j f g b∧∀{st st':St},runRegM md d call k l j (g.foldl (fun s h=>ownH lo h s) st)=some st'→∀{q:World} {i:Sig} {n:Store} {a:Act} {w:World} {σ:Sig},B A q i n→n.length≤lo→Sim A r D q i n st a w σ→
   (Code.region id p d).wpIn (FR rnd) 0 P (fun e x w'=>e= .normal∧∃u,Sim A r D q i n (b.foldl (fun s h=>ownH lo h s) ⟨Go.Vi.prune f st'.env,st'.o⟩) x w' u) a w:=by
 obtain⟨k,l,j,f,g,b,v,E⟩:=region_wp (rnd:=rnd) m (A:=A) (lo:=lo) y
 refine⟨k,l,j,f,g,b,v,?_⟩
 intro st st' z q i n a w σ _ t C
 exact E z t C
structure TabOK (P:Program) (T:Tab):Prop where
 fn:∀f F,T.fn f=some F→∃fn H,P.funcs[f]?=some fn∧compFn P H fn=some F∧goodF P f=true
 K:∀f args o own r o',T.K f args o own=some (r,o')→goodF P f=true∧CallO P f args o r o'∧(own=false→o'=[])
def ExecOK (P:Program) (T:Tab) (n:Nat):Prop:=
 ∀(g:Option Nat) (m:Md) (B:Clr→World→Sig→Store→Prop),MdOK P g B m→Closed B→
 ∀(o:Nat) (c:IR) (p:St) (h:Out) (f:St),exec T m n o c p=some (h,f)→∀(j:Nat) (H:List RH) (b:Code),comp P j H b=some c→∀(D:List Deferred) (A:Clr) (l:World) (d:Sig) (i:Store) (a:Act) (w:World) (q:Sig),B A l d i→i.length≤o→Sim A j D l d i p a w q→
  b.wpIn (FR g) 0 P (fun e s r=>e=h.toExit∧∃k,Sim A j D l d i f s r k) a w
def anyB:Clr→World→Sig→Store→Prop:=fun _ _ _ _=>True
theorem anyB_closed:Closed anyB:=fun _ _ _ _ _ _ _ _ _=>trivial
theorem getE_bind:∀(k:Nat) (args:List AV) (s:Nat),getE (bindArgs k args) s=if k≤s then(args[s - k]?).getD .ud else .ud
 |k,[],s=>by simp[bindArgs,getE]
 |k,v::b,s=>by
  simp only[bindArgs,getE]
  by_cases h:k=s
  ·subst h;simp
  ·have a:Nat.beq k s=false:=by
    cases a:Nat.beq k s<;>simp_all
   simp only[a,cond_false]
   rw[getE_bind (k+1) b s]
   grind
def resF (a:Array Value):ResultVar→Sem Value
 | .tmp t=>pure (a.getD t undef)
 | .cell x t=>do loadVar t (←asAddr (a.getD x undef))
theorem results_eq (b:Func) (a:Array Value):results b a=(do let vs ←b.results.mapM (resF a);pure (if h:vs.size=1 then vs[0] else .tuple vs)):=by
 unfold results
 congr 1
theorem resA_rep {m:Nat} {i:World} {e:Sig} {l:Store} {st:St} {a:Act} (h:Sim A m D i e l st a w σ) {f:ResultVar} {g:IRes} (d:compRes P f=some g) {r:AV} (c:resA st g=some r):
  ∃u,(resF a.tmps f).run P w= .ok u w∧Rep A w σ st.o r u:=by
 cases f with
 |tmp t=>
  simp only[compRes,Option.some.injEq] at d
  subst d
  simp only[resA,Option.some.injEq] at c
  subst c
  exact⟨_,rfl,h.env t⟩
 |cell x t=>
  simp only[compRes,Option.map_eq_some_iff] at d
  obtain⟨n,j,rfl⟩:=d
  simp only[resA] at c
  split at c
  ·rename_i y s k
   obtain⟨p,z,b⟩:=(h.env x).behindA h.sim k
   obtain⟨u,v,q⟩:=run_loadVar' (P:=P) j b c
   grind[resF,asAddr]
  ·cases c
theorem results_rep {K:Nat} {Q:World} {t:Sig} {N:Store} {st:St} {a:Act} (h:Sim A K D Q t N st a w σ) {m:Func} {H:List IRes} (O:optAll (compRes P) m.results.toList=some H) {r:AV} (j:resultsA st H=some r):
  ∃u,(results m a.tmps).run P w= .ok u w∧Rep A w σ st.o r u:=by
 obtain⟨n,S⟩:=optAll_get O
 unfold resultsA at j
 have z:∀(c:List ResultVar) (b:List IRes) (g:List AV),c.length=b.length→(∀(i:Nat) (x:ResultVar) (y:IRes),c[i]?=some x→b[i]?=some y→compRes P x=some y)→b.mapM (resA st)=some g→
   ∃d:List Value,(c.mapM (resF a.tmps)).run P w= .ok d w∧RepL A w σ st.o g d:=by
  intro c
  induction c with
  |nil=>
   intro b g l _ f
   have:b=[]:=List.eq_nil_of_length_eq_zero (by simp_all)
   simp_all[RepL]
  |cons x c R=>
   intro b g l G f
   match b,l with
   |y::b,l=>
    rw[List.mapM_cons] at f
    cases s:resA st y with
    |none=>simp[s] at f
    |some v=>
     cases e:b.mapM (resA st) with
     |none=>simp_all
     |some C=>
      simp[s,e] at f
      subst f
      obtain⟨u,U,M⟩:=resA_rep h (G 0 x y (by simp) (by simp)) s
      obtain⟨d,B,E⟩:=R b C (by grind) (fun i p q J T=>G (i+1) p q (by simpa using J) (by simpa using T)) e
      refine⟨u::d,?_,by grind[RepL]⟩
      simp_all
 have F:∀d:List Value,(m.results.toList.mapM (resF a.tmps)).run P w= .ok d w→
   (results m a.tmps).run P w= .ok (if h:d.length=1 then d[0]'(by omega) else .tuple d.toArray) w:=by
  grind[results_eq,Array.mapM_eq_mapM_toList,Sem.run_bind,Sem.run_map,Result.andThen_ok,Sem.run_pure]
 split at j
 ·grind[RepL]
 ·rename_i g I f
  injection j with j;subst j
  obtain⟨d,B,l⟩:=z _ _ _ n S f
  have k:=RepL.length _ _ l
  have L:¬d.length=1:=by
   intro n
   match g,k.trans n with
   |[v],_=>simp_all
  grind[Rep]
 ·cases j
theorem entry_sim {a:Nat} {args:List AV} {vs:List Value} (d:SimO A w σ o) (b:RepL A w σ o args vs) (j:args.length≤a):Sim A a [] w σ o ⟨bindArgs 0 args,o⟩ {tmps:=vs.toArray++Array.replicate (a - vs.toArray.size) undef,defers:=[]} w σ:=by
 have i:=RepL.length _ _ b
 refine⟨d,fun s=>?_,?_,⟨[],rfl,List.Pairwise.nil,by simp⟩,Ext.refl _ _ _⟩
 ·simp only[getE_bind,Nat.zero_le,if_true,Nat.sub_zero]
  cases h:args[s]? with
  |none=>simp[Rep]
  |some c=>
   obtain⟨v,e,g⟩:=RepL.get _ _ b s c h
   have f:s<vs.length:=(List.getElem?_eq_some_iff.1 e).1
   have:(vs.toArray++Array.replicate (a - vs.toArray.size) undef).getD s undef=v:=by
    simp_all[Array.getElem?_append_left]
   simp_all
 ·simp;omega
theorem fn_run {T:Tab} {n:Nat} (W:ExecOK P T n) {md:Md} {B:Clr→World→Sig→Store→Prop} (N:MdOK P none B md) (L:Closed B) {f:FuncId} {c:Func} {g:Code} {H:List RH} {b:IR} {E:List IRes}
  (t:P.funcs[f]?=some c) (i:c.body=some g) (X:comp P c.ntmps H g=some b) (y:optAll (compRes P) c.results.toList=some E) (Q:¬c.ntmps<c.params.size+c.nfree)
  {args:List AV} {out:Out} {st:St} (C:args.length=c.params.size+c.nfree) (j:out= .norm∨out= .ret) (m:exec T md n o.length b ⟨bindArgs 0 args,o⟩=some (out,st)) {G r:AV} (z:resultsA st E=some G) {own:Bool} (q:finish own o.length G st.o=some (r,o'))
  {vs:List Value} (x:B A w σ o) (J:SimO A w σ o) (I:RepL A w σ o args vs):
  CallsIn (FR none) 0 P f vs.toArray w fun e w'=>∃u a,e= .returned u∧SimO A w' a o'∧Rep A w' a o' r u∧Ext w σ o w' a o':=by
 have M:=RepL.length _ _ I
 refine callsIn_of_wp_marks (F:=FR none) t i trivial (wpIn_mono (W none md B N L _ b _ out st m c.ntmps H g X [] A w σ o {tmps:=vs.toArray++Array.replicate (c.ntmps - vs.toArray.size) undef,defers:=[]} w σ x (Nat.le_refl _) (entry_sim J I (by omega))) ?_)
 ·rintro e p w' ⟨rfl,a,d⟩
  have k:LeavesInM (FR none) 0 P c p.tmps (fun e w'=>∃u a,e= .returned u∧SimO A w' a o'∧Rep A w' a o' r u∧Ext w σ o w' a o') p.defers .returning w':=by
   obtain⟨K,v,U⟩:=d.defers
   rw[v]
   refine leaves_marks K w' U d.sim fun S R V O=>?_
   simp only[LeavesInM,LeavesIn]
   have h:Sim A c.ntmps [] w σ o st {p with defers:=[]} S a:=⟨R,fun s=>O _ _ (d.env s),d.size,⟨[],rfl,List.Pairwise.nil,by simp⟩,V d.ext⟩
   obtain⟨u,Y,l⟩:=results_rep h y z
   have D:=finish_sound h.sim h.ext l q
   simp_all
  rcases j with rfl|rfl
  ·exact k
  ·exact k
theorem end_out {out:Out} (h:isEnd out=true):out= .norm∨out= .ret:=by
 grind[isEnd]
theorem comp_dfr {P:Program} {j:Nat} {H:List RH} {g:FuncId} {e:List Operand} {d:Nat} {a b:IR} (c:Code):comp P j H c≠some (.dfr g e d a b):=by
 intro h
 cases c with
 |region k i f=>
  simp only[comp] at h
  unfold compReg at h
  split at h
  ·cases h
  ·split at h
   ·grind
   simp_all
 |seq x y=>grind[comp]
 |cond c x y=>
  grind[comp]
 |_=>simp[comp] at h
theorem isDfr_ok {f:Array Oper} {g:FuncId} {e:List Operand} {d:Nat} (h:isDfr f=some (g,e,d)):∃i j a b c,f.toList=[i,j]∧i.dst=some d∧i.op= .makeFunc (.func g) a b∧i.guard=none∧j.op= .defer c∧j.dst=none∧j.guard=none∧c.callee= .value (.tmp d)∧a.toList=[]∧c.args.toList=[]∧b.toList=e:=by
 grind[isDfr]
theorem dfr_wp {n:Nat} {id:Nat} {e:Array Oper} {g:FuncId} {f:List Operand} {d:Nat} (H:isDfr e=some (g,f,d)) (p:d<n) {st:St} {a:Act} {F:World} {l:Sig} {G:Store} (h:Sim A n D F l G st a w σ) {Q:Exit→Act→World→Prop}
  (I:∀(r:Act) (vs:List Value),RepL A w σ st.o (f.map (evA st.env)) vs→Sim A n ({target:=.fn (.func g) vs.toArray,args:=#[]}::a.defers) w σ st.o ⟨(d,.ud)::st.env,st.o⟩ r w σ→Q .normal r w):
  (Code.region id e false).wpIn (FR none) 0 P Q a w:=by
 obtain⟨k,u,x,b,c,t,q,U,X,S,J,V,R,N,T,rfl⟩:=isDfr_ok H
 have L:e[0]?=some k:=by rw[←Array.getElem?_toList,t];rfl
 have z:e[1]?=some u:=by rw[←Array.getElem?_toList,t];rfl
 have B:e.size=2:=by grind[Array.length_toList]
 have W:x=#[]:=Array.ext' (by omega)
 have O:c.args=#[]:=Array.ext' (by omega)
 refine wpIn_region ?_
 rw[B]
 show wpOpsIn (FR none) 0 P e Q [0,1] a w
 rw[wpOpsIn_cons]
 unfold wpOpIn
 simp only[L]
 rw[if_pos (by grind[Region.wanted])]
 unfold Oper.wpIn
 rw[show(FR none).round=none from rfl,Oper.semAt_none]
 refine⟨fun _ _=>trivial,?_⟩
 have E:(execOp a.eval k).run P w= .ok (.value (.func (.func g) #[] (b.map a.eval))) w:=by
  simp_all[execOp,Instr.makeFunc]
 rw[E,Oper.uponIn_value,wpOpsIn_cons]
 have C:d<a.tmps.size:=by rw[h.size];exact p
 have m:(a.put k.dst (.func (.func g) #[] (b.map a.eval))).eval (.tmp d)= .func (.func g) #[] (b.map a.eval):=by
  simp_all[Act.put,Act.eval]
 generalize i:a.put k.dst (.func (.func g) #[] (b.map a.eval))=K at m
 unfold wpOpIn
 simp only[z]
 rw[if_pos (by grind[Region.wanted])]
 unfold Oper.wpIn
 rw[show(FR none).round=none from rfl,Oper.semAt_none]
 refine⟨fun _ _=>trivial,?_⟩
 have y:(execOp K.eval u).run P w= .ok (.defer {target:=.fn (.func g) (b.map a.eval),args:=#[]}) w:=by
  simp_all[execOp,resolve,Deferred.ofValue]
 rw[y,Oper.uponIn_defer,J]
 show Q .normal _ w
 have j:RepL A w σ st.o (b.toList.map (evA st.env)) (b.toList.map a.eval):=repL_map (fun x=>h.ev x) b.toList
 refine I _ (b.toList.map a.eval) j ⟨h.sim,fun s=>?_,?_,⟨[],?_,List.Pairwise.nil,by simp⟩,Ext.refl _ _ _⟩
 ·subst i
  by_cases M:d=s
  ·simp_all[getE,Rep]
  ·have v:Nat.beq d s=false:=by
    cases v:Nat.beq d s<;>simp_all
   simp only[getE,v,cond_false]
   have:=h.env s
   simp_all[Act.put]
 ·subst i
  simp[q,Act.put,h.size]
 ·subst i
  simp[q,Act.put]
  grind
theorem spine_wp {T:Tab} {n:Nat} (Q:ExecOK P T n) {v:Nat} {H:List RH} {lo:Nat} {C:World} {p:Sig} {D:Store} (I:D.length≤lo) {g:FuncId} {m:List Operand} {d:Nat} {S:IR} {s0 s2:St} {out:Out}
  (J:exec T .plain n s0.o.length S ⟨(d,.ud)::s0.env,s0.o⟩=some (out,s2)):∀(f:Code) (z:IR) (st:St) (a:Act) (w:World) (σ:Sig),compD P v H f=some (z,(g,m,d),S)→spineX (exec T .plain n lo) z st=some s0→Sim A v [] C p D st a w σ→
  f.wpIn (FR none) 0 P (fun e B w'=>e=out.toExit∧goodF P g=true∧∃(q:World) (j t:Sig) (R:List Deferred) (vs:List Value),MkD C q R∧SimO A q j s0.o∧Ext C p D q j s0.o∧RepL A q j s0.o (m.map (evA s0.env)) vs∧
   Sim A v ({target:=.fn (.func g) vs.toArray,args:=#[]}::R) q j s0.o s2 B w' t) a w:=by
 intro f
 induction f with
 |seq c l _ G=>
  intro z st a w σ k i h
  cases c with
  |region W K N=>
   unfold compD at k
   split at k
   ·rename_i x X _
    split at k
    ·rename_i y
     obtain⟨b,Y,O⟩:=Option.map_eq_some_iff.1 k
     simp only[Prod.mk.injEq] at O
     obtain⟨rfl,rfl,rfl⟩:=O
     simp only[spineX,Option.some.injEq] at i
     subst i
     refine wpIn_seq (dfr_wp X y.1 h fun E vs V s=>?_)
     show l.wpIn _ _ _ _ E w
     obtain⟨ms,U,Z⟩:=h.defers
     refine wpIn_mono (Q none .plain anyB rfl anyB_closed _ b _ out s2 J v H l Y _ A w σ st.o E w σ trivial (Nat.le_refl _) s) ?_
     rintro e B w' ⟨rfl,t,L⟩
     exact⟨rfl,y.2,w,σ,t,a.defers,vs,by simp_all,h.sim,h.ext,V,L⟩
    ·cases k
   ·split at k
    ·rename_i r B x b hr F
     simp only[Option.some.injEq,Prod.mk.injEq] at k
     obtain⟨rfl,rfl,rfl⟩:=k
     simp only[spineX] at i
     split at i
     ·rename_i u M
      refine wpIn_seq (wpIn_mono (Q none .plain anyB rfl anyB_closed lo r st .norm u M v H (.region W K _) (by grind[comp]) [] A C p D a w σ trivial I h) ?_)
      rintro e E q ⟨rfl,j,s⟩
      exact G B u E q j F i s
     ·cases i
    ·cases k
  |_=>simp[compD] at k
 |_=>
  intro z st a w σ k
  simp[compD] at k
theorem fn_runD {T:Tab} (hT:TabOK P T) {n:Nat} (ih:ExecOK P T n) {f:FuncId} {fn:Func} {code:Code} {H:List RH} {ia ib:IR} {g:FuncId} {caps:List Operand} {d:Nat} {rs:List IRes}
  (hfn:P.funcs[f]?=some fn) (hcode:fn.body=some code) (hb:compD P fn.ntmps H code=some (ia,(g,caps,d),ib)) (hrs:optAll (compRes P) fn.results.toList=some rs) (hnt:¬fn.ntmps<fn.params.size+fn.nfree)
  {args:List AV} {out out3:Out} {s0 s2 s3:St} (hlen:args.length=fn.params.size+fn.nfree) (hout:out= .norm∨out= .ret) (h1:spineX (exec T .plain n o.length) ia ⟨bindArgs 0 args,o⟩=some s0) (h2:exec T .plain n s0.o.length ib ⟨(d,.ud)::s0.env,s0.o⟩=some (out,s2))
  {F:IFn} (hF:T.fn g=some F) (hcl:(caps.map (evA s0.env)).length=F.params) (hre:F.res=[]) (h3:exec T .plain n s2.o.length F.body ⟨bindArgs 0 (caps.map (evA s0.env)),s2.o⟩=some (out3,s3)) (hout3:out3= .norm∨out3= .ret)
  {r0 r:AV} (hr0:resultsA ⟨s2.env,s3.o⟩ rs=some r0) {own:Bool} (hfi:finish own o.length r0 s3.o=some (r,o'))
  {vs:List Value} (hS:SimO A w σ o) (hr:RepL A w σ o args vs):
  CallsIn (FR none) 0 P f vs.toArray w fun e w'=>∃u σ',e= .returned u∧SimO A w' σ' o'∧Rep A w' σ' o' r u∧Ext w σ o w' σ' o':=by
 have hvl:=RepL.length _ _ hr
 obtain⟨fg,Hg,hfg,hcg,hgg⟩:=hT.fn g F hF
 obtain⟨cg,hcgb,hcgc,hpg,hrg⟩:∃cg,fg.body=some cg∧comp P fg.ntmps Hg cg=some F.body∧F.params≤fg.ntmps∧optAll (compRes P) fg.results.toList=some []:=by
  unfold compFn at hcg
  split at hcg
  ·cases hcg
  ·rename_i cg hcg0
   split at hcg
   ·rename_i b rs' hb' hrs'
    split at hcg
    ·cases hcg
    ·rename_i hnt'
     injection hcg with hcg
     subst hcg
     simp only at h3 hre ⊢
     subst hre
     unfold compB at hb'
     split at hb'
     ·simp_all
     ·obtain⟨x,_,rfl⟩:=Option.map_eq_some_iff.1 hb'
      cases n<;>simp[exec] at h3
   ·cases hcg
 refine callsIn_of_wp_marks (F:=FR none) hfn hcode trivial (wpIn_mono (spine_wp ih (Nat.le_refl _) h2 code ia _ _ w σ hb h1 (entry_sim hS hr (by omega))) ?_)
 rintro e a' w' ⟨rfl,hg,w1,σ1,σ',ds,cv,hM1,hS1,hE1,hcv,hs'⟩
 have key:LeavesInM (FR none) 0 P fn a'.tmps (fun e w'=>∃u σ',e= .returned u∧SimO A w' σ' o'∧Rep A w' σ' o' r u∧Ext w σ o w' σ' o') a'.defers .returning w':=by
  obtain⟨ms,hms,hM⟩:=hs'.defers
  rw[hms]
  refine leaves_marks ms w' hM hs'.sim fun w2 q1 q3 q4=>?_
  simp only[LeavesInM]
  refine⟨by simp,.inr ⟨fun h=>by grind[FR,Fence.wide],.func g,cv.toArray,g,cv.toArray,rfl,by simp[invoke,run_callFunc hg],fun _ _=>trivial,?_⟩⟩
  have hcv2:RepL A w2 σ' s2.o (caps.map (evA s0.env)) cv:=by
   have e1:Ext w1 σ1 s0.o w' σ' s2.o:=hs'.ext
   grind[RepL.ext]
  have hcvl:=RepL.length _ _ hcv2
  refine CallsDIn.mono (callsD_marks (A:=A) hfg hcgb (R:=fun e w3=>∃u σ3,e= .returned u∧SimO A w3 σ3 s3.o∧Ext w2 σ' s2.o w3 σ3 s3.o) (wpIn_mono (ih none .plain anyB rfl anyB_closed _ F.body _ out3 s3 h3 fg.ntmps Hg cg hcgc [] A w2 σ' s2.o _ w2 σ' trivial (Nat.le_refl _) (entry_sim q1 hcv2 (by omega))) ?_)) ?_
  ·rintro e a3 w3 ⟨rfl,σ3,hs3⟩
   obtain⟨ms3,hms3,hM3⟩:=hs3.defers
   rw[List.append_nil] at hms3
   refine⟨by grind[Out.toExit],w2,σ3,s3.o,by simp_all,hs3.sim,fun w4 k1 k2 k3=>?_⟩
   have hs4:Sim A fg.ntmps [] w2 σ' s2.o s3 {a3 with defers:=[]} w4 σ3:=⟨k1,fun s=>k3 _ _ (hs3.env s),hs3.size,⟨[],rfl,List.Pairwise.nil,by simp⟩,k2 hs3.ext⟩
   obtain⟨u,hu,_⟩:=results_rep hs4 hrg (r:=.tup []) rfl
   exact⟨u,hu,u,σ3,rfl,k1,k2 hs3.ext⟩
  ·rintro e u' w3 ⟨rfl,u,σ3,rfl,p1,p2⟩
   show LeavesInM (FR none) 0 P fn a'.tmps _ ds (settle .returning) w3
   rw[show settle FrameMode.returning= .returning from rfl,←List.append_nil ds]
   have e13:Ext w1 σ1 s0.o w3 σ3 s3.o:=(q3 hs'.ext).trans p2
   refine leaves_marks ds w3 (hM1.ext hS1 e13) p1 fun w4 t1 t3 t4=>?_
   simp only[LeavesInM,LeavesIn]
   have hs4:Sim A fn.ntmps [] w σ o ⟨s2.env,s3.o⟩ {a' with defers:=[]} w4 σ3:=⟨t1,fun s=>t4 _ _ ((q4 _ _ (hs'.env s)).ext p2),hs'.size,⟨[],rfl,List.Pairwise.nil,by simp⟩,t3 (hE1.trans e13)⟩
   obtain⟨u,hu,hru⟩:=results_rep hs4 hrs hr0
   have hfin:=finish_sound hs4.sim hs4.ext hru hfi
   simp_all
 rcases hout with rfl|rfl
 ·exact key
 ·exact key
theorem callF_ok {T:Tab} (N:TabOK P T) {n:Nat} (ih:ExecOK P T n):OracleOK P (callF T (exec T .plain n)):=by
 intro f e o m r I c
 unfold callF at c
 split at c
 ·rename_i x hK
  injection c with c
  subst c
  exact N.K _ _ _ _ _ _ hK
 ·split at c
  ·cases c
  ·rename_i F J
   obtain⟨fn,H,y,a,hg⟩:=N.fn f F J
   split at c
   ·rename_i k
    unfold compFn at a
    split at a
    ·cases a
    ·rename_i a0 j
     split at a
     ·rename_i b rs i D
      split at a
      ·cases a
      ·rename_i E
       injection a with a
       subst a
       simp only at c k
       have p:∀{t:AV} {u:St},finish m o.length t u.o=some (r,I)→m=false→I=[]:=fun l ho=>by
        subst ho
        unfold finish at l
        grind
       unfold compB at i
       split at i
       ·rename_i V S
        injection i with i
        subst i
        have R:∀(x:Option (Out×St)),runB T (exec T .plain n) o.length V ⟨bindArgs 0 e,o⟩=x→exec T .plain n o.length V ⟨bindArgs 0 e,o⟩=x:=fun x hx=>by
         unfold runB at hx
         grind[comp_dfr]
        have a1:∀(h:Out) (u:St),(h= .norm∨h= .ret)→runB T (exec T .plain n) o.length V ⟨bindArgs 0 e,o⟩=some (h,u)→∀t,resultsA u rs=some t→finish m o.length t u.o=some (r,I)→
          goodF P f=true∧CallO P f e o r I∧(m=false→I=[]):=by
         intro h u G Q t s l
         exact⟨hg,fun A w σ vs L U=>(callsIn_wide (n:=0)).1 (fn_run ih (md:=.plain) (B:=anyB) rfl anyB_closed y j S D E k G (R _ Q) s l trivial L U),p l⟩
        grind
       ·obtain⟨⟨ia,⟨g,q,d⟩,ib⟩,S,rfl⟩:=Option.map_eq_some_iff.1 i
        simp only[runB] at c
        cases W:spineX (exec T .plain n o.length) ia ⟨bindArgs 0 e,o⟩ with
        |none=>simp_all
        |some v=>
        simp only[W] at c
        cases h2:exec T .plain n v.o.length ib ⟨(d,.ud)::v.env,v.o⟩ with
        |none=>simp_all
        |some x2=>
        obtain⟨h,Y⟩:=x2
        simp only[h2] at c
        cases Z:isEnd h with
        |false=>simp_all
        |true=>
        simp only[Z,if_true] at c
        unfold dfrX at c
        cases J:T.fn g with
        |none=>simp_all
        |some O=>
        simp only[J] at c
        by_cases M:(q.map (evA v.env)).length=O.params∧O.res.isEmpty=true
        ·rw[if_pos M] at c
         cases X:exec T .plain n Y.o.length O.body ⟨bindArgs 0 (q.map (evA v.env)),Y.o⟩ with
         |none=>simp_all
         |some x3=>
         obtain⟨C,s3⟩:=x3
         simp only[X] at c
         cases z:isEnd C with
         |false=>simp_all
         |true=>
         simp only[z,if_true] at c
         split at c
         ·rename_i t s
          exact⟨hg,fun A w σ vs L U=>(callsIn_wide (n:=0)).1 (fn_runD N ih y j S D E k (end_out Z) W h2 J M.1 (List.isEmpty_iff.1 M.2) X (end_out z) s c L U),p c⟩
         ·cases c
        simp_all
     ·cases a
   ·cases c
end
open Go.RowKit
section
variable {P:Program} {A:Clr} {D:List Deferred} {w w':World} {σ σ':Sig} {o o':Store}
theorem wpIn_scope_straight {rnd:Option Nat} {Q:Exit→Act→World→Prop} {a:Act} {w:World} {c:Code} (h:c.wpIn (FR rnd) 0 P (Exit.noGoto Q) a w):(Code.scope c).wpIn (FR rnd) 0 P Q a w:=by
 intro b k n o p m
 obtain⟨e,d,f,j,g⟩:=h b (.inScope c::k) n o p m
 have s:step P (lone (b.atR a (.code (.scope c)::k)) n w)= .next (lone (b.atR a (.code c:: .inScope c::k)) n w):=step_lone_go (by simp[stepG,stepG.exec,Frame.atR])
 have q:step P (lone (b.atR d (.inScope c::k)) n f)= .next (lone (b.atR d k) n f):=step_lone_go (by simp[stepG,stepG.exec,Frame.atR])
 have i:=StepsIn.one (I:=Machine.fenced P (FR rnd)) (fenced_calm (fr:=b.atR a (.code (.scope c)::k)) p m rfl) s
 cases e with
 |normal=>exact⟨.normal,d,f,j,(StepsIn.trans i (StepsIn.trans g (.one (fenced_calm (fr:=b.atR d (.inScope c::k)) p m rfl) q)))⟩
 |exit u=>exact⟨.exit u,d,f,j,.of_steps i ⟨fun r t=>g.1 r (by grind[exitTo]),fun m t=>by obtain⟨x,z,v⟩:=g.2 m (by grind[exitTo]);grind⟩⟩
 |goto l=>exact j.elim
 |ret=>exact⟨_,d,f,j,.of_steps i g⟩
 |panic y=>exact⟨_,d,f,j,.of_steps i g⟩
 |outgrown=>exact⟨_,d,f,j,.of_steps i g⟩
def scopeR (rnd:Option Nat) (P:Program) (b:Code) (l:Nat) (Q:Exit→Act→World→Prop):Nat→Code→Act→World→Prop
 |0,_,_,_=>False
 |n+1,x,a,w=>x.wpIn (FR rnd) 0 P (fun e d c=>match e with
   | .goto f=>f=l∧scopeR rnd P b l Q n b d c
   |e=>Q e d c) a w
theorem wpIn_scope_turns {rnd:Option Nat} {Q:Exit→Act→World→Prop} {a:Act} {w:World} {c i:Code} {l:Nat} (S:findLabel c l=some i) {n:Nat} (h:scopeR rnd P i l Q n c a w):(Code.scope c).wpIn (FR rnd) 0 P Q a w:=by
 intro b k p A y t
 have E:gotoIn l (.inScope c::k)=some (.code i:: .inScope c::k):=by grind[gotoIn]
 have B:∀n x a w,scopeR rnd P i l Q n x a w→∃e u v,Q e u v∧ArrivesIn (Machine.fenced P (FR rnd)) P (lone (b.atR a (.code x:: .inScope c::k)) p w) b k p e u v:=by
  intro n
  induction n with
  |zero=>intro x a w h;exact h.elim
  |succ n J=>
   intro x a w h
   obtain⟨e,d,g,m,f⟩:=h b (.inScope c::k) p A y t
   have G:step P (lone (b.atR d (.inScope c::k)) p g)= .next (lone (b.atR d k) p g):=step_lone_go (by simp[stepG,stepG.exec,Frame.atR])
   cases e with
   |normal=>exact⟨.normal,d,g,m,StepsIn.trans f (.one (fenced_calm (fr:=b.atR d (.inScope c::k)) y t rfl) G)⟩
   |exit K=>exact⟨.exit K,d,g,m,fun D C=>f.1 D (by grind[exitTo]),fun t C=>by obtain⟨M,O,N⟩:=f.2 t (by grind[exitTo]);grind⟩
   |goto L=>
    obtain⟨rfl,H⟩:=m
    obtain⟨q,r,s,o,j⟩:=J i d g H
    exact⟨q,r,s,o,.of_steps (f.1 _ E) j⟩
   |ret=>exact⟨_,d,g,m,f⟩
   |panic R=>exact⟨_,d,g,m,f⟩
   |outgrown=>exact⟨_,d,g,m,f⟩
 have F:step P (lone (b.atR a (.code (.scope c)::k)) p w)= .next (lone (b.atR a (.code c:: .inScope c::k)) p w):=step_lone_go (by simp[stepG,stepG.exec,Frame.atR])
 have z:=StepsIn.one (I:=Machine.fenced P (FR rnd)) (fenced_calm (fr:=b.atR a (.code (.scope c)::k)) y t rfl) F
 obtain⟨e,u,v,m,f⟩:=B n c a w h
 exact⟨e,u,v,m,.of_steps z f⟩
theorem labelOf_rest {b:Code} {l c:Nat} {H:List RH} {x:IR} (h:labelOf b=some l) (d:comp P c H b=some x):∃a,findLabel b l=some a∧comp P c H a=some x:=by
 unfold labelOf at h
 grind[findLabel,comp]
theorem exec_ok {T:Tab} (hT:TabOK P T):∀n,ExecOK P T n∧(∀(rnd:Option Nat) (md:Md) (B:Clr→World→Sig→Store→Prop),MdOK P rnd B md→Closed B→∀(lo:Nat) (b:IR) (st:St) (out:Out) (st':St),exec T md n lo (.loop b) st=some (out,st')→∀(q:Nat) (H:List RH) (f:Code),comp P q H f=some b→∀(D:List Deferred) (A:Clr) (r:World) (d:Sig) (m:Store) (a:Act) (w:World) (σ:Sig),B A r d m→
   m.length≤lo→Sim A q D r d m st a w σ→Code.roundsIn (FR rnd) 0 P f (fun e v w'=>e=out.toExit∧∃u,Sim A q D r d m st' v w' u) n a w)∧∀(rnd:Option Nat) (md:Md) (B:Clr→World→Sig→Store→Prop),MdOK P rnd B md→Closed B→∀(lo l:Nat) (b:IR) (st:St) (out:Out) (st':St),exec T md n lo (.turns (some l) b) st=some (out,st')→∀(q:Nat) (H:List RH) (f s:Code),comp P q H f=some b→comp P q H s=some b→∀(D:List Deferred) (A:Clr) (r:World) (d:Sig) (m:Store) (a:Act) (w:World) (σ:Sig),B A r d m→
   m.length≤lo→Sim A q D r d m st a w σ→scopeR rnd P s l (fun e v w'=>e=out.toExit∧∃u,Sim A q D r d m st' v w' u) n f a w
 |0=>⟨fun rnd md B _ _ lo c st out st' h=>by grind[exec],fun rnd md B _ _ lo b st out st' h=>by grind[exec],fun rnd md B _ _ lo l b st out st' h=>by grind[exec]⟩
 |n+1=>by
  obtain⟨I,a0,Z⟩:=exec_ok hT n
  have M:∀(rnd:Option Nat) (md:Md) (B:Clr→World→Sig→Store→Prop),MdOK P rnd B md→Closed B→∀(lo:Nat) (b:IR) (st:St) (out:Out) (st':St),exec T md (n+1) lo (.loop b) st=some (out,st')→∀(q:Nat) (H:List RH) (f:Code),comp P q H f=some b→∀(D:List Deferred) (A:Clr) (r:World) (d:Sig) (m:Store) (a:Act) (w:World) (σ:Sig),B A r d m→
    m.length≤lo→Sim A q D r d m st a w σ→Code.roundsIn (FR rnd) 0 P f (fun e v w'=>e=out.toExit∧∃u,Sim A q D r d m st' v w' u) (n+1) a w:=by
   intro rnd md B C E lo b st out st' h q H f p D A r d m a w σ j i t
   simp only[exec] at h
   split at h
   ·rename_i F Q
    have O:=I rnd md B C E lo b st .norm F Q q H f p _ A r d m a w σ j i t
    rw[roundsIn_succ]
    refine wpIn_mono O ?_
    rintro e v w' ⟨rfl,u,g⟩
    obtain⟨N,L⟩:=g.trim (k:=st.o.length) t.len
    exact a0 rnd md B C E lo b _ out st' h q H f p _ A r d m v w' N j i L
   ·rename_i K
    have O:=I rnd md B C E lo b st out st' h q H f p _ A r d m a w σ j i t
    rw[roundsIn_succ]
    refine wpIn_mono O ?_
    rintro e v w' ⟨rfl,g⟩
    cases out with
    |norm=>simp_all
    |exit S=>exact⟨rfl,g⟩
    |ret=>exact⟨rfl,g⟩
    |goto l=>exact⟨rfl,g⟩
  have R:∀(rnd:Option Nat) (md:Md) (B:Clr→World→Sig→Store→Prop),MdOK P rnd B md→Closed B→∀(lo l:Nat) (b:IR) (st:St) (out:Out) (st':St),exec T md (n+1) lo (.turns (some l) b) st=some (out,st')→∀(q:Nat) (H:List RH) (f s:Code),comp P q H f=some b→comp P q H s=some b→∀(D:List Deferred) (A:Clr) (r:World) (d:Sig) (m:Store) (a:Act) (w:World) (σ:Sig),B A r d m→
    m.length≤lo→Sim A q D r d m st a w σ→scopeR rnd P s l (fun e v w'=>e=out.toExit∧∃u,Sim A q D r d m st' v w' u) (n+1) f a w:=by
   intro rnd md B C E lo l b st out st' h q H f s p hr D A r d m a w σ j i t
   simp only[exec] at h
   split at h
   ·rename_i l' F Q
    split at h
    ·rename_i U
     injection U with U
     subst U
     refine wpIn_mono (I rnd md B C E lo b st (.goto l) F Q q H f p _ A r d m a w σ j i t) ?_
     rintro e v w' ⟨rfl,u,g⟩
     obtain⟨N,L⟩:=g.trim (k:=st.o.length) t.len
     exact⟨rfl,Z rnd md B C E lo l b _ out st' h q H s s hr hr _ A r d m v w' N j i L⟩
    ·cases h
   ·rename_i K
    refine wpIn_mono (I rnd md B C E lo b st out st' h q H f p _ A r d m a w σ j i t) ?_
    rintro e v w' ⟨rfl,g⟩
    cases out with
    |norm=>exact⟨rfl,g⟩
    |exit S=>exact⟨rfl,g⟩
    |ret=>exact⟨rfl,g⟩
    |goto l=>simp_all
  refine⟨fun rnd md B C E lo c st out st' h q H f p D A r d m a w σ j i t=>?_,M,R⟩
  cases f with
  |skip=>
   simp only[comp,Option.some.injEq] at p
   subst p
   simp only[exec,Option.some.injEq,Prod.mk.injEq] at h
   obtain⟨rfl,rfl⟩:=h
   exact wpIn_skip ⟨rfl,σ,t⟩
  |scope b=>
   simp only[comp] at p
   obtain⟨V,J,rfl⟩:=Option.map_eq_some_iff.1 p
   cases U:labelOf b with
   |some l=>
    grind[labelOf_rest,wpIn_scope_turns]
   |none=>
    rw[U] at h
    simp only[exec] at h
    refine wpIn_scope_straight ?_
    split at h
    ·simp_all
    ·rename_i K
     refine wpIn_mono (I rnd md B C E lo V st out st' h q H b J _ A r d m a w σ j i t) ?_
     rintro e v w' ⟨rfl,g⟩
     cases out with
     |norm=>exact⟨rfl,g⟩
     |exit S=>exact⟨rfl,g⟩
     |ret=>exact⟨rfl,g⟩
     |goto l=>simp_all
  |goto l=>
   simp only[comp,Option.some.injEq] at p
   subst p
   simp only[exec,Option.some.injEq,Prod.mk.injEq] at h
   obtain⟨rfl,rfl⟩:=h
   exact wpIn_goto ⟨rfl,σ,t⟩
  |label l=>
   simp only[comp,Option.some.injEq] at p
   subst p
   simp only[exec,Option.some.injEq,Prod.mk.injEq] at h
   obtain⟨rfl,rfl⟩:=h
   exact wpIn_label ⟨rfl,σ,t⟩
  |region S a8 a3=>
   simp only[comp] at p
   obtain⟨k,l,a4,a1,a7,a2,rfl,hw⟩:=region_wpM (callF_ok hT I) C E (A:=A) (lo:=lo) p
   simp only[exec] at h
   split at h
   ·rename_i a5 h2
    simp only[Option.some.injEq,Prod.mk.injEq] at h
    obtain⟨rfl,rfl⟩:=h
    exact hw h2 j i t
   ·cases h
  |seq x y=>
   simp only[comp] at p
   split at p
   ·rename_i V W J X
    injection p with p;subst p
    simp only[exec] at h
    split at h
    ·rename_i F Q
     refine wpIn_seq (wpIn_mono (I rnd md B C E lo V st .norm F Q q H x J _ A r d m a w σ j i t) ?_)
     rintro e v w' ⟨rfl,u,g⟩
     exact I rnd md B C E lo W F out st' h q H y X _ A r d m v w' u j i g
    ·rename_i K
     refine wpIn_seq (wpIn_mono (I rnd md B C E lo V st out st' h q H x J _ A r d m a w σ j i t) ?_)
     rintro e v w' ⟨rfl,g⟩
     cases out with
     |norm=>simp_all
     |exit S=>exact⟨rfl,g⟩
     |ret=>exact⟨rfl,g⟩
     |goto l=>exact⟨rfl,g⟩
   ·cases p
  |cond x y z=>
   simp only[comp] at p
   split at p
   ·rename_i W z' X hz
    injection p with p;subst p
    by_cases hk:keptS H x=true
    ·rw[if_pos hk] at h
     simp only[exec] at h
     have J:=t.ev x
     split at h
     ·rename_i G
      rw[G] at J
      exact wpIn_cond_true (rep_sc J) (I rnd md B C E lo W _ out st' h q H y X _ A r d m a w σ j i t)
     ·rename_i G
      rw[G] at J
      exact wpIn_cond_false (rep_sc J) (I rnd md B C E lo z' _ out st' h q H z hz _ A r d m a w σ j i t)
     ·cases h
    rw[if_neg hk] at h
    simp only[exec] at h
    have J:=t.ev x
    split at h
    ·rename_i G
     rw[G] at J
     exact wpIn_cond_true (rep_sc J) (I rnd md B C E lo W _ out st' h q H y X _ A r d m a w σ j i (t.drop x))
    ·rename_i G
     rw[G] at J
     exact wpIn_cond_false (rep_sc J) (I rnd md B C E lo z' _ out st' h q H z hz _ A r d m a w σ j i (t.drop x))
    ·cases h
   ·cases p
  |block S b=>
   simp only[comp] at p
   obtain⟨b',O,rfl⟩:=Option.map_eq_some_iff.1 p
   simp only[exec] at h
   split at h
   ·rename_i Y F Q
    refine wpIn_block (wpIn_mono (I rnd md B C E lo b' st (.exit Y) F Q q H b O _ A r d m a w σ j i t) ?_)
    rintro e v w' ⟨rfl,g⟩
    simp only[Out.toExit,Exit.inBlock]
    grind
   ·rename_i K
    refine wpIn_block (wpIn_mono (I rnd md B C E lo b' st out st' h q H b O _ A r d m a w σ j i t) ?_)
    rintro e v w' ⟨rfl,g⟩
    cases out with
    |norm=>exact⟨rfl,g⟩
    |exit a6=>simp_all
    |ret=>exact⟨rfl,g⟩
    |goto l=>exact⟨rfl,g⟩
  |loop b=>
   simp only[comp] at p
   obtain⟨b',O,rfl⟩:=Option.map_eq_some_iff.1 p
   grind[wpIn_loop_rounds]
  |exit S=>
   simp only[comp,Option.some.injEq] at p
   subst p
   simp only[exec,Option.some.injEq,Prod.mk.injEq] at h
   obtain⟨rfl,rfl⟩:=h
   exact wpIn_exit ⟨rfl,σ,t⟩
  |ret=>
   simp only[comp,Option.some.injEq] at p
   subst p
   simp only[exec,Option.some.injEq,Prod.mk.injEq] at h
   obtain⟨rfl,rfl⟩:=h
   exact wpIn_ret ⟨rfl,σ,t⟩
  |_=>grind[comp]
theorem call_sound {T:Tab} (a:TabOK P T) (n:Nat):OracleOK P (callF T (exec T .plain n)):=callF_ok a (exec_ok a n).1
end
def Ev (T:Tab) (md:Nat→Md) (lo:Nat) (c:IR) (st:St) (r:Out×St):Prop:=∃N,∀m n,N≤m→N≤n→exec T (md m) n lo c st=some r
abbrev plainM:Nat→Md:=fun _=> .plain
section
variable {T:Tab} {md:Nat→Md} {lo:Nat} {st st1 st':St} {r:Out×St} {a b:IR} {out:Out}
theorem Ev.mk (N:Nat) (h:∀m n,N≤m→N≤n→exec T (md m) (n+1) lo a st=some r):Ev T md lo a st r:=
 ⟨N+1,fun m n c b=>by
  match n,b with
  |n+1,b=>grind⟩
theorem Ev.skip:Ev T md lo .skip st (.norm,st):=.mk 0 fun _ _ _ _=>by simp only[exec]
theorem Ev.ret:Ev T md lo .ret st (.ret,st):=.mk 0 fun _ _ _ _=>by simp only[exec]
theorem Ev.exit {id:Nat}:Ev T md lo (.exit id) st (.exit id,st):=.mk 0 fun _ _ _ _=>by simp only[exec]
theorem Ev.seq (h:Ev T md lo a st (.norm,st1)) (k:Ev T md lo b st1 r):Ev T md lo (.seq a b) st r:=by
 obtain⟨N,h⟩:=h
 obtain⟨M,k⟩:=k
 exact .mk (N+M) fun m n c d=>by simp only[exec,h m n (by omega) (by omega),k m n (by omega) (by omega)]
theorem Ev.seq_out (h:Ev T md lo a st (out,st1)) (c:out≠ .norm):Ev T md lo (.seq a b) st (out,st1):=by
 obtain⟨N,h⟩:=h
 exact .mk N fun m n e d=>by
  simp_all[exec]
theorem Ev.condT {x:Operand} (d:evA st.env x= .sc (.bool true)) (h:Ev T md lo a ⟨dropE x st.env,st.o⟩ r):Ev T md lo (.cond x a b) st r:=by
 obtain⟨N,h⟩:=h
 exact .mk N fun m n c e=>by simp_all[exec]
theorem Ev.condF {x:Operand} (d:evA st.env x= .sc (.bool false)) (h:Ev T md lo b ⟨dropE x st.env,st.o⟩ r):Ev T md lo (.cond x a b) st r:=by
 obtain⟨N,h⟩:=h
 exact .mk N fun m n c e=>by simp_all[exec]
theorem Ev.condK {x:Operand} {q:Bool} (g:evA st.env x= .sc (.bool q)) (e:q=true→Ev T md lo a st r) (d:q=false→Ev T md lo b st r):Ev T md lo (.condK x a b) st r:=by
 cases q with
 |true=>
  obtain⟨N,h⟩:=e rfl
  exact .mk N fun m n c f=>by simp_all[exec]
 |false=>
  obtain⟨N,h⟩:=d rfl
  exact .mk N fun m n c f=>by simp_all[exec]
def Out.inBlock (id:Nat):Out→Out
 | .exit a=>if a=id then .norm else .exit a
 |o=>o
theorem Ev.block {id:Nat} (h:Ev T md lo a st (out,st1)):Ev T md lo (.block id a) st (out.inBlock id,st1):=by
 obtain⟨N,h⟩:=h
 exact .mk N fun m n b c=>by
  simp only[exec,h m n b c]
  cases out<;>grind[exit,Out.inBlock]
theorem Ev.loop_step (h:Ev T md lo a st (.norm,st1)) (k:Ev T md lo (.loop a) (trim st.o.length st1) r):Ev T md lo (.loop a) st r:=by
 obtain⟨N,h⟩:=h
 obtain⟨M,k⟩:=k
 exact .mk (N+M) fun m n b c=>by
  simp only[exec,h m n (by omega) (by omega)]
  grind
theorem Ev.loop_out (h:Ev T md lo a st (out,st1)) (b:out≠ .norm):Ev T md lo (.loop a) st (out,st1):=by
 obtain⟨N,h⟩:=h
 exact .mk N fun m n d c=>by
  simp_all[exec]
theorem Ev.goto {l:Nat}:Ev T md lo (.goto l) st (.goto l,st):=.mk 0 fun _ _ _ _=>by simp only[exec]
theorem Ev.turn_step {l:Nat} (h:Ev T md lo a st (.goto l,st1)) (k:Ev T md lo (.turns (some l) a) (trim st.o.length st1) r):Ev T md lo (.turns (some l) a) st r:=by
 obtain⟨N,h⟩:=h
 obtain⟨M,k⟩:=k
 exact .mk (N+M) fun m n b c=>by
  simp only[exec,h m n (by omega) (by omega),if_true]
  grind
theorem Ev.turn_out {l:Option Nat} (h:Ev T md lo a st (out,st1)) (c:∀b,out≠ .goto b):Ev T md lo (.turns l a) st (out,st1):=by
 obtain⟨N,h⟩:=h
 exact .mk N fun m n e d=>by
  simp_all[exec]
theorem Ev.region {id k:Nat} {b:Bool} {f:List IOper} {d:List (Nat×Nat)} {a:List Nat} {e c:List OwnH}
  (h:∃N,∀g m,N≤m→runRegM (md m) b (callF T g) k f d (e.foldl (fun s h=>ownH lo h s) st)=some st'):
  Ev T md lo (.region id b k f d a e c) st (.norm,c.foldl (fun s h=>ownH lo h s) ⟨prune a st'.env,st'.o⟩):=by
 obtain⟨N,h⟩:=h
 exact .mk N fun m n i _=>by simp_all[exec]
theorem call_of {P:Program} (i:TabOK P T) {f:FuncId} {F:IFn} (l:T.fn f=some F) {args:List AV} {o:Store} {own:Bool} (g:T.K f args o own=none) (d:args.length=F.params)
  (h:Ev T plainM o.length F.body ⟨bindArgs 0 args,o⟩ (out,st')) (c:out= .norm∨out= .ret) {b v:AV} {o':Store} (k:resultsA st' F.res=some b) (a:finish own o.length b st'.o=some (v,o')):
  goodF P f=true∧CallO P f args o v o'∧(own=false→o'=[]):=by
 obtain⟨N,h⟩:=h
 refine call_sound i N f args o own v o' ?_
 unfold callF
 rw[g]
 have h:=h N N (Nat.le_refl _) (Nat.le_refl _)
 have j:runB T (exec T .plain N) o.length F.body ⟨bindArgs 0 args,o⟩=some (out,st'):=by
  unfold runB
  split
  ·rename_i e
   rw[e] at h
   cases N<;>simp[exec] at h
  ·exact h
 grind
end
section
variable {call call':Oracle}
def OLe (call b:Oracle):Prop:=∀f a o c r,call f a o c=some r→b f a o c=some r
theorem OLe.callF (T:Tab) (b:Nat→IR→St→Option (Out×St)):OLe T.K (callF T b):=by
 intro f a o c r h
 grind[Go.Vi.callF]
theorem OLe.callA (h:OLe call call') {f:FuncId} {args:List AV} {o:Store} {own:Bool} {r:AV×Store} (a:callA call f args o own=some r):callA call' f args o own=some r:=by
 unfold Go.Vi.callA at a ⊢
 split at a
 ·rename_i b
  rw[if_pos b]
  unfold callOwn at a ⊢
  simp only at a ⊢
  split at a
  ·split at a
   ·rename_i e d c
    rw[h _ _ _ _ _ c]
    exact a
   ·cases a
  ·cases a
 ·rename_i b
  rw[if_neg b]
  split at a
  ·cases a
  ·split at a
   ·rename_i c
    rw[h _ _ _ _ _ c]
    exact a
   ·cases a
theorem OLe.eff (h:OLe call call') {op:IOp} {ρ:Operand→AV} {o:Store} {nid:Nat} {r:AV×Store} (hc:eff call op ρ o nid=some r):eff call' op ρ o nid=some r:=by
 cases op with
 |call f args own=>exact h.callA hc
 |callv f args own=>
  simp only[Go.Vi.eff,effD,e_callv] at hc ⊢
  split at hc
  ·exact h.callA hc
  ·cases hc
 |callm tab x args=>
  simp only[Go.Vi.eff,effD,e_callm] at hc ⊢
  split at hc
  ·split at hc
   ·exact h.callA hc
   ·cases hc
  ·cases hc
 |_=>exact hc
theorem OLe.runOp (h:OLe call call') {base:Nat} {i:IOper} {st st':St} (a:runOp call base i st=some st'):runOp call' base i st=some st':=by
 unfold Go.Vi.runOp at a ⊢
 split at a
 ·cases a
 ·exact a
 ·split at a
  ·rename_i b
   rw[h.eff b]
   exact a
  ·cases a
theorem OLe.wrtC (h:OLe call call') {b:IOp} {ρ:Operand→AV} {o:Store} {nid:Nat} {r:AV×Store} (d:Go.Vi.eff call b ρ o nid=some r):Go.Vi.wrtC call' b ρ o nid=Go.Vi.wrtC call b ρ o nid:=by
 unfold Go.Vi.wrtC
 split
 ·rename_i f a
  have c:Go.Vi.callA call f (a.map ρ) o true=some r:=d
  have e:=h.callA c
  simp_all[Go.Vi.callA]
 ·rfl
theorem OLe.runOps (h:OLe call call') {base:Nat}:∀{l:List IOper} {st st':St},runOps call base l st=some st'→runOps call' base l st=some st'∧traceOps call' base l st=traceOps call base l st
 |[],_,_,b=>⟨b,rfl⟩
 |i::l,st,st',b=>by
  simp only[Go.Vi.runOps] at b ⊢
  split at b
  ·rename_i g a
   obtain⟨j,c⟩:=h.runOps b
   have f:=h.runOp a
   refine⟨by simp_all,?_⟩
   simp only[traceOps,a,f,c]
   congr 1
   split
   ·rename_i e
    unfold Go.Vi.runOp at a
    rw[e] at a
    simp only at a
    split at a
    ·rename_i d
     rw[h.wrtC d]
    ·cases a
   ·rfl
  ·cases b
theorem OLe.runReg (h:OLe call call') {k:Nat} {b:List IOper} {a:List (Nat×Nat)} {st st':St} (c:runReg call k b a st=some st'):runReg call' k b a st=some st':=by
 unfold Go.Vi.runReg at c ⊢
 simp only at c ⊢
 split at c
 ·rename_i e d
  obtain⟨f,g⟩:=h.runOps d
  simp_all
 ·cases c
end
def VW (T:Tab) (md:Nat→Md) (lo:Nat) (c:IR) (st:St) (Q:Out→St→Prop):Prop:=∃b a,Ev T md lo c st (b,a)∧Q b a
def RQ (x:Option St) (Q:St→Prop):Prop:=match x with|some a=>Q a|none=>False
section
variable {T:Tab} {md:Nat→Md} {lo:Nat} {st:St} {a b:IR} {Q Q':Out→St→Prop}
theorem VW.mono (h:VW T md lo a st Q) (d:∀o s,Q o s→Q' o s):VW T md lo a st Q':=by
 obtain⟨o,s,b,c⟩:=h
 exact⟨o,s,b,d o s c⟩
theorem VW.skip (h:Q .norm st):VW T md lo .skip st Q:=⟨_,_,.skip,h⟩
theorem VW.ret (h:Q .ret st):VW T md lo .ret st Q:=⟨_,_,.ret,h⟩
theorem VW.exit {id:Nat} (h:Q (.exit id) st):VW T md lo (.exit id) st Q:=⟨_,_,.exit,h⟩
theorem VW.seq (h:VW T md lo a st fun out s=>if out= .norm then VW T md lo b s Q else Q out s):VW T md lo (.seq a b) st Q:=by
 obtain⟨o,s,e,c⟩:=h
 by_cases d:o= .norm
 ·subst d
  rw[if_pos rfl] at c
  obtain⟨i,j,g,f⟩:=c
  exact⟨i,j,e.seq g,f⟩
 ·rw[if_neg d] at c
  exact⟨o,s,e.seq_out d,c⟩
theorem VW.cond {x:Operand} {q:Bool} (e:evA st.env x= .sc (.bool q)) (h:if q=true then VW T md lo a ⟨dropE x st.env,st.o⟩ Q else VW T md lo b ⟨dropE x st.env,st.o⟩ Q):VW T md lo (.cond x a b) st Q:=by
 cases q with
 |true=>obtain⟨o,s,c,d⟩:=(by simpa using h:VW T md lo a ⟨dropE x st.env,st.o⟩ Q);exact⟨o,s,.condT e c,d⟩
 |false=>obtain⟨o,s,c,d⟩:=(by simpa using h:VW T md lo b ⟨dropE x st.env,st.o⟩ Q);exact⟨o,s,.condF e c,d⟩
theorem VW.condK {x:Operand} {q:Bool} (e:evA st.env x= .sc (.bool q)) (h:if q=true then VW T md lo a st Q else VW T md lo b st Q):VW T md lo (.condK x a b) st Q:=by
 cases q with
 |true=>obtain⟨o,s,c,d⟩:=(by simpa using h:VW T md lo a st Q);exact⟨o,s,.condK e (fun _=>c) (fun h=>by cases h),d⟩
 |false=>obtain⟨o,s,c,d⟩:=(by simpa using h:VW T md lo b st Q);exact⟨o,s,.condK e (fun h=>by cases h) (fun _=>c),d⟩
theorem VW.block {id:Nat} (h:VW T md lo a st fun out s=>Q (out.inBlock id) s):VW T md lo (.block id a) st Q:=by
 obtain⟨o,s,b,c⟩:=h
 exact⟨_,_,b.block,c⟩
theorem VW.region {id k:Nat} {d:Bool} {e:List IOper} {c:List (Nat×Nat)} {b:List Nat} {f a:List OwnH}
  (h:RQ (runReg T.K k e c (f.foldl (fun s h=>ownH lo h s) st)) fun st'=>Q .norm (a.foldl (fun s h=>ownH lo h s) ⟨prune b st'.env,st'.o⟩)):
  VW T md lo (.region id d k e c b f a) st Q:=by
 unfold RQ at h
 split at h
 ·rename_i st' g
  refine⟨_,_,Ev.region ⟨0,fun i m _=>?_⟩,h⟩
  have:=(OLe.callF T i).runReg g
  exact this
 simp_all
theorem VW.loop (h:VW T md lo a st fun out s=>if out= .norm then VW T md lo (.loop a) (trim st.o.length s) Q else Q out s):VW T md lo (.loop a) st Q:=by
 obtain⟨o,s,d,b⟩:=h
 by_cases c:o= .norm
 ·subst c
  rw[if_pos rfl] at b
  obtain⟨g,i,f,e⟩:=b
  exact⟨g,i,d.loop_step f,e⟩
 ·rw[if_neg c] at b
  exact⟨o,s,d.loop_out c,b⟩
theorem VW.loop_inv (I:Nat→St→Prop) (b:∀m s,I m s→VW T md lo a s fun out s'=>if out= .norm then ∃c,c<m∧I c (trim s.o.length s') else Q out s'):
  ∀(m:Nat) (s:St),I m s→VW T md lo (.loop a) s Q:=by
 intro m
 induction m using Nat.strongRecOn with
 |_ m e=>
  intro s d
  refine VW.loop ((b m s d).mono fun o s' h=>?_)
  grind
theorem VW.goto {l:Nat} (h:Q (.goto l) st):VW T md lo (.goto l) st Q:=⟨_,_,.goto,h⟩
theorem VW.turn_no {l:Option Nat} (h:VW T md lo a st fun out s=>(∀e,out≠ .goto e)∧Q out s):VW T md lo (.turns l a) st Q:=by
 obtain⟨o,s,b,c,d⟩:=h
 exact⟨o,s,b.turn_out c,d⟩
theorem VW.turn_inv {l:Nat} (I:Nat→St→Prop) (b:∀m s,I m s→VW T md lo a s fun out s'=>(out= .goto l∧∃c,c<m∧I c (trim s.o.length s'))∨((∀h,out≠ .goto h)∧Q out s')):
  ∀(m:Nat) (s:St),I m s→VW T md lo (.turns (some l) a) s Q:=by
 intro m
 induction m using Nat.strongRecOn with
 |_ m i=>
  intro s k
  obtain⟨o,s',f,j⟩:=b m s k
  rcases j with⟨rfl,c,d,e⟩|⟨d,e⟩
  ·obtain⟨p,q,n,g⟩:=i c d _ e
   exact⟨p,q,f.turn_step n,g⟩
  ·exact⟨o,s',f.turn_out d,e⟩
theorem call_of_vw {P:Program} (k:TabOK P T) {f:FuncId} {F:IFn} (g:T.fn f=some F) {args:List AV} {o:Store} {own:Bool} (j:T.K f args o own=none) (b:args.length=F.params) {v:AV} {o':Store}
  (h:VW T plainM o.length F.body ⟨bindArgs 0 args,o⟩ fun out st'=>(out= .norm∨out= .ret)∧(resultsA st' F.res).bind (fun c=>finish own o.length c st'.o)=some (v,o')):
  goodF P f=true∧CallO P f args o v o'∧(own=false→o'=[]):=by
 obtain⟨out,st',e,i,d⟩:=h
 obtain⟨c,l,a⟩:=Option.bind_eq_some_iff.1 d
 grind[call_of]
end
open Classical in
noncomputable def ans {α:Type} (enc:α→List AV) (dom:α→Prop) (spec:α→AV) (args:List AV):Option AV:=
 if h:∃a,args=enc a∧dom a then some (spec (Classical.choose h)) else none
theorem ans_eq {e:Type} {enc:e→List AV} {d:e→Prop} {c:e→AV} (f:∀a b,enc a=enc b→a=b) {a:e} (g:d a):ans enc d c (enc a)=some (c a):=by
 have h:∃b,enc a=enc b∧d b:=⟨a,rfl,g⟩
 unfold ans
 grind
theorem ans_some {d:Type} {enc:d→List AV} {c:d→Prop} {b:d→AV} {args:List AV} {v:AV} (h:ans enc c b args=some v):∃a,args=enc a∧c a∧v=b a:=by
 unfold ans at h
 split at h<;>grind
structure Bun where
 (a0 a1 a2 a3 a4 a5:Int)
 deriving DecidableEq
structure Off where
 bidder:Int
 want:Bun
 value:Int
 deriving DecidableEq
structure Need where
 payers:Int
 least:Int
 deriving DecidableEq
structure BKey where
 bidder:Int
 want:Bun
 deriving DecidableEq
structure Sit where
 members:Int
 left:Bun
 opn:Bun
 deriving DecidableEq
def Bun.zero:Bun:=⟨0,0,0,0,0,0⟩
inductive SId where
 |i (k:IntKind)
 |b
 |bun
 |off
 |need
 |key
 |sit
 |lst (s:SId)
 |pair (s t:SId)
 deriving DecidableEq
@[reducible] def SId.T:SId→Type
 | .i _=>Int
 | .b=>Bool
 | .bun=>Bun
 | .off=>Off
 | .need=>Need
 | .key=>BKey
 | .sit=>Sit
 | .lst s=>List s.T
 | .pair s t=>s.T×t.T
def SId.dflt:(s:SId)→s.T
 | .i _=>(0:Int)
 | .b=>false
 | .bun=> .zero
 | .off=>⟨0,.zero,0⟩
 | .need=>⟨0,0⟩
 | .key=>⟨0,.zero⟩
 | .sit=>⟨0,.zero,.zero⟩
 | .lst _=>[]
 | .pair s t=>(s.dflt,t.dflt)
def SId.sz:SId→Nat
 | .i _=>1
 | .b=>1
 | .bun=>6
 | .off=>8
 | .need=>2
 | .key=>7
 | .sit=>13
 | .lst _=>1
 | .pair s t=>s.sz+t.sz
@[reducible] def SId.dec:(s:SId)→DecidableEq s.T
 | .i _=>inferInstanceAs (DecidableEq Int)
 | .b=>inferInstanceAs (DecidableEq Bool)
 | .bun=>inferInstanceAs (DecidableEq Bun)
 | .off=>inferInstanceAs (DecidableEq Off)
 | .need=>inferInstanceAs (DecidableEq Need)
 | .key=>inferInstanceAs (DecidableEq BKey)
 | .sit=>inferInstanceAs (DecidableEq Sit)
 | .lst s=>@instDecidableEqList _ s.dec
 | .pair s t=>@instDecidableEqProd _ _ s.dec t.dec
instance (s:SId):DecidableEq s.T:=s.dec
def SId.scal:SId→Bool
 | .i _| .b=>true
 |_=>false
def SId.flat:SId→Bool
 | .lst _=>false
 | .pair s t=>s.flat&&t.flat
 |_=>true
def iv (n:Int):Value:=.int .i64 n
def Bun.vs (b:Bun):List Value:=[iv b.a0,iv b.a1,iv b.a2,iv b.a3,iv b.a4,iv b.a5]
def encV:(s:SId)→s.T→List Value
 | .i k,n=>[.int k n]
 | .b,b=>[.bool b]
 | .bun,x=>[iv x.a0,iv x.a1,iv x.a2,iv x.a3,iv x.a4,iv x.a5]
 | .off,x=>[iv x.bidder,iv x.want.a0,iv x.want.a1,iv x.want.a2,iv x.want.a3,iv x.want.a4,iv x.want.a5,iv x.value]
 | .need,x=>[iv x.payers,iv x.least]
 | .key,x=>[iv x.bidder,iv x.want.a0,iv x.want.a1,iv x.want.a2,iv x.want.a3,iv x.want.a4,iv x.want.a5]
 | .sit,x=>[iv x.members,iv x.left.a0,iv x.left.a1,iv x.left.a2,iv x.left.a3,iv x.left.a4,iv x.left.a5,iv x.opn.a0,iv x.opn.a1,iv x.opn.a2,iv x.opn.a3,iv x.opn.a4,iv x.opn.a5]
 | .lst _,_=>[.bool false]
 | .pair s t,x=>encV s x.1++encV t x.2
def encA:(s:SId)→s.T→List AV
 | .lst s,l=>[.sl l.length (l.flatMap (encA s))]
 | .pair s t,x=>encA s x.1++encA t x.2
 | .i k,x=>(encV (.i k) x).map .sc
 | .b,x=>(encV .b x).map .sc
 | .bun,x=>(encV .bun x).map .sc
 | .off,x=>(encV .off x).map .sc
 | .need,x=>(encV .need x).map .sc
 | .key,x=>(encV .key x).map .sc
 | .sit,x=>(encV .sit x).map .sc
inductive SV where
 |ud
 |sc (v:Value)
 |il (k:IntKind) (n:Int)
 |si (k:IntKind) (n:Int)
 |bl (b:Bool)
 |sb (b:Bool)
 |agg (cs:List SV)
 |tup (cs:List SV)
 |row (s:SId) (l:List s.T)
 |ep (s:SId) (l:List s.T) (i off:Nat)
 |ptr (id off tot:Nat)
 |ap (id base sz len tot i:Nat)
 |rp (id i off n sz:Nat)
 |ow (id n sz:Nat)
 |os (id off len n sz:Nat)
 |oc (id off len n sz:Nat)
 |mp (id:Nat)
 |fn (f:Fn) (first captured:List SV)
 |ia (t:TypeId) (cs:List SV)
 |ite (c:Bool) (a b:SV)
inductive SObj where
 |dead
 |cells (cs:List SV) (e:TypeId) (sz:Nat) (pu:Bool)
 |row (s:SId) (l:List s.T) (e:TypeId) (pu:Bool)
 |map (sk sv:SId) (ka:Bool) (es:List (sk.T×sv.T)) (kt:List Nat×Bool) (pu:Bool)
 |rowp (s:SId) (l:List s.T) (e:TypeId) (t:List SV)
def flatA (s:SId) (l:List s.T):List AV:=l.flatMap (encA s)
def keyV (s:SId) (a:Bool) (x:s.T):Value:=if a then .agg (encV s x).toArray else(encV s x).headD (.bool false)
def valA (s:SId) (x:s.T):AV:=.sc ((encV s x).headD (.bool false))
mutual
def SV.g:SV→AV
 | .ud=> .ud
 | .sc v=> .sc v
 | .il k n=> .sc (.int k n)
 | .si k n=> .sc (.int k n)
 | .bl b=> .sc (.bool b)
 | .sb b=> .sc (.bool b)
 | .agg m=> .agg (gL m)
 | .tup m=> .tup (gL m)
 | .row s l=> .sl l.length (flatA s l)
 | .ep s l i d=> .ep (flatA s l) (i*s.sz+d)
 | .ptr h d o=> .ptr h d o
 | .ap h p e _ o i=> .ptr h (p+i*e) o
 | .rp h i d n e=> .ptr h (i*e+d) (n*e)
 | .ow h n e=> .os h 0 n (n*e)
 | .os h d j n e=> .os h (d*e) j (n*e)
 | .oc h d j n e=> .os h (d*e+(n*e+e)) j (n*e)
 | .mp h=> .mp h
 | .fn f a b=> .fn f (gL a) (gL b)
 | .ia t m=> .ifc t (gL m)
 | .ite _ _ _=> .ud
def gL:List SV→List AV
 |[]=>[]
 |c::m=>c.g::gL m
end
theorem gL_map:∀(l:List SV),gL l=l.map SV.g
 |[]=>rfl
 |c::a=>by simp[gL,gL_map a]
def SObj.g:SObj→AObj
 | .dead=> .dead
 | .cells c e i a=> .cells (gL c) e i a
 | .row s l e a=> .cells (flatA s l) e s.sz a
 | .rowp s l e t=> .cells (flatA s l++gL t) e s.sz false
 | .map f b j h d a=> .map (h.map fun p=>(keyV f j p.1,valA b p.2)) d a
def encS:(s:SId)→s.T→List SV
 | .i k,n=>[.si k n]
 | .b,b=>[.sb b]
 | .bun,x=>[.si .i64 x.a0,.si .i64 x.a1,.si .i64 x.a2,.si .i64 x.a3,.si .i64 x.a4,.si .i64 x.a5]
 | .off,x=>[.si .i64 x.bidder,.si .i64 x.want.a0,.si .i64 x.want.a1,.si .i64 x.want.a2,.si .i64 x.want.a3,.si .i64 x.want.a4,.si .i64 x.want.a5,.si .i64 x.value]
 | .need,x=>[.si .i64 x.payers,.si .i64 x.least]
 | .key,x=>[.si .i64 x.bidder,.si .i64 x.want.a0,.si .i64 x.want.a1,.si .i64 x.want.a2,.si .i64 x.want.a3,.si .i64 x.want.a4,.si .i64 x.want.a5]
 | .sit,x=>[.si .i64 x.members,.si .i64 x.left.a0,.si .i64 x.left.a1,.si .i64 x.left.a2,.si .i64 x.left.a3,.si .i64 x.left.a4,.si .i64 x.left.a5,.si .i64 x.opn.a0,.si .i64 x.opn.a1,.si .i64 x.opn.a2,.si .i64 x.opn.a3,.si .i64 x.opn.a4,.si .i64 x.opn.a5]
 | .lst s,l=>[.row s l]
 | .pair s t,x=>encS s x.1++encS t x.2
def castL (s s':SId) (l:List s.T):Option (List s'.T):=if h:s=s' then some (h▸l) else none
def decRow (s:SId):SV→Option (List s.T)
 | .row a l=>match castL a s l with
  |some l=>some l
  |none=>match l with
   |[]=>some []
   |_=>none
 |_=>none
def SV.qn:SV→SV
 | .sc (.slice none 0 0)=> .row (.i .i64) []
 |v=>v
def SV.int:IntKind→SV→Option Int
 |k,.si a n=>if a=k then some n else none
 |k,.il a n=>if a=k then some n else none
 |_,_=>none
def SV.boo:SV→Option Bool
 | .sb b=>some b
 | .bl b=>some b
 |_=>none
def ints:List SV→Option (List Int)
 |[]=>some []
 |c::a=>match c.int .i64,ints a with
  |some n,some l=>some (n::l)
  |_,_=>none
def decS:(s:SId)→List SV→Option s.T
 | .i k,[c]=>c.int k
 | .b,[c]=>c.boo
 | .bun,d=>match ints d with
  |some [f,e,l,h,g,j]=>some (⟨f,e,l,h,g,j⟩:Bun)
  |_=>none
 | .off,d=>match ints d with
  |some [b,f,e,l,h,g,j,v]=>some (⟨b,⟨f,e,l,h,g,j⟩,v⟩:Off)
  |_=>none
 | .need,d=>match ints d with
  |some [a,b]=>some (⟨a,b⟩:Need)
  |_=>none
 | .key,d=>match ints d with
  |some [b,f,e,l,h,g,j]=>some (⟨b,⟨f,e,l,h,g,j⟩⟩:BKey)
  |_=>none
 | .sit,d=>match ints d with
  |some [m,f,e,l,h,g,j,p,u,n,q,r,o]=>some (⟨m,⟨f,e,l,h,g,j⟩,⟨p,u,n,q,r,o⟩⟩:Sit)
  |_=>none
 | .lst s,[c]=>decRow s c
 | .pair s t,d=>match decS s (d.take s.sz),decS t (d.drop s.sz) with
  |some x,some y=>some (x,y)
  |_,_=>none
 |_,_=>none
theorem sz_pos:(s:SId)→0<s.sz
 | .i _| .b| .bun| .off| .need| .key| .sit| .lst _=>by simp[SId.sz]
 | .pair s t=>by
  have:=sz_pos s
  grind[SId.sz]
theorem encS_g:(s:SId)→(x:s.T)→(encS s x).map SV.g=encA s x
 | .lst s,l=>by grind[encS,encA,SV.g,flatA]
 | .pair s t,x=>by simp only[encS,encA,List.map_append,encS_g s x.1,encS_g t x.2]
 | .i _,x| .b,x| .bun,x| .off,x| .need,x| .key,x| .sit,x=>by simp[encS,encA,encV,SV.g,iv]
theorem encV_len:(s:SId)→(x:s.T)→(encV s x).length=s.sz
 | .pair s t,x=>by simp only[encV,List.length_append,encV_len s x.1,encV_len t x.2,SId.sz]
 | .lst _,x| .i _,x| .b,x| .bun,x| .off,x| .need,x| .key,x| .sit,x=>rfl
theorem encA_len:(s:SId)→(x:s.T)→(encA s x).length=s.sz
 | .pair s t,x=>by simp only[encA,List.length_append,encA_len s x.1,encA_len t x.2,SId.sz]
 | .lst _,x| .i _,x| .b,x| .bun,x| .off,x| .need,x| .key,x| .sit,x=>rfl
theorem flat_encA:(s:SId)→s.flat=true→(x:s.T)→encA s x=(encV s x).map .sc
 | .pair s t,h,x=>by
  simp only[SId.flat,Bool.and_eq_true] at h
  simp only[encA,encV,List.map_append,flat_encA s h.1,flat_encA t h.2]
 | .lst _,h,x=>by grind[SId.flat]
 | .i _,_,x| .b,_,x| .bun,_,x| .off,_,x| .need,_,x| .key,_,x| .sit,_,x=>rfl
theorem int_g {k:IntKind} {c:SV} {n:Int} (h:c.int k=some n):c.g= .sc (.int k n):=by
 cases c<;>simp only[SV.int,reduceCtorEq] at h<;>grind[SV.int,reduceCtorEq,SV.g]
theorem boo_g {c:SV} {b:Bool} (h:c.boo=some b):c.g= .sc (.bool b):=by
 cases c<;>simp[SV.boo] at h<;>subst h<;>simp[SV.g]
theorem ints_g:∀{cs:List SV} {l:List Int},ints cs=some l→cs.map SV.g=l.map fun n=> .sc (iv n)
 |[],l,h=>by grind[ints]
 |c::cs,l,h=>by
  simp only[ints] at h
  split at h
  ·rename_i n d a b
   simp at h;subst h
   simp[int_g a,ints_g b,iv]
  ·cases h
theorem castL_eq {s s':SId} {l:List s.T} {a:List s'.T} (h:castL s s' l=some a):s=s'∧HEq l a:=by
 unfold castL at h
 grind
theorem decRow_g {s:SId} {v:SV} {l:List s.T} (h:decRow s v=some l):v.g= .sl l.length (flatA s l):=by
 cases v<;>simp only[decRow,reduceCtorEq] at h
 grind[castL_eq,SV.g,flatA]
theorem decS_g:{s:SId}→{cs:List SV}→{x:s.T}→(h:decS s cs=some x)→cs.map SV.g=encA s x
 | .i k,[c],_,h=>by grind[decS,encA,encV,int_g]
 | .b,[c],_,h=>by grind[decS,encA,encV,boo_g]
 | .lst s,[c],_,h=>by grind[decS,decRow_g,encA,flatA]
 | .pair s t,cs,_,h=>by
  simp only[decS] at h
  split at h
  ·rename_i x y a d
   simp only[Option.some.injEq] at h;subst h
   have f:=decS_g a
   have e:=decS_g d
   simp only[encA,←f,←e]
   rw[←List.map_append,List.take_append_drop]
  ·cases h
 | .bun,cs,_,h| .off,cs,_,h| .need,cs,_,h| .key,cs,_,h| .sit,cs,_,h=>by
  simp only[decS] at h
  split at h
  ·rename_i a
   simp at h;subst h
   rw[ints_g a]
   simp[encA,encV]
  ·cases h
theorem qnS_g (v:SV):v.qn.g=v.g.qn:=by
 unfold SV.qn
 split
 ·simp[SV.g,AV.qn,flatA]
 ·rename_i h
  cases v<;>grind[SV.g,AV.qn,AV.sc.injEq]
theorem encV_one:(s:SId)→(x:s.T)→∀v∈encV s x,v.oneCell'=true
 | .pair s t,x=>by
  intro v a
  simp only[encV] at a
  rcases List.mem_append.1 a with h|h
  ·exact encV_one s _ v h
  ·exact encV_one t _ v h
 | .lst _,x| .i _,x| .b,x| .bun,x| .off,x| .need,x| .key,x| .sit,x=>by simp[encV,iv,Value.oneCell']
def Plain (a:AV):Prop:=(∃v,a= .sc v∧v.oneCell'=true∧v≠ .slice none 0 0)∨∃n b,a= .sl n b∧pureL b=true
theorem pureL_all:∀{l:List AV},(∀a∈l,a.pure=true)→pureL l=true
 |[],_=>by simp[pureL]
 |a::l,h=>by simp[pureL,h a (by simp),pureL_all (l:=l) fun b c=>h b (by simp[c])]
theorem belL_all {k:Nat}:∀{l:List AV},(∀a∈l,a.bel k=true)→belL k l=true
 |[],_=>by simp[belL]
 |a::l,h=>by simp[belL,h a (by simp),belL_all (l:=l) fun b c=>h b (by simp[c])]
theorem Plain.pure {a:AV} (h:Plain a):a.pure=true:=by
 rcases h with⟨v,rfl,_⟩|⟨n,b,rfl,h⟩<;>grind[AV.pure]
theorem Plain.bel {a:AV} (h:Plain a) (k:Nat):a.bel k=true:=by
 rcases h with⟨v,rfl,_⟩|⟨n,b,rfl,h⟩<;>simp[AV.bel]
theorem Plain.one {a:AV} (h:Plain a):a.one=true:=by
 rcases h with⟨v,rfl,h,_⟩|⟨n,b,rfl,h⟩<;>grind[AV.one]
theorem encA_plain:(s:SId)→(x:s.T)→∀a∈encA s x,Plain a
 | .pair s t,x=>by
  intro a c
  simp only[encA] at c
  rcases List.mem_append.1 c with h|h
  ·exact encA_plain s _ a h
  ·exact encA_plain t _ a h
 | .lst s,l=>by
  intro a c
  simp only[encA,List.mem_singleton] at c
  subst c
  refine .inr ⟨_,_,rfl,pureL_all fun b e=>?_⟩
  obtain⟨y,_,f⟩:=List.mem_flatMap.1 e
  exact(encA_plain s y b f).pure
 | .i _,x| .b,x| .bun,x| .off,x| .need,x| .key,x| .sit,x=>by
  intro a c
  simp only[encA] at c
  obtain⟨v,d,rfl⟩:=List.mem_map.1 c
  refine .inl ⟨v,rfl,encV_one _ _ v d,?_⟩
  rintro rfl
  simp[encV,iv] at d
theorem flatA_plain {s:SId} {l:List s.T} {a:AV} (h:a∈flatA s l):Plain a:=by
 grind[flatA,encA_plain]
theorem flatA_pure (s:SId) (l:List s.T):pureL (flatA s l)=true:=pureL_all fun a h=>(flatA_plain h).pure
theorem flatA_bel (k:Nat) (s:SId) (l:List s.T):belL k (flatA s l)=true:=belL_all fun a h=>(flatA_plain h).bel k
theorem flatA_one (s:SId) (l:List s.T):oneL (flatA s l)=true:=by
 simp only[oneL,List.all_eq_true]
 intro a h
 exact(flatA_plain h).one
theorem flatA_len (s:SId) (l:List s.T):(flatA s l).length=l.length*s.sz:=by
 induction l<;>grind[flatA,encA_len]
theorem flatA_app (s:SId) (l a:List s.T):flatA s (l++a)=flatA s l++flatA s a:=by simp[flatA]
theorem flatA_drop (s:SId):∀(l:List s.T) (i:Nat),(flatA s l).drop (i*s.sz)=flatA s (l.drop i)
 |l,0=>by simp
 |[],i+1=>by simp[flatA]
 |x::l,i+1=>by
  have h:=flatA_drop s l i
  simp only[flatA,List.flatMap_cons,List.drop_succ_cons] at h ⊢
  rw[Nat.succ_mul,Nat.add_comm,List.drop_append,encA_len,Nat.add_sub_cancel_left,h,List.drop_of_length_le (by grind[encA_len])]
  simp
theorem flatA_take (s:SId):∀(l:List s.T) (i:Nat),(flatA s l).take (i*s.sz)=flatA s (l.take i)
 |l,0=>by simp[flatA]
 |[],i+1=>by simp[flatA]
 |x::l,i+1=>by
  have h:=flatA_take s l i
  simp only[flatA,List.flatMap_cons,List.take_succ_cons] at h ⊢
  rw[Nat.succ_mul,Nat.add_comm,List.take_append,encA_len,Nat.add_sub_cancel_left,h,List.take_of_length_le (by grind[encA_len])]
def nthD {a:Type} (l:List a) (i:Nat) (d:a):a:=(l[i]?).getD d
theorem nthD_eq {a:Type} {l:List a} {i:Nat} {d:a} (h:i<l.length):nthD l i d=l[i]:=by simp[nthD,h]
theorem flatA_at {s:SId} {l:List s.T} {i:Nat} (h:i<l.length):(flatA s l).drop (i*s.sz)=encA s (nthD l i s.dflt)++flatA s (l.drop (i+1)):=by
 rw[flatA_drop,List.drop_eq_getElem_cons h,nthD_eq h]
 grind[flatA]
end Go.Vi
