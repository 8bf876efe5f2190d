import Derived.Test.YtbnhiekmnpikhaaGreatDR03
import Derived.RangeFuncOwn
import Derived.LoopNIn
import Derived.LoopN
import Derived.Scope
set_option maxRecDepth 100000
set_option maxHeartbeats 4000000
set_option linter.all false
open Array renaming getElem?_eq_some_iff->γA,replicate->εc,getElem?_toList->γX,ext'->εl
open Bool renaming and_eq_true->θ,false_eq_true->φ
open Go.Vi renaming eK->ζQ,qe->θa
open List renaming not_mem_nil->δt,mem_filter->γt,getElem?_set_ne->δr,getElem?_eq_getElem->μ,getElem?_eq_none->ζE,getElem?_set->εm,map_congr_left->γ0,mem_append->γi,ext_getElem?->γ9,cons_append->γI,getD_eq_getElem?_getD->ε9,all_eq_true->χ,getElem?_cons_succ->γO,map_cons->π,nodup_cons->γY,mem_of_getElem?->γe,eq_nil_of_length_eq_zero->τ,getElem?_eq_some_iff->ζ,range->ω,pairwise_cons->γB,mem_cons_of_mem->γz,append_nil->γR,map_append->γa,length_append->γh,flatMap_cons->δY
open List.Pairwise renaming nil->δv
open Nat renaming le_refl->ξ,lt_or_ge->ζd,le_trans->δ1,strongRecOn->ζF,beq->δu,eq_of_beq_eq_true->εU,lt_of_lt_of_le->γj,add_sub_cancel_left->ζx
open Option renaming map_eq_some_iff->ε
open Option.some renaming injEq->γ
open Prod.mk renaming injEq->ι
namespace Go.Vi
section
variable {call:cy} {ρ ρ2:Operand->AV} {oz:Nat}
theorem Of {a:bT} {o:a_} {j:Nat} (h:j∈fk a ρ o oz):j∈dh a ρ o oz:=by
 cases a<;>simp only[fk,dh,δt] at h ⊢<;>try exact h
 all_goals grind
theorem Yb {a:bT} {o:a_} (h:a.bt=0\/a.bt=1):fk a ρ o oz=[]:=by
 cases a<;>try (simp[bT.bt] at h;done)
 case call f c b=>cases b<;>simp[bT.bt] at h;rfl
 case ak7 f c b=>cases b<;>simp[bT.bt] at h;rfl
 all_goals rfl
theorem Gl {b:bT} {o:a_} (h:b.bt=0):dh b ρ o oz=[]:=by
 cases b<;>try (simp[bT.bt] at h;done)
 case call f c a=>cases a<;>simp[bT.bt] at h
 case ak7 f c a=>cases a<;>simp[bT.bt] at h
 all_goals rfl
theorem Ya (a:bT):a.bt=0\/a.bt=1\/a.bt=2\/a.bt=3:=by
 cases a<;>try (simp[bT.bt];done)
 case call f c b=>cases b<;>simp[bT.bt]
 case ak7 f c b=>cases b<;>simp[bT.bt]
def lG (a:bT) (W:List Nat) (n j:Nat):Prop:=j∈W\/(a.bt=3/\n<=j)
theorem Gk {a:bT} {o:a_} {j:Nat} (h:j∈dJ call a ρ o oz):j∈fk a ρ o oz:=by
 unfold dJ at h;split at h
 ·split at h;·exact(γt.1 h).1
  ·simp at h
 ·exact h
theorem X_ {a:bT} {o:a_} {j:Nat} (h:j∈dJ call a ρ o oz):j∈dh a ρ o oz:=Of (Gk h)
theorem rW {a:bT} {o:a_} (h:a.bt=0\/a.bt=1):dJ call a ρ o oz=[]:=by
 unfold dJ;grind[bT.bt,Yb]
theorem X9 {a:bT} {o:a_} (h:a.bt=2):dJ call a ρ o oz=fk a ρ o oz:=by
 unfold dJ;grind[bT.bt]
open Classical in
theorem X8 {iop:bT} {o o':a_} {v:AV} (he:MO call iop ρ o oz=some (v,o')):
  o.length<=o'.length/\(iop.bt≠3->o'.length=o.length)/\(∀j,¬lG iop (dJ call iop ρ o oz) o.length j->o'[j]?=o[j]?)/\
  ∀o2:a_,(∀j∈dh iop ρ o oz,o2[j]?=o[j]?)->(iop.bt=3->o2.length=o.length)->
   ∃o2',MO call iop ρ o2 oz=some (v,o2')/\dh iop ρ o2 oz=dh iop ρ o oz/\dJ call iop ρ o2 oz=dJ call iop ρ o oz/\∀j,lG iop (dJ call iop ρ o oz) o.length j->o2'[j]?=o'[j]?:=by
 rcases Ya iop with hc|hc|hc|hc
 ·have:=ZG hc he;subst this;refine⟨ξ _,λ_=>rfl,λ_ _=>rfl,λo2 _ _=>⟨o2,?_,by rw[Gl hc,Gl hc],by rw[rW (.inl hc),rW (.inl hc)],λj hj=>?_⟩⟩;·rw[Oj hc o' o2,he];rfl
  ·rw[lG,rW (.inl hc)] at hj;simp[hc] at hj
 ·have:=Ye hc he;subst this;refine⟨ξ _,λ_=>rfl,λ_ _=>rfl,λo2 h _=>⟨o2,?_,(Gm (call:=call) hc h).2,by rw[rW (.inr hc),rW (.inr hc)],λj hj=>?_⟩⟩;·rw[(Gm hc h).1,he];rfl
  ·rw[lG,rW (.inr hc)] at hj;simp[hc] at hj
 ·simp only[X9 hc];obtain⟨id,x,hid,rfl,hk⟩:=Yd hc he;refine⟨by simp,λ_=>by simp,λj hj=>?_,λo2 h _=>?_⟩
  ·have:j≠id:=λhji=>hj (.inl (hji▸hid));rw[δr (Ne.symm this)]
  ·obtain⟨k1,k2,k3⟩:=hk o2 h;refine⟨_,k1,k2,k3,λj hj=>?_⟩;have hj:j∈fk iop ρ o oz:=hj.resolve_right (by simp[hc]);have hjo:=h j (Of hj);by_cases hji:id=j
   ·subst hji;have hlen:(id<o2.length)↔(id<o.length):=by
     rcases ζd id o2.length with g1|g1<;>rcases ζd id o.length with g2|g2;·simp[g1,g2]
     ·rw[μ g1,ζE g2] at hjo;cases hjo
     ·rw[μ g2,ζE g1] at hjo;cases hjo
     ·omega
    rw[εm,εm];simp only[if_true];by_cases h1:id<o.length;·rw[if_pos h1,if_pos (hlen.2 h1)]
    ·rw[if_neg h1,if_neg λh2=>h1 (hlen.1 h2)]
   ·rw[δr hji,δr hji];exact hjo
 ·have key:∀(f:FuncId) (args:List AV),gT call f args o=some (v,o')->dJ call iop ρ o oz=cd o fc args []->dh iop ρ o oz=cd o fc args []->
    (∀o2:a_,MO call iop ρ o2 oz=gT call f args o2/\dh iop ρ o2 oz=cd o2 fc args []/\dJ call iop ρ o2 oz=cd o2 fc args [])->
    o.length<=o'.length/\(iop.bt≠3->o'.length=o.length)/\(∀j,¬lG iop (dJ call iop ρ o oz) o.length j->o'[j]?=o[j]?)/\
    ∀o2:a_,(∀j∈dh iop ρ o oz,o2[j]?=o[j]?)->(iop.bt=3->o2.length=o.length)->
    ∃o2',MO call iop ρ o2 oz=some (v,o2')/\dh iop ρ o2 oz=dh iop ρ o oz/\dJ call iop ρ o2 oz=dJ call iop ρ o oz/\∀j,lG iop (dJ call iop ρ o oz) o.length j->o2'[j]?=o'[j]?:=by
   intro f args hcall hw ht hg;obtain⟨c1,c2,c3⟩:=Og hcall;refine⟨c1,λh=>absurd hc h,λj hj=>?_,λo2 h hl=>?_⟩
   ·simp only[lG,hc,true_and,not_or,Nat.not_le,hw] at hj;exact c2 j hj.2 hj.1
   ·rw[ht] at h;obtain⟨o2',d1,d2,d3⟩:=c3 o2 (hl hc) h;obtain⟨g1,g2,g3⟩:=hg o2;refine⟨o2',by rw[g1,d1],by rw[g2,d2,ht],by rw[g3,d2,hw],λj hj=>d3 j ?_⟩;simp only[lG,hc,true_and,hw] at hj;exact hj
  cases iop<;>try (simp[bT.bt] at hc;done)
  case call f args own=>
   cases own;·simp[bT.bt] at hc
   ·simp only[MO,fV,if_true] at he;obtain⟨c1,c2,c3⟩:=Og he;have hw:dJ call (.call f args true) ρ o oz=(cd o fc (args.map ρ) []).filter λj=>decide (o'[j]?≠o[j]?):=by simp only[dJ,he]
    refine⟨c1,λh=>absurd hc h,λj hj=>?_,λo2 h hl=>?_⟩
    ·simp only[lG,hc,true_and,not_or,Nat.not_le,hw,γt,decide_eq_true_eq,not_and,Classical.not_not,ne_eq] at hj;by_cases hm:j∈cd o fc (args.map ρ) [];·exact hj.1 hm
     ·exact c2 j hj.2 hm
    ·obtain⟨o2',d1,d2,d3⟩:=c3 o2 (hl hc) h;refine⟨o2',by simp only[MO,fV,if_true,d1],d2,?_,λj hj=>?_⟩
     ·rw[hw];simp only[dJ,d1,d2];refine List.filter_congr λj hj=>?_;rw[d3 j (.inl hj),h j hj]
     ·rw[lG,hw,γt] at hj;exact d3 j (hj.imp (λh=>h.1) λh=>h.2)
  case ak7 f args own=>
   cases own;·simp[bT.bt] at hc
   ·simp only[MO,fV,if_true] at he;split at he
    ·rename_i g first captured hf;exact key g (first++args.map ρ++captured) he (by simp[dJ,fk,hf]) (by simp[dh,hf]) λo2=>⟨by simp[MO,fV,hf],by simp[dh,hf],by simp[dJ,fk,hf]⟩
    ·cases he
theorem Gj {l:List Operand} (h:∀x∈l,ρ2 x=ρ x):l.map ρ2=l.map ρ:=γ0 h
theorem X7 {c:bT} (h:∀x∈c.j4,ρ2 x=ρ x) (o:a_):MO call c ρ2 o oz=MO call c ρ o oz/\dh c ρ2 o oz=dh c ρ o oz/\dJ call c ρ2 o oz=dJ call c ρ o oz:=by
 cases c;case build z i=>
  have:(i.map λp=>(p.1,p.2.1,ρ2 p.2.2))=i.map λp=>(p.1,p.2.1,ρ p.2.2):=γ0 λp r=>by grind[bT.j4]
  simp only[MO,dh,dJ,fk,this,and_self]
 case aoK z n i e l=>
  have:(i.map λp=>(p.1,l,ρ2 p.2))=i.map λp=>(p.1,l,ρ p.2):=γ0 λp r=>by grind[bT.j4]
  simp only[MO,dh,dJ,fk,this,and_self]
 case ark z n i e l=>
  have:(i.map λp=>(p.1,l,ρ2 p.2))=i.map λp=>(p.1,l,ρ p.2):=γ0 λp r=>by grind[bT.j4]
  simp only[MO,dh,dJ,fk,this,and_self]
 case call f d k=>
  have:=Gj h;simp only[bT.j4] at this;cases k<;>simp only[MO,dh,dJ,fk,this,and_self]
 case ak7 f d k=>
  have m:d.map ρ2=d.map ρ:=Gj λx u=>h x (by grind[bT.j4]);have q:=h f (by simp[bT.j4]);cases k<;>simp only[MO,dh,dJ,fk,m,q,and_self]
 case aok s x d=>
  simp_all[Gj,bT.j4,MO,dh,dJ,fk]
 case arn f a b=>
  simp_all[bT.j4,MO,dh,dJ,fk]
 case slice l x g j=>
  have m:g.map ρ2=g.map ρ:=by cases g<;>simp[bT.j4] at h ⊢;exact h.2.1
  have q:j.map ρ2=j.map ρ:=by cases j<;>simp[bT.j4] at h ⊢;simp_all
  simp_all[bT.j4,MO,dh,dJ,fk]
 case asy x g j=>
  have m:g.map ρ2=g.map ρ:=by cases g<;>simp[bT.j4] at h ⊢;exact h.2.1
  have q:j.map ρ2=j.map ρ:=by cases j<;>simp[bT.j4] at h ⊢;simp_all
  simp_all[bT.j4,MO,dh,dJ,fk]
 case slice3 l x g j t=>
  have m:g.map ρ2=g.map ρ:=by
   cases g with
   |none=>rfl;|some a=>simp_all[bT.j4]
  simp_all[bT.j4,MO,dh,dJ,fk]
 all_goals
  simp only[bT.j4,List.mem_cons,δt,or_false,forall_eq_or_imp,forall_eq] at h;simp[MO,dh,dJ,fk,h]
end
section
variable {call:cy} {base:Nat}
noncomputable def entry (call:cy) (base:Nat) (i:cM) (st:St):List Nat×List Nat:=
 match lx st.env i.guard with
 |some true=>(dh i.op (dM st.env) st.o (base+i.oz),dJ call i.op (dM st.env) st.o (base+i.oz))
 |_=>([],[])
theorem X6 {i:cM} {st:St} {j:Nat} (h:j∈(entry call base i st).2):j∈(entry call base i st).1:=by
 grind[entry,X_]
theorem Oe {i:cM} {e a:iR} (h:∀s∈i.reads,cX a s=cX e s):(∀x∈i.op.j4,dM a x=dM e x)/\lx a i.guard=lx e i.guard:=by
 constructor
 ·intro x b;cases x with
  |tmp t=>
   refine h t ?_;simp only[cM.reads,γi];left;exact List.mem_filterMap.2 ⟨.tmp t,b,rfl⟩;|_=>rfl
 ·unfold lx;grind[cM.reads]
theorem vo {i:cM} {st st':St} (a:gn call base i st=some st'):
  ∃v,(∀s,cX st'.env s=if i.dst=some s then v else cX st.env s)/\st.o.length<=st'.o.length/\(i.op.bt≠3->st'.o.length=st.o.length)/\
   (∀j,¬lG i.op (entry call base i st).2 st.o.length j->st'.o[j]?=st.o[j]?)/\
   ∀st2:St,(∀s∈i.reads,cX st2.env s=cX st.env s)->(∀j∈(entry call base i st).1,st2.o[j]?=st.o[j]?)->(i.op.bt=3->st2.o.length=st.o.length)->
    ∃b,gn call base i st2=some b/\(∀s,cX b.env s=if i.dst=some s then v else cX st2.env s)/\entry call base i st2=entry call base i st/\
     ∀j,lG i.op (entry call base i st).2 st.o.length j->b.o[j]?=st'.o[j]?:=by
 unfold gn at a;split at a;·cases a
 ·rename_i n;injection a with a;subst a;refine⟨.Gz [],λs=>tj _ _ _ _,ξ _,λ_=>rfl,λ_ _=>rfl,λst2 c _ k=>?_⟩;obtain⟨h,t⟩:=Oe c;refine⟨⟨ns st2.env i.dst (.Gz []),st2.o⟩,?_,λs=>tj _ _ _ _,?_,λj w=>?_⟩;all_goals simp_all[gn,entry,lG]
 ·rename_i n;split at a
  ·rename_i v y c;injection a with a;subst a;rw[yo] at c;obtain⟨r,l,m,p⟩:=X8 c;have e:entry call base i st=(dh i.op (dM st.env) st.o (base+i.oz),dJ call i.op (dM st.env) st.o (base+i.oz)):=by grind[entry]
   rw[e];refine⟨v,λs=>tj _ _ _ _,r,l,m,λst2 f d k=>?_⟩;obtain⟨h,t⟩:=Oe f;obtain⟨g,z,x,B,q⟩:=p st2.o d k;obtain⟨C,A,u⟩:=X7 (call:=call) (oz:=base+i.oz) h st2.o;refine⟨⟨ns st2.env i.dst v,g⟩,?_,λs=>tj _ _ _ _,?_,q⟩<;>grind[ns,tj,gn,yo,entry]
  ·cases a
def jA (a b:St):Prop:=(∀s,cX a.env s=cX b.env s)/\a.o=b.o
theorem jA.refl (a:St):jA a a:=⟨λ_=>rfl,rfl⟩
theorem jA.trans {a b c:St} (h:jA a b) (k:jA b c):jA a c:=⟨λs=>(h.1 s).trans (k.1 s),h.2.trans k.2⟩
theorem jA.symm {a b:St} (h:jA a b):jA b a:=⟨λs=>(h.1 s).symm,h.2.symm⟩
theorem jA.run {i:cM} {a b l:St} (h:jA a b) (e:gn call base i a=some l):∃k,gn call base i b=some k/\jA l k/\entry call base i b=entry call base i a:=by
 have j:dM b.env=dM a.env:=by
  funext x;cases x with
  |tmp t=>exact(h.1 t).symm;|_=>rfl
 have o:lx b.env i.guard=lx a.env i.guard:=by
  cases p:i.guard with
  |none=>rfl;|some g=>
   obtain⟨c,d⟩:=g;cases c with
   |none=>rfl;|some s=>simp only[lx];rw[h.1]
 have f:∀(v:AV) (s:Nat),cX (ns a.env i.dst v) s=cX (ns b.env i.dst v) s:=by
  intro v s;simp only[tj];by_cases m:i.dst=some s;·simp_all
  ·rw[if_neg m,if_neg m];exact h.1 s
 have n:entry call base i b=entry call base i a:=by unfold entry;rw[o,j,h.2]
 unfold gn at e ⊢;rw[o,j,<-h.2];split at e;·cases e
 ·injection e with e;subst e;exact⟨_,rfl,⟨f _,rfl⟩,n⟩
 ·split at e
  ·injection e with e;subst e;exact⟨_,rfl,⟨f _,rfl⟩,n⟩
  ·cases e
def yx (n0:Nat) (y:cM) (a:List Nat×List Nat) (x:cM) (b:List Nat×List Nat):Prop:=
 ym y x=true/\(∀j∈a.2,j∉b.1)/\(∀j∈b.2,j∉a.1)/\(y.op.bt=3->x.op.bt≠3/\∀j∈b.1,j<n0)/\(x.op.bt=3->∀j∈a.1,j<n0)
theorem X5 {y x:cM} (h:ym y x=true):(∀d,y.dst=some d->d∉x.reads)/\(∀d,x.dst=some d->d∉y.reads)/\∀d,y.dst=some d->x.dst≠some d:=by
 grind[ym,Hf]
theorem swap {n0:Nat} {y x:cM} {st c s2:St} (k:gn call base y st=some c) (n:gn call base x c=some s2) (P:n0<=st.o.length) (D:yx n0 y (entry call base y st) x (entry call base x c)):
  ∃a b,gn call base x st=some a/\gn call base y a=some b/\jA s2 b/\entry call base x st=entry call base x c/\entry call base y a=entry call base y st:=by
 obtain⟨d,Z,O,H,Q⟩:=D;obtain⟨a1,K,U⟩:=X5 d;obtain⟨G,A,y2,S,C,F⟩:=vo k;obtain⟨L,q,V,T,X,l⟩:=vo n;obtain⟨a,h,u,f,p4⟩:=l st (λs i=>by
   grind) (λj m=>by
   rw[C j];rintro(z|⟨e,B⟩)<;>grind) (λe=>by
   omega);obtain⟨E,J,W,I,r,_⟩:=vo h;obtain⟨b,g,w,p,R⟩:=F a (λs i=>by
   grind) (λj m=>by
   rw[r j];rw[f];rintro(z|⟨e,B⟩)<;>grind) (λe=>by
   omega);obtain⟨t,b1,M,Y,N,_⟩:=vo g;refine⟨a,b,h,g,⟨λs=>?_,?_⟩,f.symm▸rfl,p⟩
 ·rw[q s,w s,u s,A s];grind
 ·apply γ9;intro j;by_cases v:lG x.op (entry call base x c).2 c.o.length j;·
   grind[lG,X6]
  grind[lG]
noncomputable def dC (call:cy) (base:Nat):List cM->St->List (List Nat×List Nat)
 |[],_=>[]
 |i::r,b=>entry call base i b::match gn call base i b with
  |some a=>dC call base r a
  |none=>[]
theorem jA.runs {l:List cM}:∀{a b d:St},jA a b->fy call base l a=some d->∃e,fy call base l b=some e/\jA d e/\dC call base l b=dC call base l a:=by
 induction l with
 |nil=>intro a b d h c;simp only[fy,γ] at c;subst c;exact⟨b,rfl,h,rfl⟩;|cons i l o=>
  intro a b d h c;simp only[fy] at c;split at c
  ·rename_i k f;obtain⟨j,m,g,n⟩:=h.run f;grind[fy,dC]
  ·cases c
theorem front {n0:Nat} {x:cM} {b:List cM}:∀(a:List cM) {st s:St},fy call base (a++x::b) st=some s->n0<=st.o.length->
  (∀(k:Nat) (y:cM) (p f:List Nat×List Nat),a[k]?=some y->(dC call base (a++x::b) st)[k]?=some p->(dC call base (a++x::b) st)[a.length]?=some f->yx n0 y p x f)->
  ∃g s',gn call base x st=some g/\fy call base (a++b) g=some s'/\jA s s'/\(dC call base (a++x::b) st)[a.length]?=some (entry call base x st)/\
   dC call base (a++b) g=(dC call base (a++x::b) st).eraseIdx a.length
 |[],st,s,d,_,_=>by
  grind[fy,jA.refl,dC];|y::a,st,s,d,n,m=>by
  simp only[γI,fy] at d;split at d
  ·rename_i l i;have c:dC call base (y::(a++x::b)) st=entry call base y st::dC call base (a++x::b) l:=by simp[dC,i]
   obtain⟨_,_,h,_⟩:=vo i;obtain⟨g,s',r,v,C,M,I⟩:=front a d (δ1 n h) λk z u f t K L=>m (k+1) z u f (by simpa using t) (by simp_all) (by simp_all);have e:yx n0 y (entry call base y st) x (entry call base x l):=m 0 y _ _ (by simp) (by simp[c]) (by simp_all);obtain⟨B,H,w,F,A,D,J⟩:=swap i r n e;obtain⟨j,G,q,E⟩:=A.runs v;refine⟨B,j,w,?_,C.trans q,?_,?_⟩<;>grind[fy,dC]
  ·cases d
end
theorem X4 {acc:List Nat} {l:List Edge} {m:Nat}:∀{s:Nat},(l.foldl (Bi acc) s).testBit m=true->s.testBit m=true\/∃e∈l,Region.binds .any e=true/\(m=e.on\/(acc.getD e.on 0).testBit m=true):=by
 induction l with
 |nil=>simp_all;|cons e l b=>
  intro s h;simp only[List.foldl_cons] at h;rcases b h with a|⟨d,f,a,c⟩
  ·unfold Bi at a;grind
  grind
def yw (acc:List Nat) (o:Oper):Nat:=o.after.toList.foldl (Bi acc) 0
theorem Od:∀(L:List Oper) (acc:List Nat),∃r,L.foldl (λacc o=>acc++[yw acc o]) acc=acc++r/\r.length=L.length/\
  ∀(k:Nat) (o:Oper),L[k]?=some o->r[k]?=some (yw (acc++r.take k) o)
 |[],acc=>⟨[],by simp,rfl,by simp⟩
 |o::L,acc=>by
  obtain⟨r,b,a,d⟩:=Od L (acc++[yw acc o]);refine⟨yw acc o::r,by simp[b],by simp[a],λk e c=>?_⟩;cases k<;>simp_all
theorem X3 {a:Array Oper} {k m:Nat} {o:Oper} (p:a[k]?=some o) (h:((nj a).getD k 0).testBit m=true):
  ∃e∈o.after,Region.binds .any e=true/\(m=e.on\/((nj a).getD e.on 0).testBit m=true):=by
 obtain⟨r,j,n,g⟩:=Od a.toList [];have c:nj a=r:=by
  grind[nj,yw]
 rw[c] at h ⊢;have d:=g k o (by simp_all);rw[ε9,d] at h;simp only[Option.getD_some,List.nil_append] at h;rcases X4 h with f|⟨e,l,i,b⟩;·simp at f
 ·refine⟨e,by simp_all,i,b.imp_right λb=>?_⟩;rw[ε9] at b ⊢;rw[List.getElem?_take] at b;grind
theorem Oc:∀(L:List Oper) (i:Nat),wm i L=true->∀(k:Nat) (o:Oper),L[k]?=some o->∀e∈o.after,Region.binds .any e=true->e.on<i+k
 |[],i,_,k,o,a,_,_,_=>by simp at a;|o::L,i,h,k,c,a,e,d,b=>by
  simp only[wm,θ,χ] at h;cases k with
  |zero=>
   grind;|succ k=>
   have:=Oc L (i+1) h.2 k c (by simp_all) e d b;omega
theorem Ob {c:List Nat}:∀{l:List cM},wi c l=true->∀(p q:Nat) (y x:cM),p<q->l[p]?=some y->l[q]?=some x->
  (c.getD x.idx 0).testBit y.idx=true\/(ym y x=true/\(wo y x=true\/Bl y x=true))
 |[],_,p,q,y,x,_,e,_=>by simp at e;|a::r,h,p,q,y,x,b,e,d=>by
  simp only[wi,θ,χ] at h;match q,b with
  |q+1,b=>
   simp only[γO] at d;cases p with
   |zero=>
    grind;|succ p=>exact Ob h.2 p q y x (by omega) (by simp_all) d
theorem Oa {d:List Nat}:∀{l:List cM} (p q:Nat) (y x:cM),p<q->l[p]?=some y->l[q]?=some x->¬(d.getD x.idx 0).testBit y.idx=true->wo y x=false->(y.idx,x.idx)∈p6 d l
 |[],p,q,y,x,_,c,_,_,_=>by simp at c;|a::r,p,q,y,x,b,c,e,g,f=>by
  simp only[p6,γi];match q,b with
  |q+1,b=>
   simp only[γO] at e;cases p with
   |zero=>
    grind;|succ p=>exact .inr (Oa p q y x (by omega) (by simp_all) e g f)
section
variable {P:Program} {A:dc} {D:List Deferred} {call:cy} {base:Nat}
theorem Gi:∀{l:List cM} {st:St} {p:Nat} {x:cM} {t:List Nat×List Nat},l[p]?=some x->(dC call base l st)[p]?=some t->∃st',t=entry call base x st'
 |[],st,p,x,t,b,_=>by simp at b;|i::l,st,p,x,t,b,a=>by
  simp only[dC] at a;cases p with
  |zero=>grind;|succ p=>
   simp only[γO] at b a;split at a;·exact Gi b a
   ·simp at a
theorem Gh:∀{l:List cM} {st s:St} {p:Nat} {x:cM} {t:List Nat×List Nat},fy call base l st=some s->(l.map (·.idx)).Nodup->l[p]?=some x->(dC call base l st)[p]?=some t->oH (lv call base l st) x.idx=t
 |[],st,s,p,x,t,_,_,a,_=>by simp at a;|i::l,st,s,p,x,t,b,g,a,d=>by
  simp only[fy] at b;split at b
  ·rename_i j k;simp only[π,γY] at g;have e:lv call base (i::l) st=(i.idx,entry call base i st)::lv call base l j:=by
    grind[lv,entry]
   rw[e];simp only[dC,k] at d;cases p with
   |zero=>grind[oH];|succ p=>
    simp only[γO] at a d;have c:i.idx≠x.idx:=λh=>g.1 (h▸List.mem_map_of_mem (f:=λi:cM=>i.idx) (γe a));simp only[oH,beq_iff_eq,c,if_false];exact Gh b g.2 a d
  ·cases b
theorem N_ {i:cM} {st:St} (h:i.op.bt=0):entry call base i st=([],[]):=by
 grind[entry,Gl,rW]
theorem N9 {i:cM} {st:St} (h:i.op.bt=1):(entry call base i st).2=[]:=by
 grind[entry,rW]
theorem N8 {a b:List Nat} (h:wq a b=true):∀j∈a,j∉b:=by
 intro j c d;have:=χ.1 h j c;simp_all
theorem X2 {n0:Nat} {c:List Nat} {l:List cM} {st s:St} (z:fy call base l st=some s) (A:(l.map (·.idx)).Nodup) (r:wi c l=true)
  (b:((p6 c l).isEmpty||rz n0 (lv call base l st) (p6 c l))=true) {p q:Nat} {y x:cM} {E D:List Nat×List Nat} (e:p<q) (i:l[p]?=some y) (j:l[q]?=some x)
  (d:(dC call base l st)[p]?=some E) (f:(dC call base l st)[q]?=some D):(c.getD x.idx 0).testBit y.idx=true\/yx n0 y E x D:=by
 rcases Ob r p q y x e i j with h|⟨g,I⟩;·exact .inl h
 by_cases u:(c.getD x.idx 0).testBit y.idx=true;·exact .inl u
 right;obtain⟨v,m⟩:=Gi i d;obtain⟨C,k⟩:=Gi j f;cases a:wo y x with
 |true=>
  unfold wo at a;simp only[Bool.or_eq_true,θ,beq_iff_eq] at a;rcases a with(a|a)|⟨a,n⟩
  ·have:=N_ (call:=call) (base:=base) (st:=v) a;rw[this] at m;subst m;exact⟨g,by simp,by simp,λh=>(by omega),by simp⟩
  ·have:=N_ (call:=call) (base:=base) (st:=C) a;rw[this] at k;subst k;exact⟨g,by simp,by simp,λ_=>⟨by rw[a];decide,by simp⟩,λh=>(by omega)⟩
  ·have B:=N9 (call:=call) (base:=base) (st:=v) a;have w:=N9 (call:=call) (base:=base) (st:=C) n;rw[<-m] at B;rw[<-k] at w;exact⟨g,by simp[B],by simp[w],λh=>(by omega),λh=>(by omega)⟩;|false=>
  have M:Bl y x=true:=I.resolve_left (by simp[a]);have J:=Oa p q y x e i j u a;have o:(p6 c l).isEmpty=false:=by
   grind
  rw[o,Bool.false_or] at b;have t:=χ.1 b _ J;simp only[Gh z A i d,Gh z A j f,θ,χ,decide_eq_true_eq] at t;obtain⟨⟨⟨F,K⟩,H⟩,G⟩:=t;refine⟨g,N8 F,N8 K,λL=>⟨λN=>?_,G⟩,λ_=>H⟩;grind[Bl]
theorem cq.eq {e:Nat} {f:World} {b:TM} {d:a_} {st st':St} {a:Act} {w:World} {σ:TM} (h:cq A e D f b d st a w σ) (c:jA st st'):cq A e D f b d st' a w σ where
 sim:=c.2▸h.sim;env:=λs=>by rw[<-c.1 s,<-c.2];exact h.env s
 size:=h.size;defers:=h.defers;ext:=c.2▸h.ext
theorem cq.drew {e:Nat} {f:World} {b:TM} {d:a_} {st:St} {a:Act} {w:World} {σ:TM} (h:cq A e D f b d st a w σ):cq A e D f b d st a {w with drawn:=w.drawn+1} σ:=by
 have c:Ext w σ st.o {w with drawn:=w.drawn+1} σ st.o:=⟨ξ _,λ_ _ h=>⟨rfl,h⟩,ξ _,λ_ _ h=>⟨h,λ_ h=>⟨h,rfl⟩⟩,λ_ h=>⟨h,rfl⟩,rfl,rfl,rfl⟩;exact⟨⟨h.sim.len,h.sim.dist,h.sim.dZ,λi x g=>(h.sim.obj i x g).ext c rfl λ_ _ _=>rfl,h.sim.av,h.sim.avb⟩,λs=>(h.env s).ext c,h.size,h.defers,h.ext.trans c⟩
theorem X1 {c:Type} (b a:List c) (x:c):b++a=(b++x::a).eraseIdx b.length:=by
 grind
structure Gg (P:Program) (nt:Nat) (fl:List Nat) (ops:Array Oper) (call:cy) (base n0:Nat) (st2:St) (l:List cM) (listed:Array Bool) (st:St):Prop where
 run:∃s,fy call base l st=some s/\jA st2 s
 len:n0<=st.o.length
 rel:∀(p q:Nat) (y x:cM) (ty tx:List Nat×List Nat),p<q->l[p]?=some y->l[q]?=some x->(dC call base l st)[p]?=some ty->(dC call base l st)[q]?=some tx->((nj ops).getD x.idx 0).testBit y.idx=true\/yx n0 y ty x tx
 comp:∀x∈l,∃oz,p7 P nt fl ops oz x.idx=some x
 nodup:(l.map (·.idx)).Nodup
 sz:listed.size=ops.size
 qE:∀k,k<ops.size->(listed.getD k true=false↔∃x∈l,x.idx=k)
 closed:∀k m,listed.getD k false=true->((nj ops).getD k 0).testBit m=true->listed.getD m false=true
theorem q8 {c:Array Bool} {k:Nat} (h:k<c.size) (a b:Bool):c.getD k a=c.getD k b:=by
 simp_all
theorem X0 {M:Nat} {fl:List Nat} {c:Array Oper} (K:nT P call) (a5:wm 0 c.toList=true) {n0:Nat} {st2:St} {w0:World} {L:TM} {o0:a_} {Q:Exit->Act->World->Prop}
  (hQ:∀Y w' F,cq A M D w0 L o0 st2 Y w' F->Q .normal Y w') {rnd:Option Nat}:∀(h:Nat) (l:List cM) (b:Array Bool) (st:St) (a:Act) (w:World) (σ:TM),l.length<=h->
   Gg P M fl c call base n0 st2 l b st->cq A M D w0 L o0 st a w σ->wpAnyIn (FR rnd) 0 P .any c Q h b a w:=by
 have C:∀(b:Array Bool) (st:St) (a:Act) (w:World) (σ:TM),Gg P M fl c call base n0 st2 [] b st->cq A M D w0 L o0 st a w σ->Q .normal a w:=by
  intro b st a w σ d O;obtain⟨s,n,h2⟩:=d.run;simp only[fy,γ] at n;subst n;exact hQ _ _ _ (O.eq h2.symm)
 have H:∀(l:List cM) (b:Array Bool) (st:St),Gg P M fl c call base n0 st2 l b st->∀(k:Nat),(∃x∈l,x.idx=k)->Region.ready .any c b≠[]:=by
  intro l b st d k;induction k using ζF with
  |_ k ih=>
   rintro⟨x,G,rfl⟩;obtain⟨V,X⟩:=d.comp x G;cases I:c[x.idx]? with
   |none=>grind[p7];|some o=>
    have j:x.idx<c.size:=(γA.1 I).1;by_cases i:∀e∈o.after,Region.binds .any e=true->b.getD e.on false=true
    ·intro u;have:x.idx∈Region.ready .any c b:=mem_ready.2 ⟨(d.qE _ j).2 ⟨x,G,rfl⟩,o,I,i⟩;simp_all
    ·simp only[Classical.not_forall] at i;obtain⟨e,he,hb,hn⟩:=i;have N:=Oc c.toList 0 a5 x.idx o (by simp_all) e he hb;simp only[Nat.zero_add] at N;refine ih e.on N ((d.qE e.on (by omega)).1 ?_);rw[q8 (by rw[d.sz];omega) true false];simp_all
 intro h;induction h with
 |zero=>
  intro l b st a w σ hl d O;have:l=[]:=τ (by omega);subst this;refine⟨?_,C b st a w σ d O⟩;rw[List.eq_nil_iff_forall_not_mem];intro k j;obtain⟨h0,o,I,_⟩:=mem_ready.1 j;obtain⟨x,G,_⟩:=(d.qE k (γA.1 I).1).1 h0;simp at G;|succ h ih=>
  intro l b st a w σ hl d O;refine⟨λu=>?_,λk j=>?_⟩;·cases l with
   |nil=>grind;|cons x l=>exact absurd u (H _ b st d x.idx ⟨x,by simp,rfl⟩)
  ·obtain⟨h0,o,I,i⟩:=mem_ready.1 j;have a2:k<c.size:=(γA.1 I).1;obtain⟨x,G,rfl⟩:=(d.qE k a2).1 h0;obtain⟨f,g,rfl⟩:=List.append_of_mem G;obtain⟨s,R,S⟩:=d.run;have T:∀m,((nj c).getD x.idx 0).testBit m=true->b.getD m false=true:=by
    intro m hm;obtain⟨e,he,hb,n⟩:=X3 I hm;rcases n with rfl|n;·simp_all
    ·exact d.closed _ _ (i e he hb) n
   obtain⟨s1,s',f1,f2,f3,f4,f5⟩:=front (n0:=n0) f R d.len λp y W tx hp n h2=>by
    have a0:p<f.length:=(ζ.1 hp).1;have J:(f++x::g)[p]?=some y:=by grind
    rcases d.rel p f.length y x W tx a0 J (by simp) n h2 with Z|Z
    ·exfalso;have h4:=T _ Z;obtain⟨V,X⟩:=d.comp y (γe J);cases U:c[y.idx]? with
     |none=>simp[p7,U] at X;|some oy=>
      have a6:y.idx<c.size:=(γA.1 U).1;have h5:=(d.qE _ a6).2 ⟨y,γe J,rfl⟩;grind
    ·exact Z
   obtain⟨V,X⟩:=d.comp x G;refine PK K X f1 O λY w' F a4=>?_;have a8:=d.nodup;have a7:=X1 f g x;have v:∀(p:Nat) (y:cM),(f++g)[p]?=some y->(f++x::g)[if p<f.length then p else p+1]?=some y:=by
    grind
   have B:∀(p:Nat) (t:List Nat×List Nat),(dC call base (f++g) s1)[p]?=some t->(dC call base (f++x::g) st)[if p<f.length then p else p+1]?=some t:=by
    grind
   obtain⟨_,_,E,_⟩:=vo f1;refine ih (f++g) _ s1 Y w' F (by grind) ⟨⟨s',f2,S.trans f3⟩,δ1 d.len E,λp q y z W tz a9 hy hz a1 a3=>?_,λy hy=>d.comp y ?_,?_,by simp[d.sz],λk j=>?_,λk m j hm=>?_⟩ a4
   ·refine d.rel _ _ y z W tz ?_ (v p y hy) (v q z hz) (B p W a1) (B q tz a3);split<;>split<;>omega
   ·grind
   ·grind
   ·by_cases r:k=x.idx
    ·subst r;have n:(b.setIfInBounds x.idx true).getD x.idx true=true:=by simp
     grind
    ·rw[getD_set_ne true (Ne.symm r),d.qE k j];grind
   ·by_cases r:k=x.idx;·grind[getD_set_true]
    ·rw[getD_set_ne false (Ne.symm r)] at j;exact getD_set_true (d.closed k m j hm)
theorem N7:∀{l:List Nat},i_ l=true->l.Nodup
 |[],_=>List.nodup_nil
 |a::r,h=>by
  simp only[i_,θ,Bool.not_eq_true',List.contains_eq_mem,decide_eq_false_iff_not] at h;exact γY.2 ⟨h.1,N7 h.2⟩
theorem XZ {b:Nat} {fl:List Nat} {a:Array Oper} {oz k:Nat} {x:cM} (h:p7 P b fl a oz k=some x):x.idx=k/\k<a.size:=by
 unfold p7 at h;split at h;·cases h
 ·rename_i o d;split at h
  ·obtain⟨c,_,rfl⟩:=ε.1 h;grind
  ·cases h
theorem XY (g:nT P call) {s:Nat} {fl:List Nat} {d:Array Oper} {id k:Nat} {c:List Nat} {l:List cM} (S:tD P s fl d 0 c=some (l,k)) (h:P.follows .mixedOrders=true)
  (C:c.length=d.size) (L:i_ c=true) (M:wi (nj d) l=true) (u:wm 0 d.toList=true) (r:(ω d.size).all c.contains=true)
  {b st2:St} (T:fy call b.o.length l ⟨b.env,b.o++fw k⟩=some st2)
  (G:((p6 (nj d) l).isEmpty||rz (b.o++fw k).length (lv call b.o.length l ⟨b.env,b.o++fw k⟩) (p6 (nj d) l))=true)
  {I:World} {n:TM} {F:a_} {a:Act} {w:World} {σ:TM} {Q:Exit->Act->World->Prop} (O:cq A s D I n F ⟨b.env,b.o++fw k⟩ a w σ) (K:∀B w' t,cq A s D I n F st2 B w' t->Q .normal B w') {rnd:Option Nat}:(Code.region id d true).wpIn (FR rnd) 0 P Q a w:=by
 obtain⟨Z,W⟩:=Gn S;have E:l.map (·.idx)=c:=by
  apply γ9;intro j;rw[List.getElem?_map];cases f:l[j]? with
  |none=>
   simp_all;|some x=>
   have v:=(ζ.1 f).1;have z:=μ (l:=c) (i:=j) (by omega);obtain⟨X,V⟩:=W j x _ f z;rw[z];simp[(XZ V).1]
 have e:(l.map (·.idx)).Nodup:=by grind[N7]
 refine wpIn_region_any h (X0 (fl:=fl) (base:=b.o.length) (n0:=(b.o++fw k).length) g u K d.size l _ ⟨b.env,b.o++fw k⟩ a _ σ (by omega) ⟨⟨st2,T,jA.refl _⟩,ξ _,λp q y x ty tx R Y H N U=>?_,λx H=>?_,e,by simp,λj f=>?_,λj m f=>?_⟩ O.drew);·grind[X2]
 ·obtain⟨j,f⟩:=List.getElem?_of_mem H;have v:=(ζ.1 f).1;have z:=μ (l:=c) (i:=j) (by omega);grind
 ·have J:(εc d.size false).getD j true=false:=by simp[f]
  rw[J];refine⟨λ_=>?_,λ_=>rfl⟩;have:=χ.1 r j (List.mem_range.2 f);grind
 ·exfalso;rw[Array.getD_eq_getD_getElem?,Array.getElem?_replicate] at f;grind
end
section
variable {P:Program} {A:dc} {D:List Deferred} {w w':World} {σ σ':TM} {o o':a_}
theorem OM.fresh (i:OM A w σ o) (e:TypeId) (sz:Nat) (pu:Bool):∃a,OM A w a (o++[.cells [] e sz pu])/\Ext w σ o w a (o++[.cells [] e sz pu])/\a[o.length]?=some none:=by
 obtain⟨k,j⟩:=i.fw 1;have b:(o++Go.Vi.fw 1)[o.length]?=some .dead:=by simp[Go.Vi.fw]
 have c:(o++Go.Vi.fw 1).set o.length (.cells [] e sz pu)=o++[.cells [] e sz pu]:=by
  grind[Go.Vi.fw]
 have f:o.length<(σ++List.replicate 1 none).length:=by simp[i.len]
 obtain⟨d,g⟩:=k.iw (w':=w) (x':=.cells [] e sz pu) (s':=none) b (ξ _) rfl rfl rfl (λ_ _ _=>rfl) (λ_ _ h=>by cases h) trivial (λl=>by
  simp only[cP];exact⟨λ_=>rfl,rfl,.inl ⟨by simp_all,trivial⟩⟩);rw[c] at d g;exact⟨_,d,j.trans g,by simp_all⟩
theorem N6 {n:Nat} {e:TypeId} {sz:Nat} {pu:Bool} (c:o[n]?=some (.cells [] e sz pu)) (a:σ[n]?=some none):nA A w σ o (.os n 0 0 0) (.slice none 0 0):=by
 simp only[nA];refine⟨⟨[],e,sz,pu,c,ξ _⟩,none,0,rfl,ξ _,λb _=>?_⟩;grind[j3]
theorem cq.PW {t:Nat} {r:World} {g:TM} {p:a_} {st:St} {a:Act} (h:cq A t D r g p st a w σ) (id:Nat):∃i,cq A t D r g p (Bo id st) a w i:=by
 unfold Bo;split
 ·rename_i E e L k;have n:id<st.o.length:=(ζ.1 k).1;have d:id<σ.length:=by rw[h.sim.len];exact n
  obtain⟨x,q⟩:=h.sim.iw (w':=w) (x':=.cells E e L false) (s':=σ[id]) k (ξ _) rfl rfl rfl (λ_ _ _=>rfl)
   (λb c N=> .inl ⟨c,by simp_all⟩) ⟨_,e,false,rfl,by simp,λ_=>μ d⟩ (λK=>by
    have f:=h.sim.obj id _ k;simp only[cP] at f ⊢;obtain⟨P,H,I⟩:=f;refine⟨λG=>(by cases G),H,?_⟩;rcases I with⟨O,R⟩|⟨b,l,m,Q,J,u,y,F,M⟩;·simp_all
    ·refine .inr ⟨b,l,m,?_,J,u,y,F,λj c C=>?_⟩;·simp_all
     ·obtain⟨v,z,B⟩:=M j c C;exact⟨v,z,B.ext K⟩);exact⟨_,x,λs=>(h.env s).ext q,h.size,h.defers,h.ext.trans q⟩
 grind
theorem cq.XX {M:Nat} {P:World} {u:TM} {U:a_} {st:St} {a:Act} (h:cq A M D P u U st a w σ) (x:iO):∃C,cq A M D P u U (Bn x st) a w C:=by
 obtain⟨f,I,z,V⟩:=h.sim.fresh x.e x.sz x.pu;have r:(st.o++[OL.cells [] x.e x.sz x.pu])[st.o.length]?=some (.cells [] x.e x.sz x.pu):=by simp
 unfold Bn;split
 ·split
  ·rename_i N;refine⟨f,I,λs=>?_,h.size,h.defers,h.ext.trans z⟩;simp only[cX];cases X:δu x.slot s with
   |true=>
    have:=εU X;subst this;have:=h.env x.slot;grind[fN,N6];|false=>exact(h.env s).ext z
  ·split;·exact h.PW _
   grind
  grind
 ·rename_i k _;split
  ·rename_i i d a1 N;split
   ·rename_i p e y pu ho;split
    ·rename_i R;split
     ·rename_i g;obtain⟨L,rfl⟩:=g;have a0:i<st.o.length:=(ζ.1 ho).1;have l:i<f.length:=by grind
      have n:(st.o++[OL.cells [] x.e x.sz x.pu])[i]?=some (.cells p e y false):=by grind
      have Z:d+k<p.length:=(ζ.1 R).1;obtain⟨O,G⟩:=I.iw (w':=w) (x':=.cells (p.set (d+k) (.os st.o.length 0 0 0)) e y false) (s':=f[i]) n (ξ _) rfl rfl rfl (λ_ _ _=>rfl)
       (λb c N=> .inl ⟨c,by simp_all⟩) ⟨_,e,false,rfl,by simp,λ_=>μ l⟩ (λS=>by
        have t:=I.obj i _ n;simp only[cP] at t ⊢;obtain⟨q1,q2,q3⟩:=t;refine⟨λh=>(by cases h),?_,?_⟩
        ·refine lR.2 λc H=>?_;rcases List.mem_or_eq_of_mem_set H with T|T;·grind[lR]
         ·subst T;rfl
        ·rcases q3 with⟨_,h0⟩|⟨b,K,B,r1,W,r3,Y,r5,Q⟩;·simp_all
         ·refine .inr ⟨b,K,B,?_,W,r3,Y,by simp_all,λj c m=>?_⟩;·simp_all
          ·rw[εm] at m;split at m
           ·rename_i J;subst J;injection m with m;subst m;obtain⟨v,E,F⟩:=Q _ _ R;refine⟨v,E,?_⟩;rw[fN F];exact(N6 r V).ext S
           ·obtain⟨v,E,F⟩:=Q j c m;exact⟨v,E,F.ext S⟩);have q:(st.o++[OL.cells [] x.e x.sz x.pu]).set i (.cells (p.set (d+k) (.os st.o.length 0 0 0)) e y false)=(st.o.set i (.cells (p.set (d+k) (.os st.o.length 0 0 0)) e y false))++[OL.cells [] x.e x.sz x.pu]:=by
       simp_all
      rw[q] at O G;exact⟨_,O,λs=>((h.env s).ext z).ext G,h.size,h.defers,(h.ext.trans z).trans G⟩
     grind
    grind
   grind
  grind
theorem cq.P8 {t:Nat} {r:World} {f:TM} {p:a_} {st:St} {a:Act} (h:cq A t D r f p st a w σ) (id:Nat):∃i,cq A t D r f p (yn id st) a w i:=by
 unfold yn;split
 ·rename_i G e x k;split
  ·rename_i E;have n:id<st.o.length:=(ζ.1 k).1;have d:id<σ.length:=by rw[h.sim.len];exact n
   obtain⟨y,q⟩:=h.sim.iw (w':=w) (x':=.cells G e x true) (s':=σ[id]) k (ξ _) rfl rfl rfl (λ_ _ _=>rfl)
    (λb c N=> .inl ⟨c,by simp_all⟩) ⟨_,e,true,rfl,by simp,λ_=>μ d⟩ (λH=>by
     have g:=h.sim.obj id _ k;simp only[cP] at g ⊢;obtain⟨P,F,K⟩:=g;refine⟨λ_=>E,F,?_⟩;rcases K with⟨O,R⟩|⟨b,l,m,Q,L,u,z,I,M⟩;·simp_all
     ·refine .inr ⟨b,l,m,?_,L,u,z,I,λj c B=>?_⟩;·simp_all
      ·obtain⟨v,C,J⟩:=M j c B;exact⟨v,C,J.ext H⟩);exact⟨_,y,λs=>(h.env s).ext q,h.size,h.defers,h.ext.trans q⟩
  grind
 grind
theorem cq.hint {f:Nat} {g:World} {b:TM} {e:a_} {st:St} {a:Act} {lo:Nat} (l:e.length<=lo) (h:cq A f D g b e st a w σ) (x:iO):∃d,cq A f D g b e (jE lo x st) a w d:=by
 unfold jE;split;·exact h.XX x
 ·split
  ·rename_i o _ _ _ _;split
   ·rename_i p;have m:=Nat.le_of_ble_eq_true p;obtain⟨k,h⟩:=h.P8 o;unfold Bm;simp only;split
    ·rename_i q t n j;have c:=PQ j;exact⟨_,h.sim.Q5 c,λs=>nA.Q5 h.sim c _ _ _ (PS n s) (h.env s),h.size,h.defers,h.ext.Q5 c λi r=>by
      grind⟩
    grind
   grind
  grind
theorem N5 {s:World} {f:TM} {h:a_} (j:OM A w σ o) (g:Ext s f h w σ o) {l r:AV} {u:Value} (y:nA A w σ o l u) {own:Bool} (a:finish own h.length l o=some (r,o')):
  ∃d,OM A w d o'/\nA A w d o' r u/\Ext s f h w d o':=by
 unfold finish at a;cases own with
 |true=>grind[Zi];|false=>
  simp only[φ,if_false] at a;split at a
  ·rename_i D;split at a
   ·rename_i C m;simp only[γ,ι] at a;obtain⟨rfl,rfl⟩:=a;have t:h=[]:=τ D;subst t;refine⟨[],yg w j.avb,Hp j (λb _ a=>a.2) 6 l C u m (λq _ b c p=>j.av q b c p) y,g.size,λb v B=>⟨(g.blk b v B).1,λ⟨i,c,z⟩=>by simp at z⟩,ξ _,λq x k=>?_,λq k=>?_,g.os,g.tape,g.output⟩;·obtain⟨G,e,F,E,n,_⟩:=k;simp at n
    ·obtain⟨H,I,E,n⟩:=k;simp at n
   ·cases a
  ·cases a
end
open Go.RowKit
section
variable {A:dc} {w w':World} {σ:TM} {o:a_}
mutual
theorem nA.to (g:∀(p:Addr) (v:Value),w.cell? p=some v->w'.cell? p=some v):∀(c:AV) (v:Value),nA A w σ o c v->nA A w' σ o c v
 | .ud,_,_=>by simp[nA];| .sc u,v,d=>by grind[nA];| .agg e,v,d=>by
  simp only[nA] at d ⊢;obtain⟨k,rfl,i⟩:=d;exact⟨k,rfl,Aq.to g e _ i⟩;| .Gz e,v,d=>by
  simp only[nA] at d ⊢;obtain⟨k,rfl,i⟩:=d;exact⟨k,rfl,Aq.to g e _ i⟩;| .sl n e,v,d=>by
  simp only[nA] at d ⊢;obtain⟨a,q,rfl,G,x,y⟩:=d;exact⟨a,q,rfl,G,x,cH.to g e a 0 y⟩;| .ep e l,v,d=>by
  simp only[nA] at d ⊢;obtain⟨a,rfl,x,y⟩:=d;exact⟨a,rfl,x,cH.to g e _ 0 y⟩;| .ptr z l m,v,d=>by grind[nA];| .os z l H m,v,d=>by grind[nA];| .mp z,v,d=>by grind[nA];| .fn f a b,v,d=>by
  simp only[nA] at d ⊢;obtain⟨E,F,rfl,C,I⟩:=d;exact⟨E,F,rfl,Aq.to g a _ C,Aq.to g b _ I⟩;| .ifc t e,v,d=>by
  simp only[nA] at d ⊢;obtain⟨k,rfl,B,i⟩:=d;exact⟨k,rfl,B,Aq.to g e _ i⟩
theorem Aq.to (g:∀(p:Addr) (v:Value),w.cell? p=some v->w'.cell? p=some v):∀(e:List AV) (k:List Value),Aq A w σ o e k->Aq A w' σ o e k
 |[],_,h=>by grind[Aq];|c::e,k,h=>by
  simp only[Aq] at h ⊢;obtain⟨v,r,rfl,s,i⟩:=h;exact⟨v,r,rfl,nA.to g c v s,Aq.to g e r i⟩
theorem cH.to (g:∀(p:Addr) (v:Value),w.cell? p=some v->w'.cell? p=some v):∀(e:List AV) (a:Option Addr) (j:Nat),cH A w σ o e a j->cH A w' σ o e a j
 |[],_,_,_=>by simp[cH];|c::e,a,j,h=>by
  simp only[cH] at h ⊢;obtain⟨⟨b,v,rfl,D,s,d⟩,i⟩:=h;exact⟨⟨b,v,rfl,D,g _ _ s,nA.to g c v d⟩,cH.to g e _ (j+1) i⟩
end
theorem OM.to (a:OM A w σ o) (t:∀(p:Addr) (v:Value),w.cell? p=some v->w'.cell? p=some v) (J:∀(i b c:Nat),σ[i]?=some (some (b,c))->w'.heap[b]?=w.heap[b]?)
  (d:w.heap.size<=w'.heap.size):OM A w' σ o:=by
 refine⟨a.len,a.dist,λi b c h=>γj (a.dZ i b c h) d,λi x F=>?_,a.av,λb h=>γj (a.avb b h) d⟩;have h:=a.obj i x F;cases x with
 |dead=>grind[cP];|cells N e K H=>
  simp only[cP] at h ⊢;refine⟨h.1,h.2.1,?_⟩;rcases h.2.2 with s|⟨b,n,g,k,u,y,l,D,C⟩;·exact .inl s
  ·refine .inr ⟨b,n,g,k,u,by grind,l,D,λj c q=>?_⟩;obtain⟨v,I,f⟩:=C j c q;exact⟨v,I,f.to t c v⟩;|map M L H=>
  simp only[cP] at h ⊢;obtain⟨s,r,b,c,E,G,k,u,y,l⟩:=h;refine⟨s,r,b,c,E,G,k,by grind,y,λj e q=>?_⟩;obtain⟨m,B,z,f⟩:=l j e q;exact⟨m,B,z,f.to t e.2 _⟩
theorem yv {r b:Nat} {y:Obj} (h:b≠r):(w.putObj r y).heap[b]?=w.heap[b]?:=by
 simp_all[World.putObj,Ne.symm]
theorem putObj_size {r:Nat} {y:Obj}:(w.putObj r y).heap.size=w.heap.size:=by simp_all
theorem N4 {r:Nat} {x y:Obj} (h:w.heap[r]?=some x) (b:x.isCells=false) (p:Addr) (v:Value) (a:w.cell? p=some v):(w.putObj r y).cell? p=some v:=by
 grind[cells_of_cell,World.cell?_of_block,yv]
theorem OM.rV (a:OM A w σ o) {r:Nat} {x y:Obj} (h:w.heap[r]?=some x) (d:x.isCells=false) (g:¬Own σ r):OM A (w.putObj r y) σ o:=
 a.to (N4 h d) (λi b c f=>yv λe=>g ⟨i,c,e▸f⟩) (by simp_all)
theorem nA.rV {c:AV} {v:Value} (a:nA A w σ o c v) {r:Nat} {x y:Obj} (h:w.heap[r]?=some x) (b:x.isCells=false):nA A (w.putObj r y) σ o c v:=
 a.to (N4 h b) c v
theorem Ext.rV {c:World} {a:TM} {d:a_} (h:Ext c a d w σ o) {r:Nat} {y:Obj} (g:c.heap.size<=r):Ext c a d (w.putObj r y) σ o where
 size:=by rw[putObj_size];exact h.size
 blk:=λb e f=>by
  obtain⟨i,j⟩:=h.blk b e f;grind[yv]
 len:=h.len;cur:=h.cur;isMap:=h.isMap;os:=h.os;tape:=h.tape;output:=h.output
theorem Ay {P:Program} {t:Func} {a:Array Value} {m:World} {D:List Deferred} {R:Ending->World->Prop}:∀(j:List Deferred) (w:World),sn m w j->OM A w σ o->
  (∀w',OM A w' σ o->(∀{c:TM} {q:a_},Ext m c q w σ o->Ext m c q w' σ o)->(∀s v,nA A w σ o s v->nA A w' σ o s v)->LeavesInM (FR none) 0 P t a R D .returning w')->
  LeavesInM (FR none) 0 P t a R (j++D) .returning w
 |[],w,_,f,k=>k w f (λh=>h) (λ_ _ h=>h)
 |d::j,w,g,f,k=>by
  obtain⟨r,x,n,i⟩:=g.2 d (by simp);have C:=f.Gp i (by simp) (by simp);simp only[γI,LeavesInM];refine⟨by simp,.inl ⟨r,w.putObj r (.deferred none),by rw[x],run_takeDeferred i,?_⟩⟩;refine Ay j _ ⟨(γB.1 g.1).2,λe p=>?_⟩ (f.rV i rfl C) λw' y z E=>k w' y (λh=>z (h.rV n)) (λs v h=>E s v (h.rV i rfl));obtain⟨B,l,b,u⟩:=g.2 e (γz _ p);refine⟨B,l,b,?_⟩;have:=(γB.1 g.1).1 e p;grind[yv]
theorem Gf {P:Program} {m:World}:∀(f:List Deferred) (w:World) (fr:Frame) (cs:List Frame),fr.mode= .returning->fr.defers=f->sn m w f->OM A w σ o->
  ∃w',StepsIn (Machine.fenced P (FR none)) P (lone fr cs w) (lone {fr with defers:=[]} cs w')/\OM A w' σ o/\(∀{a:TM} {u:a_},Ext m a u w σ o->Ext m a u w' σ o)/\∀s v,nA A w σ o s v->nA A w' σ o s v
 |[],w,fr,cs,_,k,_,l=>by
  refine⟨w,?_,l,λh=>h,λ_ _ h=>h⟩;have:fr={fr with defers:=[]}:=by rw[<-k]
  rw[<-this];exact StepsIn.refl _;|d::f,w,fr,cs,x,k,j,l=>by
  obtain⟨r,p,q,i⟩:=j.2 d (by simp);have C:=l.Gp i (by simp) (by simp);have b:fr.mode≠ .run:=by rw[x];simp
  have I:=step_collected (cs:=cs) b k (by rw[p]) (run_takeDeferred (P:=P) i);have H:(lone fr cs w).fenced P (FR none):=fenced_out (n:=0) trivial (by simp[FR,Fence.wide,Fence.room]) b k (λg J=>by grind[Target.leads]);obtain⟨w',E,z,F,D⟩:=Gf f (w.putObj r (.deferred none)) {fr with defers:=[]++f} cs x rfl ⟨(γB.1 j.1).2,λe y=>by
   obtain⟨G,t,c,B⟩:=j.2 e (γz _ y);refine⟨G,t,c,?_⟩;have:=(γB.1 j.1).1 e y;grind[yv]⟩ (l.rV i rfl C);exact⟨w',.head H I E,z,λh=>F (h.rV q),λs v h=>D s v (h.rV i rfl)⟩
theorem XW {P:Program} {f:FuncId} {m:Func} {c:Code} {args:Array Value} {u:FrameMode} {w:World} {R:Ending->World->Prop}
  (E:P.funcs[f]?=some m) (S:m.body=some c)
  (h:c.wpIn (FR none) 0 P (λe a r=>(e= .normal\/e= .ret)/\∃(q:World) (g:TM) (l:a_),sn q r a.defers/\OM A r g l/\∀i,OM A i g l->(∀{n:TM} {I:a_},Ext q n I r g l->Ext q n I i g l)->(∀s v,nA A r g l s v->nA A i g l s v)->
   ∃v,(results m a.tmps).run P i= .ok v i/\R (.returned v) i) {tmps:=args++εc (m.ntmps - args.size) undef,defers:=[]} w):
  CallsDIn (FR none) 0 P f args u w λe L w'=>L=u/\R e w':=by
 refine⟨trivial,λd z Q J=>?_⟩;let b:Frame:={(default:Frame) with fn:=f,kind:=.deferred,roundOf:=none};have k:Frame.enter P f args .deferred=
   b.atR {tmps:=args++εc (m.ntmps - args.size) undef,defers:=[]} [.code c]:=by
  grind[Frame.enter,Frame.atR]
 have F:({d with mode:=u}:Frame)=d:=by subst Q;rfl
 obtain⟨e,p,w',O,j⟩:=h b [] (d::z) rfl trivial J;rw[<-k] at j;obtain⟨N,q,g,l,H,K,G⟩:=O;rcases N with rfl|rfl
 ·obtain⟨i,C,t,y,B⟩:=Gf (P:=P) p.defers w' {b.atR p [] with mode:=.returning} (d::z) rfl rfl H K;obtain⟨v,D,x⟩:=G i t y B;exact⟨.returned v,u,i,_,⟨rfl,x⟩,(by rw[F];exact StepsIn.trans (StepsIn.trans j (.one (fenced_calm (fr:=b.atR p []) trivial J rfl) (stepR_end rfl))) C),rfl,rfl,rfl,rfl,m,E,D⟩
 ·obtain⟨o,M⟩:=j.1 rfl;obtain⟨i,C,t,y,B⟩:=Gf (P:=P) p.defers w' {b.atR p o with mode:=.returning} (d::z) rfl rfl H K;obtain⟨v,D,x⟩:=G i t y B;exact⟨.returned v,u,i,_,⟨rfl,x⟩,(by rw[F];exact StepsIn.trans M C),rfl,rfl,rfl,rfl,m,E,D⟩
end
open Go.RowKit
def Out.rU:Out->Exit
 | .norm=> .normal
 | .exit a=> .exit a
 | .ret=> .ret
 | .goto l=> .goto l
section
variable {P:Program} {A:dc} {D:List Deferred} {w w':World} {σ σ':TM} {o o':a_}
theorem XV (a:List Nat) (env:iR) (s:Nat):cX (eK a env) s=cX env s\/cX (eK a env) s= .ud:=by
 unfold eK;induction a with
 |nil=>right;rfl;|cons x a b=>
  simp only[π,cX];cases c:δu x s<;>simp_all
theorem YE (t:Nat) (env:iR) (s:Nat):cX (pP t env) s=cX env s\/cX (pP t env) s= .ud:=by
 induction env with
 |nil=>left;rfl;|cons p env c=>
  simp only[pP];cases a:δu p.1 t with
  |true=>
   simp only[cond_true];by_cases d:p.1=s
   ·have e:=εU a;right;have:∀env:iR,cX (pP t env) t= .ud:=by
     intro env;induction env with
     |nil=>rfl;|cons q env c=>
      simp only[pP];cases b:δu q.1 t with
      |true=>simp_all;|false=>simp_all[cX]
    simp_all
   ·have:cX (p::env) s=cX env s:=by
     simp only[cX];have:δu p.1 s=false:=by
      cases h:δu p.1 s<;>simp_all
     rw[this];rfl
    simp_all;|false=>
   simp only[cond_false,cX];grind
theorem cq.drop {d:Nat} {e:World} {b:TM} {c:a_} {st:St} {a:Act} (h:cq A d D e b c st a w σ) (x:Operand):cq A d D e b c ⟨nY x st.env,st.o⟩ a w σ where
 sim:=h.sim;env:=λs=>by
  unfold nY;split
  ·rename_i t;rcases YE t st.env s with f|f;·simp only[f];exact h.env s
   grind[nA]
  ·exact h.env s
 size:=h.size;defers:=h.defers;ext:=h.ext
theorem cq.eK {e:Nat} {f:World} {c:TM} {d:a_} {st:St} {a:Act} (h:cq A e D f c d st a w σ) (b:List Nat):cq A e D f c d ⟨ζQ b st.env,st.o⟩ a w σ where
 sim:=h.sim;env:=λs=>by
  rcases XV b st.env s with g|g;·simp only[g];exact h.env s
  grind[nA]
 size:=h.size;defers:=h.defers;ext:=h.ext
theorem YD {env:iR} {s:Nat}:cX env s= .ud\/∃p∈env,p.2=cX env s:=by
 induction env<;>grind[cX]
theorem cq.trim {g:Nat} {f:World} {b:TM} {d:a_} {st:St} {a:Act} (h:cq A g D f b d st a w σ) {k:Nat} (i:d.length<=k):∃c,cq A g D f b d (Go.Vi.trim k st) a w c:=by
 unfold Go.Vi.trim;split;·grind
 ·split
  ·rename_i e;simp only[θ,χ] at e;refine⟨σ.take k,⟨h.sim.take e.2,λs=>?_,h.size,h.defers,h.ext.take i⟩⟩;grind[YD,env,nA,nA.take]
  grind
theorem cq.fw {e:Nat} {g:World} {b:TM} {d:a_} {st:St} {a:Act} (h:cq A e D g b d st a w σ) (n:Nat):∃c,cq A e D g b d ⟨st.env,st.o++Go.Vi.fw n⟩ a w c:=by
 obtain⟨i,f⟩:=h.sim.fw n;exact⟨_,i,λs=>(h.env s).ext f,h.size,h.defers,h.ext.trans f⟩
theorem cq.pT {e:Nat} {f:World} {c:TM} {d:a_} {st:St} {a:Act} (h:cq A e D f c d st a w σ) {k:Nat} (g:d.length<=k):∃b,cq A e D f c d ⟨st.env,Go.Vi.pT k st.o⟩ a w b:=by
 obtain⟨b,l,j,i⟩:=Zl h.sim k;exact⟨b,l,λs=>j _ _ (h.env s),h.size,h.defers,i _ _ _ g h.ext⟩
theorem cq.len {d:Nat} {e:World} {b:TM} {c:a_} {st:St} {a:Act} (h:cq A d D e b c st a w σ):c.length<=st.o.length:=h.ext.len
theorem cq.hints {nt:Nat} {w0:World} {σ0:TM} {o0:a_} {lo:Nat} (hlo:o0.length<=lo) (l:List iO):∀{st:St} {a:Act} {σ:TM},cq A nt D w0 σ0 o0 st a w σ->∃σ',cq A nt D w0 σ0 o0 (l.foldl (λs h=>jE lo h s) st) a w σ':=by
 induction l with
 |nil=>intro st a σ h;exact⟨σ,h⟩;|cons x l ih=>
  intro st a σ h;obtain⟨σ1,h1⟩:=cq.hint hlo h x;exact ih h1
theorem YC {rnd:Option Nat} {call:cy} (hcall:nT P call) {lo nt:Nat} {H:List RH} {id:Nat} {ops:Array Oper} {draw:Bool} {c:IR} (hc:wh P nt H id ops draw=some c):
  ∃k l chk live pre post,c= .region id draw k l chk live pre post/\∀{st st':St},nZ call k l chk (pre.foldl (λs h=>jE lo h s) st)=some st'->∀{w0:World} {σ0:TM} {o0:a_} {a:Act} {w:World} {σ:TM},o0.length<=lo->cq A nt D w0 σ0 o0 st a w σ->
   (Code.region id ops draw).wpIn (FR rnd) 0 P (λe a' w'=>e= .normal/\∃σ',cq A nt D w0 σ0 o0 (post.foldl (λs h=>jE lo h s) ⟨ζQ live st'.env,st'.o⟩) a' w' σ') a w:=by
 unfold wh at hc;split at hc;·cases hc
 ·rename_i h hh;have fin:∀(k:Nat) (l:List cM) (chk:List (Nat×Nat)),(∀{st1 st2:St},fy call st1.o.length l ⟨st1.env,st1.o++fw k⟩=some st2->(chk.isEmpty||rz (st1.o++fw k).length (lv call st1.o.length l ⟨st1.env,st1.o++fw k⟩) chk)=true->
     ∀{w0:World} {σ0:TM} {o0:a_} {a:Act} {w:World} {σ:TM} {Q:Exit->Act->World->Prop},cq A nt D w0 σ0 o0 ⟨st1.env,st1.o++fw k⟩ a w σ->(∀a' w' σ',cq A nt D w0 σ0 o0 st2 a' w' σ'->Q .normal a' w')->(Code.region id ops draw).wpIn (FR rnd) 0 P Q a w)->
    ∀{st st':St},nZ call k l chk (h.pre.foldl (λs h=>jE lo h s) st)=some st'->∀{w0:World} {σ0:TM} {o0:a_} {a:Act} {w:World} {σ:TM},o0.length<=lo->cq A nt D w0 σ0 o0 st a w σ->
     (Code.region id ops draw).wpIn (FR rnd) 0 P (λe a' w'=>e= .normal/\∃σ',cq A nt D w0 σ0 o0 (h.post.foldl (λs h=>jE lo h s) ⟨ζQ h.live st'.env,st'.o⟩) a' w' σ') a w:=by
   intro k l chk hrun st st' hr w0 σ0 o0 a w σ hlo hs;obtain⟨σ1,hs1⟩:=cq.hints hlo h.pre hs;generalize aYC:h.pre.foldl (λs h=>jE lo h s) st=st1 at hr hs1;unfold nZ at hr;simp only at hr;split at hr
   ·rename_i st2 h2;split at hr
    ·rename_i aBp;injection hr with hr;obtain⟨σ2,hs2⟩:=hs1.fw k;refine hrun h2 aBp hs2 λa' w' σ' h3=>⟨rfl,?_⟩;have h4:∃σ4,cq A nt D w0 σ0 o0 st' a' w' σ4:=by
      subst hr;by_cases hk:k=0;·simp only[hk,if_true];exact⟨σ',h3⟩
      ·simp only[hk,if_false];exact h3.pT hs1.len
     obtain⟨σ4,h4⟩:=h4;exact cq.hints hlo h.post (h4.eK h.live)
    ·cases hr
   ·cases hr
  cases draw with
  |false=>
   simp only[φ,if_false] at hc;obtain⟨⟨l,k⟩,hl,rfl⟩:=ε.1 hc;refine⟨k,l,[],h.live,h.pre,h.post,rfl,fin k l [] λ{st1 st2} h2 _ w0 σ0 o0 a w σ Q hs hQ=>?_⟩;obtain⟨g1,g2⟩:=Gn hl;exact wpIn_region (Ol hcall l (ω ops.size) g1 g2 _ _ a w σ h2 hs hQ);|true=>
   simp only[if_true] at hc;generalize (if h.perm.isEmpty=true then ω ops.size else h.perm)=perm at hc;split at hc
   ·rename_i l k hl;split at hc
    ·rename_i hcond;injection hc with hc;refine⟨k,l,p6 (nj ops) l,h.live,h.pre,h.post,hc.symm,fin k l _ λ{st1 st2} h2 aBp w0 σ0 o0 a w σ Q hs hQ=>?_⟩;simp only[θ,beq_iff_eq] at hcond;exact XY hcall hl hcond.1.1.1.1.1 hcond.1.1.1.1.2 hcond.1.1.1.2 hcond.1.1.2 hcond.1.2 hcond.2 h2 aBp hs hQ
    ·cases hc
   ·cases hc
def ti (_:Program) (rnd:Option Nat) (_:dc->World->TM->a_->Prop):Md->Prop
 | .plain=>rnd=none
def eL (B:dc->World->TM->a_->Prop):Prop:=∀A w c o b a d,B A w c o->Ext w c o b a d->B A b a d
theorem YB {call:cy} (m:nT P call) {rnd:Option Nat} {B:dc->World->TM->a_->Prop} {md:Md} (G:ti P rnd B md) (F:eL B) {lo r:Nat} {H:List RH} {id:Nat} {p:Array Oper} {d:Bool} {c:IR} (y:wh P r H id p d=some c):
  ∃k l j f g b,c= .region id d k l j f g b/\∀{st st':St},Hh md d call k l j (g.foldl (λs h=>jE lo h s) st)=some st'->∀{q:World} {i:TM} {n:a_} {a:Act} {w:World} {σ:TM},B A q i n->n.length<=lo->cq A r D q i n st a w σ->
   (Code.region id p d).wpIn (FR rnd) 0 P (λe x w'=>e= .normal/\∃u,cq A r D q i n (b.foldl (λs h=>jE lo h s) ⟨ζQ f st'.env,st'.o⟩) x w' u) a w:=by
 obtain⟨k,l,j,f,g,b,v,E⟩:=YC (rnd:=rnd) m (A:=A) (lo:=lo) y;refine⟨k,l,j,f,g,b,v,?_⟩;intro st st' z q i n a w σ _ t C;exact E z t C
structure jZ (P:Program) (T:jn):Prop where
 fn:∀f F,T.fn f=some F->∃fn H,P.funcs[f]?=some fn/\Bz P H fn=some F/\fU P f=true
 K:∀f args o own r o',T.K f args o own=some (r,o')->fU P f=true/\jB P f args o r o'/\(own=false->o'=[])
def yu (P:Program) (T:jn) (n:Nat):Prop:=
 ∀(g:Option Nat) (m:Md) (B:dc->World->TM->a_->Prop),ti P g B m->eL B->
 ∀(o:Nat) (c:IR) (p:St) (h:Out) (f:St),exec T m n o c p=some (h,f)->∀(j:Nat) (H:List RH) (b:Code),comp P j H b=some c->∀(D:List Deferred) (A:dc) (l:World) (d:TM) (i:a_) (a:Act) (w:World) (q:TM),B A l d i->i.length<=o->cq A j D l d i p a w q->
  b.wpIn (FR g) 0 P (λe s r=>e=h.rU/\∃k,cq A j D l d i f s r k) a w
def yt:dc->World->TM->a_->Prop:=λ_ _ _ _=>True
theorem Ax:eL yt:=λ_ _ _ _ _ _ _ _ _=>trivial
theorem N3:∀(k:Nat) (args:List AV) (s:Nat),cX (gl k args) s=if k<=s then(args[s - k]?).getD .ud else .ud
 |k,[],s=>by simp[gl,cX];|k,v::b,s=>by
  simp only[gl,cX];by_cases h:k=s;·subst h;simp
  ·have a:δu k s=false:=by
    cases a:δu k s<;>simp_all
   simp only[a,cond_false];rw[N3 (k+1) b s];grind
def yr (a:Array Value):ResultVar->Sem Value
 | .tmp t=>pure (a.getD t undef)
 | .cell x t=>do loadVar t (<-asAddr (a.getD x undef))
theorem YA (b:Func) (a:Array Value):results b a=(do let vs <-b.results.mapM (yr a);pure (if h:vs.size=1 then vs[0] else .tuple vs)):=by
 unfold results;congr 1
theorem Yz {m:Nat} {i:World} {e:TM} {l:a_} {st:St} {a:Act} (h:cq A m D i e l st a w σ) {f:ResultVar} {g:lS} (d:qC P f=some g) {r:AV} (c:pS st g=some r):
  ∃u,(yr a.tmps f).run P w= .ok u w/\nA A w σ st.o r u:=by
 cases f with
 |tmp t=>
  simp only[qC,γ] at d;subst d;simp only[pS,γ] at c;subst c;exact⟨_,rfl,h.env t⟩;|cell x t=>
  simp only[qC,ε] at d;obtain⟨n,j,rfl⟩:=d;simp only[pS] at c;split at c
  ·rename_i y s k;obtain⟨p,z,b⟩:=(h.env x).Pa h.sim k;obtain⟨u,v,q⟩:=O_ (P:=P) j b c;grind[yr,asAddr]
  ·cases c
theorem Ge {K:Nat} {Q:World} {t:TM} {N:a_} {st:St} {a:Act} (h:cq A K D Q t N st a w σ) {m:Func} {H:List lS} (O:p8 (qC P) m.results.toList=some H) {r:AV} (j:mL st H=some r):
  ∃u,(results m a.tmps).run P w= .ok u w/\nA A w σ st.o r u:=by
 obtain⟨n,S⟩:=G8 O;unfold mL at j;have z:∀(c:List ResultVar) (b:List lS) (g:List AV),c.length=b.length->(∀(i:Nat) (x:ResultVar) (y:lS),c[i]?=some x->b[i]?=some y->qC P x=some y)->b.mapM (pS st)=some g->
   ∃d:List Value,(c.mapM (yr a.tmps)).run P w= .ok d w/\Aq A w σ st.o g d:=by
  intro c;induction c with
  |nil=>
   intro b g l _ f;have:b=[]:=τ (by simp_all);simp_all[Aq];|cons x c R=>
   intro b g l G f;match b,l with
   |y::b,l=>
    rw[List.mapM_cons] at f;cases s:pS st y with
    |none=>simp[s] at f;|some v=>
     cases e:b.mapM (pS st) with
     |none=>simp_all;|some C=>
      simp[s,e] at f;subst f;obtain⟨u,U,M⟩:=Yz h (G 0 x y (by simp) (by simp)) s;obtain⟨d,B,E⟩:=R b C (by grind) (λi p q J T=>G (i+1) p q (by simpa using J) (by simpa using T)) e;refine⟨u::d,?_,by grind[Aq]⟩;simp_all
 have F:∀d:List Value,(m.results.toList.mapM (yr a.tmps)).run P w= .ok d w->
   (results m a.tmps).run P w= .ok (if h:d.length=1 then d[0]'(by omega) else .tuple d.toArray) w:=by
  grind[YA,Array.mapM_eq_mapM_toList,Sem.run_bind,Sem.run_map,Result.andThen_ok,Sem.run_pure]
 split at j;·grind[Aq]
 ·rename_i g I f;injection j with j;subst j;obtain⟨d,B,l⟩:=z _ _ _ n S f;have k:=Aq.length _ _ l;have L:¬d.length=1:=by
   intro n;match g,k.trans n with
   |[v],_=>simp_all
  grind[nA]
 ·cases j
theorem Gd {a:Nat} {args:List AV} {vs:List Value} (d:OM A w σ o) (b:Aq A w σ o args vs) (j:args.length<=a):cq A a [] w σ o ⟨gl 0 args,o⟩ {tmps:=vs.toArray++εc (a - vs.toArray.size) undef,defers:=[]} w σ:=by
 have i:=Aq.length _ _ b;refine⟨d,λs=>?_,?_,⟨[],rfl,δv,by simp⟩,Ext.refl _ _ _⟩
 ·simp only[N3,Nat.zero_le,if_true,Nat.sub_zero];cases h:args[s]? with
  |none=>simp[nA];|some c=>
   obtain⟨v,e,g⟩:=Aq.get _ _ b s c h;have f:s<vs.length:=(ζ.1 e).1;have:(vs.toArray++εc (a - vs.toArray.size) undef).getD s undef=v:=by
    simp_all[Array.getElem?_append_left]
   simp_all
 ·simp;omega
theorem Yy {T:jn} {n:Nat} (W:yu P T n) {md:Md} {B:dc->World->TM->a_->Prop} (N:ti P none B md) (L:eL B) {f:FuncId} {c:Func} {g:Code} {H:List RH} {b:IR} {E:List lS}
  (t:P.funcs[f]?=some c) (i:c.body=some g) (X:comp P c.ntmps H g=some b) (y:p8 (qC P) c.results.toList=some E) (Q:¬c.ntmps<c.params.size+c.nfree)
  {args:List AV} {out:Out} {st:St} (C:args.length=c.params.size+c.nfree) (j:out= .norm\/out= .ret) (m:exec T md n o.length b ⟨gl 0 args,o⟩=some (out,st)) {G r:AV} (z:mL st E=some G) {own:Bool} (q:finish own o.length G st.o=some (r,o'))
  {vs:List Value} (x:B A w σ o) (J:OM A w σ o) (I:Aq A w σ o args vs):
  CallsIn (FR none) 0 P f vs.toArray w λe w'=>∃u a,e= .returned u/\OM A w' a o'/\nA A w' a o' r u/\Ext w σ o w' a o':=by
 have M:=Aq.length _ _ I;refine callsIn_of_wp_marks (F:=FR none) t i trivial (wpIn_mono (W none md B N L _ b _ out st m c.ntmps H g X [] A w σ o {tmps:=vs.toArray++εc (c.ntmps - vs.toArray.size) undef,defers:=[]} w σ x (ξ _) (Gd J I (by omega))) ?_)
 ·rintro e p w' ⟨rfl,a,d⟩;have k:LeavesInM (FR none) 0 P c p.tmps (λe w'=>∃u a,e= .returned u/\OM A w' a o'/\nA A w' a o' r u/\Ext w σ o w' a o') p.defers .returning w':=by
   obtain⟨K,v,U⟩:=d.defers;rw[v];refine Ay K w' U d.sim λS R V O=>?_;simp only[LeavesInM,LeavesIn];have h:cq A c.ntmps [] w σ o st {p with defers:=[]} S a:=⟨R,λs=>O _ _ (d.env s),d.size,⟨[],rfl,δv,by simp⟩,V d.ext⟩;obtain⟨u,Y,l⟩:=Ge h y z;have D:=N5 h.sim h.ext l q;simp_all
  rcases j with rfl|rfl;·exact k
  ·exact k
theorem N2 {out:Out} (h:pQ out=true):out= .norm\/out= .ret:=by
 grind[pQ]
theorem Yx {P:Program} {j:Nat} {H:List RH} {g:FuncId} {e:List Operand} {d:Nat} {a b:IR} (c:Code):comp P j H c≠some (.dfr g e d a b):=by
 intro h;cases c with
 |region k i f=>
  simp only[comp] at h;unfold wh at h;split at h;·cases h
  ·split at h;·grind
   simp_all;|seq x y=>grind[comp];|cond c x y=>
  grind[comp];|_=>simp[comp] at h
theorem Yw {f:Array Oper} {g:FuncId} {e:List Operand} {d:Nat} (h:Bf f=some (g,e,d)):∃i j a b c,f.toList=[i,j]/\i.dst=some d/\i.op= .makeFunc (.func g) a b/\i.guard=none/\j.op= .defer c/\j.dst=none/\j.guard=none/\c.callee= .value (.tmp d)/\a.toList=[]/\c.args.toList=[]/\b.toList=e:=by
 grind[Bf]
theorem Yv {n:Nat} {id:Nat} {e:Array Oper} {g:FuncId} {f:List Operand} {d:Nat} (H:Bf e=some (g,f,d)) (p:d<n) {st:St} {a:Act} {F:World} {l:TM} {G:a_} (h:cq A n D F l G st a w σ) {Q:Exit->Act->World->Prop}
  (I:∀(r:Act) (vs:List Value),Aq A w σ st.o (f.map (dM st.env)) vs->cq A n ({target:=.fn (.func g) vs.toArray,args:=#[]}::a.defers) w σ st.o ⟨(d,.ud)::st.env,st.o⟩ r w σ->Q .normal r w):
  (Code.region id e false).wpIn (FR none) 0 P Q a w:=by
 obtain⟨k,u,x,b,c,t,q,U,X,S,J,V,R,N,T,rfl⟩:=Yw H;have L:e[0]?=some k:=by rw[<-γX,t];rfl
 have z:e[1]?=some u:=by rw[<-γX,t];rfl
 have B:e.size=2:=by grind[Array.length_toList]
 have W:x=#[]:=εl (by omega);have O:c.args=#[]:=εl (by omega);refine wpIn_region ?_;rw[B];show wpOpsIn (FR none) 0 P e Q [0,1] a w;rw[wpOpsIn_cons];unfold wpOpIn;simp only[L];rw[if_pos (by grind[Region.wanted])];unfold Oper.wpIn;rw[show(FR none).round=none from rfl,Oper.semAt_none];refine⟨λ_ _=>trivial,?_⟩;have E:(execOp a.eval k).run P w= .ok (.value (.func (.func g) #[] (b.map a.eval))) w:=by
  simp_all[execOp,Instr.makeFunc]
 rw[E,Oper.uponIn_value,wpOpsIn_cons];have C:d<a.tmps.size:=by rw[h.size];exact p
 have m:(a.put k.dst (.func (.func g) #[] (b.map a.eval))).eval (.tmp d)= .func (.func g) #[] (b.map a.eval):=by
  simp_all[Act.put,Act.eval]
 generalize i:a.put k.dst (.func (.func g) #[] (b.map a.eval))=K at m;unfold wpOpIn;simp only[z];rw[if_pos (by grind[Region.wanted])];unfold Oper.wpIn;rw[show(FR none).round=none from rfl,Oper.semAt_none];refine⟨λ_ _=>trivial,?_⟩;have y:(execOp K.eval u).run P w= .ok (.defer {target:=.fn (.func g) (b.map a.eval),args:=#[]}) w:=by
  simp_all[execOp,resolve,Deferred.ofValue]
 rw[y,Oper.uponIn_defer,J];show Q .normal _ w;have j:Aq A w σ st.o (b.toList.map (dM st.env)) (b.toList.map a.eval):=tu (λx=>h.ev x) b.toList;refine I _ (b.toList.map a.eval) j ⟨h.sim,λs=>?_,?_,⟨[],?_,δv,by simp⟩,Ext.refl _ _ _⟩
 ·subst i;by_cases M:d=s;·simp_all[cX,nA]
  ·have v:δu d s=false:=by
    cases v:δu d s<;>simp_all
   simp only[cX,v,cond_false];have:=h.env s;simp_all[Act.put]
 ·subst i;simp[q,Act.put,h.size]
 ·subst i;simp[q,Act.put];grind
theorem Yu {T:jn} {n:Nat} (Q:yu P T n) {v:Nat} {H:List RH} {lo:Nat} {C:World} {p:TM} {D:a_} (I:D.length<=lo) {g:FuncId} {m:List Operand} {d:Nat} {S:IR} {s0 s2:St} {out:Out}
  (J:exec T .plain n s0.o.length S ⟨(d,.ud)::s0.env,s0.o⟩=some (out,s2)):∀(f:Code) (z:IR) (st:St) (a:Act) (w:World) (σ:TM),tC P v H f=some (z,(g,m,d),S)->pR (exec T .plain n lo) z st=some s0->cq A v [] C p D st a w σ->
  f.wpIn (FR none) 0 P (λe B w'=>e=out.rU/\fU P g=true/\∃(q:World) (j t:TM) (R:List Deferred) (vs:List Value),sn C q R/\OM A q j s0.o/\Ext C p D q j s0.o/\Aq A q j s0.o (m.map (dM s0.env)) vs/\
   cq A v ({target:=.fn (.func g) vs.toArray,args:=#[]}::R) q j s0.o s2 B w' t) a w:=by
 intro f;induction f with
 |seq c l _ G=>
  intro z st a w σ k i h;cases c with
  |region W K N=>
   unfold tC at k;split at k
   ·rename_i x X _;split at k
    ·rename_i y;obtain⟨b,Y,O⟩:=ε.1 k;simp only[ι] at O;obtain⟨rfl,rfl,rfl⟩:=O;simp only[pR,γ] at i;subst i;refine wpIn_seq (Yv X y.1 h λE vs V s=>?_);show l.wpIn _ _ _ _ E w;obtain⟨ms,U,Z⟩:=h.defers;refine wpIn_mono (Q none .plain yt rfl Ax _ b _ out s2 J v H l Y _ A w σ st.o E w σ trivial (ξ _) s) ?_;rintro e B w' ⟨rfl,t,L⟩;exact⟨rfl,y.2,w,σ,t,a.defers,vs,by simp_all,h.sim,h.ext,V,L⟩
    ·cases k
   ·split at k
    ·rename_i r B x b hr F;simp only[γ,ι] at k;obtain⟨rfl,rfl,rfl⟩:=k;simp only[pR] at i;split at i
     ·rename_i u M;refine wpIn_seq (wpIn_mono (Q none .plain yt rfl Ax lo r st .norm u M v H (.region W K _) (by grind[comp]) [] A C p D a w σ trivial I h) ?_);rintro e E q ⟨rfl,j,s⟩;exact G B u E q j F i s
     ·cases i
    ·cases k;|_=>simp[tC] at k
 |_=>
  intro z st a w σ k;simp[tC] at k
theorem Yt {T:jn} (hT:jZ P T) {n:Nat} (ih:yu P T n) {f:FuncId} {fn:Func} {code:Code} {H:List RH} {ia ib:IR} {g:FuncId} {caps:List Operand} {d:Nat} {rs:List lS}
  (hfn:P.funcs[f]?=some fn) (hcode:fn.body=some code) (hb:tC P fn.ntmps H code=some (ia,(g,caps,d),ib)) (hrs:p8 (qC P) fn.results.toList=some rs) (hnt:¬fn.ntmps<fn.params.size+fn.nfree)
  {args:List AV} {out ayl:Out} {s0 s2 s3:St} (hlen:args.length=fn.params.size+fn.nfree) (hout:out= .norm\/out= .ret) (h1:pR (exec T .plain n o.length) ia ⟨gl 0 args,o⟩=some s0) (h2:exec T .plain n s0.o.length ib ⟨(d,.ud)::s0.env,s0.o⟩=some (out,s2))
  {F:ey} (hF:T.fn g=some F) (hcl:(caps.map (dM s0.env)).length=F.params) (hre:F.res=[]) (h3:exec T .plain n s2.o.length F.body ⟨gl 0 (caps.map (dM s0.env)),s2.o⟩=some (ayl,s3)) (aYD:ayl= .norm\/ayl= .ret)
  {r0 r:AV} (hr0:mL ⟨s2.env,s3.o⟩ rs=some r0) {own:Bool} (hfi:finish own o.length r0 s3.o=some (r,o'))
  {vs:List Value} (hS:OM A w σ o) (hr:Aq A w σ o args vs):
  CallsIn (FR none) 0 P f vs.toArray w λe w'=>∃u σ',e= .returned u/\OM A w' σ' o'/\nA A w' σ' o' r u/\Ext w σ o w' σ' o':=by
 have hvl:=Aq.length _ _ hr;obtain⟨fg,Hg,hfg,hcg,hgg⟩:=hT.fn g F hF;obtain⟨cg,aPM,aPN,hpg,hrg⟩:∃cg,fg.body=some cg/\comp P fg.ntmps Hg cg=some F.body/\F.params<=fg.ntmps/\p8 (qC P) fg.results.toList=some []:=by
  unfold Bz at hcg;split at hcg;·cases hcg
  ·rename_i cg aYE;split at hcg
   ·rename_i b rs' hb' aYF;split at hcg;·cases hcg
    ·rename_i aYG;injection hcg with hcg;subst hcg;simp only at h3 hre ⊢;subst hre;unfold He at hb';split at hb';·simp_all
     ·obtain⟨x,_,rfl⟩:=ε.1 hb';cases n<;>simp[exec] at h3
   ·cases hcg
 refine callsIn_of_wp_marks (F:=FR none) hfn hcode trivial (wpIn_mono (Yu ih (ξ _) h2 code ia _ _ w σ hb h1 (Gd hS hr (by omega))) ?_);rintro e a' w' ⟨rfl,hg,w1,σ1,σ',ds,cv,wE,hS1,hE1,hcv,hs'⟩;have key:LeavesInM (FR none) 0 P fn a'.tmps (λe w'=>∃u σ',e= .returned u/\OM A w' σ' o'/\nA A w' σ' o' r u/\Ext w σ o w' σ' o') a'.defers .returning w':=by
  obtain⟨ms,hms,hM⟩:=hs'.defers;rw[hms];refine Ay ms w' hM hs'.sim λw2 q1 q3 q4=>?_;simp only[LeavesInM];refine⟨by simp,.inr ⟨λh=>by grind[FR,Fence.wide],.func g,cv.toArray,g,cv.toArray,rfl,by simp[invoke,AA hg],λ_ _=>trivial,?_⟩⟩;have aHv:Aq A w2 σ' s2.o (caps.map (dM s0.env)) cv:=by
   have e1:Ext w1 σ1 s0.o w' σ' s2.o:=hs'.ext;grind[Aq.ext]
  have aYH:=Aq.length _ _ aHv;refine CallsDIn.mono (XW (A:=A) hfg aPM (R:=λe w3=>∃u σ3,e= .returned u/\OM A w3 σ3 s3.o/\Ext w2 σ' s2.o w3 σ3 s3.o) (wpIn_mono (ih none .plain yt rfl Ax _ F.body _ ayl s3 h3 fg.ntmps Hg cg aPN [] A w2 σ' s2.o _ w2 σ' trivial (ξ _) (Gd q1 aHv (by omega))) ?_)) ?_
  ·rintro e a3 w3 ⟨rfl,σ3,hs3⟩;obtain⟨ms3,aPO,Cf⟩:=hs3.defers;rw[γR] at aPO;refine⟨by grind[Out.rU],w2,σ3,s3.o,by simp_all,hs3.sim,λw4 k1 k2 k3=>?_⟩;have hs4:cq A fg.ntmps [] w2 σ' s2.o s3 {a3 with defers:=[]} w4 σ3:=⟨k1,λs=>k3 _ _ (hs3.env s),hs3.size,⟨[],rfl,δv,by simp⟩,k2 hs3.ext⟩;obtain⟨u,hu,_⟩:=Ge hs4 hrg (r:=.Gz []) rfl;exact⟨u,hu,u,σ3,rfl,k1,k2 hs3.ext⟩
  ·rintro e u' w3 ⟨rfl,u,σ3,rfl,p1,p2⟩;show LeavesInM (FR none) 0 P fn a'.tmps _ ds (settle .returning) w3;rw[show settle FrameMode.returning= .returning from rfl,<-γR ds];have e13:Ext w1 σ1 s0.o w3 σ3 s3.o:=(q3 hs'.ext).trans p2;refine Ay ds w3 (wE.ext hS1 e13) p1 λw4 t1 t3 t4=>?_;simp only[LeavesInM,LeavesIn];have hs4:cq A fn.ntmps [] w σ o ⟨s2.env,s3.o⟩ {a' with defers:=[]} w4 σ3:=⟨t1,λs=>t4 _ _ ((q4 _ _ (hs'.env s)).ext p2),hs'.size,⟨[],rfl,δv,by simp⟩,t3 (hE1.trans e13)⟩;obtain⟨u,hu,hru⟩:=Ge hs4 hrs hr0;have hfin:=N5 hs4.sim hs4.ext hru hfi;simp_all
 rcases hout with rfl|rfl;·exact key
 ·exact key
theorem N1 {T:jn} (N:jZ P T) {n:Nat} (ih:yu P T n):nT P (oF T (exec T .plain n)):=by
 intro f e o m r I c;unfold oF at c;split at c
 ·rename_i x hK;injection c with c;subst c;exact N.K _ _ _ _ _ _ hK
 ·split at c;·cases c
  ·rename_i F J;obtain⟨fn,H,y,a,hg⟩:=N.fn f F J;split at c
   ·rename_i k;unfold Bz at a;split at a;·cases a
    ·rename_i a0 j;split at a
     ·rename_i b rs i D;split at a;·cases a
      ·rename_i E;injection a with a;subst a;simp only at c k;have p:∀{t:AV} {u:St},finish m o.length t u.o=some (r,I)->m=false->I=[]:=λl ho=>by
        subst ho;unfold finish at l;grind
       unfold He at i;split at i
       ·rename_i V S;injection i with i;subst i;have R:∀(x:Option (Out×St)),ry T (exec T .plain n) o.length V ⟨gl 0 e,o⟩=x->exec T .plain n o.length V ⟨gl 0 e,o⟩=x:=λx hx=>by
         unfold ry at hx;grind[Yx]
        have a1:∀(h:Out) (u:St),(h= .norm\/h= .ret)->ry T (exec T .plain n) o.length V ⟨gl 0 e,o⟩=some (h,u)->∀t,mL u rs=some t->finish m o.length t u.o=some (r,I)->
          fU P f=true/\jB P f e o r I/\(m=false->I=[]):=by
         intro h u G Q t s l;exact⟨hg,λA w σ vs L U=>(callsIn_wide (n:=0)).1 (Yy ih (md:=.plain) (B:=yt) rfl Ax y j S D E k G (R _ Q) s l trivial L U),p l⟩
        grind
       ·obtain⟨⟨ia,⟨g,q,d⟩,ib⟩,S,rfl⟩:=ε.1 i;simp only[ry] at c;cases W:pR (exec T .plain n o.length) ia ⟨gl 0 e,o⟩ with
        |none=>simp_all;|some v=>
        simp only[W] at c;cases h2:exec T .plain n v.o.length ib ⟨(d,.ud)::v.env,v.o⟩ with
        |none=>simp_all;|some x2=>
        obtain⟨h,Y⟩:=x2;simp only[h2] at c;cases Z:pQ h with
        |false=>simp_all;|true=>
        simp only[Z,if_true] at c;unfold Hi at c;cases J:T.fn g with
        |none=>simp_all;|some O=>
        simp only[J] at c;by_cases M:(q.map (dM v.env)).length=O.params/\O.res.isEmpty=true
        ·rw[if_pos M] at c;cases X:exec T .plain n Y.o.length O.body ⟨gl 0 (q.map (dM v.env)),Y.o⟩ with
         |none=>simp_all;|some x3=>
         obtain⟨C,s3⟩:=x3;simp only[X] at c;cases z:pQ C with
         |false=>simp_all;|true=>
         simp only[z,if_true] at c;split at c
         ·rename_i t s;exact⟨hg,λA w σ vs L U=>(callsIn_wide (n:=0)).1 (Yt N ih y j S D E k (N2 Z) W h2 J M.1 (List.isEmpty_iff.1 M.2) X (N2 z) s c L U),p c⟩
         ·cases c
        simp_all
     ·cases a
   ·cases c
end
open Go.RowKit
section
variable {P:Program} {A:dc} {D:List Deferred} {w w':World} {σ σ':TM} {o o':a_}
theorem Ys {rnd:Option Nat} {Q:Exit->Act->World->Prop} {a:Act} {w:World} {c:Code} (h:c.wpIn (FR rnd) 0 P (Exit.noGoto Q) a w):(Code.scope c).wpIn (FR rnd) 0 P Q a w:=by
 intro b k n o p m;obtain⟨e,d,f,j,g⟩:=h b (.inScope c::k) n o p m;have s:step P (lone (b.atR a (.code (.scope c)::k)) n w)= .next (lone (b.atR a (.code c:: .inScope c::k)) n w):=step_lone_go (by simp[stepG,stepG.exec,Frame.atR]);have q:step P (lone (b.atR d (.inScope c::k)) n f)= .next (lone (b.atR d k) n f):=step_lone_go (by simp[stepG,stepG.exec,Frame.atR]);have i:=StepsIn.one (I:=Machine.fenced P (FR rnd)) (fenced_calm (fr:=b.atR a (.code (.scope c)::k)) p m rfl) s;cases e with
 |normal=>exact⟨.normal,d,f,j,(StepsIn.trans i (StepsIn.trans g (.one (fenced_calm (fr:=b.atR d (.inScope c::k)) p m rfl) q)))⟩;|exit u=>exact⟨.exit u,d,f,j,.of_steps i ⟨λr t=>g.1 r (by grind[exitTo]),λm t=>by obtain⟨x,z,v⟩:=g.2 m (by grind[exitTo]);grind⟩⟩;|goto l=>exact j.elim;|ret=>exact⟨_,d,f,j,.of_steps i g⟩;|panic y=>exact⟨_,d,f,j,.of_steps i g⟩;|outgrown=>exact⟨_,d,f,j,.of_steps i g⟩
def yq (rnd:Option Nat) (P:Program) (b:Code) (l:Nat) (Q:Exit->Act->World->Prop):Nat->Code->Act->World->Prop
 |0,_,_,_=>False
 |n+1,x,a,w=>x.wpIn (FR rnd) 0 P (λe d c=>match e with
   | .goto f=>f=l/\yq rnd P b l Q n b d c
   |e=>Q e d c) a w
theorem Yr {rnd:Option Nat} {Q:Exit->Act->World->Prop} {a:Act} {w:World} {c i:Code} {l:Nat} (S:findLabel c l=some i) {n:Nat} (h:yq rnd P i l Q n c a w):(Code.scope c).wpIn (FR rnd) 0 P Q a w:=by
 intro b k p A y t;have E:gotoIn l (.inScope c::k)=some (.code i:: .inScope c::k):=by grind[gotoIn]
 have B:∀n x a w,yq rnd P i l Q n x a w->∃e u v,Q e u v/\ArrivesIn (Machine.fenced P (FR rnd)) P (lone (b.atR a (.code x:: .inScope c::k)) p w) b k p e u v:=by
  intro n;induction n with
  |zero=>intro x a w h;exact h.elim;|succ n J=>
   intro x a w h;obtain⟨e,d,g,m,f⟩:=h b (.inScope c::k) p A y t;have G:step P (lone (b.atR d (.inScope c::k)) p g)= .next (lone (b.atR d k) p g):=step_lone_go (by simp[stepG,stepG.exec,Frame.atR]);cases e with
   |normal=>exact⟨.normal,d,g,m,StepsIn.trans f (.one (fenced_calm (fr:=b.atR d (.inScope c::k)) y t rfl) G)⟩;|exit K=>exact⟨.exit K,d,g,m,λD C=>f.1 D (by grind[exitTo]),λt C=>by obtain⟨M,O,N⟩:=f.2 t (by grind[exitTo]);grind⟩;|goto L=>
    obtain⟨rfl,H⟩:=m;obtain⟨q,r,s,o,j⟩:=J i d g H;exact⟨q,r,s,o,.of_steps (f.1 _ E) j⟩;|ret=>exact⟨_,d,g,m,f⟩;|panic R=>exact⟨_,d,g,m,f⟩;|outgrown=>exact⟨_,d,g,m,f⟩
 have F:step P (lone (b.atR a (.code (.scope c)::k)) p w)= .next (lone (b.atR a (.code c:: .inScope c::k)) p w):=step_lone_go (by simp[stepG,stepG.exec,Frame.atR]);have z:=StepsIn.one (I:=Machine.fenced P (FR rnd)) (fenced_calm (fr:=b.atR a (.code (.scope c)::k)) y t rfl) F;obtain⟨e,u,v,m,f⟩:=B n c a w h;exact⟨e,u,v,m,.of_steps z f⟩
theorem Yq {b:Code} {l c:Nat} {H:List RH} {x:IR} (h:Bg b=some l) (d:comp P c H b=some x):∃a,findLabel b l=some a/\comp P c H a=some x:=by
 unfold Bg at h;grind[findLabel,comp]
theorem N0 {T:jn} (hT:jZ P T):∀n,yu P T n/\(∀(rnd:Option Nat) (md:Md) (B:dc->World->TM->a_->Prop),ti P rnd B md->eL B->∀(lo:Nat) (b:IR) (st:St) (out:Out) (st':St),exec T md n lo (.loop b) st=some (out,st')->∀(q:Nat) (H:List RH) (f:Code),comp P q H f=some b->∀(D:List Deferred) (A:dc) (r:World) (d:TM) (m:a_) (a:Act) (w:World) (σ:TM),B A r d m->
   m.length<=lo->cq A q D r d m st a w σ->Code.roundsIn (FR rnd) 0 P f (λe v w'=>e=out.rU/\∃u,cq A q D r d m st' v w' u) n a w)/\∀(rnd:Option Nat) (md:Md) (B:dc->World->TM->a_->Prop),ti P rnd B md->eL B->∀(lo l:Nat) (b:IR) (st:St) (out:Out) (st':St),exec T md n lo (.turns (some l) b) st=some (out,st')->∀(q:Nat) (H:List RH) (f s:Code),comp P q H f=some b->comp P q H s=some b->∀(D:List Deferred) (A:dc) (r:World) (d:TM) (m:a_) (a:Act) (w:World) (σ:TM),B A r d m->
   m.length<=lo->cq A q D r d m st a w σ->yq rnd P s l (λe v w'=>e=out.rU/\∃u,cq A q D r d m st' v w' u) n f a w
 |0=>⟨λrnd md B _ _ lo c st out st' h=>by grind[exec],λrnd md B _ _ lo b st out st' h=>by grind[exec],λrnd md B _ _ lo l b st out st' h=>by grind[exec]⟩
 |n+1=>by
  obtain⟨I,a0,Z⟩:=N0 hT n;have M:∀(rnd:Option Nat) (md:Md) (B:dc->World->TM->a_->Prop),ti P rnd B md->eL B->∀(lo:Nat) (b:IR) (st:St) (out:Out) (st':St),exec T md (n+1) lo (.loop b) st=some (out,st')->∀(q:Nat) (H:List RH) (f:Code),comp P q H f=some b->∀(D:List Deferred) (A:dc) (r:World) (d:TM) (m:a_) (a:Act) (w:World) (σ:TM),B A r d m->
    m.length<=lo->cq A q D r d m st a w σ->Code.roundsIn (FR rnd) 0 P f (λe v w'=>e=out.rU/\∃u,cq A q D r d m st' v w' u) (n+1) a w:=by
   intro rnd md B C E lo b st out st' h q H f p D A r d m a w σ j i t;simp only[exec] at h;split at h
   ·rename_i F Q;have O:=I rnd md B C E lo b st .norm F Q q H f p _ A r d m a w σ j i t;rw[roundsIn_succ];refine wpIn_mono O ?_;rintro e v w' ⟨rfl,u,g⟩;obtain⟨N,L⟩:=g.trim (k:=st.o.length) t.len;exact a0 rnd md B C E lo b _ out st' h q H f p _ A r d m v w' N j i L
   ·rename_i K;have O:=I rnd md B C E lo b st out st' h q H f p _ A r d m a w σ j i t;rw[roundsIn_succ];refine wpIn_mono O ?_;rintro e v w' ⟨rfl,g⟩;cases out with
    |norm=>simp_all;|exit S=>exact⟨rfl,g⟩;|ret=>exact⟨rfl,g⟩;|goto l=>exact⟨rfl,g⟩
  have R:∀(rnd:Option Nat) (md:Md) (B:dc->World->TM->a_->Prop),ti P rnd B md->eL B->∀(lo l:Nat) (b:IR) (st:St) (out:Out) (st':St),exec T md (n+1) lo (.turns (some l) b) st=some (out,st')->∀(q:Nat) (H:List RH) (f s:Code),comp P q H f=some b->comp P q H s=some b->∀(D:List Deferred) (A:dc) (r:World) (d:TM) (m:a_) (a:Act) (w:World) (σ:TM),B A r d m->
    m.length<=lo->cq A q D r d m st a w σ->yq rnd P s l (λe v w'=>e=out.rU/\∃u,cq A q D r d m st' v w' u) (n+1) f a w:=by
   intro rnd md B C E lo l b st out st' h q H f s p hr D A r d m a w σ j i t;simp only[exec] at h;split at h
   ·rename_i l' F Q;split at h
    ·rename_i U;injection U with U;subst U;refine wpIn_mono (I rnd md B C E lo b st (.goto l) F Q q H f p _ A r d m a w σ j i t) ?_;rintro e v w' ⟨rfl,u,g⟩;obtain⟨N,L⟩:=g.trim (k:=st.o.length) t.len;exact⟨rfl,Z rnd md B C E lo l b _ out st' h q H s s hr hr _ A r d m v w' N j i L⟩
    ·cases h
   ·rename_i K;refine wpIn_mono (I rnd md B C E lo b st out st' h q H f p _ A r d m a w σ j i t) ?_;rintro e v w' ⟨rfl,g⟩;cases out with
    |norm=>exact⟨rfl,g⟩;|exit S=>exact⟨rfl,g⟩;|ret=>exact⟨rfl,g⟩;|goto l=>simp_all
  refine⟨λrnd md B C E lo c st out st' h q H f p D A r d m a w σ j i t=>?_,M,R⟩;cases f with
  |skip=>
   simp only[comp,γ] at p;subst p;simp only[exec,γ,ι] at h;obtain⟨rfl,rfl⟩:=h;exact wpIn_skip ⟨rfl,σ,t⟩;|scope b=>
   simp only[comp] at p;obtain⟨V,J,rfl⟩:=ε.1 p;cases U:Bg b with
   |some l=>
    grind[Yq,Yr];|none=>
    rw[U] at h;simp only[exec] at h;refine Ys ?_;split at h;·simp_all
    ·rename_i K;refine wpIn_mono (I rnd md B C E lo V st out st' h q H b J _ A r d m a w σ j i t) ?_;rintro e v w' ⟨rfl,g⟩;cases out with
     |norm=>exact⟨rfl,g⟩;|exit S=>exact⟨rfl,g⟩;|ret=>exact⟨rfl,g⟩;|goto l=>simp_all
  |goto l=>
   simp only[comp,γ] at p;subst p;simp only[exec,γ,ι] at h;obtain⟨rfl,rfl⟩:=h;exact wpIn_goto ⟨rfl,σ,t⟩;|label l=>
   simp only[comp,γ] at p;subst p;simp only[exec,γ,ι] at h;obtain⟨rfl,rfl⟩:=h;exact wpIn_label ⟨rfl,σ,t⟩;|region S a8 a3=>
   simp only[comp] at p;obtain⟨k,l,a4,a1,a7,a2,rfl,hw⟩:=YB (N1 hT I) C E (A:=A) (lo:=lo) p;simp only[exec] at h;split at h
   ·rename_i a5 h2;simp only[γ,ι] at h;obtain⟨rfl,rfl⟩:=h;exact hw h2 j i t
   ·cases h;|seq x y=>
   simp only[comp] at p;split at p
   ·rename_i V W J X;injection p with p;subst p;simp only[exec] at h;split at h
    ·rename_i F Q;refine wpIn_seq (wpIn_mono (I rnd md B C E lo V st .norm F Q q H x J _ A r d m a w σ j i t) ?_);rintro e v w' ⟨rfl,u,g⟩;exact I rnd md B C E lo W F out st' h q H y X _ A r d m v w' u j i g
    ·rename_i K;refine wpIn_seq (wpIn_mono (I rnd md B C E lo V st out st' h q H x J _ A r d m a w σ j i t) ?_);rintro e v w' ⟨rfl,g⟩;cases out with
     |norm=>simp_all;|exit S=>exact⟨rfl,g⟩;|ret=>exact⟨rfl,g⟩;|goto l=>exact⟨rfl,g⟩
   ·cases p;|cond x y z=>
   simp only[comp] at p;split at p
   ·rename_i W z' X hz;injection p with p;subst p;by_cases hk:Ph H x=true
    ·rw[if_pos hk] at h;simp only[exec] at h;have J:=t.ev x;split at h
     ·rename_i G;rw[G] at J;exact wpIn_cond_true (fN J) (I rnd md B C E lo W _ out st' h q H y X _ A r d m a w σ j i t)
     ·rename_i G;rw[G] at J;exact wpIn_cond_false (fN J) (I rnd md B C E lo z' _ out st' h q H z hz _ A r d m a w σ j i t)
     ·cases h
    rw[if_neg hk] at h;simp only[exec] at h;have J:=t.ev x;split at h
    ·rename_i G;rw[G] at J;exact wpIn_cond_true (fN J) (I rnd md B C E lo W _ out st' h q H y X _ A r d m a w σ j i (t.drop x))
    ·rename_i G;rw[G] at J;exact wpIn_cond_false (fN J) (I rnd md B C E lo z' _ out st' h q H z hz _ A r d m a w σ j i (t.drop x))
    ·cases h
   ·cases p;|block S b=>
   simp only[comp] at p;obtain⟨b',O,rfl⟩:=ε.1 p;simp only[exec] at h;split at h
   ·rename_i Y F Q;refine wpIn_block (wpIn_mono (I rnd md B C E lo b' st (.exit Y) F Q q H b O _ A r d m a w σ j i t) ?_);rintro e v w' ⟨rfl,g⟩;simp only[Out.rU,Exit.inBlock];grind
   ·rename_i K;refine wpIn_block (wpIn_mono (I rnd md B C E lo b' st out st' h q H b O _ A r d m a w σ j i t) ?_);rintro e v w' ⟨rfl,g⟩;cases out with
    |norm=>exact⟨rfl,g⟩;|exit a6=>simp_all;|ret=>exact⟨rfl,g⟩;|goto l=>exact⟨rfl,g⟩
  |loop b=>
   simp only[comp] at p;obtain⟨b',O,rfl⟩:=ε.1 p;grind[wpIn_loop_rounds];|exit S=>
   simp only[comp,γ] at p;subst p;simp only[exec,γ,ι] at h;obtain⟨rfl,rfl⟩:=h;exact wpIn_exit ⟨rfl,σ,t⟩;|ret=>
   simp only[comp,γ] at p;subst p;simp only[exec,γ,ι] at h;obtain⟨rfl,rfl⟩:=h;exact wpIn_ret ⟨rfl,σ,t⟩;|_=>grind[comp]
theorem Gc {T:jn} (a:jZ P T) (n:Nat):nT P (oF T (exec T .plain n)):=N1 a (N0 a n).1
end
def Ev (T:jn) (md:Nat->Md) (lo:Nat) (c:IR) (st:St) (r:Out×St):Prop:=∃N,∀m n,N<=m->N<=n->exec T (md m) n lo c st=some r
abbrev xI:Nat->Md:=λ_=> .plain
section
variable {T:jn} {md:Nat->Md} {lo:Nat} {st st1 st':St} {r:Out×St} {a b:IR} {out:Out}
theorem Ev.mk (N:Nat) (h:∀m n,N<=m->N<=n->exec T (md m) (n+1) lo a st=some r):Ev T md lo a st r:=
 ⟨N+1,λm n c b=>by
  match n,b with
  |n+1,b=>grind⟩
theorem Ev.skip:Ev T md lo .skip st (.norm,st):=.mk 0 λ_ _ _ _=>by simp only[exec]
theorem Ev.ret:Ev T md lo .ret st (.ret,st):=.mk 0 λ_ _ _ _=>by simp only[exec]
theorem Ev.exit {id:Nat}:Ev T md lo (.exit id) st (.exit id,st):=.mk 0 λ_ _ _ _=>by simp only[exec]
theorem Ev.seq (h:Ev T md lo a st (.norm,st1)) (k:Ev T md lo b st1 r):Ev T md lo (.seq a b) st r:=by
 obtain⟨N,h⟩:=h;obtain⟨M,k⟩:=k;exact .mk (N+M) λm n c d=>by simp only[exec,h m n (by omega) (by omega),k m n (by omega) (by omega)]
theorem Ev.Yp (h:Ev T md lo a st (out,st1)) (c:out≠ .norm):Ev T md lo (.seq a b) st (out,st1):=by
 obtain⟨N,h⟩:=h;exact .mk N λm n e d=>by
  simp_all[exec]
theorem Ev.Yo {x:Operand} (d:dM st.env x= .sc (.bool true)) (h:Ev T md lo a ⟨nY x st.env,st.o⟩ r):Ev T md lo (.cond x a b) st r:=by
 obtain⟨N,h⟩:=h;exact .mk N λm n c e=>by simp_all[exec]
theorem Ev.Yn {x:Operand} (d:dM st.env x= .sc (.bool false)) (h:Ev T md lo b ⟨nY x st.env,st.o⟩ r):Ev T md lo (.cond x a b) st r:=by
 obtain⟨N,h⟩:=h;exact .mk N λm n c e=>by simp_all[exec]
theorem Ev.nr {x:Operand} {q:Bool} (g:dM st.env x= .sc (.bool q)) (e:q=true->Ev T md lo a st r) (d:q=false->Ev T md lo b st r):Ev T md lo (.nr x a b) st r:=by
 cases q with
 |true=>
  obtain⟨N,h⟩:=e rfl;exact .mk N λm n c f=>by simp_all[exec];|false=>
  obtain⟨N,h⟩:=d rfl;exact .mk N λm n c f=>by simp_all[exec]
def Out.inBlock (id:Nat):Out->Out
 | .exit a=>if a=id then .norm else .exit a
 |o=>o
theorem Ev.block {id:Nat} (h:Ev T md lo a st (out,st1)):Ev T md lo (.block id a) st (out.inBlock id,st1):=by
 obtain⟨N,h⟩:=h;exact .mk N λm n b c=>by
  simp only[exec,h m n b c];cases out<;>grind[exit,Out.inBlock]
theorem Ev.Ym (h:Ev T md lo a st (.norm,st1)) (k:Ev T md lo (.loop a) (trim st.o.length st1) r):Ev T md lo (.loop a) st r:=by
 obtain⟨N,h⟩:=h;obtain⟨M,k⟩:=k;exact .mk (N+M) λm n b c=>by
  simp only[exec,h m n (by omega) (by omega)];grind
theorem Ev.Yl (h:Ev T md lo a st (out,st1)) (b:out≠ .norm):Ev T md lo (.loop a) st (out,st1):=by
 obtain⟨N,h⟩:=h;exact .mk N λm n d c=>by
  simp_all[exec]
theorem Ev.goto {l:Nat}:Ev T md lo (.goto l) st (.goto l,st):=.mk 0 λ_ _ _ _=>by simp only[exec]
theorem Ev.Yk {l:Nat} (h:Ev T md lo a st (.goto l,st1)) (k:Ev T md lo (.turns (some l) a) (trim st.o.length st1) r):Ev T md lo (.turns (some l) a) st r:=by
 obtain⟨N,h⟩:=h;obtain⟨M,k⟩:=k;exact .mk (N+M) λm n b c=>by
  simp only[exec,h m n (by omega) (by omega),if_true];grind
theorem Ev.NZ {l:Option Nat} (h:Ev T md lo a st (out,st1)) (c:∀b,out≠ .goto b):Ev T md lo (.turns l a) st (out,st1):=by
 obtain⟨N,h⟩:=h;exact .mk N λm n e d=>by
  simp_all[exec]
theorem Ev.region {id k:Nat} {b:Bool} {f:List cM} {d:List (Nat×Nat)} {a:List Nat} {e c:List iO}
  (h:∃N,∀g m,N<=m->Hh (md m) b (oF T g) k f d (e.foldl (λs h=>jE lo h s) st)=some st'):
  Ev T md lo (.region id b k f d a e c) st (.norm,c.foldl (λs h=>jE lo h s) ⟨eK a st'.env,st'.o⟩):=by
 obtain⟨N,h⟩:=h;exact .mk N λm n i _=>by simp_all[exec]
theorem Yj {P:Program} (i:jZ P T) {f:FuncId} {F:ey} (l:T.fn f=some F) {args:List AV} {o:a_} {own:Bool} (g:T.K f args o own=none) (d:args.length=F.params)
  (h:Ev T xI o.length F.body ⟨gl 0 args,o⟩ (out,st')) (c:out= .norm\/out= .ret) {b v:AV} {o':a_} (k:mL st' F.res=some b) (a:finish own o.length b st'.o=some (v,o')):
  fU P f=true/\jB P f args o v o'/\(own=false->o'=[]):=by
 obtain⟨N,h⟩:=h;refine Gc i N f args o own v o' ?_;unfold oF;rw[g];have h:=h N N (ξ _) (ξ _);have j:ry T (exec T .plain N) o.length F.body ⟨gl 0 args,o⟩=some (out,st'):=by
  unfold ry;split
  ·rename_i e;rw[e] at h;cases N<;>simp[exec] at h
  ·exact h
 grind
theorem Yi {P:Program} (A:jZ P T) {f:FuncId} {F:ey} (z:T.fn f=some F) {g:FuncId} {a:List Operand} {d:Nat} {w u:IR} (e:F.body= .dfr g a d w u) {args:List AV} {o:a_} {own:Bool} (E:T.K f args o own=none) (k:args.length=F.params)
  {s0 s2 s3:St} {b:Out} {G:ey} (t:∃N,∀n,N<=n->pR (exec T .plain n o.length) w ⟨gl 0 args,o⟩=some s0) (s:Ev T xI s0.o.length u ⟨(d,.ud)::s0.env,s0.o⟩ (out,s2)) (l:pQ out=true)
  (D:T.fn g=some G) (q:(a.map (dM s0.env)).length=G.params) (p:G.res.isEmpty=true) (r:Ev T xI s2.o.length G.body ⟨gl 0 (a.map (dM s0.env)),s2.o⟩ (b,s3)) (c:pQ b=true)
  {x v:AV} {o':a_} (C:mL ⟨s2.env,s3.o⟩ F.res=some x) (m:finish own o.length x s3.o=some (v,o')):
  fU P f=true/\jB P f args o v o'/\(own=false->o'=[]):=by
 obtain⟨h,t⟩:=t;obtain⟨j,s⟩:=s;obtain⟨i,r⟩:=r;refine Gc A (h+j+i) f args o own v o' ?_;unfold oF;rw[E];simp only[z,if_pos k,e,ry,t _ (show h<=h+j+i by omega)];have y:=s (h+j+i) (h+j+i) (by omega) (by omega);have B:=r (h+j+i) (h+j+i) (by omega) (by omega);simp only[y,l,if_true,Hi,D,if_pos (And.intro q p),B,c,C,m]
end
section
variable {call call':cy}
def me (call b:cy):Prop:=∀f a o c r,call f a o c=some r->b f a o c=some r
theorem me.oF (T:jn) (b:Nat->IR->St->Option (Out×St)):me T.K (oF T b):=by
 intro f a o c r h;grind[Go.Vi.oF]
theorem me.fV (h:me call call') {f:FuncId} {args:List AV} {o:a_} {own:Bool} {r:AV×a_} (a:fV call f args o own=some r):fV call' f args o own=some r:=by
 unfold Go.Vi.fV at a ⊢;split at a
 ·rename_i b;rw[if_pos b];unfold gT at a ⊢;simp only at a ⊢;split at a
  ·split at a
   ·rename_i e d c;rw[h _ _ _ _ _ c];exact a
   ·cases a
  ·cases a
 ·rename_i b;rw[if_neg b];split at a;·cases a
  ·split at a
   ·rename_i c;rw[h _ _ _ _ _ c];exact a
   ·cases a
theorem me.qe (h:me call call') {op:bT} {ρ:Operand->AV} {o:a_} {oz:Nat} {r:AV×a_} (hc:qe call op ρ o oz=some r):qe call' op ρ o oz=some r:=by
 cases op with
 |call f args own=>exact h.fV hc;|ak7 f args own=>
  simp only[θa,Hj,Pm] at hc ⊢;split at hc;·exact h.fV hc
  ·cases hc;|aok tab x args=>
  simp only[θa,Hj,Pl] at hc ⊢;split at hc
  ·split at hc;·exact h.fV hc
   ·cases hc
  ·cases hc;|_=>exact hc
theorem me.gn (h:me call call') {base:Nat} {i:cM} {st st':St} (a:gn call base i st=some st'):gn call' base i st=some st':=by
 unfold Go.Vi.gn at a ⊢;split at a;·cases a
 ·exact a
 ·split at a
  ·rename_i b;rw[h.qe b];exact a
  ·cases a
theorem me.dJ (h:me call call') {b:bT} {ρ:Operand->AV} {o:a_} {oz:Nat} {r:AV×a_} (d:θa call b ρ o oz=some r):Go.Vi.dJ call' b ρ o oz=Go.Vi.dJ call b ρ o oz:=by
 unfold Go.Vi.dJ;split
 ·rename_i f a;have c:Go.Vi.fV call f (a.map ρ) o true=some r:=d;have e:=h.fV c;simp_all[Go.Vi.fV]
 ·rfl
theorem me.fy (h:me call call') {base:Nat}:∀{l:List cM} {st st':St},fy call base l st=some st'->fy call' base l st=some st'/\lv call' base l st=lv call base l st
 |[],_,_,b=>⟨b,rfl⟩
 |i::l,st,st',b=>by
  simp only[Go.Vi.fy] at b ⊢;split at b
  ·rename_i g a;obtain⟨j,c⟩:=h.fy b;have f:=h.gn a;refine⟨by simp_all,?_⟩;simp only[lv,a,f,c];congr 1;split
   ·rename_i e;unfold Go.Vi.gn at a;rw[e] at a;simp only at a;split at a
    ·rename_i d;rw[h.dJ d]
    ·cases a
   ·rfl
  ·cases b
theorem me.nZ (h:me call call') {k:Nat} {b:List cM} {a:List (Nat×Nat)} {st st':St} (c:nZ call k b a st=some st'):nZ call' k b a st=some st':=by
 unfold Go.Vi.nZ at c ⊢;simp only at c ⊢;split at c
 ·rename_i e d;obtain⟨f,g⟩:=h.fy d;simp_all
 ·cases c
end
def VW (T:jn) (md:Nat->Md) (lo:Nat) (c:IR) (st:St) (Q:Out->St->Prop):Prop:=∃b a,Ev T md lo c st (b,a)/\Q b a
def RQ (x:Option St) (Q:St->Prop):Prop:=match x with|some a=>Q a|none=>False
section
variable {T:jn} {md:Nat->Md} {lo:Nat} {st:St} {a b:IR} {Q Q':Out->St->Prop}
theorem VW.mono (h:VW T md lo a st Q) (d:∀o s,Q o s->Q' o s):VW T md lo a st Q':=by
 obtain⟨o,s,b,c⟩:=h;exact⟨o,s,b,d o s c⟩
theorem VW.skip (h:Q .norm st):VW T md lo .skip st Q:=⟨_,_,.skip,h⟩
theorem VW.ret (h:Q .ret st):VW T md lo .ret st Q:=⟨_,_,.ret,h⟩
theorem VW.exit {id:Nat} (h:Q (.exit id) st):VW T md lo (.exit id) st Q:=⟨_,_,.exit,h⟩
theorem VW.seq (h:VW T md lo a st λout s=>if out= .norm then VW T md lo b s Q else Q out s):VW T md lo (.seq a b) st Q:=by
 obtain⟨o,s,e,c⟩:=h;by_cases d:o= .norm
 ·subst d;rw[if_pos rfl] at c;obtain⟨i,j,g,f⟩:=c;exact⟨i,j,e.seq g,f⟩
 ·rw[if_neg d] at c;exact⟨o,s,e.Yp d,c⟩
theorem VW.cond {x:Operand} {q:Bool} (e:dM st.env x= .sc (.bool q)) (h:if q=true then VW T md lo a ⟨nY x st.env,st.o⟩ Q else VW T md lo b ⟨nY x st.env,st.o⟩ Q):VW T md lo (.cond x a b) st Q:=by
 cases q with
 |true=>obtain⟨o,s,c,d⟩:=(by simpa using h:VW T md lo a ⟨nY x st.env,st.o⟩ Q);exact⟨o,s,.Yo e c,d⟩;|false=>obtain⟨o,s,c,d⟩:=(by simpa using h:VW T md lo b ⟨nY x st.env,st.o⟩ Q);exact⟨o,s,.Yn e c,d⟩
theorem VW.nr {x:Operand} {q:Bool} (e:dM st.env x= .sc (.bool q)) (h:if q=true then VW T md lo a st Q else VW T md lo b st Q):VW T md lo (.nr x a b) st Q:=by
 cases q with
 |true=>obtain⟨o,s,c,d⟩:=(by simpa using h:VW T md lo a st Q);exact⟨o,s,.nr e (λ_=>c) (λh=>by cases h),d⟩;|false=>obtain⟨o,s,c,d⟩:=(by simpa using h:VW T md lo b st Q);exact⟨o,s,.nr e (λh=>by cases h) (λ_=>c),d⟩
theorem VW.block {id:Nat} (h:VW T md lo a st λout s=>Q (out.inBlock id) s):VW T md lo (.block id a) st Q:=by
 obtain⟨o,s,b,c⟩:=h;exact⟨_,_,b.block,c⟩
theorem VW.region {id k:Nat} {d:Bool} {e:List cM} {c:List (Nat×Nat)} {b:List Nat} {f a:List iO}
  (h:RQ (nZ T.K k e c (f.foldl (λs h=>jE lo h s) st)) λst'=>Q .norm (a.foldl (λs h=>jE lo h s) ⟨eK b st'.env,st'.o⟩)):
  VW T md lo (.region id d k e c b f a) st Q:=by
 unfold RQ at h;split at h
 ·rename_i st' g;refine⟨_,_,Ev.region ⟨0,λi m _=>?_⟩,h⟩;have:=(me.oF T i).nZ g;exact this
 simp_all
theorem VW.loop (h:VW T md lo a st λout s=>if out= .norm then VW T md lo (.loop a) (trim st.o.length s) Q else Q out s):VW T md lo (.loop a) st Q:=by
 obtain⟨o,s,d,b⟩:=h;by_cases c:o= .norm
 ·subst c;rw[if_pos rfl] at b;obtain⟨g,i,f,e⟩:=b;exact⟨g,i,d.Ym f,e⟩
 ·rw[if_neg c] at b;exact⟨o,s,d.Yl c,b⟩
theorem VW.YN (I:Nat->St->Prop) (b:∀m s,I m s->VW T md lo a s λout s'=>if out= .norm then ∃c,c<m/\I c (trim s.o.length s') else Q out s'):
  ∀(m:Nat) (s:St),I m s->VW T md lo (.loop a) s Q:=by
 intro m;induction m using ζF with
 |_ m e=>
  intro s d;refine VW.loop ((b m s d).mono λo s' h=>?_);grind
theorem VW.goto {l:Nat} (h:Q (.goto l) st):VW T md lo (.goto l) st Q:=⟨_,_,.goto,h⟩
theorem VW.YM {l:Option Nat} (h:VW T md lo a st λout s=>(∀e,out≠ .goto e)/\Q out s):VW T md lo (.turns l a) st Q:=by
 obtain⟨o,s,b,c,d⟩:=h;exact⟨o,s,b.NZ c,d⟩
theorem VW.YL {l:Nat} (I:Nat->St->Prop) (b:∀m s,I m s->VW T md lo a s λout s'=>(out= .goto l/\∃c,c<m/\I c (trim s.o.length s'))\/((∀h,out≠ .goto h)/\Q out s')):
  ∀(m:Nat) (s:St),I m s->VW T md lo (.turns (some l) a) s Q:=by
 intro m;induction m using ζF with
 |_ m i=>
  intro s k;obtain⟨o,s',f,j⟩:=b m s k;rcases j with⟨rfl,c,d,e⟩|⟨d,e⟩
  ·obtain⟨p,q,n,g⟩:=i c d _ e;exact⟨p,q,f.Yk n,g⟩
  ·exact⟨o,s',f.NZ d,e⟩
theorem Aw {P:Program} (k:jZ P T) {f:FuncId} {F:ey} (g:T.fn f=some F) {args:List AV} {o:a_} {own:Bool} (j:T.K f args o own=none) (b:args.length=F.params) {v:AV} {o':a_}
  (h:VW T xI o.length F.body ⟨gl 0 args,o⟩ λout st'=>(out= .norm\/out= .ret)/\(mL st' F.res).bind (λc=>finish own o.length c st'.o)=some (v,o')):
  fU P f=true/\jB P f args o v o'/\(own=false->o'=[]):=by
 obtain⟨out,st',e,i,d⟩:=h;obtain⟨c,l,a⟩:=Option.bind_eq_some_iff.1 d;grind[Yj]
end
open Classical in
noncomputable def tR {α:Type} (enc:α->List AV) (dom:α->Prop) (spec:α->AV) (args:List AV):Option AV:=
 if h:∃a,args=enc a/\dom a then some (spec (Classical.choose h)) else none
theorem YK {e:Type} {enc:e->List AV} {d:e->Prop} {c:e->AV} (f:∀a b,enc a=enc b->a=b) {a:e} (g:d a):tR enc d c (enc a)=some (c a):=by
 have h:∃b,enc a=enc b/\d b:=⟨a,rfl,g⟩;unfold tR;grind
theorem YJ {d:Type} {enc:d->List AV} {c:d->Prop} {b:d->AV} {args:List AV} {v:AV} (h:tR enc c b args=some v):∃a,args=enc a/\c a/\v=b a:=by
 unfold tR at h;split at h<;>grind
structure zi where
 (a0 a1 a2 a3 a4 a5:Int)
 deriving DecidableEq
structure bC where
 OA:Int
 bx:zi
 value:Int
 deriving DecidableEq
structure ue where
 aHz:Int
 least:Int
 deriving DecidableEq
structure mK where
 OA:Int
 bx:zi
 deriving DecidableEq
structure tT where
 members:Int
 left:zi
 bs:zi
 deriving DecidableEq
def zi.zero:zi:=⟨0,0,0,0,0,0⟩
inductive ew where
 |i (k:IntKind)
 |b
 |bun
 |bu
 |need
 |key
 |sit
 |qE (s:ew)
 |pair (s t:ew)
 deriving DecidableEq
@[reducible] def ew.T:ew->Type
 | .i _=>Int
 | .b=>Bool
 | .bun=>zi
 | .bu=>bC
 | .need=>ue
 | .key=>mK
 | .sit=>tT
 | .qE s=>List s.T
 | .pair s t=>s.T×t.T
def ew.bw:(s:ew)->s.T
 | .i _=>(0:Int)
 | .b=>false
 | .bun=> .zero
 | .bu=>⟨0,.zero,0⟩
 | .need=>⟨0,0⟩
 | .key=>⟨0,.zero⟩
 | .sit=>⟨0,.zero,.zero⟩
 | .qE _=>[]
 | .pair s t=>(s.bw,t.bw)
def ew.sz:ew->Nat
 | .i _=>1
 | .b=>1
 | .bun=>6
 | .bu=>8
 | .need=>2
 | .key=>7
 | .sit=>13
 | .qE _=>1
 | .pair s t=>s.sz+t.sz
@[reducible] def ew.dec:(s:ew)->DecidableEq s.T
 | .i _=>inferInstanceAs (DecidableEq Int)
 | .b=>inferInstanceAs (DecidableEq Bool)
 | .bun=>inferInstanceAs (DecidableEq zi)
 | .bu=>inferInstanceAs (DecidableEq bC)
 | .need=>inferInstanceAs (DecidableEq ue)
 | .key=>inferInstanceAs (DecidableEq mK)
 | .sit=>inferInstanceAs (DecidableEq tT)
 | .qE s=>@instDecidableEqList _ s.dec
 | .pair s t=>@instDecidableEqProd _ _ s.dec t.dec
instance (s:ew):DecidableEq s.T:=s.dec
def ew.vn:ew->Bool
 | .i _| .b=>true
 |_=>false
def ew.flat:ew->Bool
 | .qE _=>false
 | .pair s t=>s.flat&&t.flat
 |_=>true
def iv (n:Int):Value:=.int .i64 n
def zi.vs (b:zi):List Value:=[iv b.a0,iv b.a1,iv b.a2,iv b.a3,iv b.a4,iv b.a5]
def cI:(s:ew)->s.T->List Value
 | .i k,n=>[.int k n]
 | .b,b=>[.bool b]
 | .bun,x=>[iv x.a0,iv x.a1,iv x.a2,iv x.a3,iv x.a4,iv x.a5]
 | .bu,x=>[iv x.OA,iv x.bx.a0,iv x.bx.a1,iv x.bx.a2,iv x.bx.a3,iv x.bx.a4,iv x.bx.a5,iv x.value]
 | .need,x=>[iv x.aHz,iv x.least]
 | .key,x=>[iv x.OA,iv x.bx.a0,iv x.bx.a1,iv x.bx.a2,iv x.bx.a3,iv x.bx.a4,iv x.bx.a5]
 | .sit,x=>[iv x.members,iv x.left.a0,iv x.left.a1,iv x.left.a2,iv x.left.a3,iv x.left.a4,iv x.left.a5,iv x.bs.a0,iv x.bs.a1,iv x.bs.a2,iv x.bs.a3,iv x.bs.a4,iv x.bs.a5]
 | .qE _,_=>[.bool false]
 | .pair s t,x=>cI s x.1++cI t x.2
def de:(s:ew)->s.T->List AV
 | .qE s,l=>[.sl l.length (l.flatMap (de s))]
 | .pair s t,x=>de s x.1++de t x.2
 | .i k,x=>(cI (.i k) x).map .sc
 | .b,x=>(cI .b x).map .sc
 | .bun,x=>(cI .bun x).map .sc
 | .bu,x=>(cI .bu x).map .sc
 | .need,x=>(cI .need x).map .sc
 | .key,x=>(cI .key x).map .sc
 | .sit,x=>(cI .sit x).map .sc
inductive SV where
 |ud
 |sc (v:Value)
 |il (k:IntKind) (n:Int)
 |si (k:IntKind) (n:Int)
 |bl (b:Bool)
 |sb (b:Bool)
 |agg (cs:List SV)
 |Gz (cs:List SV)
 |row (s:ew) (l:List s.T)
 |ep (s:ew) (l:List s.T) (i bu:Nat)
 |ptr (id bu tot:Nat)
 |ap (id base sz len tot i:Nat)
 |rp (id i bu n sz:Nat)
 |ow (id n sz:Nat)
 |os (id bu len n sz:Nat)
 |oc (id bu len n sz:Nat)
 |mp (id:Nat)
 |fn (f:Fn) (first captured:List SV)
 |ia (t:TypeId) (cs:List SV)
 |ite (c:Bool) (a b:SV)
inductive iZ where
 |dead
 |cells (cs:List SV) (e:TypeId) (sz:Nat) (pu:Bool)
 |row (s:ew) (l:List s.T) (e:TypeId) (pu:Bool)
 |map (sk sv:ew) (ka:Bool) (es:List (sk.T×sv.T)) (kt:List Nat×Bool) (pu:Bool)
 |aor (s:ew) (l:List s.T) (e:TypeId) (t:List SV)
def bO (s:ew) (l:List s.T):List AV:=l.flatMap (de s)
def nQ (s:ew) (a:Bool) (x:s.T):Value:=if a then .agg (cI s x).toArray else(cI s x).headD (.bool false)
def lP (s:ew) (x:s.T):AV:=.sc ((cI s x).headD (.bool false))
mutual
def SV.g:SV->AV
 | .ud=> .ud
 | .sc v=> .sc v
 | .il k n=> .sc (.int k n)
 | .si k n=> .sc (.int k n)
 | .bl b=> .sc (.bool b)
 | .sb b=> .sc (.bool b)
 | .agg m=> .agg (gL m)
 | .Gz m=> .Gz (gL m)
 | .row s l=> .sl l.length (bO s l)
 | .ep s l i d=> .ep (bO s l) (i*s.sz+d)
 | .ptr h d o=> .ptr h d o
 | .ap h p e _ o i=> .ptr h (p+i*e) o
 | .rp h i d n e=> .ptr h (i*e+d) (n*e)
 | .ow h n e=> .os h 0 n (n*e)
 | .os h d j n e=> .os h (d*e) j (n*e)
 | .oc h d j n e=> .os h (d*e+(n*e+e)) j (n*e)
 | .mp h=> .mp h
 | .fn f a b=> .fn f (gL a) (gL b)
 | .ia t m=> .ifc t (gL m)
 | .ite _ _ _=> .ud
def gL:List SV->List AV
 |[]=>[]
 |c::m=>c.g::gL m
end
theorem fu:∀(l:List SV),gL l=l.map SV.g
 |[]=>rfl
 |c::a=>by simp[gL,fu a]
def iZ.g:iZ->OL
 | .dead=> .dead
 | .cells c e i a=> .cells (gL c) e i a
 | .row s l e a=> .cells (bO s l) e s.sz a
 | .aor s l e t=> .cells (bO s l++gL t) e s.sz false
 | .map f b j h d a=> .map (h.map λp=>(nQ f j p.1,lP b p.2)) d a
def cJ:(s:ew)->s.T->List SV
 | .i k,n=>[.si k n]
 | .b,b=>[.sb b]
 | .bun,x=>[.si .i64 x.a0,.si .i64 x.a1,.si .i64 x.a2,.si .i64 x.a3,.si .i64 x.a4,.si .i64 x.a5]
 | .bu,x=>[.si .i64 x.OA,.si .i64 x.bx.a0,.si .i64 x.bx.a1,.si .i64 x.bx.a2,.si .i64 x.bx.a3,.si .i64 x.bx.a4,.si .i64 x.bx.a5,.si .i64 x.value]
 | .need,x=>[.si .i64 x.aHz,.si .i64 x.least]
 | .key,x=>[.si .i64 x.OA,.si .i64 x.bx.a0,.si .i64 x.bx.a1,.si .i64 x.bx.a2,.si .i64 x.bx.a3,.si .i64 x.bx.a4,.si .i64 x.bx.a5]
 | .sit,x=>[.si .i64 x.members,.si .i64 x.left.a0,.si .i64 x.left.a1,.si .i64 x.left.a2,.si .i64 x.left.a3,.si .i64 x.left.a4,.si .i64 x.left.a5,.si .i64 x.bs.a0,.si .i64 x.bs.a1,.si .i64 x.bs.a2,.si .i64 x.bs.a3,.si .i64 x.bs.a4,.si .i64 x.bs.a5]
 | .qE s,l=>[.row s l]
 | .pair s t,x=>cJ s x.1++cJ t x.2
def gG (s s':ew) (l:List s.T):Option (List s'.T):=if h:s=s' then some (h▸l) else none
def iJ (s:ew):SV->Option (List s.T)
 | .row a l=>match gG a s l with
  |some l=>some l
  |none=>match l with
   |[]=>some []
   |_=>none
 |_=>none
def SV.qn:SV->SV
 | .sc (.slice none 0 0)=> .row (.i .i64) []
 |v=>v
def SV.int:IntKind->SV->Option Int
 |k,.si a n=>if a=k then some n else none
 |k,.il a n=>if a=k then some n else none
 |_,_=>none
def SV.ph:SV->Option Bool
 | .sb b=>some b
 | .bl b=>some b
 |_=>none
def ints:List SV->Option (List Int)
 |[]=>some []
 |c::a=>match c.int .i64,ints a with
  |some n,some l=>some (n::l)
  |_,_=>none
def jm:(s:ew)->List SV->Option s.T
 | .i k,[c]=>c.int k
 | .b,[c]=>c.ph
 | .bun,d=>match ints d with
  |some [f,e,l,h,g,j]=>some (⟨f,e,l,h,g,j⟩:zi)
  |_=>none
 | .bu,d=>match ints d with
  |some [b,f,e,l,h,g,j,v]=>some (⟨b,⟨f,e,l,h,g,j⟩,v⟩:bC)
  |_=>none
 | .need,d=>match ints d with
  |some [a,b]=>some (⟨a,b⟩:ue)
  |_=>none
 | .key,d=>match ints d with
  |some [b,f,e,l,h,g,j]=>some (⟨b,⟨f,e,l,h,g,j⟩⟩:mK)
  |_=>none
 | .sit,d=>match ints d with
  |some [m,f,e,l,h,g,j,p,u,n,q,r,o]=>some (⟨m,⟨f,e,l,h,g,j⟩,⟨p,u,n,q,r,o⟩⟩:tT)
  |_=>none
 | .qE s,[c]=>iJ s c
 | .pair s t,d=>match jm s (d.take s.sz),jm t (d.drop s.sz) with
  |some x,some y=>some (x,y)
  |_,_=>none
 |_,_=>none
theorem Gb:(s:ew)->0<s.sz
 | .i _| .b| .bun| .bu| .need| .key| .sit| .qE _=>by simp[ew.sz];| .pair s t=>by
  have:=Gb s;grind[ew.sz]
theorem rT:(s:ew)->(x:s.T)->(cJ s x).map SV.g=de s x
 | .qE s,l=>by grind[cJ,de,SV.g,bO];| .pair s t,x=>by simp only[cJ,de,γa,rT s x.1,rT t x.2];| .i _,x| .b,x| .bun,x| .bu,x| .need,x| .key,x| .sit,x=>by simp[cJ,de,cI,SV.g,iv]
theorem Ga:(s:ew)->(x:s.T)->(cI s x).length=s.sz
 | .pair s t,x=>by simp only[cI,γh,Ga s x.1,Ga t x.2,ew.sz];| .qE _,x| .i _,x| .b,x| .bun,x| .bu,x| .need,x| .key,x| .sit,x=>rfl
theorem k8:(s:ew)->(x:s.T)->(de s x).length=s.sz
 | .pair s t,x=>by simp only[de,γh,k8 s x.1,k8 t x.2,ew.sz];| .qE _,x| .i _,x| .b,x| .bun,x| .bu,x| .need,x| .key,x| .sit,x=>rfl
theorem Av:(s:ew)->s.flat=true->(x:s.T)->de s x=(cI s x).map .sc
 | .pair s t,h,x=>by
  simp only[ew.flat,θ] at h;simp only[de,cI,γa,Av s h.1,Av t h.2];| .qE _,h,x=>by grind[ew.flat];| .i _,_,x| .b,_,x| .bun,_,x| .bu,_,x| .need,_,x| .key,_,x| .sit,_,x=>rfl
theorem gS {k:IntKind} {c:SV} {n:Int} (h:c.int k=some n):c.g= .sc (.int k n):=by
 cases c<;>simp only[SV.int,reduceCtorEq] at h<;>grind[SV.int,reduceCtorEq,SV.g]
theorem th {c:SV} {b:Bool} (h:c.ph=some b):c.g= .sc (.bool b):=by
 cases c<;>simp[SV.ph] at h<;>subst h<;>simp[SV.g]
theorem Au:∀{cs:List SV} {l:List Int},ints cs=some l->cs.map SV.g=l.map λn=> .sc (iv n)
 |[],l,h=>by grind[ints];|c::cs,l,h=>by
  simp only[ints] at h;split at h
  ·rename_i n d a b;simp at h;subst h;simp[gS a,Au b,iv]
  ·cases h
theorem lF {s s':ew} {l:List s.T} {a:List s'.T} (h:gG s s' l=some a):s=s'/\HEq l a:=by
 unfold gG at h;grind
theorem YI {s:ew} {v:SV} {l:List s.T} (h:iJ s v=some l):v.g= .sl l.length (bO s l):=by
 cases v<;>simp only[iJ,reduceCtorEq] at h;grind[lF,SV.g,bO]
theorem mJ:{s:ew}->{cs:List SV}->{x:s.T}->(h:jm s cs=some x)->cs.map SV.g=de s x
 | .i k,[c],_,h=>by grind[jm,de,cI,gS];| .b,[c],_,h=>by grind[jm,de,cI,th];| .qE s,[c],_,h=>by grind[jm,YI,de,bO];| .pair s t,cs,_,h=>by
  simp only[jm] at h;split at h
  ·rename_i x y a d;simp only[γ] at h;subst h;have f:=mJ a;have e:=mJ d;simp only[de,<-f,<-e];rw[<-γa,List.take_append_drop]
  ·cases h;| .bun,cs,_,h| .bu,cs,_,h| .need,cs,_,h| .key,cs,_,h| .sit,cs,_,h=>by
  simp only[jm] at h;split at h
  ·rename_i a;simp at h;subst h;rw[Au a];simp[de,cI]
  ·cases h
theorem YH (v:SV):v.qn.g=v.g.qn:=by
 unfold SV.qn;split;·simp[SV.g,AV.qn,bO]
 ·rename_i h;cases v<;>grind[SV.g,AV.qn,AV.sc.injEq]
theorem As:(s:ew)->(x:s.T)->∀v∈cI s x,v.oneCell'=true
 | .pair s t,x=>by
  intro v a;simp only[cI] at a;rcases γi.1 a with h|h;·exact As s _ v h
  ·exact As t _ v h;| .qE _,x| .i _,x| .b,x| .bun,x| .bu,x| .need,x| .key,x| .sit,x=>by simp[cI,iv,Value.oneCell']
def Plain (a:AV):Prop:=(∃v,a= .sc v/\v.oneCell'=true/\v≠ .slice none 0 0)\/∃n b,a= .sl n b/\cK b=true
theorem Ar:∀{l:List AV},(∀a∈l,a.pure=true)->cK l=true
 |[],_=>by simp[cK];|a::l,h=>by simp[cK,h a (by simp),Ar (l:=l) λb c=>h b (by simp[c])]
theorem F_ {k:Nat}:∀{l:List AV},(∀a∈l,a.TP k=true)->dF k l=true
 |[],_=>by simp[dF];|a::l,h=>by simp[dF,h a (by simp),F_ (l:=l) λb c=>h b (by simp[c])]
theorem Plain.pure {a:AV} (h:Plain a):a.pure=true:=by
 rcases h with⟨v,rfl,_⟩|⟨n,b,rfl,h⟩<;>grind[AV.pure]
theorem Plain.TP {a:AV} (h:Plain a) (k:Nat):a.TP k=true:=by
 rcases h with⟨v,rfl,_⟩|⟨n,b,rfl,h⟩<;>simp[AV.TP]
theorem Plain.one {a:AV} (h:Plain a):a.one=true:=by
 rcases h with⟨v,rfl,h,_⟩|⟨n,b,rfl,h⟩<;>grind[AV.one]
theorem xH:(s:ew)->(x:s.T)->∀a∈de s x,Plain a
 | .pair s t,x=>by
  intro a c;simp only[de] at c;rcases γi.1 c with h|h;·exact xH s _ a h
  ·exact xH t _ a h;| .qE s,l=>by
  intro a c;simp only[de,List.mem_singleton] at c;subst c;refine .inr ⟨_,_,rfl,Ar λb e=>?_⟩;obtain⟨y,_,f⟩:=List.mem_flatMap.1 e;exact(xH s y b f).pure;| .i _,x| .b,x| .bun,x| .bu,x| .need,x| .key,x| .sit,x=>by
  intro a c;simp only[de] at c;obtain⟨v,d,rfl⟩:=List.mem_map.1 c;refine .inl ⟨v,rfl,As _ _ v d,?_⟩;rintro rfl;simp[cI,iv] at d
theorem lO {s:ew} {l:List s.T} {a:AV} (h:a∈bO s l):Plain a:=by
 grind[bO,xH]
theorem ni (s:ew) (l:List s.T):cK (bO s l)=true:=Ar λa h=>(lO h).pure
theorem OQ (k:Nat) (s:ew) (l:List s.T):dF k (bO s l)=true:=F_ λa h=>(lO h).TP k
theorem An (s:ew) (l:List s.T):dP (bO s l)=true:=by
 simp only[dP,χ];intro a h;exact(lO h).one
theorem ec (s:ew) (l:List s.T):(bO s l).length=l.length*s.sz:=by
 induction l<;>grind[bO,k8]
theorem OP (s:ew) (l a:List s.T):bO s (l++a)=bO s l++bO s a:=by simp[bO]
theorem F9 (s:ew):∀(l:List s.T) (i:Nat),(bO s l).drop (i*s.sz)=bO s (l.drop i)
 |l,0=>by simp;|[],i+1=>by simp[bO];|x::l,i+1=>by
  have h:=F9 s l i;simp only[bO,δY,List.drop_succ_cons] at h ⊢;rw[Nat.succ_mul,Nat.add_comm,List.drop_append,k8,ζx,h,List.drop_of_length_le (by grind[k8])];simp
theorem OO (s:ew):∀(l:List s.T) (i:Nat),(bO s l).take (i*s.sz)=bO s (l.take i)
 |l,0=>by simp[bO];|[],i+1=>by simp[bO];|x::l,i+1=>by
  have h:=OO s l i;simp only[bO,δY,List.take_succ_cons] at h ⊢;rw[Nat.succ_mul,Nat.add_comm,List.take_append,k8,ζx,h,List.take_of_length_le (by grind[k8])]
def bN {a:Type} (l:List a) (i:Nat) (d:a):a:=(l[i]?).getD d
theorem b_ {a:Type} {l:List a} {i:Nat} {d:a} (h:i<l.length):bN l i d=l[i]:=by simp[bN,h]
theorem ON {s:ew} {l:List s.T} {i:Nat} (h:i<l.length):(bO s l).drop (i*s.sz)=de s (bN l i s.bw)++bO s (l.drop (i+1)):=by
 rw[F9,List.drop_eq_getElem_cons h,b_ h];grind[bO]
end Go.Vi
