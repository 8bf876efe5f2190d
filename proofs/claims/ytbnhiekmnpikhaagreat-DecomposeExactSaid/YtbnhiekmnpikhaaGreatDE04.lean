import Derived.Test.YtbnhiekmnpikhaaGreatDE03
import Derived.RangeFuncOwn
import Derived.LoopNIn
import Derived.LoopN
import Derived.Scope
set_option maxRecDepth 100000
set_option maxHeartbeats 4000000
set_option linter.all false
open Array renaming getElem?_eq_some_iff->γA,replicate->εd,getElem?_toList->γZ,ext'->εj
open Bool renaming and_eq_true->θ,false_eq_true->τ
open Go.Vi renaming eK->ζW,qd->θh
open List renaming not_mem_nil->δD,mem_filter->Ψ,getElem?_set_ne->δs,getElem?_eq_getElem->μ,getElem?_eq_none->ζL,getElem?_set->εk,map_congr_left->γI,mem_append->γi,ext_getElem?->δa,cons_append->γM,getD_eq_getElem?_getD->ε8,all_eq_true->ψ,getElem?_cons_succ->γS,map_cons->ξ,nodup_cons->γR,mem_of_getElem?->γf,eq_nil_of_length_eq_zero->χ,getElem?_eq_some_iff->ζ,range->ω,pairwise_cons->γr,mem_cons_of_mem->γp,append_nil->γ0,map_append->γb,length_append->γh,flatMap_cons->δ0
open List.Pairwise renaming nil->δv
open Nat renaming le_refl->π,lt_or_ge->ζe,le_trans->δ3,strongRecOn->ζM,beq->δu,eq_of_beq_eq_true->εU,lt_of_lt_of_le->γl,add_sub_cancel_left->ζD
open Option renaming map_eq_some_iff->ε
open Option.some renaming injEq->γ
open Prod.mk renaming injEq->ι
namespace Go.Vi
section
variable {call:cw} {ρ ρ2:Operand->AV} {qE:Nat}
theorem Oz {a:bR} {o:a_} {j:Nat} (h:j∈fj a ρ o qE):j∈di a ρ o qE:=by
 cases a<;>simp only[fj,di,δD] at h ⊢<;>try exact h
 all_goals grind
theorem Yj {a:bR} {o:a_} (h:a.bt=0\/a.bt=1):fj a ρ o qE=[]:=by
 cases a<;>try (simp[bR.bt] at h;done)
 case call f c b=>cases b<;>simp[bR.bt] at h;rfl
 case ak4 f c b=>cases b<;>simp[bR.bt] at h;rfl
 all_goals rfl
theorem Gp {b:bR} {o:a_} (h:b.bt=0):di b ρ o qE=[]:=by
 cases b<;>try (simp[bR.bt] at h;done)
 case call f c a=>cases a<;>simp[bR.bt] at h
 case ak4 f c a=>cases a<;>simp[bR.bt] at h
 all_goals rfl
theorem Yi (a:bR):a.bt=0\/a.bt=1\/a.bt=2\/a.bt=3:=by
 cases a<;>try (simp[bR.bt];done)
 case call f c b=>cases b<;>simp[bR.bt]
 case ak4 f c b=>cases b<;>simp[bR.bt]
def lp (a:bR) (W:List Nat) (n j:Nat):Prop:=j∈W\/(a.bt=3/\n<=j)
theorem Gn {a:bR} {o:a_} {j:Nat} (h:j∈dL call a ρ o qE):j∈fj a ρ o qE:=by
 unfold dL at h;split at h
 ·split at h;·exact(Ψ.1 h).1
  ·simp at h
 ·exact h
theorem Yh {a:bR} {o:a_} {j:Nat} (h:j∈dL call a ρ o qE):j∈di a ρ o qE:=Oz (Gn h)
theorem rk {a:bR} {o:a_} (h:a.bt=0\/a.bt=1):dL call a ρ o qE=[]:=by
 unfold dL;grind[bR.bt,Yj]
theorem Y6 {a:bR} {o:a_} (h:a.bt=2):dL call a ρ o qE=fj a ρ o qE:=by
 unfold dL;grind[bR.bt]
open Classical in
theorem Y5 {iop:bR} {o o':a_} {v:AV} (he:MO call iop ρ o qE=some (v,o')):
  o.length<=o'.length/\(iop.bt≠3->o'.length=o.length)/\(∀j,¬lp iop (dL call iop ρ o qE) o.length j->o'[j]?=o[j]?)/\
  ∀o2:a_,(∀j∈di iop ρ o qE,o2[j]?=o[j]?)->(iop.bt=3->o2.length=o.length)->
   ∃o2',MO call iop ρ o2 qE=some (v,o2')/\di iop ρ o2 qE=di iop ρ o qE/\dL call iop ρ o2 qE=dL call iop ρ o qE/\∀j,lp iop (dL call iop ρ o qE) o.length j->o2'[j]?=o'[j]?:=by
 rcases Yi iop with hc|hc|hc|hc
 ·have:=Yt hc he;subst this;refine⟨π _,λ_=>rfl,λ_ _=>rfl,λo2 _ _=>⟨o2,?_,by rw[Gp hc,Gp hc],by rw[rk (.inl hc),rk (.inl hc)],λj hj=>?_⟩⟩;·rw[OE hc o' o2,he];rfl
  ·rw[lp,rk (.inl hc)] at hj;simp[hc] at hj
 ·have:=Ym hc he;subst this;refine⟨π _,λ_=>rfl,λ_ _=>rfl,λo2 h _=>⟨o2,?_,(Gq (call:=call) hc h).2,by rw[rk (.inr hc),rk (.inr hc)],λj hj=>?_⟩⟩;·rw[(Gq hc h).1,he];rfl
  ·rw[lp,rk (.inr hc)] at hj;simp[hc] at hj
 ·simp only[Y6 hc];obtain⟨id,x,hid,rfl,hk⟩:=Yl hc he;refine⟨by simp,λ_=>by simp,λj hj=>?_,λo2 h _=>?_⟩
  ·have:j≠id:=λhji=>hj (.inl (hji▸hid));rw[δs (Ne.symm this)]
  ·obtain⟨k1,k2,k3⟩:=hk o2 h;refine⟨_,k1,k2,k3,λj hj=>?_⟩;have hj:j∈fj iop ρ o qE:=hj.resolve_right (by simp[hc]);have hjo:=h j (Oz hj);by_cases hji:id=j
   ·subst hji;have hlen:(id<o2.length)↔(id<o.length):=by
     rcases ζe id o2.length with g1|g1<;>rcases ζe id o.length with g2|g2;·simp[g1,g2]
     ·rw[μ g1,ζL g2] at hjo;cases hjo
     ·rw[μ g2,ζL g1] at hjo;cases hjo
     ·omega
    rw[εk,εk];simp only[if_true];by_cases h1:id<o.length;·rw[if_pos h1,if_pos (hlen.2 h1)]
    ·rw[if_neg h1,if_neg λh2=>h1 (hlen.1 h2)]
   ·rw[δs hji,δs hji];exact hjo
 ·have key:∀(f:FuncId) (args:List AV),gU call f args o=some (v,o')->dL call iop ρ o qE=b_ o e_ args []->di iop ρ o qE=b_ o e_ args []->
    (∀o2:a_,MO call iop ρ o2 qE=gU call f args o2/\di iop ρ o2 qE=b_ o2 e_ args []/\dL call iop ρ o2 qE=b_ o2 e_ args [])->
    o.length<=o'.length/\(iop.bt≠3->o'.length=o.length)/\(∀j,¬lp iop (dL call iop ρ o qE) o.length j->o'[j]?=o[j]?)/\
    ∀o2:a_,(∀j∈di iop ρ o qE,o2[j]?=o[j]?)->(iop.bt=3->o2.length=o.length)->
    ∃o2',MO call iop ρ o2 qE=some (v,o2')/\di iop ρ o2 qE=di iop ρ o qE/\dL call iop ρ o2 qE=dL call iop ρ o qE/\∀j,lp iop (dL call iop ρ o qE) o.length j->o2'[j]?=o'[j]?:=by
   intro f args hcall hw ht hg;obtain⟨c1,c2,c3⟩:=OB hcall;refine⟨c1,λh=>absurd hc h,λj hj=>?_,λo2 h hl=>?_⟩
   ·simp only[lp,hc,true_and,not_or,Nat.not_le,hw] at hj;exact c2 j hj.2 hj.1
   ·rw[ht] at h;obtain⟨o2',d1,d2,d3⟩:=c3 o2 (hl hc) h;obtain⟨g1,g2,g3⟩:=hg o2;refine⟨o2',by rw[g1,d1],by rw[g2,d2,ht],by rw[g3,d2,hw],λj hj=>d3 j ?_⟩;simp only[lp,hc,true_and,hw] at hj;exact hj
  cases iop<;>try (simp[bR.bt] at hc;done)
  case call f args own=>
   cases own;·simp[bR.bt] at hc
   ·simp only[MO,fV,if_true] at he;obtain⟨c1,c2,c3⟩:=OB he;have hw:dL call (.call f args true) ρ o qE=(b_ o e_ (args.map ρ) []).filter λj=>decide (o'[j]?≠o[j]?):=by simp only[dL,he]
    refine⟨c1,λh=>absurd hc h,λj hj=>?_,λo2 h hl=>?_⟩
    ·simp only[lp,hc,true_and,not_or,Nat.not_le,hw,Ψ,decide_eq_true_eq,not_and,Classical.not_not,ne_eq] at hj;by_cases hm:j∈b_ o e_ (args.map ρ) [];·exact hj.1 hm
     ·exact c2 j hj.2 hm
    ·obtain⟨o2',d1,d2,d3⟩:=c3 o2 (hl hc) h;refine⟨o2',by simp only[MO,fV,if_true,d1],d2,?_,λj hj=>?_⟩
     ·rw[hw];simp only[dL,d1,d2];refine List.filter_congr λj hj=>?_;rw[d3 j (.inl hj),h j hj]
     ·rw[lp,hw,Ψ] at hj;exact d3 j (hj.imp (λh=>h.1) λh=>h.2)
  case ak4 f args own=>
   cases own;·simp[bR.bt] at hc
   ·simp only[MO,fV,if_true] at he;split at he
    ·rename_i g first captured hf;exact key g (first++args.map ρ++captured) he (by simp[dL,fj,hf]) (by simp[di,hf]) λo2=>⟨by simp[MO,fV,hf],by simp[di,hf],by simp[dL,fj,hf]⟩
    ·cases he
theorem Gm {l:List Operand} (h:∀x∈l,ρ2 x=ρ x):l.map ρ2=l.map ρ:=γI h
theorem Y4 {c:bR} (h:∀x∈c.jZ,ρ2 x=ρ x) (o:a_):MO call c ρ2 o qE=MO call c ρ o qE/\di c ρ2 o qE=di c ρ o qE/\dL call c ρ2 o qE=dL call c ρ o qE:=by
 cases c;case build z i=>
  have:(i.map λp=>(p.1,p.2.1,ρ2 p.2.2))=i.map λp=>(p.1,p.2.1,ρ p.2.2):=γI λp r=>by grind[bR.jZ]
  simp only[MO,di,dL,fj,this,and_self]
 case aoE z n i e l=>
  have:(i.map λp=>(p.1,l,ρ2 p.2))=i.map λp=>(p.1,l,ρ p.2):=γI λp r=>by grind[bR.jZ]
  simp only[MO,di,dL,fj,this,and_self]
 case ard z n i e l=>
  have:(i.map λp=>(p.1,l,ρ2 p.2))=i.map λp=>(p.1,l,ρ p.2):=γI λp r=>by grind[bR.jZ]
  simp only[MO,di,dL,fj,this,and_self]
 case call f d k=>
  have:=Gm h;simp only[bR.jZ] at this;cases k<;>simp only[MO,di,dL,fj,this,and_self]
 case ak4 f d k=>
  have m:d.map ρ2=d.map ρ:=Gm λx u=>h x (by grind[bR.jZ]);have q:=h f (by simp[bR.jZ]);cases k<;>simp only[MO,di,dL,fj,m,q,and_self]
 case aoe s x d=>
  simp_all[Gm,bR.jZ,MO,di,dL,fj]
 case arh f a b=>
  simp_all[bR.jZ,MO,di,dL,fj]
 case slice l x g j=>
  have m:g.map ρ2=g.map ρ:=by cases g<;>simp[bR.jZ] at h ⊢;exact h.2.1
  have q:j.map ρ2=j.map ρ:=by cases j<;>simp[bR.jZ] at h ⊢;simp_all
  simp_all[bR.jZ,MO,di,dL,fj]
 case asv x g j=>
  have m:g.map ρ2=g.map ρ:=by cases g<;>simp[bR.jZ] at h ⊢;exact h.2.1
  have q:j.map ρ2=j.map ρ:=by cases j<;>simp[bR.jZ] at h ⊢;simp_all
  simp_all[bR.jZ,MO,di,dL,fj]
 case slice3 l x g j t=>
  have m:g.map ρ2=g.map ρ:=by
   cases g with
   |none=>rfl;|some a=>simp_all[bR.jZ]
  simp_all[bR.jZ,MO,di,dL,fj]
 all_goals
  simp only[bR.jZ,List.mem_cons,δD,or_false,forall_eq_or_imp,forall_eq] at h;simp[MO,di,dL,fj,h]
end
section
variable {call:cw} {base:Nat}
noncomputable def entry (call:cw) (base:Nat) (i:cM) (st:St):List Nat×List Nat:=
 match lr st.env i.guard with
 |some true=>(di i.op (dO st.env) st.o (base+i.qE),dL call i.op (dO st.env) st.o (base+i.qE))
 |_=>([],[])
theorem Y3 {i:cM} {st:St} {j:Nat} (h:j∈(entry call base i st).2):j∈(entry call base i st).1:=by
 grind[entry,Yh]
theorem Oy {i:cM} {e a:iT} (h:∀s∈i.reads,cY a s=cY e s):(∀x∈i.op.jZ,dO a x=dO e x)/\lr a i.guard=lr e i.guard:=by
 constructor
 ·intro x b;cases x with
  |tmp t=>
   refine h t ?_;simp only[cM.reads,γi];left;exact List.mem_filterMap.2 ⟨.tmp t,b,rfl⟩;|_=>rfl
 ·unfold lr;grind[cM.reads]
theorem vp {i:cM} {st st':St} (a:gp call base i st=some st'):
  ∃v,(∀s,cY st'.env s=if i.dst=some s then v else cY st.env s)/\st.o.length<=st'.o.length/\(i.op.bt≠3->st'.o.length=st.o.length)/\
   (∀j,¬lp i.op (entry call base i st).2 st.o.length j->st'.o[j]?=st.o[j]?)/\
   ∀st2:St,(∀s∈i.reads,cY st2.env s=cY st.env s)->(∀j∈(entry call base i st).1,st2.o[j]?=st.o[j]?)->(i.op.bt=3->st2.o.length=st.o.length)->
    ∃b,gp call base i st2=some b/\(∀s,cY b.env s=if i.dst=some s then v else cY st2.env s)/\entry call base i st2=entry call base i st/\
     ∀j,lp i.op (entry call base i st).2 st.o.length j->b.o[j]?=st'.o[j]?:=by
 unfold gp at a;split at a;·cases a
 ·rename_i n;injection a with a;subst a;refine⟨.Gz [],λs=>tm _ _ _ _,π _,λ_=>rfl,λ_ _=>rfl,λst2 c _ k=>?_⟩;obtain⟨h,t⟩:=Oy c;refine⟨⟨nx st2.env i.dst (.Gz []),st2.o⟩,?_,λs=>tm _ _ _ _,?_,λj w=>?_⟩;all_goals simp_all[gp,entry,lp]
 ·rename_i n;split at a
  ·rename_i v y c;injection a with a;subst a;rw[yr] at c;obtain⟨r,l,m,p⟩:=Y5 c;have e:entry call base i st=(di i.op (dO st.env) st.o (base+i.qE),dL call i.op (dO st.env) st.o (base+i.qE)):=by grind[entry]
   rw[e];refine⟨v,λs=>tm _ _ _ _,r,l,m,λst2 f d k=>?_⟩;obtain⟨h,t⟩:=Oy f;obtain⟨g,z,x,B,q⟩:=p st2.o d k;obtain⟨C,A,u⟩:=Y4 (call:=call) (qE:=base+i.qE) h st2.o;refine⟨⟨nx st2.env i.dst v,g⟩,?_,λs=>tm _ _ _ _,?_,q⟩<;>grind[nx,tm,gp,yr,entry]
  ·cases a
def jA (a b:St):Prop:=(∀s,cY a.env s=cY b.env s)/\a.o=b.o
theorem jA.refl (a:St):jA a a:=⟨λ_=>rfl,rfl⟩
theorem jA.trans {a b c:St} (h:jA a b) (k:jA b c):jA a c:=⟨λs=>(h.1 s).trans (k.1 s),h.2.trans k.2⟩
theorem jA.symm {a b:St} (h:jA a b):jA b a:=⟨λs=>(h.1 s).symm,h.2.symm⟩
theorem jA.run {i:cM} {a b l:St} (h:jA a b) (e:gp call base i a=some l):∃k,gp call base i b=some k/\jA l k/\entry call base i b=entry call base i a:=by
 have j:dO b.env=dO a.env:=by
  funext x;cases x with
  |tmp t=>exact(h.1 t).symm;|_=>rfl
 have o:lr b.env i.guard=lr a.env i.guard:=by
  cases p:i.guard with
  |none=>rfl;|some g=>
   obtain⟨c,d⟩:=g;cases c with
   |none=>rfl;|some s=>simp only[lr];rw[h.1]
 have f:∀(v:AV) (s:Nat),cY (nx a.env i.dst v) s=cY (nx b.env i.dst v) s:=by
  intro v s;simp only[tm];by_cases m:i.dst=some s;·simp_all
  ·rw[if_neg m,if_neg m];exact h.1 s
 have n:entry call base i b=entry call base i a:=by unfold entry;rw[o,j,h.2]
 unfold gp at e ⊢;rw[o,j,<-h.2];split at e;·cases e
 ·injection e with e;subst e;exact⟨_,rfl,⟨f _,rfl⟩,n⟩
 ·split at e
  ·injection e with e;subst e;exact⟨_,rfl,⟨f _,rfl⟩,n⟩
  ·cases e
def yD (n0:Nat) (y:cM) (a:List Nat×List Nat) (x:cM) (b:List Nat×List Nat):Prop:=
 yp y x=true/\(∀j∈a.2,j∉b.1)/\(∀j∈b.2,j∉a.1)/\(y.op.bt=3->x.op.bt≠3/\∀j∈b.1,j<n0)/\(x.op.bt=3->∀j∈a.1,j<n0)
theorem Y2 {y x:cM} (h:yp y x=true):(∀d,y.dst=some d->d∉x.reads)/\(∀d,x.dst=some d->d∉y.reads)/\∀d,y.dst=some d->x.dst≠some d:=by
 grind[yp,Hj]
theorem swap {n0:Nat} {y x:cM} {st c s2:St} (k:gp call base y st=some c) (n:gp call base x c=some s2) (P:n0<=st.o.length) (D:yD n0 y (entry call base y st) x (entry call base x c)):
  ∃a b,gp call base x st=some a/\gp call base y a=some b/\jA s2 b/\entry call base x st=entry call base x c/\entry call base y a=entry call base y st:=by
 obtain⟨d,Z,O,H,Q⟩:=D;obtain⟨a1,K,U⟩:=Y2 d;obtain⟨G,A,y2,S,C,F⟩:=vp k;obtain⟨L,q,V,T,X,l⟩:=vp n;obtain⟨a,h,u,f,p4⟩:=l st (λs i=>by
   grind) (λj m=>by
   rw[C j];rintro(z|⟨e,B⟩)<;>grind) (λe=>by
   omega);obtain⟨E,J,W,I,r,_⟩:=vp h;obtain⟨b,g,w,p,R⟩:=F a (λs i=>by
   grind) (λj m=>by
   rw[r j];rw[f];rintro(z|⟨e,B⟩)<;>grind) (λe=>by
   omega);obtain⟨t,b1,M,Y,N,_⟩:=vp g;refine⟨a,b,h,g,⟨λs=>?_,?_⟩,f.symm▸rfl,p⟩
 ·rw[q s,w s,u s,A s];grind
 ·apply δa;intro j;by_cases v:lp x.op (entry call base x c).2 c.o.length j;·
   grind[lp,Y3]
  grind[lp]
noncomputable def dE (call:cw) (base:Nat):List cM->St->List (List Nat×List Nat)
 |[],_=>[]
 |i::r,b=>entry call base i b::match gp call base i b with
  |some a=>dE call base r a
  |none=>[]
theorem jA.runs {l:List cM}:∀{a b d:St},jA a b->fw call base l a=some d->∃e,fw call base l b=some e/\jA d e/\dE call base l b=dE call base l a:=by
 induction l with
 |nil=>intro a b d h c;simp only[fw,γ] at c;subst c;exact⟨b,rfl,h,rfl⟩;|cons i l o=>
  intro a b d h c;simp only[fw] at c;split at c
  ·rename_i k f;obtain⟨j,m,g,n⟩:=h.run f;grind[fw,dE]
  ·cases c
theorem front {n0:Nat} {x:cM} {b:List cM}:∀(a:List cM) {st s:St},fw call base (a++x::b) st=some s->n0<=st.o.length->
  (∀(k:Nat) (y:cM) (p f:List Nat×List Nat),a[k]?=some y->(dE call base (a++x::b) st)[k]?=some p->(dE call base (a++x::b) st)[a.length]?=some f->yD n0 y p x f)->
  ∃g s',gp call base x st=some g/\fw call base (a++b) g=some s'/\jA s s'/\(dE call base (a++x::b) st)[a.length]?=some (entry call base x st)/\
   dE call base (a++b) g=(dE call base (a++x::b) st).eraseIdx a.length
 |[],st,s,d,_,_=>by
  grind[fw,jA.refl,dE];|y::a,st,s,d,n,m=>by
  simp only[γM,fw] at d;split at d
  ·rename_i l i;have c:dE call base (y::(a++x::b)) st=entry call base y st::dE call base (a++x::b) l:=by simp[dE,i]
   obtain⟨_,_,h,_⟩:=vp i;obtain⟨g,s',r,v,C,M,I⟩:=front a d (δ3 n h) λk z u f t K L=>m (k+1) z u f (by simpa using t) (by simp_all) (by simp_all);have e:yD n0 y (entry call base y st) x (entry call base x l):=m 0 y _ _ (by simp) (by simp[c]) (by simp_all);obtain⟨B,H,w,F,A,D,J⟩:=swap i r n e;obtain⟨j,G,q,E⟩:=A.runs v;refine⟨B,j,w,?_,C.trans q,?_,?_⟩<;>grind[fw,dE]
  ·cases d
end
theorem Y1 {acc:List Nat} {l:List Edge} {m:Nat}:∀{s:Nat},(l.foldl (Bk acc) s).testBit m=true->s.testBit m=true\/∃e∈l,Region.binds .any e=true/\(m=e.on\/(acc.getD e.on 0).testBit m=true):=by
 induction l with
 |nil=>simp_all;|cons e l b=>
  intro s h;simp only[List.foldl_cons] at h;rcases b h with a|⟨d,f,a,c⟩
  ·unfold Bk at a;grind
  grind
def yC (acc:List Nat) (o:Oper):Nat:=o.after.toList.foldl (Bk acc) 0
theorem Ox:∀(L:List Oper) (acc:List Nat),∃r,L.foldl (λacc o=>acc++[yC acc o]) acc=acc++r/\r.length=L.length/\
  ∀(k:Nat) (o:Oper),L[k]?=some o->r[k]?=some (yC (acc++r.take k) o)
 |[],acc=>⟨[],by simp,rfl,by simp⟩
 |o::L,acc=>by
  obtain⟨r,b,a,d⟩:=Ox L (acc++[yC acc o]);refine⟨yC acc o::r,by simp[b],by simp[a],λk e c=>?_⟩;cases k<;>simp_all
theorem Y0 {a:Array Oper} {k m:Nat} {o:Oper} (p:a[k]?=some o) (h:((nr a).getD k 0).testBit m=true):
  ∃e∈o.after,Region.binds .any e=true/\(m=e.on\/((nr a).getD e.on 0).testBit m=true):=by
 obtain⟨r,j,n,g⟩:=Ox a.toList [];have c:nr a=r:=by
  grind[nr,yC]
 rw[c] at h ⊢;have d:=g k o (by simp_all);rw[ε8,d] at h;simp only[Option.getD_some,List.nil_append] at h;rcases Y1 h with f|⟨e,l,i,b⟩;·simp at f
 ·refine⟨e,by simp_all,i,b.imp_right λb=>?_⟩;rw[ε8] at b ⊢;rw[List.getElem?_take] at b;grind
theorem Ow:∀(L:List Oper) (i:Nat),wq i L=true->∀(k:Nat) (o:Oper),L[k]?=some o->∀e∈o.after,Region.binds .any e=true->e.on<i+k
 |[],i,_,k,o,a,_,_,_=>by simp at a;|o::L,i,h,k,c,a,e,d,b=>by
  simp only[wq,θ,ψ] at h;cases k with
  |zero=>
   grind;|succ k=>
   have:=Ow L (i+1) h.2 k c (by simp_all) e d b;omega
theorem Ou {c:List Nat}:∀{l:List cM},wk c l=true->∀(p q:Nat) (y x:cM),p<q->l[p]?=some y->l[q]?=some x->
  (c.getD x.idx 0).testBit y.idx=true\/(yp y x=true/\(wt y x=true\/Bn y x=true))
 |[],_,p,q,y,x,_,e,_=>by simp at e;|a::r,h,p,q,y,x,b,e,d=>by
  simp only[wk,θ,ψ] at h;match q,b with
  |q+1,b=>
   simp only[γS] at d;cases p with
   |zero=>
    grind;|succ p=>exact Ou h.2 p q y x (by omega) (by simp_all) d
theorem Ot {d:List Nat}:∀{l:List cM} (p q:Nat) (y x:cM),p<q->l[p]?=some y->l[q]?=some x->¬(d.getD x.idx 0).testBit y.idx=true->wt y x=false->(y.idx,x.idx)∈pJ d l
 |[],p,q,y,x,_,c,_,_,_=>by simp at c;|a::r,p,q,y,x,b,c,e,g,f=>by
  simp only[pJ,γi];match q,b with
  |q+1,b=>
   simp only[γS] at e;cases p with
   |zero=>
    grind;|succ p=>exact .inr (Ot p q y x (by omega) (by simp_all) e g f)
section
variable {P:Program} {A:de} {D:List Deferred} {call:cw} {base:Nat}
theorem Gl:∀{l:List cM} {st:St} {p:Nat} {x:cM} {t:List Nat×List Nat},l[p]?=some x->(dE call base l st)[p]?=some t->∃st',t=entry call base x st'
 |[],st,p,x,t,b,_=>by simp at b;|i::l,st,p,x,t,b,a=>by
  simp only[dE] at a;cases p with
  |zero=>grind;|succ p=>
   simp only[γS] at b a;split at a;·exact Gl b a
   ·simp at a
theorem Gk:∀{l:List cM} {st s:St} {p:Nat} {x:cM} {t:List Nat×List Nat},fw call base l st=some s->(l.map (·.idx)).Nodup->l[p]?=some x->(dE call base l st)[p]?=some t->oJ (lq call base l st) x.idx=t
 |[],st,s,p,x,t,_,_,a,_=>by simp at a;|i::l,st,s,p,x,t,b,g,a,d=>by
  simp only[fw] at b;split at b
  ·rename_i j k;simp only[ξ,γR] at g;have e:lq call base (i::l) st=(i.idx,entry call base i st)::lq call base l j:=by
    grind[lq,entry]
   rw[e];simp only[dE,k] at d;cases p with
   |zero=>grind[oJ];|succ p=>
    simp only[γS] at a d;have c:i.idx≠x.idx:=λh=>g.1 (h▸List.mem_map_of_mem (f:=λi:cM=>i.idx) (γf a));simp only[oJ,beq_iff_eq,c,if_false];exact Gk b g.2 a d
  ·cases b
theorem Oo {i:cM} {st:St} (h:i.op.bt=0):entry call base i st=([],[]):=by
 grind[entry,Gp,rk]
theorem On {i:cM} {st:St} (h:i.op.bt=1):(entry call base i st).2=[]:=by
 grind[entry,rk]
theorem Om {a b:List Nat} (h:wu a b=true):∀j∈a,j∉b:=by
 intro j c d;have:=ψ.1 h j c;simp_all
theorem YZ {n0:Nat} {c:List Nat} {l:List cM} {st s:St} (z:fw call base l st=some s) (A:(l.map (·.idx)).Nodup) (r:wk c l=true)
  (b:((pJ c l).isEmpty||rA n0 (lq call base l st) (pJ c l))=true) {p q:Nat} {y x:cM} {E D:List Nat×List Nat} (e:p<q) (i:l[p]?=some y) (j:l[q]?=some x)
  (d:(dE call base l st)[p]?=some E) (f:(dE call base l st)[q]?=some D):(c.getD x.idx 0).testBit y.idx=true\/yD n0 y E x D:=by
 rcases Ou r p q y x e i j with h|⟨g,I⟩;·exact .inl h
 by_cases u:(c.getD x.idx 0).testBit y.idx=true;·exact .inl u
 right;obtain⟨v,m⟩:=Gl i d;obtain⟨C,k⟩:=Gl j f;cases a:wt y x with
 |true=>
  unfold wt at a;simp only[Bool.or_eq_true,θ,beq_iff_eq] at a;rcases a with(a|a)|⟨a,n⟩
  ·have:=Oo (call:=call) (base:=base) (st:=v) a;rw[this] at m;subst m;exact⟨g,by simp,by simp,λh=>(by omega),by simp⟩
  ·have:=Oo (call:=call) (base:=base) (st:=C) a;rw[this] at k;subst k;exact⟨g,by simp,by simp,λ_=>⟨by rw[a];decide,by simp⟩,λh=>(by omega)⟩
  ·have B:=On (call:=call) (base:=base) (st:=v) a;have w:=On (call:=call) (base:=base) (st:=C) n;rw[<-m] at B;rw[<-k] at w;exact⟨g,by simp[B],by simp[w],λh=>(by omega),λh=>(by omega)⟩;|false=>
  have M:Bn y x=true:=I.resolve_left (by simp[a]);have J:=Ot p q y x e i j u a;have o:(pJ c l).isEmpty=false:=by
   grind
  rw[o,Bool.false_or] at b;have t:=ψ.1 b _ J;simp only[Gk z A i d,Gk z A j f,θ,ψ,decide_eq_true_eq] at t;obtain⟨⟨⟨F,K⟩,H⟩,G⟩:=t;refine⟨g,Om F,Om K,λL=>⟨λN=>?_,G⟩,λ_=>H⟩;grind[Bn]
theorem cm.eq {e:Nat} {f:World} {b:TN} {d:a_} {st st':St} {a:Act} {w:World} {σ:TN} (h:cm A e D f b d st a w σ) (c:jA st st'):cm A e D f b d st' a w σ where
 sim:=c.2▸h.sim;env:=λs=>by rw[<-c.1 s,<-c.2];exact h.env s
 size:=h.size;defers:=h.defers;ext:=c.2▸h.ext
theorem cm.drew {e:Nat} {f:World} {b:TN} {d:a_} {st:St} {a:Act} {w:World} {σ:TN} (h:cm A e D f b d st a w σ):cm A e D f b d st a {w with drawn:=w.drawn+1} σ:=by
 have c:Ext w σ st.o {w with drawn:=w.drawn+1} σ st.o:=⟨π _,λ_ _ h=>⟨rfl,h⟩,π _,λ_ _ h=>⟨h,λ_ h=>⟨h,rfl⟩⟩,λ_ h=>⟨h,rfl⟩,rfl,rfl,rfl⟩;exact⟨⟨h.sim.len,h.sim.dist,h.sim.dZ,λi x g=>(h.sim.obj i x g).ext c rfl λ_ _ _=>rfl,h.sim.av,h.sim.avb⟩,λs=>(h.env s).ext c,h.size,h.defers,h.ext.trans c⟩
theorem YY {c:Type} (b a:List c) (x:c):b++a=(b++x::a).eraseIdx b.length:=by
 grind
structure Gj (P:Program) (nt:Nat) (fl:List Nat) (ops:Array Oper) (call:cw) (base n0:Nat) (st2:St) (l:List cM) (listed:Array Bool) (st:St):Prop where
 run:∃s,fw call base l st=some s/\jA st2 s
 len:n0<=st.o.length
 rel:∀(p q:Nat) (y x:cM) (ty tx:List Nat×List Nat),p<q->l[p]?=some y->l[q]?=some x->(dE call base l st)[p]?=some ty->(dE call base l st)[q]?=some tx->((nr ops).getD x.idx 0).testBit y.idx=true\/yD n0 y ty x tx
 comp:∀x∈l,∃qE,pK P nt fl ops qE x.idx=some x
 nodup:(l.map (·.idx)).Nodup
 sz:listed.size=ops.size
 Ap:∀k,k<ops.size->(listed.getD k true=false↔∃x∈l,x.idx=k)
 closed:∀k m,listed.getD k false=true->((nr ops).getD k 0).testBit m=true->listed.getD m false=true
theorem q8 {c:Array Bool} {k:Nat} (h:k<c.size) (a b:Bool):c.getD k a=c.getD k b:=by
 simp_all
theorem YX {M:Nat} {fl:List Nat} {c:Array Oper} (K:nX P call) (a5:wq 0 c.toList=true) {n0:Nat} {st2:St} {w0:World} {L:TN} {o0:a_} {Q:Exit->Act->World->Prop}
  (hQ:∀Y w' F,cm A M D w0 L o0 st2 Y w' F->Q .normal Y w') {rnd:Option Nat}:∀(h:Nat) (l:List cM) (b:Array Bool) (st:St) (a:Act) (w:World) (σ:TN),l.length<=h->
   Gj P M fl c call base n0 st2 l b st->cm A M D w0 L o0 st a w σ->wpAnyIn (FR rnd) 0 P .any c Q h b a w:=by
 have C:∀(b:Array Bool) (st:St) (a:Act) (w:World) (σ:TN),Gj P M fl c call base n0 st2 [] b st->cm A M D w0 L o0 st a w σ->Q .normal a w:=by
  intro b st a w σ d O;obtain⟨s,n,h2⟩:=d.run;simp only[fw,γ] at n;subst n;exact hQ _ _ _ (O.eq h2.symm)
 have H:∀(l:List cM) (b:Array Bool) (st:St),Gj P M fl c call base n0 st2 l b st->∀(k:Nat),(∃x∈l,x.idx=k)->Region.ready .any c b≠[]:=by
  intro l b st d k;induction k using ζM with
  |_ k ih=>
   rintro⟨x,G,rfl⟩;obtain⟨V,X⟩:=d.comp x G;cases I:c[x.idx]? with
   |none=>grind[pK];|some o=>
    have j:x.idx<c.size:=(γA.1 I).1;by_cases i:∀e∈o.after,Region.binds .any e=true->b.getD e.on false=true
    ·intro u;have:x.idx∈Region.ready .any c b:=mem_ready.2 ⟨(d.Ap _ j).2 ⟨x,G,rfl⟩,o,I,i⟩;simp_all
    ·simp only[Classical.not_forall] at i;obtain⟨e,he,hb,hn⟩:=i;have N:=Ow c.toList 0 a5 x.idx o (by simp_all) e he hb;simp only[Nat.zero_add] at N;refine ih e.on N ((d.Ap e.on (by omega)).1 ?_);rw[q8 (by rw[d.sz];omega) true false];simp_all
 intro h;induction h with
 |zero=>
  intro l b st a w σ hl d O;have:l=[]:=χ (by omega);subst this;refine⟨?_,C b st a w σ d O⟩;rw[List.eq_nil_iff_forall_not_mem];intro k j;obtain⟨h0,o,I,_⟩:=mem_ready.1 j;obtain⟨x,G,_⟩:=(d.Ap k (γA.1 I).1).1 h0;simp at G;|succ h ih=>
  intro l b st a w σ hl d O;refine⟨λu=>?_,λk j=>?_⟩;·cases l with
   |nil=>grind;|cons x l=>exact absurd u (H _ b st d x.idx ⟨x,by simp,rfl⟩)
  ·obtain⟨h0,o,I,i⟩:=mem_ready.1 j;have a2:k<c.size:=(γA.1 I).1;obtain⟨x,G,rfl⟩:=(d.Ap k a2).1 h0;obtain⟨f,g,rfl⟩:=List.append_of_mem G;obtain⟨s,R,S⟩:=d.run;have T:∀m,((nr c).getD x.idx 0).testBit m=true->b.getD m false=true:=by
    intro m hm;obtain⟨e,he,hb,n⟩:=Y0 I hm;rcases n with rfl|n;·simp_all
    ·exact d.closed _ _ (i e he hb) n
   obtain⟨s1,s',f1,f2,f3,f4,f5⟩:=front (n0:=n0) f R d.len λp y W tx hp n h2=>by
    have a0:p<f.length:=(ζ.1 hp).1;have J:(f++x::g)[p]?=some y:=by grind
    rcases d.rel p f.length y x W tx a0 J (by simp) n h2 with Z|Z
    ·exfalso;have h4:=T _ Z;obtain⟨V,X⟩:=d.comp y (γf J);cases U:c[y.idx]? with
     |none=>simp[pK,U] at X;|some oy=>
      have a6:y.idx<c.size:=(γA.1 U).1;have h5:=(d.Ap _ a6).2 ⟨y,γf J,rfl⟩;grind
    ·exact Z
   obtain⟨V,X⟩:=d.comp x G;refine OG K X f1 O λY w' F a4=>?_;have a8:=d.nodup;have a7:=YY f g x;have v:∀(p:Nat) (y:cM),(f++g)[p]?=some y->(f++x::g)[if p<f.length then p else p+1]?=some y:=by
    grind
   have B:∀(p:Nat) (t:List Nat×List Nat),(dE call base (f++g) s1)[p]?=some t->(dE call base (f++x::g) st)[if p<f.length then p else p+1]?=some t:=by
    grind
   obtain⟨_,_,E,_⟩:=vp f1;refine ih (f++g) _ s1 Y w' F (by grind) ⟨⟨s',f2,S.trans f3⟩,δ3 d.len E,λp q y z W tz a9 hy hz a1 a3=>?_,λy hy=>d.comp y ?_,?_,by simp[d.sz],λk j=>?_,λk m j hm=>?_⟩ a4
   ·refine d.rel _ _ y z W tz ?_ (v p y hy) (v q z hz) (B p W a1) (B q tz a3);split<;>split<;>omega
   ·grind
   ·grind
   ·by_cases r:k=x.idx
    ·subst r;have n:(b.setIfInBounds x.idx true).getD x.idx true=true:=by simp
     grind
    ·rw[getD_set_ne true (Ne.symm r),d.Ap k j];grind
   ·by_cases r:k=x.idx;·grind[getD_set_true]
    ·rw[getD_set_ne false (Ne.symm r)] at j;exact getD_set_true (d.closed k m j hm)
theorem Ol:∀{l:List Nat},iX l=true->l.Nodup
 |[],_=>List.nodup_nil
 |a::r,h=>by
  simp only[iX,θ,Bool.not_eq_true',List.contains_eq_mem,decide_eq_false_iff_not] at h;exact γR.2 ⟨h.1,Ol h.2⟩
theorem YW {b:Nat} {fl:List Nat} {a:Array Oper} {qE k:Nat} {x:cM} (h:pK P b fl a qE k=some x):x.idx=k/\k<a.size:=by
 unfold pK at h;split at h;·cases h
 ·rename_i o d;split at h
  ·obtain⟨c,_,rfl⟩:=ε.1 h;grind
  ·cases h
theorem YV (g:nX P call) {s:Nat} {fl:List Nat} {d:Array Oper} {id k:Nat} {c:List Nat} {l:List cM} (S:tF P s fl d 0 c=some (l,k)) (h:P.follows .mixedOrders=true)
  (C:c.length=d.size) (L:iX c=true) (M:wk (nr d) l=true) (u:wq 0 d.toList=true) (r:(ω d.size).all c.contains=true)
  {b st2:St} (T:fw call b.o.length l ⟨b.env,b.o++fu k⟩=some st2)
  (G:((pJ (nr d) l).isEmpty||rA (b.o++fu k).length (lq call b.o.length l ⟨b.env,b.o++fu k⟩) (pJ (nr d) l))=true)
  {I:World} {n:TN} {F:a_} {a:Act} {w:World} {σ:TN} {Q:Exit->Act->World->Prop} (O:cm A s D I n F ⟨b.env,b.o++fu k⟩ a w σ) (K:∀B w' t,cm A s D I n F st2 B w' t->Q .normal B w') {rnd:Option Nat}:(Code.region id d true).wpIn (FR rnd) 0 P Q a w:=by
 obtain⟨Z,W⟩:=Gr S;have E:l.map (·.idx)=c:=by
  apply δa;intro j;rw[List.getElem?_map];cases f:l[j]? with
  |none=>
   simp_all;|some x=>
   have v:=(ζ.1 f).1;have z:=μ (l:=c) (i:=j) (by omega);obtain⟨X,V⟩:=W j x _ f z;rw[z];simp[(YW V).1]
 have e:(l.map (·.idx)).Nodup:=by grind[Ol]
 refine wpIn_region_any h (YX (fl:=fl) (base:=b.o.length) (n0:=(b.o++fu k).length) g u K d.size l _ ⟨b.env,b.o++fu k⟩ a _ σ (by omega) ⟨⟨st2,T,jA.refl _⟩,π _,λp q y x ty tx R Y H N U=>?_,λx H=>?_,e,by simp,λj f=>?_,λj m f=>?_⟩ O.drew);·grind[YZ]
 ·obtain⟨j,f⟩:=List.getElem?_of_mem H;have v:=(ζ.1 f).1;have z:=μ (l:=c) (i:=j) (by omega);grind
 ·have J:(εd d.size false).getD j true=false:=by simp[f]
  rw[J];refine⟨λ_=>?_,λ_=>rfl⟩;have:=ψ.1 r j (List.mem_range.2 f);grind
 ·exfalso;rw[Array.getD_eq_getD_getElem?,Array.getElem?_replicate] at f;grind
end
section
variable {P:Program} {A:de} {D:List Deferred} {w w':World} {σ σ':TN} {o o':a_}
theorem OM.fresh (i:OM A w σ o) (e:TypeId) (sz:Nat) (pu:Bool):∃a,OM A w a (o++[.cells [] e sz pu])/\Ext w σ o w a (o++[.cells [] e sz pu])/\a[o.length]?=some none:=by
 obtain⟨k,j⟩:=i.fu 1;have b:(o++Go.Vi.fu 1)[o.length]?=some .dead:=by simp[Go.Vi.fu]
 have c:(o++Go.Vi.fu 1).set o.length (.cells [] e sz pu)=o++[.cells [] e sz pu]:=by
  grind[Go.Vi.fu]
 have f:o.length<(σ++List.replicate 1 none).length:=by simp[i.len]
 obtain⟨d,g⟩:=k.iw (w':=w) (x':=.cells [] e sz pu) (s':=none) b (π _) rfl rfl rfl (λ_ _ _=>rfl) (λ_ _ h=>by cases h) trivial (λl=>by
  simp only[cQ];exact⟨λ_=>rfl,rfl,.inl ⟨by simp_all,trivial⟩⟩);rw[c] at d g;exact⟨_,d,j.trans g,by simp_all⟩
theorem Oj {n:Nat} {e:TypeId} {sz:Nat} {pu:Bool} (c:o[n]?=some (.cells [] e sz pu)) (a:σ[n]?=some none):nA A w σ o (.os n 0 0 0) (.slice none 0 0):=by
 simp only[nA];refine⟨⟨[],e,sz,pu,c,π _⟩,none,0,rfl,π _,λb _=>?_⟩;grind[jY]
theorem cm.P7 {t:Nat} {r:World} {g:TN} {p:a_} {st:St} {a:Act} (h:cm A t D r g p st a w σ) (id:Nat):∃i,cm A t D r g p (Bq id st) a w i:=by
 unfold Bq;split
 ·rename_i E e L k;have n:id<st.o.length:=(ζ.1 k).1;have d:id<σ.length:=by rw[h.sim.len];exact n
  obtain⟨x,q⟩:=h.sim.iw (w':=w) (x':=.cells E e L false) (s':=σ[id]) k (π _) rfl rfl rfl (λ_ _ _=>rfl)
   (λb c N=> .inl ⟨c,by simp_all⟩) ⟨_,e,false,rfl,by simp,λ_=>μ d⟩ (λK=>by
    have f:=h.sim.obj id _ k;simp only[cQ] at f ⊢;obtain⟨P,H,I⟩:=f;refine⟨λG=>(by cases G),H,?_⟩;rcases I with⟨O,R⟩|⟨b,l,m,Q,J,u,y,F,M⟩;·simp_all
    ·refine .inr ⟨b,l,m,?_,J,u,y,F,λj c C=>?_⟩;·simp_all
     ·obtain⟨v,z,B⟩:=M j c C;exact⟨v,z,B.ext K⟩);exact⟨_,x,λs=>(h.env s).ext q,h.size,h.defers,h.ext.trans q⟩
 grind
theorem cm.YU {M:Nat} {P:World} {u:TN} {U:a_} {st:St} {a:Act} (h:cm A M D P u U st a w σ) (x:iM):∃C,cm A M D P u U (Bp x st) a w C:=by
 obtain⟨f,I,z,V⟩:=h.sim.fresh x.e x.sz x.pu;have r:(st.o++[OL.cells [] x.e x.sz x.pu])[st.o.length]?=some (.cells [] x.e x.sz x.pu):=by simp
 unfold Bp;split
 ·split
  ·rename_i N;refine⟨f,I,λs=>?_,h.size,h.defers,h.ext.trans z⟩;simp only[cY];cases X:δu x.slot s with
   |true=>
    have:=εU X;subst this;have:=h.env x.slot;grind[fD,Oj];|false=>exact(h.env s).ext z
  ·split;·exact h.P7 _
   grind
  grind
 ·rename_i k _;split
  ·rename_i i d a1 N;split
   ·rename_i p e y pu ho;split
    ·rename_i R;split
     ·rename_i g;obtain⟨L,rfl⟩:=g;have a0:i<st.o.length:=(ζ.1 ho).1;have l:i<f.length:=by grind
      have n:(st.o++[OL.cells [] x.e x.sz x.pu])[i]?=some (.cells p e y false):=by grind
      have Z:d+k<p.length:=(ζ.1 R).1;obtain⟨O,G⟩:=I.iw (w':=w) (x':=.cells (p.set (d+k) (.os st.o.length 0 0 0)) e y false) (s':=f[i]) n (π _) rfl rfl rfl (λ_ _ _=>rfl)
       (λb c N=> .inl ⟨c,by simp_all⟩) ⟨_,e,false,rfl,by simp,λ_=>μ l⟩ (λS=>by
        have t:=I.obj i _ n;simp only[cQ] at t ⊢;obtain⟨q1,q2,q3⟩:=t;refine⟨λh=>(by cases h),?_,?_⟩
        ·refine lT.2 λc H=>?_;rcases List.mem_or_eq_of_mem_set H with T|T;·grind[lT]
         ·subst T;rfl
        ·rcases q3 with⟨_,h0⟩|⟨b,K,B,r1,W,r3,Y,r5,Q⟩;·simp_all
         ·refine .inr ⟨b,K,B,?_,W,r3,Y,by simp_all,λj c m=>?_⟩;·simp_all
          ·rw[εk] at m;split at m
           ·rename_i J;subst J;injection m with m;subst m;obtain⟨v,E,F⟩:=Q _ _ R;refine⟨v,E,?_⟩;rw[fD F];exact(Oj r V).ext S
           ·obtain⟨v,E,F⟩:=Q j c m;exact⟨v,E,F.ext S⟩);have q:(st.o++[OL.cells [] x.e x.sz x.pu]).set i (.cells (p.set (d+k) (.os st.o.length 0 0 0)) e y false)=(st.o.set i (.cells (p.set (d+k) (.os st.o.length 0 0 0)) e y false))++[OL.cells [] x.e x.sz x.pu]:=by
       simp_all
      rw[q] at O G;exact⟨_,O,λs=>((h.env s).ext z).ext G,h.size,h.defers,(h.ext.trans z).trans G⟩
     grind
    grind
   grind
  grind
theorem cm.Qi {t:Nat} {r:World} {f:TN} {p:a_} {st:St} {a:Act} (h:cm A t D r f p st a w σ) (id:Nat):∃i,cm A t D r f p (yq id st) a w i:=by
 unfold yq;split
 ·rename_i G e x k;split
  ·rename_i E;have n:id<st.o.length:=(ζ.1 k).1;have d:id<σ.length:=by rw[h.sim.len];exact n
   obtain⟨y,q⟩:=h.sim.iw (w':=w) (x':=.cells G e x true) (s':=σ[id]) k (π _) rfl rfl rfl (λ_ _ _=>rfl)
    (λb c N=> .inl ⟨c,by simp_all⟩) ⟨_,e,true,rfl,by simp,λ_=>μ d⟩ (λH=>by
     have g:=h.sim.obj id _ k;simp only[cQ] at g ⊢;obtain⟨P,F,K⟩:=g;refine⟨λ_=>E,F,?_⟩;rcases K with⟨O,R⟩|⟨b,l,m,Q,L,u,z,I,M⟩;·simp_all
     ·refine .inr ⟨b,l,m,?_,L,u,z,I,λj c B=>?_⟩;·simp_all
      ·obtain⟨v,C,J⟩:=M j c B;exact⟨v,C,J.ext H⟩);exact⟨_,y,λs=>(h.env s).ext q,h.size,h.defers,h.ext.trans q⟩
  grind
 grind
theorem cm.hint {f:Nat} {g:World} {b:TN} {e:a_} {st:St} {a:Act} {lo:Nat} (l:e.length<=lo) (h:cm A f D g b e st a w σ) (x:iM):∃d,cm A f D g b e (jE lo x st) a w d:=by
 unfold jE;split;·exact h.YU x
 ·split
  ·rename_i o _ _ _ _;split
   ·rename_i p;have m:=Nat.le_of_ble_eq_true p;obtain⟨k,h⟩:=h.Qi o;unfold Bo;simp only;split
    ·rename_i q t n j;have c:=OO j;exact⟨_,h.sim.Q5 c,λs=>nA.Q5 h.sim c _ _ _ (PV n s) (h.env s),h.size,h.defers,h.ext.Q5 c λi r=>by
      grind⟩
    grind
   grind
  grind
theorem Oi {s:World} {f:TN} {h:a_} (j:OM A w σ o) (g:Ext s f h w σ o) {l r:AV} {u:Value} (y:nA A w σ o l u) {own:Bool} (a:finish own h.length l o=some (r,o')):
  ∃d,OM A w d o'/\nA A w d o' r u/\Ext s f h w d o':=by
 unfold finish at a;cases own with
 |true=>grind[YD];|false=>
  simp only[τ,if_false] at a;split at a
  ·rename_i D;split at a
   ·rename_i C m;simp only[γ,ι] at a;obtain⟨rfl,rfl⟩:=a;have t:h=[]:=χ D;subst t;refine⟨[],yj w j.avb,Ht j (λb _ a=>a.2) 6 l C u m (λq _ b c p=>j.av q b c p) y,g.size,λb v B=>⟨(g.blk b v B).1,λ⟨i,c,z⟩=>by simp at z⟩,π _,λq x k=>?_,λq k=>?_,g.os,g.tape,g.output⟩;·obtain⟨G,e,F,E,n,_⟩:=k;simp at n
    ·obtain⟨H,I,E,n⟩:=k;simp at n
   ·cases a
  ·cases a
end
open Go.RowKit
section
variable {A:de} {w w':World} {σ:TN} {o:a_}
mutual
theorem nA.to (g:∀(p:Addr) (v:Value),w.cell? p=some v->w'.cell? p=some v):∀(c:AV) (v:Value),nA A w σ o c v->nA A w' σ o c v
 | .ud,_,_=>by simp[nA];| .sc u,v,d=>by grind[nA];| .agg e,v,d=>by
  simp only[nA] at d ⊢;obtain⟨k,rfl,i⟩:=d;exact⟨k,rfl,Aq.to g e _ i⟩;| .Gz e,v,d=>by
  simp only[nA] at d ⊢;obtain⟨k,rfl,i⟩:=d;exact⟨k,rfl,Aq.to g e _ i⟩;| .sl n e,v,d=>by
  simp only[nA] at d ⊢;obtain⟨a,q,rfl,G,x,y⟩:=d;exact⟨a,q,rfl,G,x,cF.to g e a 0 y⟩;| .ep e l,v,d=>by
  simp only[nA] at d ⊢;obtain⟨a,rfl,x,y⟩:=d;exact⟨a,rfl,x,cF.to g e _ 0 y⟩;| .ptr z l m,v,d=>by grind[nA];| .os z l H m,v,d=>by grind[nA];| .mp z,v,d=>by grind[nA];| .fn f a b,v,d=>by
  simp only[nA] at d ⊢;obtain⟨E,F,rfl,C,I⟩:=d;exact⟨E,F,rfl,Aq.to g a _ C,Aq.to g b _ I⟩;| .ifc t e,v,d=>by
  simp only[nA] at d ⊢;obtain⟨k,rfl,B,i⟩:=d;exact⟨k,rfl,B,Aq.to g e _ i⟩
theorem Aq.to (g:∀(p:Addr) (v:Value),w.cell? p=some v->w'.cell? p=some v):∀(e:List AV) (k:List Value),Aq A w σ o e k->Aq A w' σ o e k
 |[],_,h=>by grind[Aq];|c::e,k,h=>by
  simp only[Aq] at h ⊢;obtain⟨v,r,rfl,s,i⟩:=h;exact⟨v,r,rfl,nA.to g c v s,Aq.to g e r i⟩
theorem cF.to (g:∀(p:Addr) (v:Value),w.cell? p=some v->w'.cell? p=some v):∀(e:List AV) (a:Option Addr) (j:Nat),cF A w σ o e a j->cF A w' σ o e a j
 |[],_,_,_=>by simp[cF];|c::e,a,j,h=>by
  simp only[cF] at h ⊢;obtain⟨⟨b,v,rfl,D,s,d⟩,i⟩:=h;exact⟨⟨b,v,rfl,D,g _ _ s,nA.to g c v d⟩,cF.to g e _ (j+1) i⟩
end
theorem OM.to (a:OM A w σ o) (t:∀(p:Addr) (v:Value),w.cell? p=some v->w'.cell? p=some v) (J:∀(i b c:Nat),σ[i]?=some (some (b,c))->w'.heap[b]?=w.heap[b]?)
  (d:w.heap.size<=w'.heap.size):OM A w' σ o:=by
 refine⟨a.len,a.dist,λi b c h=>γl (a.dZ i b c h) d,λi x F=>?_,a.av,λb h=>γl (a.avb b h) d⟩;have h:=a.obj i x F;cases x with
 |dead=>grind[cQ];|cells N e K H=>
  simp only[cQ] at h ⊢;refine⟨h.1,h.2.1,?_⟩;rcases h.2.2 with s|⟨b,n,g,k,u,y,l,D,C⟩;·exact .inl s
  ·refine .inr ⟨b,n,g,k,u,by grind,l,D,λj c q=>?_⟩;obtain⟨v,I,f⟩:=C j c q;exact⟨v,I,f.to t c v⟩;|map M L H=>
  simp only[cQ] at h ⊢;obtain⟨s,r,b,c,E,G,k,u,y,l⟩:=h;refine⟨s,r,b,c,E,G,k,by grind,y,λj e q=>?_⟩;obtain⟨m,B,z,f⟩:=l j e q;exact⟨m,B,z,f.to t e.2 _⟩
theorem yB {r b:Nat} {y:Obj} (h:b≠r):(w.putObj r y).heap[b]?=w.heap[b]?:=by
 simp_all[World.putObj,Ne.symm]
theorem putObj_size {r:Nat} {y:Obj}:(w.putObj r y).heap.size=w.heap.size:=by simp_all
theorem Oh {r:Nat} {x y:Obj} (h:w.heap[r]?=some x) (b:x.isCells=false) (p:Addr) (v:Value) (a:w.cell? p=some v):(w.putObj r y).cell? p=some v:=by
 grind[cells_of_cell,World.cell?_of_block,yB]
theorem OM.rj (a:OM A w σ o) {r:Nat} {x y:Obj} (h:w.heap[r]?=some x) (d:x.isCells=false) (g:¬Own σ r):OM A (w.putObj r y) σ o:=
 a.to (Oh h d) (λi b c f=>yB λe=>g ⟨i,c,e▸f⟩) (by simp_all)
theorem nA.rj {c:AV} {v:Value} (a:nA A w σ o c v) {r:Nat} {x y:Obj} (h:w.heap[r]?=some x) (b:x.isCells=false):nA A (w.putObj r y) σ o c v:=
 a.to (Oh h b) c v
theorem Ext.rj {c:World} {a:TN} {d:a_} (h:Ext c a d w σ o) {r:Nat} {y:Obj} (g:c.heap.size<=r):Ext c a d (w.putObj r y) σ o where
 size:=by rw[putObj_size];exact h.size
 blk:=λb e f=>by
  obtain⟨i,j⟩:=h.blk b e f;grind[yB]
 len:=h.len;cur:=h.cur;isMap:=h.isMap;os:=h.os;tape:=h.tape;output:=h.output
theorem AB {P:Program} {t:Func} {a:Array Value} {m:World} {D:List Deferred} {R:Ending->World->Prop}:∀(j:List Deferred) (w:World),sn m w j->OM A w σ o->
  (∀w',OM A w' σ o->(∀{c:TN} {q:a_},Ext m c q w σ o->Ext m c q w' σ o)->(∀s v,nA A w σ o s v->nA A w' σ o s v)->LeavesInM (FR none) 0 P t a R D .returning w')->
  LeavesInM (FR none) 0 P t a R (j++D) .returning w
 |[],w,_,f,k=>k w f (λh=>h) (λ_ _ h=>h)
 |d::j,w,g,f,k=>by
  obtain⟨r,x,n,i⟩:=g.2 d (by simp);have C:=f.Gs i (by simp) (by simp);simp only[γM,LeavesInM];refine⟨by simp,.inl ⟨r,w.putObj r (.deferred none),by rw[x],run_takeDeferred i,?_⟩⟩;refine AB j _ ⟨(γr.1 g.1).2,λe p=>?_⟩ (f.rj i rfl C) λw' y z E=>k w' y (λh=>z (h.rj n)) (λs v h=>E s v (h.rj i rfl));obtain⟨B,l,b,u⟩:=g.2 e (γp _ p);refine⟨B,l,b,?_⟩;have:=(γr.1 g.1).1 e p;grind[yB]
theorem Gi {P:Program} {m:World}:∀(f:List Deferred) (w:World) (fr:Frame) (cs:List Frame),fr.mode= .returning->fr.defers=f->sn m w f->OM A w σ o->
  ∃w',StepsIn (Machine.fenced P (FR none)) P (lone fr cs w) (lone {fr with defers:=[]} cs w')/\OM A w' σ o/\(∀{a:TN} {u:a_},Ext m a u w σ o->Ext m a u w' σ o)/\∀s v,nA A w σ o s v->nA A w' σ o s v
 |[],w,fr,cs,_,k,_,l=>by
  refine⟨w,?_,l,λh=>h,λ_ _ h=>h⟩;have:fr={fr with defers:=[]}:=by rw[<-k]
  rw[<-this];exact StepsIn.refl _;|d::f,w,fr,cs,x,k,j,l=>by
  obtain⟨r,p,q,i⟩:=j.2 d (by simp);have C:=l.Gs i (by simp) (by simp);have b:fr.mode≠ .run:=by rw[x];simp
  have I:=step_collected (cs:=cs) b k (by rw[p]) (run_takeDeferred (P:=P) i);have H:(lone fr cs w).fenced P (FR none):=fenced_out (n:=0) trivial (by simp[FR,Fence.wide,Fence.room]) b k (λg J=>by grind[Target.leads]);obtain⟨w',E,z,F,D⟩:=Gi f (w.putObj r (.deferred none)) {fr with defers:=[]++f} cs x rfl ⟨(γr.1 j.1).2,λe y=>by
   obtain⟨G,t,c,B⟩:=j.2 e (γp _ y);refine⟨G,t,c,?_⟩;have:=(γr.1 j.1).1 e y;grind[yB]⟩ (l.rj i rfl C);exact⟨w',.head H I E,z,λh=>F (h.rj q),λs v h=>D s v (h.rj i rfl)⟩
theorem YT {P:Program} {f:FuncId} {m:Func} {c:Code} {args:Array Value} {u:FrameMode} {w:World} {R:Ending->World->Prop}
  (E:P.funcs[f]?=some m) (S:m.body=some c)
  (h:c.wpIn (FR none) 0 P (λe a r=>(e= .normal\/e= .ret)/\∃(q:World) (g:TN) (l:a_),sn q r a.defers/\OM A r g l/\∀i,OM A i g l->(∀{n:TN} {I:a_},Ext q n I r g l->Ext q n I i g l)->(∀s v,nA A r g l s v->nA A i g l s v)->
   ∃v,(results m a.tmps).run P i= .ok v i/\R (.returned v) i) {tmps:=args++εd (m.ntmps - args.size) undef,defers:=[]} w):
  CallsDIn (FR none) 0 P f args u w λe L w'=>L=u/\R e w':=by
 refine⟨trivial,λd z Q J=>?_⟩;let b:Frame:={(default:Frame) with fn:=f,kind:=.deferred,roundOf:=none};have k:Frame.enter P f args .deferred=
   b.atR {tmps:=args++εd (m.ntmps - args.size) undef,defers:=[]} [.code c]:=by
  grind[Frame.enter,Frame.atR]
 have F:({d with mode:=u}:Frame)=d:=by subst Q;rfl
 obtain⟨e,p,w',O,j⟩:=h b [] (d::z) rfl trivial J;rw[<-k] at j;obtain⟨N,q,g,l,H,K,G⟩:=O;rcases N with rfl|rfl
 ·obtain⟨i,C,t,y,B⟩:=Gi (P:=P) p.defers w' {b.atR p [] with mode:=.returning} (d::z) rfl rfl H K;obtain⟨v,D,x⟩:=G i t y B;exact⟨.returned v,u,i,_,⟨rfl,x⟩,(by rw[F];exact StepsIn.trans (StepsIn.trans j (.one (fenced_calm (fr:=b.atR p []) trivial J rfl) (stepR_end rfl))) C),rfl,rfl,rfl,rfl,m,E,D⟩
 ·obtain⟨o,M⟩:=j.1 rfl;obtain⟨i,C,t,y,B⟩:=Gi (P:=P) p.defers w' {b.atR p o with mode:=.returning} (d::z) rfl rfl H K;obtain⟨v,D,x⟩:=G i t y B;exact⟨.returned v,u,i,_,⟨rfl,x⟩,(by rw[F];exact StepsIn.trans M C),rfl,rfl,rfl,rfl,m,E,D⟩
end
open Go.RowKit
def Out.rX:Out->Exit
 | .norm=> .normal
 | .exit a=> .exit a
 | .ret=> .ret
 | .goto l=> .goto l
section
variable {P:Program} {A:de} {D:List Deferred} {w w':World} {σ σ':TN} {o o':a_}
theorem YR (a:List Nat) (env:iT) (s:Nat):cY (eK a env) s=cY env s\/cY (eK a env) s= .ud:=by
 unfold eK;induction a with
 |nil=>right;rfl;|cons x a b=>
  simp only[ξ,cY];cases c:δu x s<;>simp_all
theorem YQ (t:Nat) (env:iT) (s:Nat):cY (pN t env) s=cY env s\/cY (pN t env) s= .ud:=by
 induction env with
 |nil=>left;rfl;|cons p env c=>
  simp only[pN];cases a:δu p.1 t with
  |true=>
   simp only[cond_true];by_cases d:p.1=s
   ·have e:=εU a;right;have:∀env:iT,cY (pN t env) t= .ud:=by
     intro env;induction env with
     |nil=>rfl;|cons q env c=>
      simp only[pN];cases b:δu q.1 t with
      |true=>simp_all;|false=>simp_all[cY]
    simp_all
   ·have:cY (p::env) s=cY env s:=by
     simp only[cY];have:δu p.1 s=false:=by
      cases h:δu p.1 s<;>simp_all
     rw[this];rfl
    simp_all;|false=>
   simp only[cond_false,cY];grind
theorem cm.drop {d:Nat} {e:World} {b:TN} {c:a_} {st:St} {a:Act} (h:cm A d D e b c st a w σ) (x:Operand):cm A d D e b c ⟨n5 x st.env,st.o⟩ a w σ where
 sim:=h.sim;env:=λs=>by
  unfold n5;split
  ·rename_i t;rcases YQ t st.env s with f|f;·simp only[f];exact h.env s
   grind[nA]
  ·exact h.env s
 size:=h.size;defers:=h.defers;ext:=h.ext
theorem cm.eK {e:Nat} {f:World} {c:TN} {d:a_} {st:St} {a:Act} (h:cm A e D f c d st a w σ) (b:List Nat):cm A e D f c d ⟨ζW b st.env,st.o⟩ a w σ where
 sim:=h.sim;env:=λs=>by
  rcases YR b st.env s with g|g;·simp only[g];exact h.env s
  grind[nA]
 size:=h.size;defers:=h.defers;ext:=h.ext
theorem YP {env:iT} {s:Nat}:cY env s= .ud\/∃p∈env,p.2=cY env s:=by
 induction env<;>grind[cY]
theorem cm.trim {g:Nat} {f:World} {b:TN} {d:a_} {st:St} {a:Act} (h:cm A g D f b d st a w σ) {k:Nat} (i:d.length<=k):∃c,cm A g D f b d (Go.Vi.trim k st) a w c:=by
 unfold Go.Vi.trim;split;·grind
 ·split
  ·rename_i e;simp only[θ,ψ] at e;refine⟨σ.take k,⟨h.sim.take e.2,λs=>?_,h.size,h.defers,h.ext.take i⟩⟩;grind[YP,env,nA,nA.take]
  grind
theorem cm.fu {e:Nat} {g:World} {b:TN} {d:a_} {st:St} {a:Act} (h:cm A e D g b d st a w σ) (n:Nat):∃c,cm A e D g b d ⟨st.env,st.o++Go.Vi.fu n⟩ a w c:=by
 obtain⟨i,f⟩:=h.sim.fu n;exact⟨_,i,λs=>(h.env s).ext f,h.size,h.defers,h.ext.trans f⟩
theorem cm.pR {e:Nat} {f:World} {c:TN} {d:a_} {st:St} {a:Act} (h:cm A e D f c d st a w σ) {k:Nat} (g:d.length<=k):∃b,cm A e D f c d ⟨st.env,Go.Vi.pR k st.o⟩ a w b:=by
 obtain⟨b,l,j,i⟩:=YG h.sim k;exact⟨b,l,λs=>j _ _ (h.env s),h.size,h.defers,i _ _ _ g h.ext⟩
theorem cm.len {d:Nat} {e:World} {b:TN} {c:a_} {st:St} {a:Act} (h:cm A d D e b c st a w σ):c.length<=st.o.length:=h.ext.len
theorem cm.hints {nt:Nat} {w0:World} {σ0:TN} {o0:a_} {lo:Nat} (hlo:o0.length<=lo) (l:List iM):∀{st:St} {a:Act} {σ:TN},cm A nt D w0 σ0 o0 st a w σ->∃σ',cm A nt D w0 σ0 o0 (l.foldl (λs h=>jE lo h s) st) a w σ':=by
 induction l with
 |nil=>intro st a σ h;exact⟨σ,h⟩;|cons x l ih=>
  intro st a σ h;obtain⟨σ1,h1⟩:=cm.hint hlo h x;exact ih h1
theorem YN {rnd:Option Nat} {call:cw} (hcall:nX P call) {lo nt:Nat} {H:List RH} {id:Nat} {ops:Array Oper} {draw:Bool} {c:IR} (hc:wj P nt H id ops draw=some c):
  ∃k l chk live pre post,c= .region id draw k l chk live pre post/\∀{st st':St},n9 call k l chk (pre.foldl (λs h=>jE lo h s) st)=some st'->∀{w0:World} {σ0:TN} {o0:a_} {a:Act} {w:World} {σ:TN},o0.length<=lo->cm A nt D w0 σ0 o0 st a w σ->
   (Code.region id ops draw).wpIn (FR rnd) 0 P (λe a' w'=>e= .normal/\∃σ',cm A nt D w0 σ0 o0 (post.foldl (λs h=>jE lo h s) ⟨ζW live st'.env,st'.o⟩) a' w' σ') a w:=by
 unfold wj at hc;split at hc;·cases hc
 ·rename_i h hh;have fin:∀(k:Nat) (l:List cM) (chk:List (Nat×Nat)),(∀{st1 st2:St},fw call st1.o.length l ⟨st1.env,st1.o++fu k⟩=some st2->(chk.isEmpty||rA (st1.o++fu k).length (lq call st1.o.length l ⟨st1.env,st1.o++fu k⟩) chk)=true->
     ∀{w0:World} {σ0:TN} {o0:a_} {a:Act} {w:World} {σ:TN} {Q:Exit->Act->World->Prop},cm A nt D w0 σ0 o0 ⟨st1.env,st1.o++fu k⟩ a w σ->(∀a' w' σ',cm A nt D w0 σ0 o0 st2 a' w' σ'->Q .normal a' w')->(Code.region id ops draw).wpIn (FR rnd) 0 P Q a w)->
    ∀{st st':St},n9 call k l chk (h.pre.foldl (λs h=>jE lo h s) st)=some st'->∀{w0:World} {σ0:TN} {o0:a_} {a:Act} {w:World} {σ:TN},o0.length<=lo->cm A nt D w0 σ0 o0 st a w σ->
     (Code.region id ops draw).wpIn (FR rnd) 0 P (λe a' w'=>e= .normal/\∃σ',cm A nt D w0 σ0 o0 (h.post.foldl (λs h=>jE lo h s) ⟨ζW h.live st'.env,st'.o⟩) a' w' σ') a w:=by
   intro k l chk hrun st st' hr w0 σ0 o0 a w σ hlo hs;obtain⟨σ1,hs1⟩:=cm.hints hlo h.pre hs;generalize aYR:h.pre.foldl (λs h=>jE lo h s) st=st1 at hr hs1;unfold n9 at hr;simp only at hr;split at hr
   ·rename_i st2 h2;split at hr
    ·rename_i aBo;injection hr with hr;obtain⟨σ2,hs2⟩:=hs1.fu k;refine hrun h2 aBo hs2 λa' w' σ' h3=>⟨rfl,?_⟩;have h4:∃σ4,cm A nt D w0 σ0 o0 st' a' w' σ4:=by
      subst hr;by_cases hk:k=0;·simp only[hk,if_true];exact⟨σ',h3⟩
      ·simp only[hk,if_false];exact h3.pR hs1.len
     obtain⟨σ4,h4⟩:=h4;exact cm.hints hlo h.post (h4.eK h.live)
    ·cases hr
   ·cases hr
  cases draw with
  |false=>
   simp only[τ,if_false] at hc;obtain⟨⟨l,k⟩,hl,rfl⟩:=ε.1 hc;refine⟨k,l,[],h.live,h.pre,h.post,rfl,fin k l [] λ{st1 st2} h2 _ w0 σ0 o0 a w σ Q hs hQ=>?_⟩;obtain⟨g1,g2⟩:=Gr hl;exact wpIn_region (OF hcall l (ω ops.size) g1 g2 _ _ a w σ h2 hs hQ);|true=>
   simp only[if_true] at hc;generalize (if h.perm.isEmpty=true then ω ops.size else h.perm)=perm at hc;split at hc
   ·rename_i l k hl;split at hc
    ·rename_i hcond;injection hc with hc;refine⟨k,l,pJ (nr ops) l,h.live,h.pre,h.post,hc.symm,fin k l _ λ{st1 st2} h2 aBo w0 σ0 o0 a w σ Q hs hQ=>?_⟩;simp only[θ,beq_iff_eq] at hcond;exact YV hcall hl hcond.1.1.1.1.1 hcond.1.1.1.1.2 hcond.1.1.1.2 hcond.1.1.2 hcond.1.2 hcond.2 h2 aBo hs hQ
    ·cases hc
   ·cases hc
def tk (_:Program) (rnd:Option Nat) (_:de->World->TN->a_->Prop):Md->Prop
 | .plain=>rnd=none
def eL (B:de->World->TN->a_->Prop):Prop:=∀A w c o b a d,B A w c o->Ext w c o b a d->B A b a d
theorem YM {call:cw} (m:nX P call) {rnd:Option Nat} {B:de->World->TN->a_->Prop} {md:Md} (G:tk P rnd B md) (F:eL B) {lo r:Nat} {H:List RH} {id:Nat} {p:Array Oper} {d:Bool} {c:IR} (y:wj P r H id p d=some c):
  ∃k l j f g b,c= .region id d k l j f g b/\∀{st st':St},Hk md d call k l j (g.foldl (λs h=>jE lo h s) st)=some st'->∀{q:World} {i:TN} {n:a_} {a:Act} {w:World} {σ:TN},B A q i n->n.length<=lo->cm A r D q i n st a w σ->
   (Code.region id p d).wpIn (FR rnd) 0 P (λe x w'=>e= .normal/\∃u,cm A r D q i n (b.foldl (λs h=>jE lo h s) ⟨ζW f st'.env,st'.o⟩) x w' u) a w:=by
 obtain⟨k,l,j,f,g,b,v,E⟩:=YN (rnd:=rnd) m (A:=A) (lo:=lo) y;refine⟨k,l,j,f,g,b,v,?_⟩;intro st st' z q i n a w σ _ t C;exact E z t C
structure jX (P:Program) (T:jm):Prop where
 fn:∀f F,T.fn f=some F->∃fn H,P.funcs[f]?=some fn/\Bg P H fn=some F/\fU P f=true
 K:∀f args o own r o',T.K f args o own=some (r,o')->fU P f=true/\jB P f args o r o'/\(own=false->o'=[])
def yA (P:Program) (T:jm) (n:Nat):Prop:=
 ∀(g:Option Nat) (m:Md) (B:de->World->TN->a_->Prop),tk P g B m->eL B->
 ∀(o:Nat) (c:IR) (p:St) (h:Out) (f:St),exec T m n o c p=some (h,f)->∀(j:Nat) (H:List RH) (b:Code),comp P j H b=some c->∀(D:List Deferred) (A:de) (l:World) (d:TN) (i:a_) (a:Act) (w:World) (q:TN),B A l d i->i.length<=o->cm A j D l d i p a w q->
  b.wpIn (FR g) 0 P (λe s r=>e=h.rX/\∃k,cm A j D l d i f s r k) a w
def yz:de->World->TN->a_->Prop:=λ_ _ _ _=>True
theorem AA:eL yz:=λ_ _ _ _ _ _ _ _ _=>trivial
theorem O9:∀(k:Nat) (args:List AV) (s:Nat),cY (gn k args) s=if k<=s then(args[s - k]?).getD .ud else .ud
 |k,[],s=>by simp[gn,cY];|k,v::b,s=>by
  simp only[gn,cY];by_cases h:k=s;·subst h;simp
  ·have a:δu k s=false:=by
    cases a:δu k s<;>simp_all
   simp only[a,cond_false];rw[O9 (k+1) b s];grind
def yx (a:Array Value):ResultVar->Sem Value
 | .tmp t=>pure (a.getD t undef)
 | .cell x t=>do loadVar t (<-asAddr (a.getD x undef))
theorem YL (b:Func) (a:Array Value):results b a=(do let vs <-b.results.mapM (yx a);pure (if h:vs.size=1 then vs[0] else .tuple vs)):=by
 unfold results;congr 1
theorem YK {m:Nat} {i:World} {e:TN} {l:a_} {st:St} {a:Act} (h:cm A m D i e l st a w σ) {f:ResultVar} {g:lU} (d:qF P f=some g) {r:AV} (c:pQ st g=some r):
  ∃u,(yx a.tmps f).run P w= .ok u w/\nA A w σ st.o r u:=by
 cases f with
 |tmp t=>
  simp only[qF,γ] at d;subst d;simp only[pQ,γ] at c;subst c;exact⟨_,rfl,h.env t⟩;|cell x t=>
  simp only[qF,ε] at d;obtain⟨n,j,rfl⟩:=d;simp only[pQ] at c;split at c
  ·rename_i y s k;obtain⟨p,z,b⟩:=(h.env x).Pl h.sim k;obtain⟨u,v,q⟩:=Pk (P:=P) j b c;grind[yx,asAddr]
  ·cases c
theorem Gh {K:Nat} {Q:World} {t:TN} {N:a_} {st:St} {a:Act} (h:cm A K D Q t N st a w σ) {m:Func} {H:List lU} (O:pL (qF P) m.results.toList=some H) {r:AV} (j:mJ st H=some r):
  ∃u,(results m a.tmps).run P w= .ok u w/\nA A w σ st.o r u:=by
 obtain⟨n,S⟩:=Ha O;unfold mJ at j;have z:∀(c:List ResultVar) (b:List lU) (g:List AV),c.length=b.length->(∀(i:Nat) (x:ResultVar) (y:lU),c[i]?=some x->b[i]?=some y->qF P x=some y)->b.mapM (pQ st)=some g->
   ∃d:List Value,(c.mapM (yx a.tmps)).run P w= .ok d w/\Aq A w σ st.o g d:=by
  intro c;induction c with
  |nil=>
   intro b g l _ f;have:b=[]:=χ (by simp_all);simp_all[Aq];|cons x c R=>
   intro b g l G f;match b,l with
   |y::b,l=>
    rw[List.mapM_cons] at f;cases s:pQ st y with
    |none=>simp[s] at f;|some v=>
     cases e:b.mapM (pQ st) with
     |none=>simp_all;|some C=>
      simp[s,e] at f;subst f;obtain⟨u,U,M⟩:=YK h (G 0 x y (by simp) (by simp)) s;obtain⟨d,B,E⟩:=R b C (by grind) (λi p q J T=>G (i+1) p q (by simpa using J) (by simpa using T)) e;refine⟨u::d,?_,by grind[Aq]⟩;simp_all
 have F:∀d:List Value,(m.results.toList.mapM (yx a.tmps)).run P w= .ok d w->
   (results m a.tmps).run P w= .ok (if h:d.length=1 then d[0]'(by omega) else .tuple d.toArray) w:=by
  grind[YL,Array.mapM_eq_mapM_toList,Sem.run_bind,Sem.run_map,Result.andThen_ok,Sem.run_pure]
 split at j;·grind[Aq]
 ·rename_i g I f;injection j with j;subst j;obtain⟨d,B,l⟩:=z _ _ _ n S f;have k:=Aq.length _ _ l;have L:¬d.length=1:=by
   intro n;match g,k.trans n with
   |[v],_=>simp_all
  grind[nA]
 ·cases j
theorem Gg {a:Nat} {args:List AV} {vs:List Value} (d:OM A w σ o) (b:Aq A w σ o args vs) (j:args.length<=a):cm A a [] w σ o ⟨gn 0 args,o⟩ {tmps:=vs.toArray++εd (a - vs.toArray.size) undef,defers:=[]} w σ:=by
 have i:=Aq.length _ _ b;refine⟨d,λs=>?_,?_,⟨[],rfl,δv,by simp⟩,Ext.refl _ _ _⟩
 ·simp only[O9,Nat.zero_le,if_true,Nat.sub_zero];cases h:args[s]? with
  |none=>simp[nA];|some c=>
   obtain⟨v,e,g⟩:=Aq.get _ _ b s c h;have f:s<vs.length:=(ζ.1 e).1;have:(vs.toArray++εd (a - vs.toArray.size) undef).getD s undef=v:=by
    simp_all[Array.getElem?_append_left]
   simp_all
 ·simp;omega
theorem YJ {T:jm} {n:Nat} (W:yA P T n) {md:Md} {B:de->World->TN->a_->Prop} (N:tk P none B md) (L:eL B) {f:FuncId} {c:Func} {g:Code} {H:List RH} {b:IR} {E:List lU}
  (t:P.funcs[f]?=some c) (i:c.body=some g) (X:comp P c.ntmps H g=some b) (y:pL (qF P) c.results.toList=some E) (Q:¬c.ntmps<c.params.size+c.nfree)
  {args:List AV} {out:Out} {st:St} (C:args.length=c.params.size+c.nfree) (j:out= .norm\/out= .ret) (m:exec T md n o.length b ⟨gn 0 args,o⟩=some (out,st)) {G r:AV} (z:mJ st E=some G) {own:Bool} (q:finish own o.length G st.o=some (r,o'))
  {vs:List Value} (x:B A w σ o) (J:OM A w σ o) (I:Aq A w σ o args vs):
  CallsIn (FR none) 0 P f vs.toArray w λe w'=>∃u a,e= .returned u/\OM A w' a o'/\nA A w' a o' r u/\Ext w σ o w' a o':=by
 have M:=Aq.length _ _ I;refine callsIn_of_wp_marks (F:=FR none) t i trivial (wpIn_mono (W none md B N L _ b _ out st m c.ntmps H g X [] A w σ o {tmps:=vs.toArray++εd (c.ntmps - vs.toArray.size) undef,defers:=[]} w σ x (π _) (Gg J I (by omega))) ?_)
 ·rintro e p w' ⟨rfl,a,d⟩;have k:LeavesInM (FR none) 0 P c p.tmps (λe w'=>∃u a,e= .returned u/\OM A w' a o'/\nA A w' a o' r u/\Ext w σ o w' a o') p.defers .returning w':=by
   obtain⟨K,v,U⟩:=d.defers;rw[v];refine AB K w' U d.sim λS R V O=>?_;simp only[LeavesInM,LeavesIn];have h:cm A c.ntmps [] w σ o st {p with defers:=[]} S a:=⟨R,λs=>O _ _ (d.env s),d.size,⟨[],rfl,δv,by simp⟩,V d.ext⟩;obtain⟨u,Y,l⟩:=Gh h y z;have D:=Oi h.sim h.ext l q;simp_all
  rcases j with rfl|rfl;·exact k
  ·exact k
theorem O8 {out:Out} (h:pO out=true):out= .norm\/out= .ret:=by
 grind[pO]
theorem YI {P:Program} {j:Nat} {H:List RH} {g:FuncId} {e:List Operand} {d:Nat} {a b:IR} (c:Code):comp P j H c≠some (.dfr g e d a b):=by
 intro h;cases c with
 |region k i f=>
  simp only[comp] at h;unfold wj at h;split at h;·cases h
  ·split at h;·grind
   simp_all;|seq x y=>grind[comp];|cond c x y=>
  grind[comp];|_=>simp[comp] at h
theorem YH {f:Array Oper} {g:FuncId} {e:List Operand} {d:Nat} (h:Bh f=some (g,e,d)):∃i j a b c,f.toList=[i,j]/\i.dst=some d/\i.op= .makeFunc (.func g) a b/\i.guard=none/\j.op= .defer c/\j.dst=none/\j.guard=none/\c.callee= .value (.tmp d)/\a.toList=[]/\c.args.toList=[]/\b.toList=e:=by
 grind[Bh]
theorem Zc {n:Nat} {id:Nat} {e:Array Oper} {g:FuncId} {f:List Operand} {d:Nat} (H:Bh e=some (g,f,d)) (p:d<n) {st:St} {a:Act} {F:World} {l:TN} {G:a_} (h:cm A n D F l G st a w σ) {Q:Exit->Act->World->Prop}
  (I:∀(r:Act) (vs:List Value),Aq A w σ st.o (f.map (dO st.env)) vs->cm A n ({target:=.fn (.func g) vs.toArray,args:=#[]}::a.defers) w σ st.o ⟨(d,.ud)::st.env,st.o⟩ r w σ->Q .normal r w):
  (Code.region id e false).wpIn (FR none) 0 P Q a w:=by
 obtain⟨k,u,x,b,c,t,q,U,X,S,J,V,R,N,T,rfl⟩:=YH H;have L:e[0]?=some k:=by rw[<-γZ,t];rfl
 have z:e[1]?=some u:=by rw[<-γZ,t];rfl
 have B:e.size=2:=by grind[Array.length_toList]
 have W:x=#[]:=εj (by omega);have O:c.args=#[]:=εj (by omega);refine wpIn_region ?_;rw[B];show wpOpsIn (FR none) 0 P e Q [0,1] a w;rw[wpOpsIn_cons];unfold wpOpIn;simp only[L];rw[if_pos (by grind[Region.wanted])];unfold Oper.wpIn;rw[show(FR none).round=none from rfl,Oper.semAt_none];refine⟨λ_ _=>trivial,?_⟩;have E:(execOp a.eval k).run P w= .ok (.value (.func (.func g) #[] (b.map a.eval))) w:=by
  simp_all[execOp,Instr.makeFunc]
 rw[E,Oper.uponIn_value,wpOpsIn_cons];have C:d<a.tmps.size:=by rw[h.size];exact p
 have m:(a.put k.dst (.func (.func g) #[] (b.map a.eval))).eval (.tmp d)= .func (.func g) #[] (b.map a.eval):=by
  simp_all[Act.put,Act.eval]
 generalize i:a.put k.dst (.func (.func g) #[] (b.map a.eval))=K at m;unfold wpOpIn;simp only[z];rw[if_pos (by grind[Region.wanted])];unfold Oper.wpIn;rw[show(FR none).round=none from rfl,Oper.semAt_none];refine⟨λ_ _=>trivial,?_⟩;have y:(execOp K.eval u).run P w= .ok (.defer {target:=.fn (.func g) (b.map a.eval),args:=#[]}) w:=by
  simp_all[execOp,resolve,Deferred.ofValue]
 rw[y,Oper.uponIn_defer,J];show Q .normal _ w;have j:Aq A w σ st.o (b.toList.map (dO st.env)) (b.toList.map a.eval):=tA (λx=>h.ev x) b.toList;refine I _ (b.toList.map a.eval) j ⟨h.sim,λs=>?_,?_,⟨[],?_,δv,by simp⟩,Ext.refl _ _ _⟩
 ·subst i;by_cases M:d=s;·simp_all[cY,nA]
  ·have v:δu d s=false:=by
    cases v:δu d s<;>simp_all
   simp only[cY,v,cond_false];have:=h.env s;simp_all[Act.put]
 ·subst i;simp[q,Act.put,h.size]
 ·subst i;simp[q,Act.put];grind
theorem Zb {T:jm} {n:Nat} (Q:yA P T n) {v:Nat} {H:List RH} {lo:Nat} {C:World} {p:TN} {D:a_} (I:D.length<=lo) {g:FuncId} {m:List Operand} {d:Nat} {S:IR} {s0 s2:St} {out:Out}
  (J:exec T .plain n s0.o.length S ⟨(d,.ud)::s0.env,s0.o⟩=some (out,s2)):∀(f:Code) (z:IR) (st:St) (a:Act) (w:World) (σ:TN),tE P v H f=some (z,(g,m,d),S)->pP (exec T .plain n lo) z st=some s0->cm A v [] C p D st a w σ->
  f.wpIn (FR none) 0 P (λe B w'=>e=out.rX/\fU P g=true/\∃(q:World) (j t:TN) (R:List Deferred) (vs:List Value),sn C q R/\OM A q j s0.o/\Ext C p D q j s0.o/\Aq A q j s0.o (m.map (dO s0.env)) vs/\
   cm A v ({target:=.fn (.func g) vs.toArray,args:=#[]}::R) q j s0.o s2 B w' t) a w:=by
 intro f;induction f with
 |seq c l _ G=>
  intro z st a w σ k i h;cases c with
  |region W K N=>
   unfold tE at k;split at k
   ·rename_i x X _;split at k
    ·rename_i y;obtain⟨b,Y,O⟩:=ε.1 k;simp only[ι] at O;obtain⟨rfl,rfl,rfl⟩:=O;simp only[pP,γ] at i;subst i;refine wpIn_seq (Zc X y.1 h λE vs V s=>?_);show l.wpIn _ _ _ _ E w;obtain⟨ms,U,Z⟩:=h.defers;refine wpIn_mono (Q none .plain yz rfl AA _ b _ out s2 J v H l Y _ A w σ st.o E w σ trivial (π _) s) ?_;rintro e B w' ⟨rfl,t,L⟩;exact⟨rfl,y.2,w,σ,t,a.defers,vs,by simp_all,h.sim,h.ext,V,L⟩
    ·cases k
   ·split at k
    ·rename_i r B x b hr F;simp only[γ,ι] at k;obtain⟨rfl,rfl,rfl⟩:=k;simp only[pP] at i;split at i
     ·rename_i u M;refine wpIn_seq (wpIn_mono (Q none .plain yz rfl AA lo r st .norm u M v H (.region W K _) (by grind[comp]) [] A C p D a w σ trivial I h) ?_);rintro e E q ⟨rfl,j,s⟩;exact G B u E q j F i s
     ·cases i
    ·cases k;|_=>simp[tE] at k
 |_=>
  intro z st a w σ k;simp[tE] at k
theorem Za {T:jm} (hT:jX P T) {n:Nat} (ih:yA P T n) {f:FuncId} {fn:Func} {code:Code} {H:List RH} {ia ib:IR} {g:FuncId} {caps:List Operand} {d:Nat} {rs:List lU}
  (hfn:P.funcs[f]?=some fn) (hcode:fn.body=some code) (hb:tE P fn.ntmps H code=some (ia,(g,caps,d),ib)) (hrs:pL (qF P) fn.results.toList=some rs) (hnt:¬fn.ntmps<fn.params.size+fn.nfree)
  {args:List AV} {out ayk:Out} {s0 s2 s3:St} (hlen:args.length=fn.params.size+fn.nfree) (hout:out= .norm\/out= .ret) (h1:pP (exec T .plain n o.length) ia ⟨gn 0 args,o⟩=some s0) (h2:exec T .plain n s0.o.length ib ⟨(d,.ud)::s0.env,s0.o⟩=some (out,s2))
  {F:el} (hF:T.fn g=some F) (hcl:(caps.map (dO s0.env)).length=F.params) (hre:F.res=[]) (h3:exec T .plain n s2.o.length F.body ⟨gn 0 (caps.map (dO s0.env)),s2.o⟩=some (ayk,s3)) (aYS:ayk= .norm\/ayk= .ret)
  {r0 r:AV} (hr0:mJ ⟨s2.env,s3.o⟩ rs=some r0) {own:Bool} (hfi:finish own o.length r0 s3.o=some (r,o'))
  {vs:List Value} (hS:OM A w σ o) (hr:Aq A w σ o args vs):
  CallsIn (FR none) 0 P f vs.toArray w λe w'=>∃u σ',e= .returned u/\OM A w' σ' o'/\nA A w' σ' o' r u/\Ext w σ o w' σ' o':=by
 have hvl:=Aq.length _ _ hr;obtain⟨fg,Hg,hfg,hcg,hgg⟩:=hT.fn g F hF;obtain⟨cg,aP3,aP4,hpg,hrg⟩:∃cg,fg.body=some cg/\comp P fg.ntmps Hg cg=some F.body/\F.params<=fg.ntmps/\pL (qF P) fg.results.toList=some []:=by
  unfold Bg at hcg;split at hcg;·cases hcg
  ·rename_i cg aYT;split at hcg
   ·rename_i b rs' hb' aYU;split at hcg;·cases hcg
    ·rename_i aYV;injection hcg with hcg;subst hcg;simp only at h3 hre ⊢;subst hre;unfold Hi at hb';split at hb';·simp_all
     ·obtain⟨x,_,rfl⟩:=ε.1 hb';cases n<;>simp[exec] at h3
   ·cases hcg
 refine callsIn_of_wp_marks (F:=FR none) hfn hcode trivial (wpIn_mono (Zb ih (π _) h2 code ia _ _ w σ hb h1 (Gg hS hr (by omega))) ?_);rintro e a' w' ⟨rfl,hg,w1,σ1,σ',ds,cv,wG,hS1,hE1,hcv,hs'⟩;have key:LeavesInM (FR none) 0 P fn a'.tmps (λe w'=>∃u σ',e= .returned u/\OM A w' σ' o'/\nA A w' σ' o' r u/\Ext w σ o w' σ' o') a'.defers .returning w':=by
  obtain⟨ms,hms,hM⟩:=hs'.defers;rw[hms];refine AB ms w' hM hs'.sim λw2 q1 q3 q4=>?_;simp only[LeavesInM];refine⟨by simp,.inr ⟨λh=>by grind[FR,Fence.wide],.func g,cv.toArray,g,cv.toArray,rfl,by simp[invoke,AD hg],λ_ _=>trivial,?_⟩⟩;have aHD:Aq A w2 σ' s2.o (caps.map (dO s0.env)) cv:=by
   have e1:Ext w1 σ1 s0.o w' σ' s2.o:=hs'.ext;grind[Aq.ext]
  have aYW:=Aq.length _ _ aHD;refine CallsDIn.mono (YT (A:=A) hfg aP3 (R:=λe w3=>∃u σ3,e= .returned u/\OM A w3 σ3 s3.o/\Ext w2 σ' s2.o w3 σ3 s3.o) (wpIn_mono (ih none .plain yz rfl AA _ F.body _ ayk s3 h3 fg.ntmps Hg cg aP4 [] A w2 σ' s2.o _ w2 σ' trivial (π _) (Gg q1 aHD (by omega))) ?_)) ?_
  ·rintro e a3 w3 ⟨rfl,σ3,hs3⟩;obtain⟨ms3,aP5,Cg⟩:=hs3.defers;rw[γ0] at aP5;refine⟨by grind[Out.rX],w2,σ3,s3.o,by simp_all,hs3.sim,λw4 k1 k2 k3=>?_⟩;have hs4:cm A fg.ntmps [] w2 σ' s2.o s3 {a3 with defers:=[]} w4 σ3:=⟨k1,λs=>k3 _ _ (hs3.env s),hs3.size,⟨[],rfl,δv,by simp⟩,k2 hs3.ext⟩;obtain⟨u,hu,_⟩:=Gh hs4 hrg (r:=.Gz []) rfl;exact⟨u,hu,u,σ3,rfl,k1,k2 hs3.ext⟩
  ·rintro e u' w3 ⟨rfl,u,σ3,rfl,p1,p2⟩;show LeavesInM (FR none) 0 P fn a'.tmps _ ds (settle .returning) w3;rw[show settle FrameMode.returning= .returning from rfl,<-γ0 ds];have e13:Ext w1 σ1 s0.o w3 σ3 s3.o:=(q3 hs'.ext).trans p2;refine AB ds w3 (wG.ext hS1 e13) p1 λw4 t1 t3 t4=>?_;simp only[LeavesInM,LeavesIn];have hs4:cm A fn.ntmps [] w σ o ⟨s2.env,s3.o⟩ {a' with defers:=[]} w4 σ3:=⟨t1,λs=>t4 _ _ ((q4 _ _ (hs'.env s)).ext p2),hs'.size,⟨[],rfl,δv,by simp⟩,t3 (hE1.trans e13)⟩;obtain⟨u,hu,hru⟩:=Gh hs4 hrs hr0;have hfin:=Oi hs4.sim hs4.ext hru hfi;simp_all
 rcases hout with rfl|rfl;·exact key
 ·exact key
theorem O7 {T:jm} (N:jX P T) {n:Nat} (ih:yA P T n):nX P (oG T (exec T .plain n)):=by
 intro f e o m r I c;unfold oG at c;split at c
 ·rename_i x hK;injection c with c;subst c;exact N.K _ _ _ _ _ _ hK
 ·split at c;·cases c
  ·rename_i F J;obtain⟨fn,H,y,a,hg⟩:=N.fn f F J;split at c
   ·rename_i k;unfold Bg at a;split at a;·cases a
    ·rename_i a0 j;split at a
     ·rename_i b rs i D;split at a;·cases a
      ·rename_i E;injection a with a;subst a;simp only at c k;have p:∀{t:AV} {u:St},finish m o.length t u.o=some (r,I)->m=false->I=[]:=λl ho=>by
        subst ho;unfold finish at l;grind
       unfold Hi at i;split at i
       ·rename_i V S;injection i with i;subst i;have R:∀(x:Option (Out×St)),rz T (exec T .plain n) o.length V ⟨gn 0 e,o⟩=x->exec T .plain n o.length V ⟨gn 0 e,o⟩=x:=λx hx=>by
         unfold rz at hx;grind[YI]
        have a1:∀(h:Out) (u:St),(h= .norm\/h= .ret)->rz T (exec T .plain n) o.length V ⟨gn 0 e,o⟩=some (h,u)->∀t,mJ u rs=some t->finish m o.length t u.o=some (r,I)->
          fU P f=true/\jB P f e o r I/\(m=false->I=[]):=by
         intro h u G Q t s l;exact⟨hg,λA w σ vs L U=>(callsIn_wide (n:=0)).1 (YJ ih (md:=.plain) (B:=yz) rfl AA y j S D E k G (R _ Q) s l trivial L U),p l⟩
        grind
       ·obtain⟨⟨ia,⟨g,q,d⟩,ib⟩,S,rfl⟩:=ε.1 i;simp only[rz] at c;cases W:pP (exec T .plain n o.length) ia ⟨gn 0 e,o⟩ with
        |none=>simp_all;|some v=>
        simp only[W] at c;cases h2:exec T .plain n v.o.length ib ⟨(d,.ud)::v.env,v.o⟩ with
        |none=>simp_all;|some x2=>
        obtain⟨h,Y⟩:=x2;simp only[h2] at c;cases Z:pO h with
        |false=>simp_all;|true=>
        simp only[Z,if_true] at c;unfold Hl at c;cases J:T.fn g with
        |none=>simp_all;|some O=>
        simp only[J] at c;by_cases M:(q.map (dO v.env)).length=O.params/\O.res.isEmpty=true
        ·rw[if_pos M] at c;cases X:exec T .plain n Y.o.length O.body ⟨gn 0 (q.map (dO v.env)),Y.o⟩ with
         |none=>simp_all;|some x3=>
         obtain⟨C,s3⟩:=x3;simp only[X] at c;cases z:pO C with
         |false=>simp_all;|true=>
         simp only[z,if_true] at c;split at c
         ·rename_i t s;exact⟨hg,λA w σ vs L U=>(callsIn_wide (n:=0)).1 (Za N ih y j S D E k (O8 Z) W h2 J M.1 (List.isEmpty_iff.1 M.2) X (O8 z) s c L U),p c⟩
         ·cases c
        simp_all
     ·cases a
   ·cases c
end
open Go.RowKit
section
variable {P:Program} {A:de} {D:List Deferred} {w w':World} {σ σ':TN} {o o':a_}
theorem Y_ {rnd:Option Nat} {Q:Exit->Act->World->Prop} {a:Act} {w:World} {c:Code} (h:c.wpIn (FR rnd) 0 P (Exit.noGoto Q) a w):(Code.scope c).wpIn (FR rnd) 0 P Q a w:=by
 intro b k n o p m;obtain⟨e,d,f,j,g⟩:=h b (.inScope c::k) n o p m;have s:step P (lone (b.atR a (.code (.scope c)::k)) n w)= .next (lone (b.atR a (.code c:: .inScope c::k)) n w):=step_lone_go (by simp[stepG,stepG.exec,Frame.atR]);have q:step P (lone (b.atR d (.inScope c::k)) n f)= .next (lone (b.atR d k) n f):=step_lone_go (by simp[stepG,stepG.exec,Frame.atR]);have i:=StepsIn.one (I:=Machine.fenced P (FR rnd)) (fenced_calm (fr:=b.atR a (.code (.scope c)::k)) p m rfl) s;cases e with
 |normal=>exact⟨.normal,d,f,j,(StepsIn.trans i (StepsIn.trans g (.one (fenced_calm (fr:=b.atR d (.inScope c::k)) p m rfl) q)))⟩;|exit u=>exact⟨.exit u,d,f,j,.of_steps i ⟨λr t=>g.1 r (by grind[exitTo]),λm t=>by obtain⟨x,z,v⟩:=g.2 m (by grind[exitTo]);grind⟩⟩;|goto l=>exact j.elim;|ret=>exact⟨_,d,f,j,.of_steps i g⟩;|panic y=>exact⟨_,d,f,j,.of_steps i g⟩;|outgrown=>exact⟨_,d,f,j,.of_steps i g⟩
def yw (rnd:Option Nat) (P:Program) (b:Code) (l:Nat) (Q:Exit->Act->World->Prop):Nat->Code->Act->World->Prop
 |0,_,_,_=>False
 |n+1,x,a,w=>x.wpIn (FR rnd) 0 P (λe d c=>match e with
   | .goto f=>f=l/\yw rnd P b l Q n b d c
   |e=>Q e d c) a w
theorem Y9 {rnd:Option Nat} {Q:Exit->Act->World->Prop} {a:Act} {w:World} {c i:Code} {l:Nat} (S:findLabel c l=some i) {n:Nat} (h:yw rnd P i l Q n c a w):(Code.scope c).wpIn (FR rnd) 0 P Q a w:=by
 intro b k p A y t;have E:gotoIn l (.inScope c::k)=some (.code i:: .inScope c::k):=by grind[gotoIn]
 have B:∀n x a w,yw rnd P i l Q n x a w->∃e u v,Q e u v/\ArrivesIn (Machine.fenced P (FR rnd)) P (lone (b.atR a (.code x:: .inScope c::k)) p w) b k p e u v:=by
  intro n;induction n with
  |zero=>intro x a w h;exact h.elim;|succ n J=>
   intro x a w h;obtain⟨e,d,g,m,f⟩:=h b (.inScope c::k) p A y t;have G:step P (lone (b.atR d (.inScope c::k)) p g)= .next (lone (b.atR d k) p g):=step_lone_go (by simp[stepG,stepG.exec,Frame.atR]);cases e with
   |normal=>exact⟨.normal,d,g,m,StepsIn.trans f (.one (fenced_calm (fr:=b.atR d (.inScope c::k)) y t rfl) G)⟩;|exit K=>exact⟨.exit K,d,g,m,λD C=>f.1 D (by grind[exitTo]),λt C=>by obtain⟨M,O,N⟩:=f.2 t (by grind[exitTo]);grind⟩;|goto L=>
    obtain⟨rfl,H⟩:=m;obtain⟨q,r,s,o,j⟩:=J i d g H;exact⟨q,r,s,o,.of_steps (f.1 _ E) j⟩;|ret=>exact⟨_,d,g,m,f⟩;|panic R=>exact⟨_,d,g,m,f⟩;|outgrown=>exact⟨_,d,g,m,f⟩
 have F:step P (lone (b.atR a (.code (.scope c)::k)) p w)= .next (lone (b.atR a (.code c:: .inScope c::k)) p w):=step_lone_go (by simp[stepG,stepG.exec,Frame.atR]);have z:=StepsIn.one (I:=Machine.fenced P (FR rnd)) (fenced_calm (fr:=b.atR a (.code (.scope c)::k)) y t rfl) F;obtain⟨e,u,v,m,f⟩:=B n c a w h;exact⟨e,u,v,m,.of_steps z f⟩
theorem Y8 {b:Code} {l c:Nat} {H:List RH} {x:IR} (h:Bi b=some l) (d:comp P c H b=some x):∃a,findLabel b l=some a/\comp P c H a=some x:=by
 unfold Bi at h;grind[findLabel,comp]
theorem O6 {T:jm} (hT:jX P T):∀n,yA P T n/\(∀(rnd:Option Nat) (md:Md) (B:de->World->TN->a_->Prop),tk P rnd B md->eL B->∀(lo:Nat) (b:IR) (st:St) (out:Out) (st':St),exec T md n lo (.loop b) st=some (out,st')->∀(q:Nat) (H:List RH) (f:Code),comp P q H f=some b->∀(D:List Deferred) (A:de) (r:World) (d:TN) (m:a_) (a:Act) (w:World) (σ:TN),B A r d m->
   m.length<=lo->cm A q D r d m st a w σ->Code.roundsIn (FR rnd) 0 P f (λe v w'=>e=out.rX/\∃u,cm A q D r d m st' v w' u) n a w)/\∀(rnd:Option Nat) (md:Md) (B:de->World->TN->a_->Prop),tk P rnd B md->eL B->∀(lo l:Nat) (b:IR) (st:St) (out:Out) (st':St),exec T md n lo (.turns (some l) b) st=some (out,st')->∀(q:Nat) (H:List RH) (f s:Code),comp P q H f=some b->comp P q H s=some b->∀(D:List Deferred) (A:de) (r:World) (d:TN) (m:a_) (a:Act) (w:World) (σ:TN),B A r d m->
   m.length<=lo->cm A q D r d m st a w σ->yw rnd P s l (λe v w'=>e=out.rX/\∃u,cm A q D r d m st' v w' u) n f a w
 |0=>⟨λrnd md B _ _ lo c st out st' h=>by grind[exec],λrnd md B _ _ lo b st out st' h=>by grind[exec],λrnd md B _ _ lo l b st out st' h=>by grind[exec]⟩
 |n+1=>by
  obtain⟨I,a0,Z⟩:=O6 hT n;have M:∀(rnd:Option Nat) (md:Md) (B:de->World->TN->a_->Prop),tk P rnd B md->eL B->∀(lo:Nat) (b:IR) (st:St) (out:Out) (st':St),exec T md (n+1) lo (.loop b) st=some (out,st')->∀(q:Nat) (H:List RH) (f:Code),comp P q H f=some b->∀(D:List Deferred) (A:de) (r:World) (d:TN) (m:a_) (a:Act) (w:World) (σ:TN),B A r d m->
    m.length<=lo->cm A q D r d m st a w σ->Code.roundsIn (FR rnd) 0 P f (λe v w'=>e=out.rX/\∃u,cm A q D r d m st' v w' u) (n+1) a w:=by
   intro rnd md B C E lo b st out st' h q H f p D A r d m a w σ j i t;simp only[exec] at h;split at h
   ·rename_i F Q;have O:=I rnd md B C E lo b st .norm F Q q H f p _ A r d m a w σ j i t;rw[roundsIn_succ];refine wpIn_mono O ?_;rintro e v w' ⟨rfl,u,g⟩;obtain⟨N,L⟩:=g.trim (k:=st.o.length) t.len;exact a0 rnd md B C E lo b _ out st' h q H f p _ A r d m v w' N j i L
   ·rename_i K;have O:=I rnd md B C E lo b st out st' h q H f p _ A r d m a w σ j i t;rw[roundsIn_succ];refine wpIn_mono O ?_;rintro e v w' ⟨rfl,g⟩;cases out with
    |norm=>simp_all;|exit S=>exact⟨rfl,g⟩;|ret=>exact⟨rfl,g⟩;|goto l=>exact⟨rfl,g⟩
  have R:∀(rnd:Option Nat) (md:Md) (B:de->World->TN->a_->Prop),tk P rnd B md->eL B->∀(lo l:Nat) (b:IR) (st:St) (out:Out) (st':St),exec T md (n+1) lo (.turns (some l) b) st=some (out,st')->∀(q:Nat) (H:List RH) (f s:Code),comp P q H f=some b->comp P q H s=some b->∀(D:List Deferred) (A:de) (r:World) (d:TN) (m:a_) (a:Act) (w:World) (σ:TN),B A r d m->
    m.length<=lo->cm A q D r d m st a w σ->yw rnd P s l (λe v w'=>e=out.rX/\∃u,cm A q D r d m st' v w' u) (n+1) f a w:=by
   intro rnd md B C E lo l b st out st' h q H f s p hr D A r d m a w σ j i t;simp only[exec] at h;split at h
   ·rename_i l' F Q;split at h
    ·rename_i U;injection U with U;subst U;refine wpIn_mono (I rnd md B C E lo b st (.goto l) F Q q H f p _ A r d m a w σ j i t) ?_;rintro e v w' ⟨rfl,u,g⟩;obtain⟨N,L⟩:=g.trim (k:=st.o.length) t.len;exact⟨rfl,Z rnd md B C E lo l b _ out st' h q H s s hr hr _ A r d m v w' N j i L⟩
    ·cases h
   ·rename_i K;refine wpIn_mono (I rnd md B C E lo b st out st' h q H f p _ A r d m a w σ j i t) ?_;rintro e v w' ⟨rfl,g⟩;cases out with
    |norm=>exact⟨rfl,g⟩;|exit S=>exact⟨rfl,g⟩;|ret=>exact⟨rfl,g⟩;|goto l=>simp_all
  refine⟨λrnd md B C E lo c st out st' h q H f p D A r d m a w σ j i t=>?_,M,R⟩;cases f with
  |skip=>
   simp only[comp,γ] at p;subst p;simp only[exec,γ,ι] at h;obtain⟨rfl,rfl⟩:=h;exact wpIn_skip ⟨rfl,σ,t⟩;|scope b=>
   simp only[comp] at p;obtain⟨V,J,rfl⟩:=ε.1 p;cases U:Bi b with
   |some l=>
    grind[Y8,Y9];|none=>
    rw[U] at h;simp only[exec] at h;refine Y_ ?_;split at h;·simp_all
    ·rename_i K;refine wpIn_mono (I rnd md B C E lo V st out st' h q H b J _ A r d m a w σ j i t) ?_;rintro e v w' ⟨rfl,g⟩;cases out with
     |norm=>exact⟨rfl,g⟩;|exit S=>exact⟨rfl,g⟩;|ret=>exact⟨rfl,g⟩;|goto l=>simp_all
  |goto l=>
   simp only[comp,γ] at p;subst p;simp only[exec,γ,ι] at h;obtain⟨rfl,rfl⟩:=h;exact wpIn_goto ⟨rfl,σ,t⟩;|label l=>
   simp only[comp,γ] at p;subst p;simp only[exec,γ,ι] at h;obtain⟨rfl,rfl⟩:=h;exact wpIn_label ⟨rfl,σ,t⟩;|region S a8 a3=>
   simp only[comp] at p;obtain⟨k,l,a4,a1,a7,a2,rfl,hw⟩:=YM (O7 hT I) C E (A:=A) (lo:=lo) p;simp only[exec] at h;split at h
   ·rename_i a5 h2;simp only[γ,ι] at h;obtain⟨rfl,rfl⟩:=h;exact hw h2 j i t
   ·cases h;|seq x y=>
   simp only[comp] at p;split at p
   ·rename_i V W J X;injection p with p;subst p;simp only[exec] at h;split at h
    ·rename_i F Q;refine wpIn_seq (wpIn_mono (I rnd md B C E lo V st .norm F Q q H x J _ A r d m a w σ j i t) ?_);rintro e v w' ⟨rfl,u,g⟩;exact I rnd md B C E lo W F out st' h q H y X _ A r d m v w' u j i g
    ·rename_i K;refine wpIn_seq (wpIn_mono (I rnd md B C E lo V st out st' h q H x J _ A r d m a w σ j i t) ?_);rintro e v w' ⟨rfl,g⟩;cases out with
     |norm=>simp_all;|exit S=>exact⟨rfl,g⟩;|ret=>exact⟨rfl,g⟩;|goto l=>exact⟨rfl,g⟩
   ·cases p;|cond x y z=>
   simp only[comp] at p;split at p
   ·rename_i W z' X hz;injection p with p;subst p;by_cases hk:Ps H x=true
    ·rw[if_pos hk] at h;simp only[exec] at h;have J:=t.ev x;split at h
     ·rename_i G;rw[G] at J;exact wpIn_cond_true (fD J) (I rnd md B C E lo W _ out st' h q H y X _ A r d m a w σ j i t)
     ·rename_i G;rw[G] at J;exact wpIn_cond_false (fD J) (I rnd md B C E lo z' _ out st' h q H z hz _ A r d m a w σ j i t)
     ·cases h
    rw[if_neg hk] at h;simp only[exec] at h;have J:=t.ev x;split at h
    ·rename_i G;rw[G] at J;exact wpIn_cond_true (fD J) (I rnd md B C E lo W _ out st' h q H y X _ A r d m a w σ j i (t.drop x))
    ·rename_i G;rw[G] at J;exact wpIn_cond_false (fD J) (I rnd md B C E lo z' _ out st' h q H z hz _ A r d m a w σ j i (t.drop x))
    ·cases h
   ·cases p;|block S b=>
   simp only[comp] at p;obtain⟨b',O,rfl⟩:=ε.1 p;simp only[exec] at h;split at h
   ·rename_i Y F Q;refine wpIn_block (wpIn_mono (I rnd md B C E lo b' st (.exit Y) F Q q H b O _ A r d m a w σ j i t) ?_);rintro e v w' ⟨rfl,g⟩;simp only[Out.rX,Exit.inBlock];grind
   ·rename_i K;refine wpIn_block (wpIn_mono (I rnd md B C E lo b' st out st' h q H b O _ A r d m a w σ j i t) ?_);rintro e v w' ⟨rfl,g⟩;cases out with
    |norm=>exact⟨rfl,g⟩;|exit a6=>simp_all;|ret=>exact⟨rfl,g⟩;|goto l=>exact⟨rfl,g⟩
  |loop b=>
   simp only[comp] at p;obtain⟨b',O,rfl⟩:=ε.1 p;grind[wpIn_loop_rounds];|exit S=>
   simp only[comp,γ] at p;subst p;simp only[exec,γ,ι] at h;obtain⟨rfl,rfl⟩:=h;exact wpIn_exit ⟨rfl,σ,t⟩;|ret=>
   simp only[comp,γ] at p;subst p;simp only[exec,γ,ι] at h;obtain⟨rfl,rfl⟩:=h;exact wpIn_ret ⟨rfl,σ,t⟩;|_=>grind[comp]
theorem Gf {T:jm} (a:jX P T) (n:Nat):nX P (oG T (exec T .plain n)):=O7 a (O6 a n).1
end
def Ev (T:jm) (md:Nat->Md) (lo:Nat) (c:IR) (st:St) (r:Out×St):Prop:=∃N,∀m n,N<=m->N<=n->exec T (md m) n lo c st=some r
abbrev yv:Nat->Md:=λ_=> .plain
section
variable {T:jm} {md:Nat->Md} {lo:Nat} {st st1 st':St} {r:Out×St} {a b:IR} {out:Out}
theorem Ev.mk (N:Nat) (h:∀m n,N<=m->N<=n->exec T (md m) (n+1) lo a st=some r):Ev T md lo a st r:=
 ⟨N+1,λm n c b=>by
  match n,b with
  |n+1,b=>grind⟩
theorem Ev.skip:Ev T md lo .skip st (.norm,st):=.mk 0 λ_ _ _ _=>by simp only[exec]
theorem Ev.ret:Ev T md lo .ret st (.ret,st):=.mk 0 λ_ _ _ _=>by simp only[exec]
theorem Ev.exit {id:Nat}:Ev T md lo (.exit id) st (.exit id,st):=.mk 0 λ_ _ _ _=>by simp only[exec]
theorem Ev.seq (h:Ev T md lo a st (.norm,st1)) (k:Ev T md lo b st1 r):Ev T md lo (.seq a b) st r:=by
 obtain⟨N,h⟩:=h;obtain⟨M,k⟩:=k;exact .mk (N+M) λm n c d=>by simp only[exec,h m n (by omega) (by omega),k m n (by omega) (by omega)]
theorem Ev.Y7 (h:Ev T md lo a st (out,st1)) (c:out≠ .norm):Ev T md lo (.seq a b) st (out,st1):=by
 obtain⟨N,h⟩:=h;exact .mk N λm n e d=>by
  simp_all[exec]
theorem Ev.XI {x:Operand} (d:dO st.env x= .sc (.bool true)) (h:Ev T md lo a ⟨n5 x st.env,st.o⟩ r):Ev T md lo (.cond x a b) st r:=by
 obtain⟨N,h⟩:=h;exact .mk N λm n c e=>by simp_all[exec]
theorem Ev.XH {x:Operand} (d:dO st.env x= .sc (.bool false)) (h:Ev T md lo b ⟨n5 x st.env,st.o⟩ r):Ev T md lo (.cond x a b) st r:=by
 obtain⟨N,h⟩:=h;exact .mk N λm n c e=>by simp_all[exec]
theorem Ev.nw {x:Operand} {q:Bool} (g:dO st.env x= .sc (.bool q)) (e:q=true->Ev T md lo a st r) (d:q=false->Ev T md lo b st r):Ev T md lo (.nw x a b) st r:=by
 cases q with
 |true=>
  obtain⟨N,h⟩:=e rfl;exact .mk N λm n c f=>by simp_all[exec];|false=>
  obtain⟨N,h⟩:=d rfl;exact .mk N λm n c f=>by simp_all[exec]
def Out.inBlock (id:Nat):Out->Out
 | .exit a=>if a=id then .norm else .exit a
 |o=>o
theorem Ev.block {id:Nat} (h:Ev T md lo a st (out,st1)):Ev T md lo (.block id a) st (out.inBlock id,st1):=by
 obtain⟨N,h⟩:=h;exact .mk N λm n b c=>by
  simp only[exec,h m n b c];cases out<;>grind[exit,Out.inBlock]
theorem Ev.XG (h:Ev T md lo a st (.norm,st1)) (k:Ev T md lo (.loop a) (trim st.o.length st1) r):Ev T md lo (.loop a) st r:=by
 obtain⟨N,h⟩:=h;obtain⟨M,k⟩:=k;exact .mk (N+M) λm n b c=>by
  simp only[exec,h m n (by omega) (by omega)];grind
theorem Ev.XF (h:Ev T md lo a st (out,st1)) (b:out≠ .norm):Ev T md lo (.loop a) st (out,st1):=by
 obtain⟨N,h⟩:=h;exact .mk N λm n d c=>by
  simp_all[exec]
theorem Ev.goto {l:Nat}:Ev T md lo (.goto l) st (.goto l,st):=.mk 0 λ_ _ _ _=>by simp only[exec]
theorem Ev.XE {l:Nat} (h:Ev T md lo a st (.goto l,st1)) (k:Ev T md lo (.turns (some l) a) (trim st.o.length st1) r):Ev T md lo (.turns (some l) a) st r:=by
 obtain⟨N,h⟩:=h;obtain⟨M,k⟩:=k;exact .mk (N+M) λm n b c=>by
  simp only[exec,h m n (by omega) (by omega),if_true];grind
theorem Ev.O5 {l:Option Nat} (h:Ev T md lo a st (out,st1)) (c:∀b,out≠ .goto b):Ev T md lo (.turns l a) st (out,st1):=by
 obtain⟨N,h⟩:=h;exact .mk N λm n e d=>by
  simp_all[exec]
theorem Ev.region {id k:Nat} {b:Bool} {f:List cM} {d:List (Nat×Nat)} {a:List Nat} {e c:List iM}
  (h:∃N,∀g m,N<=m->Hk (md m) b (oG T g) k f d (e.foldl (λs h=>jE lo h s) st)=some st'):
  Ev T md lo (.region id b k f d a e c) st (.norm,c.foldl (λs h=>jE lo h s) ⟨eK a st'.env,st'.o⟩):=by
 obtain⟨N,h⟩:=h;exact .mk N λm n i _=>by simp_all[exec]
theorem XD {P:Program} (i:jX P T) {f:FuncId} {F:el} (l:T.fn f=some F) {args:List AV} {o:a_} {own:Bool} (g:T.K f args o own=none) (d:args.length=F.params)
  (h:Ev T yv o.length F.body ⟨gn 0 args,o⟩ (out,st')) (c:out= .norm\/out= .ret) {b v:AV} {o':a_} (k:mJ st' F.res=some b) (a:finish own o.length b st'.o=some (v,o')):
  fU P f=true/\jB P f args o v o'/\(own=false->o'=[]):=by
 obtain⟨N,h⟩:=h;refine Gf i N f args o own v o' ?_;unfold oG;rw[g];have h:=h N N (π _) (π _);have j:rz T (exec T .plain N) o.length F.body ⟨gn 0 args,o⟩=some (out,st'):=by
  unfold rz;split
  ·rename_i e;rw[e] at h;cases N<;>simp[exec] at h
  ·exact h
 grind
theorem XC {P:Program} (A:jX P T) {f:FuncId} {F:el} (z:T.fn f=some F) {g:FuncId} {a:List Operand} {d:Nat} {w u:IR} (e:F.body= .dfr g a d w u) {args:List AV} {o:a_} {own:Bool} (E:T.K f args o own=none) (k:args.length=F.params)
  {s0 s2 s3:St} {b:Out} {G:el} (t:∃N,∀n,N<=n->pP (exec T .plain n o.length) w ⟨gn 0 args,o⟩=some s0) (s:Ev T yv s0.o.length u ⟨(d,.ud)::s0.env,s0.o⟩ (out,s2)) (l:pO out=true)
  (D:T.fn g=some G) (q:(a.map (dO s0.env)).length=G.params) (p:G.res.isEmpty=true) (r:Ev T yv s2.o.length G.body ⟨gn 0 (a.map (dO s0.env)),s2.o⟩ (b,s3)) (c:pO b=true)
  {x v:AV} {o':a_} (C:mJ ⟨s2.env,s3.o⟩ F.res=some x) (m:finish own o.length x s3.o=some (v,o')):
  fU P f=true/\jB P f args o v o'/\(own=false->o'=[]):=by
 obtain⟨h,t⟩:=t;obtain⟨j,s⟩:=s;obtain⟨i,r⟩:=r;refine Gf A (h+j+i) f args o own v o' ?_;unfold oG;rw[E];simp only[z,if_pos k,e,rz,t _ (show h<=h+j+i by omega)];have y:=s (h+j+i) (h+j+i) (by omega) (by omega);have B:=r (h+j+i) (h+j+i) (by omega) (by omega);simp only[y,l,if_true,Hl,D,if_pos (And.intro q p),B,c,C,m]
end
section
variable {call call':cw}
def me (call b:cw):Prop:=∀f a o c r,call f a o c=some r->b f a o c=some r
theorem me.oG (T:jm) (b:Nat->IR->St->Option (Out×St)):me T.K (oG T b):=by
 intro f a o c r h;grind[Go.Vi.oG]
theorem me.fV (h:me call call') {f:FuncId} {args:List AV} {o:a_} {own:Bool} {r:AV×a_} (a:fV call f args o own=some r):fV call' f args o own=some r:=by
 unfold Go.Vi.fV at a ⊢;split at a
 ·rename_i b;rw[if_pos b];unfold gU at a ⊢;simp only at a ⊢;split at a
  ·split at a
   ·rename_i e d c;rw[h _ _ _ _ _ c];exact a
   ·cases a
  ·cases a
 ·rename_i b;rw[if_neg b];split at a;·cases a
  ·split at a
   ·rename_i c;rw[h _ _ _ _ _ c];exact a
   ·cases a
theorem me.qd (h:me call call') {op:bR} {ρ:Operand->AV} {o:a_} {qE:Nat} {r:AV×a_} (hc:qd call op ρ o qE=some r):qd call' op ρ o qE=some r:=by
 cases op with
 |call f args own=>exact h.fV hc;|ak4 f args own=>
  simp only[θh,Hm,Px] at hc ⊢;split at hc;·exact h.fV hc
  ·cases hc;|aoe tab x args=>
  simp only[θh,Hm,Pw] at hc ⊢;split at hc
  ·split at hc;·exact h.fV hc
   ·cases hc
  ·cases hc;|_=>exact hc
theorem me.gp (h:me call call') {base:Nat} {i:cM} {st st':St} (a:gp call base i st=some st'):gp call' base i st=some st':=by
 unfold Go.Vi.gp at a ⊢;split at a;·cases a
 ·exact a
 ·split at a
  ·rename_i b;rw[h.qd b];exact a
  ·cases a
theorem me.dL (h:me call call') {b:bR} {ρ:Operand->AV} {o:a_} {qE:Nat} {r:AV×a_} (d:θh call b ρ o qE=some r):Go.Vi.dL call' b ρ o qE=Go.Vi.dL call b ρ o qE:=by
 unfold Go.Vi.dL;split
 ·rename_i f a;have c:Go.Vi.fV call f (a.map ρ) o true=some r:=d;have e:=h.fV c;simp_all[Go.Vi.fV]
 ·rfl
theorem me.fw (h:me call call') {base:Nat}:∀{l:List cM} {st st':St},fw call base l st=some st'->fw call' base l st=some st'/\lq call' base l st=lq call base l st
 |[],_,_,b=>⟨b,rfl⟩
 |i::l,st,st',b=>by
  simp only[Go.Vi.fw] at b ⊢;split at b
  ·rename_i g a;obtain⟨j,c⟩:=h.fw b;have f:=h.gp a;refine⟨by simp_all,?_⟩;simp only[lq,a,f,c];congr 1;split
   ·rename_i e;unfold Go.Vi.gp at a;rw[e] at a;simp only at a;split at a
    ·rename_i d;rw[h.dL d]
    ·cases a
   ·rfl
  ·cases b
theorem me.n9 (h:me call call') {k:Nat} {b:List cM} {a:List (Nat×Nat)} {st st':St} (c:n9 call k b a st=some st'):n9 call' k b a st=some st':=by
 unfold Go.Vi.n9 at c ⊢;simp only at c ⊢;split at c
 ·rename_i e d;obtain⟨f,g⟩:=h.fw d;simp_all
 ·cases c
end
def VW (T:jm) (md:Nat->Md) (lo:Nat) (c:IR) (st:St) (Q:Out->St->Prop):Prop:=∃b a,Ev T md lo c st (b,a)/\Q b a
def RQ (x:Option St) (Q:St->Prop):Prop:=match x with|some a=>Q a|none=>False
section
variable {T:jm} {md:Nat->Md} {lo:Nat} {st:St} {a b:IR} {Q Q':Out->St->Prop}
theorem VW.mono (h:VW T md lo a st Q) (d:∀o s,Q o s->Q' o s):VW T md lo a st Q':=by
 obtain⟨o,s,b,c⟩:=h;exact⟨o,s,b,d o s c⟩
theorem VW.skip (h:Q .norm st):VW T md lo .skip st Q:=⟨_,_,.skip,h⟩
theorem VW.ret (h:Q .ret st):VW T md lo .ret st Q:=⟨_,_,.ret,h⟩
theorem VW.exit {id:Nat} (h:Q (.exit id) st):VW T md lo (.exit id) st Q:=⟨_,_,.exit,h⟩
theorem VW.seq (h:VW T md lo a st λout s=>if out= .norm then VW T md lo b s Q else Q out s):VW T md lo (.seq a b) st Q:=by
 obtain⟨o,s,e,c⟩:=h;by_cases d:o= .norm
 ·subst d;rw[if_pos rfl] at c;obtain⟨i,j,g,f⟩:=c;exact⟨i,j,e.seq g,f⟩
 ·rw[if_neg d] at c;exact⟨o,s,e.Y7 d,c⟩
theorem VW.cond {x:Operand} {q:Bool} (e:dO st.env x= .sc (.bool q)) (h:if q=true then VW T md lo a ⟨n5 x st.env,st.o⟩ Q else VW T md lo b ⟨n5 x st.env,st.o⟩ Q):VW T md lo (.cond x a b) st Q:=by
 cases q with
 |true=>obtain⟨o,s,c,d⟩:=(by simpa using h:VW T md lo a ⟨n5 x st.env,st.o⟩ Q);exact⟨o,s,.XI e c,d⟩;|false=>obtain⟨o,s,c,d⟩:=(by simpa using h:VW T md lo b ⟨n5 x st.env,st.o⟩ Q);exact⟨o,s,.XH e c,d⟩
theorem VW.nw {x:Operand} {q:Bool} (e:dO st.env x= .sc (.bool q)) (h:if q=true then VW T md lo a st Q else VW T md lo b st Q):VW T md lo (.nw x a b) st Q:=by
 cases q with
 |true=>obtain⟨o,s,c,d⟩:=(by simpa using h:VW T md lo a st Q);exact⟨o,s,.nw e (λ_=>c) (λh=>by cases h),d⟩;|false=>obtain⟨o,s,c,d⟩:=(by simpa using h:VW T md lo b st Q);exact⟨o,s,.nw e (λh=>by cases h) (λ_=>c),d⟩
theorem VW.block {id:Nat} (h:VW T md lo a st λout s=>Q (out.inBlock id) s):VW T md lo (.block id a) st Q:=by
 obtain⟨o,s,b,c⟩:=h;exact⟨_,_,b.block,c⟩
theorem VW.region {id k:Nat} {d:Bool} {e:List cM} {c:List (Nat×Nat)} {b:List Nat} {f a:List iM}
  (h:RQ (n9 T.K k e c (f.foldl (λs h=>jE lo h s) st)) λst'=>Q .norm (a.foldl (λs h=>jE lo h s) ⟨eK b st'.env,st'.o⟩)):
  VW T md lo (.region id d k e c b f a) st Q:=by
 unfold RQ at h;split at h
 ·rename_i st' g;refine⟨_,_,Ev.region ⟨0,λi m _=>?_⟩,h⟩;have:=(me.oG T i).n9 g;exact this
 simp_all
theorem VW.loop (h:VW T md lo a st λout s=>if out= .norm then VW T md lo (.loop a) (trim st.o.length s) Q else Q out s):VW T md lo (.loop a) st Q:=by
 obtain⟨o,s,d,b⟩:=h;by_cases c:o= .norm
 ·subst c;rw[if_pos rfl] at b;obtain⟨g,i,f,e⟩:=b;exact⟨g,i,d.XG f,e⟩
 ·rw[if_neg c] at b;exact⟨o,s,d.XF c,b⟩
theorem VW.XB (I:Nat->St->Prop) (b:∀m s,I m s->VW T md lo a s λout s'=>if out= .norm then ∃c,c<m/\I c (trim s.o.length s') else Q out s'):
  ∀(m:Nat) (s:St),I m s->VW T md lo (.loop a) s Q:=by
 intro m;induction m using ζM with
 |_ m e=>
  intro s d;refine VW.loop ((b m s d).mono λo s' h=>?_);grind
theorem VW.goto {l:Nat} (h:Q (.goto l) st):VW T md lo (.goto l) st Q:=⟨_,_,.goto,h⟩
theorem VW.XA {l:Option Nat} (h:VW T md lo a st λout s=>(∀e,out≠ .goto e)/\Q out s):VW T md lo (.turns l a) st Q:=by
 obtain⟨o,s,b,c,d⟩:=h;exact⟨o,s,b.O5 c,d⟩
theorem VW.Xz {l:Nat} (I:Nat->St->Prop) (b:∀m s,I m s->VW T md lo a s λout s'=>(out= .goto l/\∃c,c<m/\I c (trim s.o.length s'))\/((∀h,out≠ .goto h)/\Q out s')):
  ∀(m:Nat) (s:St),I m s->VW T md lo (.turns (some l) a) s Q:=by
 intro m;induction m using ζM with
 |_ m i=>
  intro s k;obtain⟨o,s',f,j⟩:=b m s k;rcases j with⟨rfl,c,d,e⟩|⟨d,e⟩
  ·obtain⟨p,q,n,g⟩:=i c d _ e;exact⟨p,q,f.XE n,g⟩
  ·exact⟨o,s',f.O5 d,e⟩
theorem Az {P:Program} (k:jX P T) {f:FuncId} {F:el} (g:T.fn f=some F) {args:List AV} {o:a_} {own:Bool} (j:T.K f args o own=none) (b:args.length=F.params) {v:AV} {o':a_}
  (h:VW T yv o.length F.body ⟨gn 0 args,o⟩ λout st'=>(out= .norm\/out= .ret)/\(mJ st' F.res).bind (λc=>finish own o.length c st'.o)=some (v,o')):
  fU P f=true/\jB P f args o v o'/\(own=false->o'=[]):=by
 obtain⟨out,st',e,i,d⟩:=h;obtain⟨c,l,a⟩:=Option.bind_eq_some_iff.1 d;grind[XD]
end
open Classical in
noncomputable def tR {α:Type} (enc:α->List AV) (dom:α->Prop) (spec:α->AV) (args:List AV):Option AV:=
 if h:∃a,args=enc a/\dom a then some (spec (Classical.choose h)) else none
theorem Xy {e:Type} {enc:e->List AV} {d:e->Prop} {c:e->AV} (f:∀a b,enc a=enc b->a=b) {a:e} (g:d a):tR enc d c (enc a)=some (c a):=by
 have h:∃b,enc a=enc b/\d b:=⟨a,rfl,g⟩;unfold tR;grind
theorem Xx {d:Type} {enc:d->List AV} {c:d->Prop} {b:d->AV} {args:List AV} {v:AV} (h:tR enc c b args=some v):∃a,args=enc a/\c a/\v=b a:=by
 unfold tR at h;split at h<;>grind
structure oz where
 (a0 a1 a2 a3 a4 a5:Int)
 deriving DecidableEq
structure bC where
 TM:Int
 bx:oz
 value:Int
 deriving DecidableEq
structure ue where
 aHH:Int
 least:Int
 deriving DecidableEq
structure mI where
 TM:Int
 bx:oz
 deriving DecidableEq
structure tT where
 members:Int
 left:oz
 bs:oz
 deriving DecidableEq
def oz.zero:oz:=⟨0,0,0,0,0,0⟩
inductive ew where
 |i (k:IntKind)
 |b
 |bun
 |bu
 |need
 |key
 |sit
 |Ap (s:ew)
 |pair (s t:ew)
 deriving DecidableEq
@[reducible] def ew.T:ew->Type
 | .i _=>Int
 | .b=>Bool
 | .bun=>oz
 | .bu=>bC
 | .need=>ue
 | .key=>mI
 | .sit=>tT
 | .Ap s=>List s.T
 | .pair s t=>s.T×t.T
def ew.bw:(s:ew)->s.T
 | .i _=>(0:Int)
 | .b=>false
 | .bun=> .zero
 | .bu=>⟨0,.zero,0⟩
 | .need=>⟨0,0⟩
 | .key=>⟨0,.zero⟩
 | .sit=>⟨0,.zero,.zero⟩
 | .Ap _=>[]
 | .pair s t=>(s.bw,t.bw)
def ew.sz:ew->Nat
 | .i _=>1
 | .b=>1
 | .bun=>6
 | .bu=>8
 | .need=>2
 | .key=>7
 | .sit=>13
 | .Ap _=>1
 | .pair s t=>s.sz+t.sz
@[reducible] def ew.dec:(s:ew)->DecidableEq s.T
 | .i _=>inferInstanceAs (DecidableEq Int)
 | .b=>inferInstanceAs (DecidableEq Bool)
 | .bun=>inferInstanceAs (DecidableEq oz)
 | .bu=>inferInstanceAs (DecidableEq bC)
 | .need=>inferInstanceAs (DecidableEq ue)
 | .key=>inferInstanceAs (DecidableEq mI)
 | .sit=>inferInstanceAs (DecidableEq tT)
 | .Ap s=>@instDecidableEqList _ s.dec
 | .pair s t=>@instDecidableEqProd _ _ s.dec t.dec
instance (s:ew):DecidableEq s.T:=s.dec
def ew.vo:ew->Bool
 | .i _| .b=>true
 |_=>false
def ew.flat:ew->Bool
 | .Ap _=>false
 | .pair s t=>s.flat&&t.flat
 |_=>true
def iv (n:Int):Value:=.int .i64 n
def oz.vs (b:oz):List Value:=[iv b.a0,iv b.a1,iv b.a2,iv b.a3,iv b.a4,iv b.a5]
def cI:(s:ew)->s.T->List Value
 | .i k,n=>[.int k n]
 | .b,b=>[.bool b]
 | .bun,x=>[iv x.a0,iv x.a1,iv x.a2,iv x.a3,iv x.a4,iv x.a5]
 | .bu,x=>[iv x.TM,iv x.bx.a0,iv x.bx.a1,iv x.bx.a2,iv x.bx.a3,iv x.bx.a4,iv x.bx.a5,iv x.value]
 | .need,x=>[iv x.aHH,iv x.least]
 | .key,x=>[iv x.TM,iv x.bx.a0,iv x.bx.a1,iv x.bx.a2,iv x.bx.a3,iv x.bx.a4,iv x.bx.a5]
 | .sit,x=>[iv x.members,iv x.left.a0,iv x.left.a1,iv x.left.a2,iv x.left.a3,iv x.left.a4,iv x.left.a5,iv x.bs.a0,iv x.bs.a1,iv x.bs.a2,iv x.bs.a3,iv x.bs.a4,iv x.bs.a5]
 | .Ap _,_=>[.bool false]
 | .pair s t,x=>cI s x.1++cI t x.2
def df:(s:ew)->s.T->List AV
 | .Ap s,l=>[.sl l.length (l.flatMap (df s))]
 | .pair s t,x=>df s x.1++df t x.2
 | .i k,x=>(cI (.i k) x).map .sc
 | .b,x=>(cI .b x).map .sc
 | .bun,x=>(cI .bun x).map .sc
 | .bu,x=>(cI .bu x).map .sc
 | .need,x=>(cI .need x).map .sc
 | .key,x=>(cI .key x).map .sc
 | .sit,x=>(cI .sit x).map .sc
inductive SV where
 |ud
 |sc (v:Value)
 |il (k:IntKind) (n:Int)
 |si (k:IntKind) (n:Int)
 |bl (b:Bool)
 |sb (b:Bool)
 |agg (cs:List SV)
 |Gz (cs:List SV)
 |row (s:ew) (l:List s.T)
 |ep (s:ew) (l:List s.T) (i bu:Nat)
 |ptr (id bu tot:Nat)
 |ap (id base sz len tot i:Nat)
 |rp (id i bu n sz:Nat)
 |ow (id n sz:Nat)
 |os (id bu len n sz:Nat)
 |oc (id bu len n sz:Nat)
 |mp (id:Nat)
 |fn (f:Fn) (first captured:List SV)
 |ia (t:TypeId) (cs:List SV)
 |ite (c:Bool) (a b:SV)
inductive iZ where
 |dead
 |cells (cs:List SV) (e:TypeId) (sz:Nat) (pu:Bool)
 |row (s:ew) (l:List s.T) (e:TypeId) (pu:Bool)
 |map (sk sv:ew) (ka:Bool) (es:List (sk.T×sv.T)) (kt:List Nat×Bool) (pu:Bool)
 |aol (s:ew) (l:List s.T) (e:TypeId) (t:List SV)
def bP (s:ew) (l:List s.T):List AV:=l.flatMap (df s)
def nU (s:ew) (a:Bool) (x:s.T):Value:=if a then .agg (cI s x).toArray else(cI s x).headD (.bool false)
def lR (s:ew) (x:s.T):AV:=.sc ((cI s x).headD (.bool false))
mutual
def SV.g:SV->AV
 | .ud=> .ud
 | .sc v=> .sc v
 | .il k n=> .sc (.int k n)
 | .si k n=> .sc (.int k n)
 | .bl b=> .sc (.bool b)
 | .sb b=> .sc (.bool b)
 | .agg m=> .agg (gL m)
 | .Gz m=> .Gz (gL m)
 | .row s l=> .sl l.length (bP s l)
 | .ep s l i d=> .ep (bP s l) (i*s.sz+d)
 | .ptr h d o=> .ptr h d o
 | .ap h p e _ o i=> .ptr h (p+i*e) o
 | .rp h i d n e=> .ptr h (i*e+d) (n*e)
 | .ow h n e=> .os h 0 n (n*e)
 | .os h d j n e=> .os h (d*e) j (n*e)
 | .oc h d j n e=> .os h (d*e+(n*e+e)) j (n*e)
 | .mp h=> .mp h
 | .fn f a b=> .fn f (gL a) (gL b)
 | .ia t m=> .ifc t (gL m)
 | .ite _ _ _=> .ud
def gL:List SV->List AV
 |[]=>[]
 |c::m=>c.g::gL m
end
theorem ft:∀(l:List SV),gL l=l.map SV.g
 |[]=>rfl
 |c::a=>by simp[gL,ft a]
def iZ.g:iZ->OL
 | .dead=> .dead
 | .cells c e i a=> .cells (gL c) e i a
 | .row s l e a=> .cells (bP s l) e s.sz a
 | .aol s l e t=> .cells (bP s l++gL t) e s.sz false
 | .map f b j h d a=> .map (h.map λp=>(nU f j p.1,lR b p.2)) d a
def cR:(s:ew)->s.T->List SV
 | .i k,n=>[.si k n]
 | .b,b=>[.sb b]
 | .bun,x=>[.si .i64 x.a0,.si .i64 x.a1,.si .i64 x.a2,.si .i64 x.a3,.si .i64 x.a4,.si .i64 x.a5]
 | .bu,x=>[.si .i64 x.TM,.si .i64 x.bx.a0,.si .i64 x.bx.a1,.si .i64 x.bx.a2,.si .i64 x.bx.a3,.si .i64 x.bx.a4,.si .i64 x.bx.a5,.si .i64 x.value]
 | .need,x=>[.si .i64 x.aHH,.si .i64 x.least]
 | .key,x=>[.si .i64 x.TM,.si .i64 x.bx.a0,.si .i64 x.bx.a1,.si .i64 x.bx.a2,.si .i64 x.bx.a3,.si .i64 x.bx.a4,.si .i64 x.bx.a5]
 | .sit,x=>[.si .i64 x.members,.si .i64 x.left.a0,.si .i64 x.left.a1,.si .i64 x.left.a2,.si .i64 x.left.a3,.si .i64 x.left.a4,.si .i64 x.left.a5,.si .i64 x.bs.a0,.si .i64 x.bs.a1,.si .i64 x.bs.a2,.si .i64 x.bs.a3,.si .i64 x.bs.a4,.si .i64 x.bs.a5]
 | .Ap s,l=>[.row s l]
 | .pair s t,x=>cR s x.1++cR t x.2
def gF (s s':ew) (l:List s.T):Option (List s'.T):=if h:s=s' then some (h▸l) else none
def iH (s:ew):SV->Option (List s.T)
 | .row a l=>match gF a s l with
  |some l=>some l
  |none=>match l with
   |[]=>some []
   |_=>none
 |_=>none
def SV.qn:SV->SV
 | .sc (.slice none 0 0)=> .row (.i .i64) []
 |v=>v
def SV.int:IntKind->SV->Option Int
 |k,.si a n=>if a=k then some n else none
 |k,.il a n=>if a=k then some n else none
 |_,_=>none
def SV.pj:SV->Option Bool
 | .sb b=>some b
 | .bl b=>some b
 |_=>none
def ints:List SV->Option (List Int)
 |[]=>some []
 |c::a=>match c.int .i64,ints a with
  |some n,some l=>some (n::l)
  |_,_=>none
def jl:(s:ew)->List SV->Option s.T
 | .i k,[c]=>c.int k
 | .b,[c]=>c.pj
 | .bun,d=>match ints d with
  |some [f,e,l,h,g,j]=>some (⟨f,e,l,h,g,j⟩:oz)
  |_=>none
 | .bu,d=>match ints d with
  |some [b,f,e,l,h,g,j,v]=>some (⟨b,⟨f,e,l,h,g,j⟩,v⟩:bC)
  |_=>none
 | .need,d=>match ints d with
  |some [a,b]=>some (⟨a,b⟩:ue)
  |_=>none
 | .key,d=>match ints d with
  |some [b,f,e,l,h,g,j]=>some (⟨b,⟨f,e,l,h,g,j⟩⟩:mI)
  |_=>none
 | .sit,d=>match ints d with
  |some [m,f,e,l,h,g,j,p,u,n,q,r,o]=>some (⟨m,⟨f,e,l,h,g,j⟩,⟨p,u,n,q,r,o⟩⟩:tT)
  |_=>none
 | .Ap s,[c]=>iH s c
 | .pair s t,d=>match jl s (d.take s.sz),jl t (d.drop s.sz) with
  |some x,some y=>some (x,y)
  |_,_=>none
 |_,_=>none
theorem Ge:(s:ew)->0<s.sz
 | .i _| .b| .bun| .bu| .need| .key| .sit| .Ap _=>by simp[ew.sz];| .pair s t=>by
  have:=Ge s;grind[ew.sz]
theorem rW:(s:ew)->(x:s.T)->(cR s x).map SV.g=df s x
 | .Ap s,l=>by grind[cR,df,SV.g,bP];| .pair s t,x=>by simp only[cR,df,γb,rW s x.1,rW t x.2];| .i _,x| .b,x| .bun,x| .bu,x| .need,x| .key,x| .sit,x=>by simp[cR,df,cI,SV.g,iv]
theorem Gd:(s:ew)->(x:s.T)->(cI s x).length=s.sz
 | .pair s t,x=>by simp only[cI,γh,Gd s x.1,Gd t x.2,ew.sz];| .Ap _,x| .i _,x| .b,x| .bun,x| .bu,x| .need,x| .key,x| .sit,x=>rfl
theorem kD:(s:ew)->(x:s.T)->(df s x).length=s.sz
 | .pair s t,x=>by simp only[df,γh,kD s x.1,kD t x.2,ew.sz];| .Ap _,x| .i _,x| .b,x| .bun,x| .bu,x| .need,x| .key,x| .sit,x=>rfl
theorem Ay:(s:ew)->s.flat=true->(x:s.T)->df s x=(cI s x).map .sc
 | .pair s t,h,x=>by
  simp only[ew.flat,θ] at h;simp only[df,cI,γb,Ay s h.1,Ay t h.2];| .Ap _,h,x=>by grind[ew.flat];| .i _,_,x| .b,_,x| .bun,_,x| .bu,_,x| .need,_,x| .key,_,x| .sit,_,x=>rfl
theorem gT {k:IntKind} {c:SV} {n:Int} (h:c.int k=some n):c.g= .sc (.int k n):=by
 cases c<;>simp only[SV.int,reduceCtorEq] at h<;>grind[SV.int,reduceCtorEq,SV.g]
theorem tj {c:SV} {b:Bool} (h:c.pj=some b):c.g= .sc (.bool b):=by
 cases c<;>simp[SV.pj] at h<;>subst h<;>simp[SV.g]
theorem Ax:∀{cs:List SV} {l:List Int},ints cs=some l->cs.map SV.g=l.map λn=> .sc (iv n)
 |[],l,h=>by grind[ints];|c::cs,l,h=>by
  simp only[ints] at h;split at h
  ·rename_i n d a b;simp at h;subst h;simp[gT a,Ax b,iv]
  ·cases h
theorem ln {s s':ew} {l:List s.T} {a:List s'.T} (h:gF s s' l=some a):s=s'/\HEq l a:=by
 unfold gF at h;grind
theorem Xw {s:ew} {v:SV} {l:List s.T} (h:iH s v=some l):v.g= .sl l.length (bP s l):=by
 cases v<;>simp only[iH,reduceCtorEq] at h;grind[ln,SV.g,bP]
theorem mH:{s:ew}->{cs:List SV}->{x:s.T}->(h:jl s cs=some x)->cs.map SV.g=df s x
 | .i k,[c],_,h=>by grind[jl,df,cI,gT];| .b,[c],_,h=>by grind[jl,df,cI,tj];| .Ap s,[c],_,h=>by grind[jl,Xw,df,bP];| .pair s t,cs,_,h=>by
  simp only[jl] at h;split at h
  ·rename_i x y a d;simp only[γ] at h;subst h;have f:=mH a;have e:=mH d;simp only[df,<-f,<-e];rw[<-γb,List.take_append_drop]
  ·cases h;| .bun,cs,_,h| .bu,cs,_,h| .need,cs,_,h| .key,cs,_,h| .sit,cs,_,h=>by
  simp only[jl] at h;split at h
  ·rename_i a;simp at h;subst h;rw[Ax a];simp[df,cI]
  ·cases h
theorem Xv (v:SV):v.qn.g=v.g.qn:=by
 unfold SV.qn;split;·simp[SV.g,AV.qn,bP]
 ·rename_i h;cases v<;>grind[SV.g,AV.qn,AV.sc.injEq]
theorem Aw:(s:ew)->(x:s.T)->∀v∈cI s x,v.oneCell'=true
 | .pair s t,x=>by
  intro v a;simp only[cI] at a;rcases γi.1 a with h|h;·exact Aw s _ v h
  ·exact Aw t _ v h;| .Ap _,x| .i _,x| .b,x| .bun,x| .bu,x| .need,x| .key,x| .sit,x=>by simp[cI,iv,Value.oneCell']
def Plain (a:AV):Prop:=(∃v,a= .sc v/\v.oneCell'=true/\v≠ .slice none 0 0)\/∃n b,a= .sl n b/\cJ b=true
theorem Av:∀{l:List AV},(∀a∈l,a.pure=true)->cJ l=true
 |[],_=>by simp[cJ];|a::l,h=>by simp[cJ,h a (by simp),Av (l:=l) λb c=>h b (by simp[c])]
theorem Gc {k:Nat}:∀{l:List AV},(∀a∈l,a.VI k=true)->dH k l=true
 |[],_=>by simp[dH];|a::l,h=>by simp[dH,h a (by simp),Gc (l:=l) λb c=>h b (by simp[c])]
theorem Plain.pure {a:AV} (h:Plain a):a.pure=true:=by
 rcases h with⟨v,rfl,_⟩|⟨n,b,rfl,h⟩<;>grind[AV.pure]
theorem Plain.VI {a:AV} (h:Plain a) (k:Nat):a.VI k=true:=by
 rcases h with⟨v,rfl,_⟩|⟨n,b,rfl,h⟩<;>simp[AV.VI]
theorem Plain.one {a:AV} (h:Plain a):a.one=true:=by
 rcases h with⟨v,rfl,h,_⟩|⟨n,b,rfl,h⟩<;>grind[AV.one]
theorem yu:(s:ew)->(x:s.T)->∀a∈df s x,Plain a
 | .pair s t,x=>by
  intro a c;simp only[df] at c;rcases γi.1 c with h|h;·exact yu s _ a h
  ·exact yu t _ a h;| .Ap s,l=>by
  intro a c;simp only[df,List.mem_singleton] at c;subst c;refine .inr ⟨_,_,rfl,Av λb e=>?_⟩;obtain⟨y,_,f⟩:=List.mem_flatMap.1 e;exact(yu s y b f).pure;| .i _,x| .b,x| .bun,x| .bu,x| .need,x| .key,x| .sit,x=>by
  intro a c;simp only[df] at c;obtain⟨v,d,rfl⟩:=List.mem_map.1 c;refine .inl ⟨v,rfl,Aw _ _ v d,?_⟩;rintro rfl;simp[cI,iv] at d
theorem lQ {s:ew} {l:List s.T} {a:AV} (h:a∈bP s l):Plain a:=by
 grind[bP,yu]
theorem np (s:ew) (l:List s.T):cJ (bP s l)=true:=Av λa h=>(lQ h).pure
theorem O4 (k:Nat) (s:ew) (l:List s.T):dH k (bP s l)=true:=Gc λa h=>(lQ h).VI k
theorem Au (s:ew) (l:List s.T):dQ (bP s l)=true:=by
 simp only[dQ,ψ];intro a h;exact(lQ h).one
theorem ec (s:ew) (l:List s.T):(bP s l).length=l.length*s.sz:=by
 induction l<;>grind[bP,kD]
theorem O3 (s:ew) (l a:List s.T):bP s (l++a)=bP s l++bP s a:=by simp[bP]
theorem Gb (s:ew):∀(l:List s.T) (i:Nat),(bP s l).drop (i*s.sz)=bP s (l.drop i)
 |l,0=>by simp;|[],i+1=>by simp[bP];|x::l,i+1=>by
  have h:=Gb s l i;simp only[bP,δ0,List.drop_succ_cons] at h ⊢;rw[Nat.succ_mul,Nat.add_comm,List.drop_append,kD,ζD,h,List.drop_of_length_le (by grind[kD])];simp
theorem O2 (s:ew):∀(l:List s.T) (i:Nat),(bP s l).take (i*s.sz)=bP s (l.take i)
 |l,0=>by simp[bP];|[],i+1=>by simp[bP];|x::l,i+1=>by
  have h:=O2 s l i;simp only[bP,δ0,List.take_succ_cons] at h ⊢;rw[Nat.succ_mul,Nat.add_comm,List.take_append,kD,ζD,h,List.take_of_length_le (by grind[kD])]
def bN {a:Type} (l:List a) (i:Nat) (d:a):a:=(l[i]?).getD d
theorem bV {a:Type} {l:List a} {i:Nat} {d:a} (h:i<l.length):bN l i d=l[i]:=by simp[bN,h]
theorem O1 {s:ew} {l:List s.T} {i:Nat} (h:i<l.length):(bP s l).drop (i*s.sz)=df s (bN l i s.bw)++bP s (l.drop (i+1)):=by
 rw[Gb,List.drop_eq_getElem_cons h,bV h];grind[bP]
end Go.Vi
