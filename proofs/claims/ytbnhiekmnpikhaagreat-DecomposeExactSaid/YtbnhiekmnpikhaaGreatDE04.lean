import Derived.Test.YtbnhiekmnpikhaaGreatDE03
import Derived.RangeFuncOwn
import Derived.LoopNIn
import Derived.LoopN
import Derived.Scope
set_option maxRecDepth 100000
set_option maxHeartbeats 4000000
set_option linter.all false
open Array renaming getElem?_eq_some_iff->γA,replicate->εd,getElem?_toList->γZ,ext'->εj
open Bool renaming and_eq_true->θ,false_eq_true->τ
open Go.Vi renaming eL->ζW,qc->θh
open List renaming not_mem_nil->δD,mem_filter->Ψ,getElem?_set_ne->δs,getElem?_eq_getElem->μ,getElem?_eq_none->ζL,getElem?_set->εk,map_congr_left->γI,mem_append->γi,ext_getElem?->δa,cons_append->γM,getD_eq_getElem?_getD->ε8,all_eq_true->ψ,getElem?_cons_succ->γS,map_cons->ξ,nodup_cons->γR,mem_of_getElem?->γf,eq_nil_of_length_eq_zero->χ,getElem?_eq_some_iff->ζ,range->ω,pairwise_cons->γr,mem_cons_of_mem->γp,append_nil->γ0,map_append->γb,length_append->γh,flatMap_cons->δ0
open List.Pairwise renaming nil->δv
open Nat renaming le_refl->π,lt_or_ge->ζe,le_trans->δ3,strongRecOn->ζM,beq->δu,eq_of_beq_eq_true->εU,lt_of_lt_of_le->γl,add_sub_cancel_left->ζD
open Option renaming map_eq_some_iff->ε
open Option.some renaming injEq->γ
open Prod.mk renaming injEq->ι
namespace Go.Vi
section
variable {call:cy} {ρ ρ2:Operand->AV} {qE:Nat}
theorem OC {a:bT} {o:a_} {j:Nat} (h:j∈fj a ρ o qE):j∈dm a ρ o qE:=by
 cases a<;>simp only[fj,dm,δD] at h ⊢<;>try exact h
 all_goals grind
theorem Yl {a:bT} {o:a_} (h:a.bs=0\/a.bs=1):fj a ρ o qE=[]:=by
 cases a<;>try (simp[bT.bs] at h;done)
 case call f c b=>cases b<;>simp[bT.bs] at h;rfl
 case ak4 f c b=>cases b<;>simp[bT.bs] at h;rfl
 all_goals rfl
theorem Gr {b:bT} {o:a_} (h:b.bs=0):dm b ρ o qE=[]:=by
 cases b<;>try (simp[bT.bs] at h;done)
 case call f c a=>cases a<;>simp[bT.bs] at h
 case ak4 f c a=>cases a<;>simp[bT.bs] at h
 all_goals rfl
theorem Yk (a:bT):a.bs=0\/a.bs=1\/a.bs=2\/a.bs=3:=by
 cases a<;>try (simp[bT.bs];done)
 case call f c b=>cases b<;>simp[bT.bs]
 case ak4 f c b=>cases b<;>simp[bT.bs]
def lr (a:bT) (W:List Nat) (n j:Nat):Prop:=j∈W\/(a.bs=3/\n<=j)
theorem Gq {a:bT} {o:a_} {j:Nat} (h:j∈dN call a ρ o qE):j∈fj a ρ o qE:=by
 unfold dN at h;split at h
 ·split at h;·exact(Ψ.1 h).1
  ·simp at h
 ·exact h
theorem Yj {a:bT} {o:a_} {j:Nat} (h:j∈dN call a ρ o qE):j∈dm a ρ o qE:=OC (Gq h)
theorem rj {a:bT} {o:a_} (h:a.bs=0\/a.bs=1):dN call a ρ o qE=[]:=by
 unfold dN;grind[bT.bs,Yl]
theorem Y8 {a:bT} {o:a_} (h:a.bs=2):dN call a ρ o qE=fj a ρ o qE:=by
 unfold dN;grind[bT.bs]
open Classical in
theorem Y7 {iop:bT} {o o':a_} {v:AV} (he:MO call iop ρ o qE=some (v,o')):
  o.length<=o'.length/\(iop.bs≠3->o'.length=o.length)/\(∀j,¬lr iop (dN call iop ρ o qE) o.length j->o'[j]?=o[j]?)/\
  ∀o2:a_,(∀j∈dm iop ρ o qE,o2[j]?=o[j]?)->(iop.bs=3->o2.length=o.length)->
   ∃o2',MO call iop ρ o2 qE=some (v,o2')/\dm iop ρ o2 qE=dm iop ρ o qE/\dN call iop ρ o2 qE=dN call iop ρ o qE/\∀j,lr iop (dN call iop ρ o qE) o.length j->o2'[j]?=o'[j]?:=by
 rcases Yk iop with hc|hc|hc|hc
 ·have:=Yv hc he;subst this;refine⟨π _,λ_=>rfl,λ_ _=>rfl,λo2 _ _=>⟨o2,?_,by rw[Gr hc,Gr hc],by rw[rj (.inl hc),rj (.inl hc)],λj hj=>?_⟩⟩;·rw[OG hc o' o2,he];rfl
  ·rw[lr,rj (.inl hc)] at hj;simp[hc] at hj
 ·have:=Yo hc he;subst this;refine⟨π _,λ_=>rfl,λ_ _=>rfl,λo2 h _=>⟨o2,?_,(Gs (call:=call) hc h).2,by rw[rj (.inr hc),rj (.inr hc)],λj hj=>?_⟩⟩;·rw[(Gs hc h).1,he];rfl
  ·rw[lr,rj (.inr hc)] at hj;simp[hc] at hj
 ·simp only[Y8 hc];obtain⟨id,x,hid,rfl,hk⟩:=Yn hc he;refine⟨by simp,λ_=>by simp,λj hj=>?_,λo2 h _=>?_⟩
  ·have:j≠id:=λhji=>hj (.inl (hji▸hid));rw[δs (Ne.symm this)]
  ·obtain⟨k1,k2,k3⟩:=hk o2 h;refine⟨_,k1,k2,k3,λj hj=>?_⟩;have hj:j∈fj iop ρ o qE:=hj.resolve_right (by simp[hc]);have hjo:=h j (OC hj);by_cases hji:id=j
   ·subst hji;have hlen:(id<o2.length)↔(id<o.length):=by
     rcases ζe id o2.length with g1|g1<;>rcases ζe id o.length with g2|g2;·simp[g1,g2]
     ·rw[μ g1,ζL g2] at hjo;cases hjo
     ·rw[μ g2,ζL g1] at hjo;cases hjo
     ·omega
    rw[εk,εk];simp only[if_true];by_cases h1:id<o.length;·rw[if_pos h1,if_pos (hlen.2 h1)]
    ·rw[if_neg h1,if_neg λh2=>h1 (hlen.1 h2)]
   ·rw[δs hji,δs hji];exact hjo
 ·have key:∀(f:FuncId) (args:List AV),gV call f args o=some (v,o')->dN call iop ρ o qE=cd o fc args []->dm iop ρ o qE=cd o fc args []->
    (∀o2:a_,MO call iop ρ o2 qE=gV call f args o2/\dm iop ρ o2 qE=cd o2 fc args []/\dN call iop ρ o2 qE=cd o2 fc args [])->
    o.length<=o'.length/\(iop.bs≠3->o'.length=o.length)/\(∀j,¬lr iop (dN call iop ρ o qE) o.length j->o'[j]?=o[j]?)/\
    ∀o2:a_,(∀j∈dm iop ρ o qE,o2[j]?=o[j]?)->(iop.bs=3->o2.length=o.length)->
    ∃o2',MO call iop ρ o2 qE=some (v,o2')/\dm iop ρ o2 qE=dm iop ρ o qE/\dN call iop ρ o2 qE=dN call iop ρ o qE/\∀j,lr iop (dN call iop ρ o qE) o.length j->o2'[j]?=o'[j]?:=by
   intro f args hcall hw ht hg;obtain⟨c1,c2,c3⟩:=OD hcall;refine⟨c1,λh=>absurd hc h,λj hj=>?_,λo2 h hl=>?_⟩
   ·simp only[lr,hc,true_and,not_or,Nat.not_le,hw] at hj;exact c2 j hj.2 hj.1
   ·rw[ht] at h;obtain⟨o2',d1,d2,d3⟩:=c3 o2 (hl hc) h;obtain⟨g1,g2,g3⟩:=hg o2;refine⟨o2',by rw[g1,d1],by rw[g2,d2,ht],by rw[g3,d2,hw],λj hj=>d3 j ?_⟩;simp only[lr,hc,true_and,hw] at hj;exact hj
  cases iop<;>try (simp[bT.bs] at hc;done)
  case call f args own=>
   cases own;·simp[bT.bs] at hc
   ·simp only[MO,fV,if_true] at he;obtain⟨c1,c2,c3⟩:=OD he;have hw:dN call (.call f args true) ρ o qE=(cd o fc (args.map ρ) []).filter λj=>decide (o'[j]?≠o[j]?):=by simp only[dN,he]
    refine⟨c1,λh=>absurd hc h,λj hj=>?_,λo2 h hl=>?_⟩
    ·simp only[lr,hc,true_and,not_or,Nat.not_le,hw,Ψ,decide_eq_true_eq,not_and,Classical.not_not,ne_eq] at hj;by_cases hm:j∈cd o fc (args.map ρ) [];·exact hj.1 hm
     ·exact c2 j hj.2 hm
    ·obtain⟨o2',d1,d2,d3⟩:=c3 o2 (hl hc) h;refine⟨o2',by simp only[MO,fV,if_true,d1],d2,?_,λj hj=>?_⟩
     ·rw[hw];simp only[dN,d1,d2];refine List.filter_congr λj hj=>?_;rw[d3 j (.inl hj),h j hj]
     ·rw[lr,hw,Ψ] at hj;exact d3 j (hj.imp (λh=>h.1) λh=>h.2)
  case ak4 f args own=>
   cases own;·simp[bT.bs] at hc
   ·simp only[MO,fV,if_true] at he;split at he
    ·rename_i g first captured hf;exact key g (first++args.map ρ++captured) he (by simp[dN,fj,hf]) (by simp[dm,hf]) λo2=>⟨by simp[MO,fV,hf],by simp[dm,hf],by simp[dN,fj,hf]⟩
    ·cases he
theorem Gp {l:List Operand} (h:∀x∈l,ρ2 x=ρ x):l.map ρ2=l.map ρ:=γI h
theorem Y6 {c:bT} (h:∀x∈c.j3,ρ2 x=ρ x) (o:a_):MO call c ρ2 o qE=MO call c ρ o qE/\dm c ρ2 o qE=dm c ρ o qE/\dN call c ρ2 o qE=dN call c ρ o qE:=by
 cases c;case build z i=>
  have:(i.map λp=>(p.1,p.2.1,ρ2 p.2.2))=i.map λp=>(p.1,p.2.1,ρ p.2.2):=γI λp r=>by grind[bT.j3]
  simp only[MO,dm,dN,fj,this,and_self]
 case aoE z n i e l=>
  have:(i.map λp=>(p.1,l,ρ2 p.2))=i.map λp=>(p.1,l,ρ p.2):=γI λp r=>by grind[bT.j3]
  simp only[MO,dm,dN,fj,this,and_self]
 case ard z n i e l=>
  have:(i.map λp=>(p.1,l,ρ2 p.2))=i.map λp=>(p.1,l,ρ p.2):=γI λp r=>by grind[bT.j3]
  simp only[MO,dm,dN,fj,this,and_self]
 case call f d k=>
  have:=Gp h;simp only[bT.j3] at this;cases k<;>simp only[MO,dm,dN,fj,this,and_self]
 case ak4 f d k=>
  have m:d.map ρ2=d.map ρ:=Gp λx u=>h x (by grind[bT.j3]);have q:=h f (by simp[bT.j3]);cases k<;>simp only[MO,dm,dN,fj,m,q,and_self]
 case aoe s x d=>
  simp_all[Gp,bT.j3,MO,dm,dN,fj]
 case arh f a b=>
  simp_all[bT.j3,MO,dm,dN,fj]
 case slice l x g j=>
  have m:g.map ρ2=g.map ρ:=by cases g<;>simp[bT.j3] at h ⊢;exact h.2.1
  have q:j.map ρ2=j.map ρ:=by cases j<;>simp[bT.j3] at h ⊢;simp_all
  simp_all[bT.j3,MO,dm,dN,fj]
 case asv x g j=>
  have m:g.map ρ2=g.map ρ:=by cases g<;>simp[bT.j3] at h ⊢;exact h.2.1
  have q:j.map ρ2=j.map ρ:=by cases j<;>simp[bT.j3] at h ⊢;simp_all
  simp_all[bT.j3,MO,dm,dN,fj]
 case slice3 l x g j t=>
  have m:g.map ρ2=g.map ρ:=by
   cases g with
   |none=>rfl;|some a=>simp_all[bT.j3]
  simp_all[bT.j3,MO,dm,dN,fj]
 all_goals
  simp only[bT.j3,List.mem_cons,δD,or_false,forall_eq_or_imp,forall_eq] at h;simp[MO,dm,dN,fj,h]
end
section
variable {call:cy} {base:Nat}
noncomputable def entry (call:cy) (base:Nat) (i:cO) (st:St):List Nat×List Nat:=
 match lv st.env i.guard with
 |some true=>(dm i.op (dQ st.env) st.o (base+i.qE),dN call i.op (dQ st.env) st.o (base+i.qE))
 |_=>([],[])
theorem Y5 {i:cO} {st:St} {j:Nat} (h:j∈(entry call base i st).2):j∈(entry call base i st).1:=by
 grind[entry,Yj]
theorem OB {i:cO} {e a:iV} (h:∀s∈i.reads,c_ a s=c_ e s):(∀x∈i.op.j3,dQ a x=dQ e x)/\lv a i.guard=lv e i.guard:=by
 constructor
 ·intro x b;cases x with
  |tmp t=>
   refine h t ?_;simp only[cO.reads,γi];left;exact List.mem_filterMap.2 ⟨.tmp t,b,rfl⟩;|_=>rfl
 ·unfold lv;grind[cO.reads]
theorem vq {i:cO} {st st':St} (a:gq call base i st=some st'):
  ∃v,(∀s,c_ st'.env s=if i.dst=some s then v else c_ st.env s)/\st.o.length<=st'.o.length/\(i.op.bs≠3->st'.o.length=st.o.length)/\
   (∀j,¬lr i.op (entry call base i st).2 st.o.length j->st'.o[j]?=st.o[j]?)/\
   ∀st2:St,(∀s∈i.reads,c_ st2.env s=c_ st.env s)->(∀j∈(entry call base i st).1,st2.o[j]?=st.o[j]?)->(i.op.bs=3->st2.o.length=st.o.length)->
    ∃b,gq call base i st2=some b/\(∀s,c_ b.env s=if i.dst=some s then v else c_ st2.env s)/\entry call base i st2=entry call base i st/\
     ∀j,lr i.op (entry call base i st).2 st.o.length j->b.o[j]?=st'.o[j]?:=by
 unfold gq at a;split at a;·cases a
 ·rename_i n;injection a with a;subst a;refine⟨.Gz [],λs=>tm _ _ _ _,π _,λ_=>rfl,λ_ _=>rfl,λst2 c _ k=>?_⟩;obtain⟨h,t⟩:=OB c;refine⟨⟨ny st2.env i.dst (.Gz []),st2.o⟩,?_,λs=>tm _ _ _ _,?_,λj w=>?_⟩;all_goals simp_all[gq,entry,lr]
 ·rename_i n;split at a
  ·rename_i v y c;injection a with a;subst a;rw[yt] at c;obtain⟨r,l,m,p⟩:=Y7 c;have e:entry call base i st=(dm i.op (dQ st.env) st.o (base+i.qE),dN call i.op (dQ st.env) st.o (base+i.qE)):=by grind[entry]
   rw[e];refine⟨v,λs=>tm _ _ _ _,r,l,m,λst2 f d k=>?_⟩;obtain⟨h,t⟩:=OB f;obtain⟨g,z,x,B,q⟩:=p st2.o d k;obtain⟨C,A,u⟩:=Y6 (call:=call) (qE:=base+i.qE) h st2.o;refine⟨⟨ny st2.env i.dst v,g⟩,?_,λs=>tm _ _ _ _,?_,q⟩<;>grind[ny,tm,gq,yt,entry]
  ·cases a
def jB (a b:St):Prop:=(∀s,c_ a.env s=c_ b.env s)/\a.o=b.o
theorem jB.refl (a:St):jB a a:=⟨λ_=>rfl,rfl⟩
theorem jB.trans {a b c:St} (h:jB a b) (k:jB b c):jB a c:=⟨λs=>(h.1 s).trans (k.1 s),h.2.trans k.2⟩
theorem jB.symm {a b:St} (h:jB a b):jB b a:=⟨λs=>(h.1 s).symm,h.2.symm⟩
theorem jB.run {i:cO} {a b l:St} (h:jB a b) (e:gq call base i a=some l):∃k,gq call base i b=some k/\jB l k/\entry call base i b=entry call base i a:=by
 have j:dQ b.env=dQ a.env:=by
  funext x;cases x with
  |tmp t=>exact(h.1 t).symm;|_=>rfl
 have o:lv b.env i.guard=lv a.env i.guard:=by
  cases p:i.guard with
  |none=>rfl;|some g=>
   obtain⟨c,d⟩:=g;cases c with
   |none=>rfl;|some s=>simp only[lv];rw[h.1]
 have f:∀(v:AV) (s:Nat),c_ (ny a.env i.dst v) s=c_ (ny b.env i.dst v) s:=by
  intro v s;simp only[tm];by_cases m:i.dst=some s;·simp_all
  ·rw[if_neg m,if_neg m];exact h.1 s
 have n:entry call base i b=entry call base i a:=by unfold entry;rw[o,j,h.2]
 unfold gq at e ⊢;rw[o,j,<-h.2];split at e;·cases e
 ·injection e with e;subst e;exact⟨_,rfl,⟨f _,rfl⟩,n⟩
 ·split at e
  ·injection e with e;subst e;exact⟨_,rfl,⟨f _,rfl⟩,n⟩
  ·cases e
def yE (n0:Nat) (y:cO) (a:List Nat×List Nat) (x:cO) (b:List Nat×List Nat):Prop:=
 yq y x=true/\(∀j∈a.2,j∉b.1)/\(∀j∈b.2,j∉a.1)/\(y.op.bs=3->x.op.bs≠3/\∀j∈b.1,j<n0)/\(x.op.bs=3->∀j∈a.1,j<n0)
theorem Y4 {y x:cO} (h:yq y x=true):(∀d,y.dst=some d->d∉x.reads)/\(∀d,x.dst=some d->d∉y.reads)/\∀d,y.dst=some d->x.dst≠some d:=by
 grind[yq,Hl]
theorem swap {n0:Nat} {y x:cO} {st c s2:St} (k:gq call base y st=some c) (n:gq call base x c=some s2) (P:n0<=st.o.length) (D:yE n0 y (entry call base y st) x (entry call base x c)):
  ∃a b,gq call base x st=some a/\gq call base y a=some b/\jB s2 b/\entry call base x st=entry call base x c/\entry call base y a=entry call base y st:=by
 obtain⟨d,Z,O,H,Q⟩:=D;obtain⟨a1,K,U⟩:=Y4 d;obtain⟨G,A,y2,S,C,F⟩:=vq k;obtain⟨L,q,V,T,X,l⟩:=vq n;obtain⟨a,h,u,f,p4⟩:=l st (λs i=>by
   grind) (λj m=>by
   rw[C j];rintro(z|⟨e,B⟩)<;>grind) (λe=>by
   omega);obtain⟨E,J,W,I,r,_⟩:=vq h;obtain⟨b,g,w,p,R⟩:=F a (λs i=>by
   grind) (λj m=>by
   rw[r j];rw[f];rintro(z|⟨e,B⟩)<;>grind) (λe=>by
   omega);obtain⟨t,b1,M,Y,N,_⟩:=vq g;refine⟨a,b,h,g,⟨λs=>?_,?_⟩,f.symm▸rfl,p⟩
 ·rw[q s,w s,u s,A s];grind
 ·apply δa;intro j;by_cases v:lr x.op (entry call base x c).2 c.o.length j;·
   grind[lr,Y5]
  grind[lr]
noncomputable def dG (call:cy) (base:Nat):List cO->St->List (List Nat×List Nat)
 |[],_=>[]
 |i::r,b=>entry call base i b::match gq call base i b with
  |some a=>dG call base r a
  |none=>[]
theorem jB.runs {l:List cO}:∀{a b d:St},jB a b->fw call base l a=some d->∃e,fw call base l b=some e/\jB d e/\dG call base l b=dG call base l a:=by
 induction l with
 |nil=>intro a b d h c;simp only[fw,γ] at c;subst c;exact⟨b,rfl,h,rfl⟩;|cons i l o=>
  intro a b d h c;simp only[fw] at c;split at c
  ·rename_i k f;obtain⟨j,m,g,n⟩:=h.run f;grind[fw,dG]
  ·cases c
theorem front {n0:Nat} {x:cO} {b:List cO}:∀(a:List cO) {st s:St},fw call base (a++x::b) st=some s->n0<=st.o.length->
  (∀(k:Nat) (y:cO) (p f:List Nat×List Nat),a[k]?=some y->(dG call base (a++x::b) st)[k]?=some p->(dG call base (a++x::b) st)[a.length]?=some f->yE n0 y p x f)->
  ∃g s',gq call base x st=some g/\fw call base (a++b) g=some s'/\jB s s'/\(dG call base (a++x::b) st)[a.length]?=some (entry call base x st)/\
   dG call base (a++b) g=(dG call base (a++x::b) st).eraseIdx a.length
 |[],st,s,d,_,_=>by
  grind[fw,jB.refl,dG];|y::a,st,s,d,n,m=>by
  simp only[γM,fw] at d;split at d
  ·rename_i l i;have c:dG call base (y::(a++x::b)) st=entry call base y st::dG call base (a++x::b) l:=by simp[dG,i]
   obtain⟨_,_,h,_⟩:=vq i;obtain⟨g,s',r,v,C,M,I⟩:=front a d (δ3 n h) λk z u f t K L=>m (k+1) z u f (by simpa using t) (by simp_all) (by simp_all);have e:yE n0 y (entry call base y st) x (entry call base x l):=m 0 y _ _ (by simp) (by simp[c]) (by simp_all);obtain⟨B,H,w,F,A,D,J⟩:=swap i r n e;obtain⟨j,G,q,E⟩:=A.runs v;refine⟨B,j,w,?_,C.trans q,?_,?_⟩<;>grind[fw,dG]
  ·cases d
end
theorem Y3 {acc:List Nat} {l:List Edge} {m:Nat}:∀{s:Nat},(l.foldl (Bm acc) s).testBit m=true->s.testBit m=true\/∃e∈l,Region.binds .any e=true/\(m=e.on\/(acc.getD e.on 0).testBit m=true):=by
 induction l with
 |nil=>simp_all;|cons e l b=>
  intro s h;simp only[List.foldl_cons] at h;rcases b h with a|⟨d,f,a,c⟩
  ·unfold Bm at a;grind
  grind
def yD (acc:List Nat) (o:Oper):Nat:=o.after.toList.foldl (Bm acc) 0
theorem Oz:∀(L:List Oper) (acc:List Nat),∃r,L.foldl (λacc o=>acc++[yD acc o]) acc=acc++r/\r.length=L.length/\
  ∀(k:Nat) (o:Oper),L[k]?=some o->r[k]?=some (yD (acc++r.take k) o)
 |[],acc=>⟨[],by simp,rfl,by simp⟩
 |o::L,acc=>by
  obtain⟨r,b,a,d⟩:=Oz L (acc++[yD acc o]);refine⟨yD acc o::r,by simp[b],by simp[a],λk e c=>?_⟩;cases k<;>simp_all
theorem Y2 {a:Array Oper} {k m:Nat} {o:Oper} (p:a[k]?=some o) (h:((ns a).getD k 0).testBit m=true):
  ∃e∈o.after,Region.binds .any e=true/\(m=e.on\/((ns a).getD e.on 0).testBit m=true):=by
 obtain⟨r,j,n,g⟩:=Oz a.toList [];have c:ns a=r:=by
  grind[ns,yD]
 rw[c] at h ⊢;have d:=g k o (by simp_all);rw[ε8,d] at h;simp only[Option.getD_some,List.nil_append] at h;rcases Y3 h with f|⟨e,l,i,b⟩;·simp at f
 ·refine⟨e,by simp_all,i,b.imp_right λb=>?_⟩;rw[ε8] at b ⊢;rw[List.getElem?_take] at b;grind
theorem Oy:∀(L:List Oper) (i:Nat),wt i L=true->∀(k:Nat) (o:Oper),L[k]?=some o->∀e∈o.after,Region.binds .any e=true->e.on<i+k
 |[],i,_,k,o,a,_,_,_=>by simp at a;|o::L,i,h,k,c,a,e,d,b=>by
  simp only[wt,θ,ψ] at h;cases k with
  |zero=>
   grind;|succ k=>
   have:=Oy L (i+1) h.2 k c (by simp_all) e d b;omega
theorem Ox {c:List Nat}:∀{l:List cO},wm c l=true->∀(p q:Nat) (y x:cO),p<q->l[p]?=some y->l[q]?=some x->
  (c.getD x.idx 0).testBit y.idx=true\/(yq y x=true/\(wu y x=true\/Bp y x=true))
 |[],_,p,q,y,x,_,e,_=>by simp at e;|a::r,h,p,q,y,x,b,e,d=>by
  simp only[wm,θ,ψ] at h;match q,b with
  |q+1,b=>
   simp only[γS] at d;cases p with
   |zero=>
    grind;|succ p=>exact Ox h.2 p q y x (by omega) (by simp_all) d
theorem Ow {d:List Nat}:∀{l:List cO} (p q:Nat) (y x:cO),p<q->l[p]?=some y->l[q]?=some x->¬(d.getD x.idx 0).testBit y.idx=true->wu y x=false->(y.idx,x.idx)∈pI d l
 |[],p,q,y,x,_,c,_,_,_=>by simp at c;|a::r,p,q,y,x,b,c,e,g,f=>by
  simp only[pI,γi];match q,b with
  |q+1,b=>
   simp only[γS] at e;cases p with
   |zero=>
    grind;|succ p=>exact .inr (Ow p q y x (by omega) (by simp_all) e g f)
section
variable {P:Program} {A:dg} {D:List Deferred} {call:cy} {base:Nat}
theorem Gn:∀{l:List cO} {st:St} {p:Nat} {x:cO} {t:List Nat×List Nat},l[p]?=some x->(dG call base l st)[p]?=some t->∃st',t=entry call base x st'
 |[],st,p,x,t,b,_=>by simp at b;|i::l,st,p,x,t,b,a=>by
  simp only[dG] at a;cases p with
  |zero=>grind;|succ p=>
   simp only[γS] at b a;split at a;·exact Gn b a
   ·simp at a
theorem Gm:∀{l:List cO} {st s:St} {p:Nat} {x:cO} {t:List Nat×List Nat},fw call base l st=some s->(l.map (·.idx)).Nodup->l[p]?=some x->(dG call base l st)[p]?=some t->oL (lu call base l st) x.idx=t
 |[],st,s,p,x,t,_,_,a,_=>by simp at a;|i::l,st,s,p,x,t,b,g,a,d=>by
  simp only[fw] at b;split at b
  ·rename_i j k;simp only[ξ,γR] at g;have e:lu call base (i::l) st=(i.idx,entry call base i st)::lu call base l j:=by
    grind[lu,entry]
   rw[e];simp only[dG,k] at d;cases p with
   |zero=>grind[oL];|succ p=>
    simp only[γS] at a d;have c:i.idx≠x.idx:=λh=>g.1 (h▸List.mem_map_of_mem (f:=λi:cO=>i.idx) (γf a));simp only[oL,beq_iff_eq,c,if_false];exact Gm b g.2 a d
  ·cases b
theorem Ou {i:cO} {st:St} (h:i.op.bs=0):entry call base i st=([],[]):=by
 grind[entry,Gr,rj]
theorem Ot {i:cO} {st:St} (h:i.op.bs=1):(entry call base i st).2=[]:=by
 grind[entry,rj]
theorem Oo {a b:List Nat} (h:wv a b=true):∀j∈a,j∉b:=by
 intro j c d;have:=ψ.1 h j c;simp_all
theorem Y1 {n0:Nat} {c:List Nat} {l:List cO} {st s:St} (z:fw call base l st=some s) (A:(l.map (·.idx)).Nodup) (r:wm c l=true)
  (b:((pI c l).isEmpty||rz n0 (lu call base l st) (pI c l))=true) {p q:Nat} {y x:cO} {E D:List Nat×List Nat} (e:p<q) (i:l[p]?=some y) (j:l[q]?=some x)
  (d:(dG call base l st)[p]?=some E) (f:(dG call base l st)[q]?=some D):(c.getD x.idx 0).testBit y.idx=true\/yE n0 y E x D:=by
 rcases Ox r p q y x e i j with h|⟨g,I⟩;·exact .inl h
 by_cases u:(c.getD x.idx 0).testBit y.idx=true;·exact .inl u
 right;obtain⟨v,m⟩:=Gn i d;obtain⟨C,k⟩:=Gn j f;cases a:wu y x with
 |true=>
  unfold wu at a;simp only[Bool.or_eq_true,θ,beq_iff_eq] at a;rcases a with(a|a)|⟨a,n⟩
  ·have:=Ou (call:=call) (base:=base) (st:=v) a;rw[this] at m;subst m;exact⟨g,by simp,by simp,λh=>(by omega),by simp⟩
  ·have:=Ou (call:=call) (base:=base) (st:=C) a;rw[this] at k;subst k;exact⟨g,by simp,by simp,λ_=>⟨by rw[a];decide,by simp⟩,λh=>(by omega)⟩
  ·have B:=Ot (call:=call) (base:=base) (st:=v) a;have w:=Ot (call:=call) (base:=base) (st:=C) n;rw[<-m] at B;rw[<-k] at w;exact⟨g,by simp[B],by simp[w],λh=>(by omega),λh=>(by omega)⟩;|false=>
  have M:Bp y x=true:=I.resolve_left (by simp[a]);have J:=Ow p q y x e i j u a;have o:(pI c l).isEmpty=false:=by
   grind
  rw[o,Bool.false_or] at b;have t:=ψ.1 b _ J;simp only[Gm z A i d,Gm z A j f,θ,ψ,decide_eq_true_eq] at t;obtain⟨⟨⟨F,K⟩,H⟩,G⟩:=t;refine⟨g,Oo F,Oo K,λL=>⟨λN=>?_,G⟩,λ_=>H⟩;grind[Bp]
theorem cq.eq {e:Nat} {f:World} {b:TN} {d:a_} {st st':St} {a:Act} {w:World} {σ:TN} (h:cq A e D f b d st a w σ) (c:jB st st'):cq A e D f b d st' a w σ where
 sim:=c.2▸h.sim;env:=λs=>by rw[<-c.1 s,<-c.2];exact h.env s
 size:=h.size;defers:=h.defers;ext:=c.2▸h.ext
theorem cq.drew {e:Nat} {f:World} {b:TN} {d:a_} {st:St} {a:Act} {w:World} {σ:TN} (h:cq A e D f b d st a w σ):cq A e D f b d st a {w with drawn:=w.drawn+1} σ:=by
 have c:cE w σ st.o {w with drawn:=w.drawn+1} σ st.o:=⟨π _,λ_ _ h=>⟨rfl,h⟩,π _,λ_ _ h=>⟨h,λ_ h=>⟨h,rfl⟩⟩,λ_ h=>⟨h,rfl⟩,rfl,rfl,rfl⟩;exact⟨⟨h.sim.len,h.sim.dist,h.sim.ec,λi x g=>(h.sim.obj i x g).ext c rfl λ_ _ _=>rfl,h.sim.av,h.sim.avb⟩,λs=>(h.env s).ext c,h.size,h.defers,h.ext.trans c⟩
theorem Y0 {c:Type} (b a:List c) (x:c):b++a=(b++x::a).eraseIdx b.length:=by
 grind
structure Gl (P:Program) (nt:Nat) (fl:List Nat) (ops:Array Oper) (call:cy) (base n0:Nat) (st2:St) (l:List cO) (listed:Array Bool) (st:St):Prop where
 run:∃s,fw call base l st=some s/\jB st2 s
 len:n0<=st.o.length
 rel:∀(p q:Nat) (y x:cO) (ty tx:List Nat×List Nat),p<q->l[p]?=some y->l[q]?=some x->(dG call base l st)[p]?=some ty->(dG call base l st)[q]?=some tx->((ns ops).getD x.idx 0).testBit y.idx=true\/yE n0 y ty x tx
 comp:∀x∈l,∃qE,pJ P nt fl ops qE x.idx=some x
 nodup:(l.map (·.idx)).Nodup
 sz:listed.size=ops.size
 Ap:∀k,k<ops.size->(listed.getD k true=false↔∃x∈l,x.idx=k)
 closed:∀k m,listed.getD k false=true->((ns ops).getD k 0).testBit m=true->listed.getD m false=true
theorem qZ {c:Array Bool} {k:Nat} (h:k<c.size) (a b:Bool):c.getD k a=c.getD k b:=by
 simp_all
theorem YZ {M:Nat} {fl:List Nat} {c:Array Oper} (K:nY P call) (a5:wt 0 c.toList=true) {n0:Nat} {st2:St} {w0:World} {L:TN} {o0:a_} {Q:Exit->Act->World->Prop}
  (hQ:∀Y w' F,cq A M D w0 L o0 st2 Y w' F->Q .normal Y w') {rnd:Option Nat}:∀(h:Nat) (l:List cO) (b:Array Bool) (st:St) (a:Act) (w:World) (σ:TN),l.length<=h->
   Gl P M fl c call base n0 st2 l b st->cq A M D w0 L o0 st a w σ->wpAnyIn (FR rnd) 0 P .any c Q h b a w:=by
 have C:∀(b:Array Bool) (st:St) (a:Act) (w:World) (σ:TN),Gl P M fl c call base n0 st2 [] b st->cq A M D w0 L o0 st a w σ->Q .normal a w:=by
  intro b st a w σ d O;obtain⟨s,n,h2⟩:=d.run;simp only[fw,γ] at n;subst n;exact hQ _ _ _ (O.eq h2.symm)
 have H:∀(l:List cO) (b:Array Bool) (st:St),Gl P M fl c call base n0 st2 l b st->∀(k:Nat),(∃x∈l,x.idx=k)->Region.ready .any c b≠[]:=by
  intro l b st d k;induction k using ζM with
  |_ k ih=>
   rintro⟨x,G,rfl⟩;obtain⟨V,X⟩:=d.comp x G;cases I:c[x.idx]? with
   |none=>grind[pJ];|some o=>
    have j:x.idx<c.size:=(γA.1 I).1;by_cases i:∀e∈o.after,Region.binds .any e=true->b.getD e.on false=true
    ·intro u;have:x.idx∈Region.ready .any c b:=mem_ready.2 ⟨(d.Ap _ j).2 ⟨x,G,rfl⟩,o,I,i⟩;simp_all
    ·simp only[Classical.not_forall] at i;obtain⟨e,he,hb,hn⟩:=i;have N:=Oy c.toList 0 a5 x.idx o (by simp_all) e he hb;simp only[Nat.zero_add] at N;refine ih e.on N ((d.Ap e.on (by omega)).1 ?_);rw[qZ (by rw[d.sz];omega) true false];simp_all
 intro h;induction h with
 |zero=>
  intro l b st a w σ hl d O;have:l=[]:=χ (by omega);subst this;refine⟨?_,C b st a w σ d O⟩;rw[List.eq_nil_iff_forall_not_mem];intro k j;obtain⟨h0,o,I,_⟩:=mem_ready.1 j;obtain⟨x,G,_⟩:=(d.Ap k (γA.1 I).1).1 h0;simp at G;|succ h ih=>
  intro l b st a w σ hl d O;refine⟨λu=>?_,λk j=>?_⟩;·cases l with
   |nil=>grind;|cons x l=>exact absurd u (H _ b st d x.idx ⟨x,by simp,rfl⟩)
  ·obtain⟨h0,o,I,i⟩:=mem_ready.1 j;have a2:k<c.size:=(γA.1 I).1;obtain⟨x,G,rfl⟩:=(d.Ap k a2).1 h0;obtain⟨f,g,rfl⟩:=List.append_of_mem G;obtain⟨s,R,S⟩:=d.run;have T:∀m,((ns c).getD x.idx 0).testBit m=true->b.getD m false=true:=by
    intro m hm;obtain⟨e,he,hb,n⟩:=Y2 I hm;rcases n with rfl|n;·simp_all
    ·exact d.closed _ _ (i e he hb) n
   obtain⟨s1,s',f1,f2,f3,f4,f5⟩:=front (n0:=n0) f R d.len λp y W tx hp n h2=>by
    have a0:p<f.length:=(ζ.1 hp).1;have J:(f++x::g)[p]?=some y:=by grind
    rcases d.rel p f.length y x W tx a0 J (by simp) n h2 with Z|Z
    ·exfalso;have h4:=T _ Z;obtain⟨V,X⟩:=d.comp y (γf J);cases U:c[y.idx]? with
     |none=>simp[pJ,U] at X;|some oy=>
      have a6:y.idx<c.size:=(γA.1 U).1;have h5:=(d.Ap _ a6).2 ⟨y,γf J,rfl⟩;grind
    ·exact Z
   obtain⟨V,X⟩:=d.comp x G;refine OI K X f1 O λY w' F a4=>?_;have a8:=d.nodup;have a7:=Y0 f g x;have v:∀(p:Nat) (y:cO),(f++g)[p]?=some y->(f++x::g)[if p<f.length then p else p+1]?=some y:=by
    grind
   have B:∀(p:Nat) (t:List Nat×List Nat),(dG call base (f++g) s1)[p]?=some t->(dG call base (f++x::g) st)[if p<f.length then p else p+1]?=some t:=by
    grind
   obtain⟨_,_,E,_⟩:=vq f1;refine ih (f++g) _ s1 Y w' F (by grind) ⟨⟨s',f2,S.trans f3⟩,δ3 d.len E,λp q y z W tz a9 hy hz a1 a3=>?_,λy hy=>d.comp y ?_,?_,by simp[d.sz],λk j=>?_,λk m j hm=>?_⟩ a4
   ·refine d.rel _ _ y z W tz ?_ (v p y hy) (v q z hz) (B p W a1) (B q tz a3);split<;>split<;>omega
   ·grind
   ·grind
   ·by_cases r:k=x.idx
    ·subst r;have n:(b.setIfInBounds x.idx true).getD x.idx true=true:=by simp
     grind
    ·rw[getD_set_ne true (Ne.symm r),d.Ap k j];grind
   ·by_cases r:k=x.idx;·grind[getD_set_true]
    ·rw[getD_set_ne false (Ne.symm r)] at j;exact getD_set_true (d.closed k m j hm)
theorem On:∀{l:List Nat},i_ l=true->l.Nodup
 |[],_=>List.nodup_nil
 |a::r,h=>by
  simp only[i_,θ,Bool.not_eq_true',List.contains_eq_mem,decide_eq_false_iff_not] at h;exact γR.2 ⟨h.1,On h.2⟩
theorem YY {b:Nat} {fl:List Nat} {a:Array Oper} {qE k:Nat} {x:cO} (h:pJ P b fl a qE k=some x):x.idx=k/\k<a.size:=by
 unfold pJ at h;split at h;·cases h
 ·rename_i o d;split at h
  ·obtain⟨c,_,rfl⟩:=ε.1 h;grind
  ·cases h
theorem YX (g:nY P call) {s:Nat} {fl:List Nat} {d:Array Oper} {id k:Nat} {c:List Nat} {l:List cO} (S:tF P s fl d 0 c=some (l,k)) (h:P.follows .mixedOrders=true)
  (C:c.length=d.size) (L:i_ c=true) (M:wm (ns d) l=true) (u:wt 0 d.toList=true) (r:(ω d.size).all c.contains=true)
  {b st2:St} (T:fw call b.o.length l ⟨b.env,b.o++fu k⟩=some st2)
  (G:((pI (ns d) l).isEmpty||rz (b.o++fu k).length (lu call b.o.length l ⟨b.env,b.o++fu k⟩) (pI (ns d) l))=true)
  {I:World} {n:TN} {F:a_} {a:Act} {w:World} {σ:TN} {Q:Exit->Act->World->Prop} (O:cq A s D I n F ⟨b.env,b.o++fu k⟩ a w σ) (K:∀B w' t,cq A s D I n F st2 B w' t->Q .normal B w') {rnd:Option Nat}:(Code.region id d true).wpIn (FR rnd) 0 P Q a w:=by
 obtain⟨Z,W⟩:=Gt S;have E:l.map (·.idx)=c:=by
  apply δa;intro j;rw[List.getElem?_map];cases f:l[j]? with
  |none=>
   simp_all;|some x=>
   have v:=(ζ.1 f).1;have z:=μ (l:=c) (i:=j) (by omega);obtain⟨X,V⟩:=W j x _ f z;rw[z];simp[(YY V).1]
 have e:(l.map (·.idx)).Nodup:=by grind[On]
 refine wpIn_region_any h (YZ (fl:=fl) (base:=b.o.length) (n0:=(b.o++fu k).length) g u K d.size l _ ⟨b.env,b.o++fu k⟩ a _ σ (by omega) ⟨⟨st2,T,jB.refl _⟩,π _,λp q y x ty tx R Y H N U=>?_,λx H=>?_,e,by simp,λj f=>?_,λj m f=>?_⟩ O.drew);·grind[Y1]
 ·obtain⟨j,f⟩:=List.getElem?_of_mem H;have v:=(ζ.1 f).1;have z:=μ (l:=c) (i:=j) (by omega);grind
 ·have J:(εd d.size false).getD j true=false:=by simp[f]
  rw[J];refine⟨λ_=>?_,λ_=>rfl⟩;have:=ψ.1 r j (List.mem_range.2 f);grind
 ·exfalso;rw[Array.getD_eq_getD_getElem?,Array.getElem?_replicate] at f;grind
end
section
variable {P:Program} {A:dg} {D:List Deferred} {w w':World} {σ σ':TN} {o o':a_}
theorem OM.fresh (i:OM A w σ o) (e:TypeId) (sz:Nat) (pu:Bool):∃a,OM A w a (o++[.cells [] e sz pu])/\cE w σ o w a (o++[.cells [] e sz pu])/\a[o.length]?=some none:=by
 obtain⟨k,j⟩:=i.fu 1;have b:(o++Go.Vi.fu 1)[o.length]?=some .dead:=by simp[Go.Vi.fu]
 have c:(o++Go.Vi.fu 1).set o.length (.cells [] e sz pu)=o++[.cells [] e sz pu]:=by
  grind[Go.Vi.fu]
 have f:o.length<(σ++List.replicate 1 none).length:=by simp[i.len]
 obtain⟨d,g⟩:=k.ix (w':=w) (x':=.cells [] e sz pu) (s':=none) b (π _) rfl rfl rfl (λ_ _ _=>rfl) (λ_ _ h=>by cases h) trivial (λl=>by
  simp only[cT];exact⟨λ_=>rfl,rfl,.inl ⟨by simp_all,trivial⟩⟩);rw[c] at d g;exact⟨_,d,j.trans g,by simp_all⟩
theorem Om {n:Nat} {e:TypeId} {sz:Nat} {pu:Bool} (c:o[n]?=some (.cells [] e sz pu)) (a:σ[n]?=some none):nA A w σ o (.os n 0 0 0) (.slice none 0 0):=by
 simp only[nA];refine⟨⟨[],e,sz,pu,c,π _⟩,none,0,rfl,π _,λb _=>?_⟩;grind[jZ]
theorem cq.P9 {t:Nat} {r:World} {g:TN} {p:a_} {st:St} {a:Act} (h:cq A t D r g p st a w σ) (id:Nat):∃i,cq A t D r g p (Bs id st) a w i:=by
 unfold Bs;split
 ·rename_i E e L k;have n:id<st.o.length:=(ζ.1 k).1;have d:id<σ.length:=by rw[h.sim.len];exact n
  obtain⟨x,q⟩:=h.sim.ix (w':=w) (x':=.cells E e L false) (s':=σ[id]) k (π _) rfl rfl rfl (λ_ _ _=>rfl)
   (λb c N=> .inl ⟨c,by simp_all⟩) ⟨_,e,false,rfl,by simp,λ_=>μ d⟩ (λK=>by
    have f:=h.sim.obj id _ k;simp only[cT] at f ⊢;obtain⟨P,H,I⟩:=f;refine⟨λG=>(by cases G),H,?_⟩;rcases I with⟨O,R⟩|⟨b,l,m,Q,J,u,y,F,M⟩;·simp_all
    ·refine .inr ⟨b,l,m,?_,J,u,y,F,λj c C=>?_⟩;·simp_all
     ·obtain⟨v,z,B⟩:=M j c C;exact⟨v,z,B.ext K⟩);exact⟨_,x,λs=>(h.env s).ext q,h.size,h.defers,h.ext.trans q⟩
 grind
theorem cq.YW {M:Nat} {P:World} {u:TN} {U:a_} {st:St} {a:Act} (h:cq A M D P u U st a w σ) (x:iO):∃C,cq A M D P u U (Br x st) a w C:=by
 obtain⟨f,I,z,V⟩:=h.sim.fresh x.e x.sz x.pu;have r:(st.o++[OL.cells [] x.e x.sz x.pu])[st.o.length]?=some (.cells [] x.e x.sz x.pu):=by simp
 unfold Br;split
 ·split
  ·rename_i N;refine⟨f,I,λs=>?_,h.size,h.defers,h.ext.trans z⟩;simp only[c_];cases X:δu x.slot s with
   |true=>
    have:=εU X;subst this;have:=h.env x.slot;grind[fD,Om];|false=>exact(h.env s).ext z
  ·split;·exact h.P9 _
   grind
  grind
 ·rename_i k _;split
  ·rename_i i d a1 N;split
   ·rename_i p e y pu ho;split
    ·rename_i R;split
     ·rename_i g;obtain⟨L,rfl⟩:=g;have a0:i<st.o.length:=(ζ.1 ho).1;have l:i<f.length:=by grind
      have n:(st.o++[OL.cells [] x.e x.sz x.pu])[i]?=some (.cells p e y false):=by grind
      have Z:d+k<p.length:=(ζ.1 R).1;obtain⟨O,G⟩:=I.ix (w':=w) (x':=.cells (p.set (d+k) (.os st.o.length 0 0 0)) e y false) (s':=f[i]) n (π _) rfl rfl rfl (λ_ _ _=>rfl)
       (λb c N=> .inl ⟨c,by simp_all⟩) ⟨_,e,false,rfl,by simp,λ_=>μ l⟩ (λS=>by
        have t:=I.obj i _ n;simp only[cT] at t ⊢;obtain⟨q1,q2,q3⟩:=t;refine⟨λh=>(by cases h),?_,?_⟩
        ·refine lV.2 λc H=>?_;rcases List.mem_or_eq_of_mem_set H with T|T;·grind[lV]
         ·subst T;rfl
        ·rcases q3 with⟨_,h0⟩|⟨b,K,B,r1,W,r3,Y,r5,Q⟩;·simp_all
         ·refine .inr ⟨b,K,B,?_,W,r3,Y,by simp_all,λj c m=>?_⟩;·simp_all
          ·rw[εk] at m;split at m
           ·rename_i J;subst J;injection m with m;subst m;obtain⟨v,E,F⟩:=Q _ _ R;refine⟨v,E,?_⟩;rw[fD F];exact(Om r V).ext S
           ·obtain⟨v,E,F⟩:=Q j c m;exact⟨v,E,F.ext S⟩);have q:(st.o++[OL.cells [] x.e x.sz x.pu]).set i (.cells (p.set (d+k) (.os st.o.length 0 0 0)) e y false)=(st.o.set i (.cells (p.set (d+k) (.os st.o.length 0 0 0)) e y false))++[OL.cells [] x.e x.sz x.pu]:=by
       simp_all
      rw[q] at O G;exact⟨_,O,λs=>((h.env s).ext z).ext G,h.size,h.defers,(h.ext.trans z).trans G⟩
     grind
    grind
   grind
  grind
theorem cq.Qk {t:Nat} {r:World} {f:TN} {p:a_} {st:St} {a:Act} (h:cq A t D r f p st a w σ) (id:Nat):∃i,cq A t D r f p (yr id st) a w i:=by
 unfold yr;split
 ·rename_i G e x k;split
  ·rename_i E;have n:id<st.o.length:=(ζ.1 k).1;have d:id<σ.length:=by rw[h.sim.len];exact n
   obtain⟨y,q⟩:=h.sim.ix (w':=w) (x':=.cells G e x true) (s':=σ[id]) k (π _) rfl rfl rfl (λ_ _ _=>rfl)
    (λb c N=> .inl ⟨c,by simp_all⟩) ⟨_,e,true,rfl,by simp,λ_=>μ d⟩ (λH=>by
     have g:=h.sim.obj id _ k;simp only[cT] at g ⊢;obtain⟨P,F,K⟩:=g;refine⟨λ_=>E,F,?_⟩;rcases K with⟨O,R⟩|⟨b,l,m,Q,L,u,z,I,M⟩;·simp_all
     ·refine .inr ⟨b,l,m,?_,L,u,z,I,λj c B=>?_⟩;·simp_all
      ·obtain⟨v,C,J⟩:=M j c B;exact⟨v,C,J.ext H⟩);exact⟨_,y,λs=>(h.env s).ext q,h.size,h.defers,h.ext.trans q⟩
  grind
 grind
theorem cq.hint {f:Nat} {g:World} {b:TN} {e:a_} {st:St} {a:Act} {lo:Nat} (l:e.length<=lo) (h:cq A f D g b e st a w σ) (x:iO):∃d,cq A f D g b e (jF lo x st) a w d:=by
 unfold jF;split;·exact h.YW x
 ·split
  ·rename_i o _ _ _ _;split
   ·rename_i p;have m:=Nat.le_of_ble_eq_true p;obtain⟨k,h⟩:=h.Qk o;unfold Bq;simp only;split
    ·rename_i q t n j;have c:=OQ j;exact⟨_,h.sim.Q5 c,λs=>nA.Q5 h.sim c _ _ _ (PX n s) (h.env s),h.size,h.defers,h.ext.Q5 c λi r=>by
      grind⟩
    grind
   grind
  grind
theorem Ol {s:World} {f:TN} {h:a_} (j:OM A w σ o) (g:cE s f h w σ o) {l r:AV} {u:Value} (y:nA A w σ o l u) {own:Bool} (a:finish own h.length l o=some (r,o')):
  ∃d,OM A w d o'/\nA A w d o' r u/\cE s f h w d o':=by
 unfold finish at a;cases own with
 |true=>grind[YF];|false=>
  simp only[τ,if_false] at a;split at a
  ·rename_i D;split at a
   ·rename_i C m;simp only[γ,ι] at a;obtain⟨rfl,rfl⟩:=a;have t:h=[]:=χ D;subst t;refine⟨[],yk w j.avb,Hv j (λb _ a=>a.2) 6 l C u m (λq _ b c p=>j.av q b c p) y,g.size,λb v B=>⟨(g.blk b v B).1,λ⟨i,c,z⟩=>by simp at z⟩,π _,λq x k=>?_,λq k=>?_,g.os,g.tape,g.output⟩;·obtain⟨G,e,F,E,n,_⟩:=k;simp at n
    ·obtain⟨H,I,E,n⟩:=k;simp at n
   ·cases a
  ·cases a
end
open Go.RowKit
section
variable {A:dg} {w w':World} {σ:TN} {o:a_}
mutual
theorem nA.to (g:∀(p:Addr) (v:Value),w.cell? p=some v->w'.cell? p=some v):∀(c:AV) (v:Value),nA A w σ o c v->nA A w' σ o c v
 | .ud,_,_=>by simp[nA];| .sc u,v,d=>by grind[nA];| .agg e,v,d=>by
  simp only[nA] at d ⊢;obtain⟨k,rfl,i⟩:=d;exact⟨k,rfl,Aq.to g e _ i⟩;| .Gz e,v,d=>by
  simp only[nA] at d ⊢;obtain⟨k,rfl,i⟩:=d;exact⟨k,rfl,Aq.to g e _ i⟩;| .sl n e,v,d=>by
  simp only[nA] at d ⊢;obtain⟨a,q,rfl,G,x,y⟩:=d;exact⟨a,q,rfl,G,x,cH.to g e a 0 y⟩;| .ep e l,v,d=>by
  simp only[nA] at d ⊢;obtain⟨a,rfl,x,y⟩:=d;exact⟨a,rfl,x,cH.to g e _ 0 y⟩;| .ptr z l m,v,d=>by grind[nA];| .os z l H m,v,d=>by grind[nA];| .mp z,v,d=>by grind[nA];| .fn f a b,v,d=>by
  simp only[nA] at d ⊢;obtain⟨E,F,rfl,C,I⟩:=d;exact⟨E,F,rfl,Aq.to g a _ C,Aq.to g b _ I⟩;| .ifc t e,v,d=>by
  simp only[nA] at d ⊢;obtain⟨k,rfl,B,i⟩:=d;exact⟨k,rfl,B,Aq.to g e _ i⟩
theorem Aq.to (g:∀(p:Addr) (v:Value),w.cell? p=some v->w'.cell? p=some v):∀(e:List AV) (k:List Value),Aq A w σ o e k->Aq A w' σ o e k
 |[],_,h=>by grind[Aq];|c::e,k,h=>by
  simp only[Aq] at h ⊢;obtain⟨v,r,rfl,s,i⟩:=h;exact⟨v,r,rfl,nA.to g c v s,Aq.to g e r i⟩
theorem cH.to (g:∀(p:Addr) (v:Value),w.cell? p=some v->w'.cell? p=some v):∀(e:List AV) (a:Option Addr) (j:Nat),cH A w σ o e a j->cH A w' σ o e a j
 |[],_,_,_=>by simp[cH];|c::e,a,j,h=>by
  simp only[cH] at h ⊢;obtain⟨⟨b,v,rfl,D,s,d⟩,i⟩:=h;exact⟨⟨b,v,rfl,D,g _ _ s,nA.to g c v d⟩,cH.to g e _ (j+1) i⟩
end
theorem OM.to (a:OM A w σ o) (t:∀(p:Addr) (v:Value),w.cell? p=some v->w'.cell? p=some v) (J:∀(i b c:Nat),σ[i]?=some (some (b,c))->w'.heap[b]?=w.heap[b]?)
  (d:w.heap.size<=w'.heap.size):OM A w' σ o:=by
 refine⟨a.len,a.dist,λi b c h=>γl (a.ec i b c h) d,λi x F=>?_,a.av,λb h=>γl (a.avb b h) d⟩;have h:=a.obj i x F;cases x with
 |dead=>grind[cT];|cells N e K H=>
  simp only[cT] at h ⊢;refine⟨h.1,h.2.1,?_⟩;rcases h.2.2 with s|⟨b,n,g,k,u,y,l,D,C⟩;·exact .inl s
  ·refine .inr ⟨b,n,g,k,u,by grind,l,D,λj c q=>?_⟩;obtain⟨v,I,f⟩:=C j c q;exact⟨v,I,f.to t c v⟩;|map M L H=>
  simp only[cT] at h ⊢;obtain⟨s,r,b,c,E,G,k,u,y,l⟩:=h;refine⟨s,r,b,c,E,G,k,by grind,y,λj e q=>?_⟩;obtain⟨m,B,z,f⟩:=l j e q;exact⟨m,B,z,f.to t e.2 _⟩
theorem yC {r b:Nat} {y:Obj} (h:b≠r):(w.putObj r y).heap[b]?=w.heap[b]?:=by
 simp_all[World.putObj,Ne.symm]
theorem putObj_size {r:Nat} {y:Obj}:(w.putObj r y).heap.size=w.heap.size:=by simp_all
theorem Oj {r:Nat} {x y:Obj} (h:w.heap[r]?=some x) (b:x.isCells=false) (p:Addr) (v:Value) (a:w.cell? p=some v):(w.putObj r y).cell? p=some v:=by
 grind[cells_of_cell,World.cell?_of_block,yC]
theorem OM.ri (a:OM A w σ o) {r:Nat} {x y:Obj} (h:w.heap[r]?=some x) (d:x.isCells=false) (g:¬Own σ r):OM A (w.putObj r y) σ o:=
 a.to (Oj h d) (λi b c f=>yC λe=>g ⟨i,c,e▸f⟩) (by simp_all)
theorem nA.ri {c:AV} {v:Value} (a:nA A w σ o c v) {r:Nat} {x y:Obj} (h:w.heap[r]?=some x) (b:x.isCells=false):nA A (w.putObj r y) σ o c v:=
 a.to (Oj h b) c v
theorem cE.ri {c:World} {a:TN} {d:a_} (h:cE c a d w σ o) {r:Nat} {y:Obj} (g:c.heap.size<=r):cE c a d (w.putObj r y) σ o where
 size:=by rw[putObj_size];exact h.size
 blk:=λb e f=>by
  obtain⟨i,j⟩:=h.blk b e f;grind[yC]
 len:=h.len;cur:=h.cur;isMap:=h.isMap;os:=h.os;tape:=h.tape;output:=h.output
theorem AD {P:Program} {t:Func} {a:Array Value} {m:World} {D:List Deferred} {R:Ending->World->Prop}:∀(j:List Deferred) (w:World),sn m w j->OM A w σ o->
  (∀w',OM A w' σ o->(∀{c:TN} {q:a_},cE m c q w σ o->cE m c q w' σ o)->(∀s v,nA A w σ o s v->nA A w' σ o s v)->LeavesInM (FR none) 0 P t a R D .returning w')->
  LeavesInM (FR none) 0 P t a R (j++D) .returning w
 |[],w,_,f,k=>k w f (λh=>h) (λ_ _ h=>h)
 |d::j,w,g,f,k=>by
  obtain⟨r,x,n,i⟩:=g.2 d (by simp);have C:=f.Gu i (by simp) (by simp);simp only[γM,LeavesInM];refine⟨by simp,.inl ⟨r,w.putObj r (.deferred none),by rw[x],run_takeDeferred i,?_⟩⟩;refine AD j _ ⟨(γr.1 g.1).2,λe p=>?_⟩ (f.ri i rfl C) λw' y z E=>k w' y (λh=>z (h.ri n)) (λs v h=>E s v (h.ri i rfl));obtain⟨B,l,b,u⟩:=g.2 e (γp _ p);refine⟨B,l,b,?_⟩;have:=(γr.1 g.1).1 e p;grind[yC]
theorem Gk {P:Program} {m:World}:∀(f:List Deferred) (w:World) (fr:Frame) (cs:List Frame),fr.mode= .returning->fr.defers=f->sn m w f->OM A w σ o->
  ∃w',StepsIn (Machine.fenced P (FR none)) P (lone fr cs w) (lone {fr with defers:=[]} cs w')/\OM A w' σ o/\(∀{a:TN} {u:a_},cE m a u w σ o->cE m a u w' σ o)/\∀s v,nA A w σ o s v->nA A w' σ o s v
 |[],w,fr,cs,_,k,_,l=>by
  refine⟨w,?_,l,λh=>h,λ_ _ h=>h⟩;have:fr={fr with defers:=[]}:=by rw[<-k]
  rw[<-this];exact StepsIn.refl _;|d::f,w,fr,cs,x,k,j,l=>by
  obtain⟨r,p,q,i⟩:=j.2 d (by simp);have C:=l.Gu i (by simp) (by simp);have b:fr.mode≠ .run:=by rw[x];simp
  have I:=step_collected (cs:=cs) b k (by rw[p]) (run_takeDeferred (P:=P) i);have H:(lone fr cs w).fenced P (FR none):=fenced_out (n:=0) trivial (by simp[FR,Fence.wide,Fence.room]) b k (λg J=>by grind[Target.leads]);obtain⟨w',E,z,F,D⟩:=Gk f (w.putObj r (.deferred none)) {fr with defers:=[]++f} cs x rfl ⟨(γr.1 j.1).2,λe y=>by
   obtain⟨G,t,c,B⟩:=j.2 e (γp _ y);refine⟨G,t,c,?_⟩;have:=(γr.1 j.1).1 e y;grind[yC]⟩ (l.ri i rfl C);exact⟨w',.head H I E,z,λh=>F (h.ri q),λs v h=>D s v (h.ri i rfl)⟩
theorem YV {P:Program} {f:FuncId} {m:Func} {c:Code} {args:Array Value} {u:FrameMode} {w:World} {R:Ending->World->Prop}
  (E:P.funcs[f]?=some m) (S:m.body=some c)
  (h:c.wpIn (FR none) 0 P (λe a r=>(e= .normal\/e= .ret)/\∃(q:World) (g:TN) (l:a_),sn q r a.defers/\OM A r g l/\∀i,OM A i g l->(∀{n:TN} {I:a_},cE q n I r g l->cE q n I i g l)->(∀s v,nA A r g l s v->nA A i g l s v)->
   ∃v,(results m a.tmps).run P i= .ok v i/\R (.returned v) i) {tmps:=args++εd (m.ntmps - args.size) undef,defers:=[]} w):
  CallsDIn (FR none) 0 P f args u w λe L w'=>L=u/\R e w':=by
 refine⟨trivial,λd z Q J=>?_⟩;let b:Frame:={(default:Frame) with fn:=f,kind:=.deferred,roundOf:=none};have k:Frame.enter P f args .deferred=
   b.atR {tmps:=args++εd (m.ntmps - args.size) undef,defers:=[]} [.code c]:=by
  grind[Frame.enter,Frame.atR]
 have F:({d with mode:=u}:Frame)=d:=by subst Q;rfl
 obtain⟨e,p,w',O,j⟩:=h b [] (d::z) rfl trivial J;rw[<-k] at j;obtain⟨N,q,g,l,H,K,G⟩:=O;rcases N with rfl|rfl
 ·obtain⟨i,C,t,y,B⟩:=Gk (P:=P) p.defers w' {b.atR p [] with mode:=.returning} (d::z) rfl rfl H K;obtain⟨v,D,x⟩:=G i t y B;exact⟨.returned v,u,i,_,⟨rfl,x⟩,(by rw[F];exact StepsIn.trans (StepsIn.trans j (.one (fenced_calm (fr:=b.atR p []) trivial J rfl) (stepR_end rfl))) C),rfl,rfl,rfl,rfl,m,E,D⟩
 ·obtain⟨o,M⟩:=j.1 rfl;obtain⟨i,C,t,y,B⟩:=Gk (P:=P) p.defers w' {b.atR p o with mode:=.returning} (d::z) rfl rfl H K;obtain⟨v,D,x⟩:=G i t y B;exact⟨.returned v,u,i,_,⟨rfl,x⟩,(by rw[F];exact StepsIn.trans M C),rfl,rfl,rfl,rfl,m,E,D⟩
end
open Go.RowKit
def Out.rW:Out->Exit
 | .norm=> .normal
 | .exit a=> .exit a
 | .ret=> .ret
 | .goto l=> .goto l
section
variable {P:Program} {A:dg} {D:List Deferred} {w w':World} {σ σ':TN} {o o':a_}
theorem YU (a:List Nat) (env:iV) (s:Nat):c_ (eL a env) s=c_ env s\/c_ (eL a env) s= .ud:=by
 unfold eL;induction a with
 |nil=>right;rfl;|cons x a b=>
  simp only[ξ,c_];cases c:δu x s<;>simp_all
theorem YT (t:Nat) (env:iV) (s:Nat):c_ (pM t env) s=c_ env s\/c_ (pM t env) s= .ud:=by
 induction env with
 |nil=>left;rfl;|cons p env c=>
  simp only[pM];cases a:δu p.1 t with
  |true=>
   simp only[cond_true];by_cases d:p.1=s
   ·have e:=εU a;right;have:∀env:iV,c_ (pM t env) t= .ud:=by
     intro env;induction env with
     |nil=>rfl;|cons q env c=>
      simp only[pM];cases b:δu q.1 t with
      |true=>simp_all;|false=>simp_all[c_]
    simp_all
   ·have:c_ (p::env) s=c_ env s:=by
     simp only[c_];have:δu p.1 s=false:=by
      cases h:δu p.1 s<;>simp_all
     rw[this];rfl
    simp_all;|false=>
   simp only[cond_false,c_];grind
theorem cq.drop {d:Nat} {e:World} {b:TN} {c:a_} {st:St} {a:Act} (h:cq A d D e b c st a w σ) (x:Operand):cq A d D e b c ⟨n9 x st.env,st.o⟩ a w σ where
 sim:=h.sim;env:=λs=>by
  unfold n9;split
  ·rename_i t;rcases YT t st.env s with f|f;·simp only[f];exact h.env s
   grind[nA]
  ·exact h.env s
 size:=h.size;defers:=h.defers;ext:=h.ext
theorem cq.eL {e:Nat} {f:World} {c:TN} {d:a_} {st:St} {a:Act} (h:cq A e D f c d st a w σ) (b:List Nat):cq A e D f c d ⟨ζW b st.env,st.o⟩ a w σ where
 sim:=h.sim;env:=λs=>by
  rcases YU b st.env s with g|g;·simp only[g];exact h.env s
  grind[nA]
 size:=h.size;defers:=h.defers;ext:=h.ext
theorem YR {env:iV} {s:Nat}:c_ env s= .ud\/∃p∈env,p.2=c_ env s:=by
 induction env<;>grind[c_]
theorem cq.trim {g:Nat} {f:World} {b:TN} {d:a_} {st:St} {a:Act} (h:cq A g D f b d st a w σ) {k:Nat} (i:d.length<=k):∃c,cq A g D f b d (Go.Vi.trim k st) a w c:=by
 unfold Go.Vi.trim;split;·grind
 ·split
  ·rename_i e;simp only[θ,ψ] at e;refine⟨σ.take k,⟨h.sim.take e.2,λs=>?_,h.size,h.defers,h.ext.take i⟩⟩;grind[YR,env,nA,nA.take]
  grind
theorem cq.fu {e:Nat} {g:World} {b:TN} {d:a_} {st:St} {a:Act} (h:cq A e D g b d st a w σ) (n:Nat):∃c,cq A e D g b d ⟨st.env,st.o++Go.Vi.fu n⟩ a w c:=by
 obtain⟨i,f⟩:=h.sim.fu n;exact⟨_,i,λs=>(h.env s).ext f,h.size,h.defers,h.ext.trans f⟩
theorem cq.pQ {e:Nat} {f:World} {c:TN} {d:a_} {st:St} {a:Act} (h:cq A e D f c d st a w σ) {k:Nat} (g:d.length<=k):∃b,cq A e D f c d ⟨st.env,Go.Vi.pQ k st.o⟩ a w b:=by
 obtain⟨b,l,j,i⟩:=YI h.sim k;exact⟨b,l,λs=>j _ _ (h.env s),h.size,h.defers,i _ _ _ g h.ext⟩
theorem cq.len {d:Nat} {e:World} {b:TN} {c:a_} {st:St} {a:Act} (h:cq A d D e b c st a w σ):c.length<=st.o.length:=h.ext.len
theorem cq.hints {nt:Nat} {w0:World} {σ0:TN} {o0:a_} {lo:Nat} (hlo:o0.length<=lo) (l:List iO):∀{st:St} {a:Act} {σ:TN},cq A nt D w0 σ0 o0 st a w σ->∃σ',cq A nt D w0 σ0 o0 (l.foldl (λs h=>jF lo h s) st) a w σ':=by
 induction l with
 |nil=>intro st a σ h;exact⟨σ,h⟩;|cons x l ih=>
  intro st a σ h;obtain⟨σ1,h1⟩:=cq.hint hlo h x;exact ih h1
theorem YQ {rnd:Option Nat} {call:cy} (hcall:nY P call) {lo nt:Nat} {H:List RH} {id:Nat} {ops:Array Oper} {draw:Bool} {c:IR} (hc:wk P nt H id ops draw=some c):
  ∃k l chk live pre post,c= .region id draw k l chk live pre post/\∀{st st':St},n_ call k l chk (pre.foldl (λs h=>jF lo h s) st)=some st'->∀{w0:World} {σ0:TN} {o0:a_} {a:Act} {w:World} {σ:TN},o0.length<=lo->cq A nt D w0 σ0 o0 st a w σ->
   (Code.region id ops draw).wpIn (FR rnd) 0 P (λe a' w'=>e= .normal/\∃σ',cq A nt D w0 σ0 o0 (post.foldl (λs h=>jF lo h s) ⟨ζW live st'.env,st'.o⟩) a' w' σ') a w:=by
 unfold wk at hc;split at hc;·cases hc
 ·rename_i h hh;have fin:∀(k:Nat) (l:List cO) (chk:List (Nat×Nat)),(∀{st1 st2:St},fw call st1.o.length l ⟨st1.env,st1.o++fu k⟩=some st2->(chk.isEmpty||rz (st1.o++fu k).length (lu call st1.o.length l ⟨st1.env,st1.o++fu k⟩) chk)=true->
     ∀{w0:World} {σ0:TN} {o0:a_} {a:Act} {w:World} {σ:TN} {Q:Exit->Act->World->Prop},cq A nt D w0 σ0 o0 ⟨st1.env,st1.o++fu k⟩ a w σ->(∀a' w' σ',cq A nt D w0 σ0 o0 st2 a' w' σ'->Q .normal a' w')->(Code.region id ops draw).wpIn (FR rnd) 0 P Q a w)->
    ∀{st st':St},n_ call k l chk (h.pre.foldl (λs h=>jF lo h s) st)=some st'->∀{w0:World} {σ0:TN} {o0:a_} {a:Act} {w:World} {σ:TN},o0.length<=lo->cq A nt D w0 σ0 o0 st a w σ->
     (Code.region id ops draw).wpIn (FR rnd) 0 P (λe a' w'=>e= .normal/\∃σ',cq A nt D w0 σ0 o0 (h.post.foldl (λs h=>jF lo h s) ⟨ζW h.live st'.env,st'.o⟩) a' w' σ') a w:=by
   intro k l chk hrun st st' hr w0 σ0 o0 a w σ hlo hs;obtain⟨σ1,hs1⟩:=cq.hints hlo h.pre hs;generalize aYR:h.pre.foldl (λs h=>jF lo h s) st=st1 at hr hs1;unfold n_ at hr;simp only at hr;split at hr
   ·rename_i st2 h2;split at hr
    ·rename_i aBo;injection hr with hr;obtain⟨σ2,hs2⟩:=hs1.fu k;refine hrun h2 aBo hs2 λa' w' σ' h3=>⟨rfl,?_⟩;have h4:∃σ4,cq A nt D w0 σ0 o0 st' a' w' σ4:=by
      subst hr;by_cases hk:k=0;·simp only[hk,if_true];exact⟨σ',h3⟩
      ·simp only[hk,if_false];exact h3.pQ hs1.len
     obtain⟨σ4,h4⟩:=h4;exact cq.hints hlo h.post (h4.eL h.live)
    ·cases hr
   ·cases hr
  cases draw with
  |false=>
   simp only[τ,if_false] at hc;obtain⟨⟨l,k⟩,hl,rfl⟩:=ε.1 hc;refine⟨k,l,[],h.live,h.pre,h.post,rfl,fin k l [] λ{st1 st2} h2 _ w0 σ0 o0 a w σ Q hs hQ=>?_⟩;obtain⟨g1,g2⟩:=Gt hl;exact wpIn_region (OH hcall l (ω ops.size) g1 g2 _ _ a w σ h2 hs hQ);|true=>
   simp only[if_true] at hc;generalize (if h.perm.isEmpty=true then ω ops.size else h.perm)=perm at hc;split at hc
   ·rename_i l k hl;split at hc
    ·rename_i hcond;injection hc with hc;refine⟨k,l,pI (ns ops) l,h.live,h.pre,h.post,hc.symm,fin k l _ λ{st1 st2} h2 aBo w0 σ0 o0 a w σ Q hs hQ=>?_⟩;simp only[θ,beq_iff_eq] at hcond;exact YX hcall hl hcond.1.1.1.1.1 hcond.1.1.1.1.2 hcond.1.1.1.2 hcond.1.1.2 hcond.1.2 hcond.2 h2 aBo hs hQ
    ·cases hc
   ·cases hc
def tk (_:Program) (rnd:Option Nat) (_:dg->World->TN->a_->Prop):Md->Prop
 | .plain=>rnd=none
def eM (B:dg->World->TN->a_->Prop):Prop:=∀A w c o b a d,B A w c o->cE w c o b a d->B A b a d
theorem YP {call:cy} (m:nY P call) {rnd:Option Nat} {B:dg->World->TN->a_->Prop} {md:Md} (G:tk P rnd B md) (F:eM B) {lo r:Nat} {H:List RH} {id:Nat} {p:Array Oper} {d:Bool} {c:IR} (y:wk P r H id p d=some c):
  ∃k l j f g b,c= .region id d k l j f g b/\∀{st st':St},Hm md d call k l j (g.foldl (λs h=>jF lo h s) st)=some st'->∀{q:World} {i:TN} {n:a_} {a:Act} {w:World} {σ:TN},B A q i n->n.length<=lo->cq A r D q i n st a w σ->
   (Code.region id p d).wpIn (FR rnd) 0 P (λe x w'=>e= .normal/\∃u,cq A r D q i n (b.foldl (λs h=>jF lo h s) ⟨ζW f st'.env,st'.o⟩) x w' u) a w:=by
 obtain⟨k,l,j,f,g,b,v,E⟩:=YQ (rnd:=rnd) m (A:=A) (lo:=lo) y;refine⟨k,l,j,f,g,b,v,?_⟩;intro st st' z q i n a w σ _ t C;exact E z t C
structure jY (P:Program) (T:jn):Prop where
 fn:∀f F,T.fn f=some F->∃fn H,P.funcs[f]?=some fn/\Bi P H fn=some F/\fU P f=true
 K:∀f args o own r o',T.K f args o own=some (r,o')->fU P f=true/\jD P f args o r o'/\(own=false->o'=[])
def yB (P:Program) (T:jn) (n:Nat):Prop:=
 ∀(g:Option Nat) (m:Md) (B:dg->World->TN->a_->Prop),tk P g B m->eM B->
 ∀(o:Nat) (c:IR) (p:St) (h:Out) (f:St),exec T m n o c p=some (h,f)->∀(j:Nat) (H:List RH) (b:Code),comp P j H b=some c->∀(D:List Deferred) (A:dg) (l:World) (d:TN) (i:a_) (a:Act) (w:World) (q:TN),B A l d i->i.length<=o->cq A j D l d i p a w q->
  b.wpIn (FR g) 0 P (λe s r=>e=h.rW/\∃k,cq A j D l d i f s r k) a w
def yA:dg->World->TN->a_->Prop:=λ_ _ _ _=>True
theorem AC:eM yA:=λ_ _ _ _ _ _ _ _ _=>trivial
theorem Pa:∀(k:Nat) (args:List AV) (s:Nat),c_ (gp k args) s=if k<=s then(args[s - k]?).getD .ud else .ud
 |k,[],s=>by simp[gp,c_];|k,v::b,s=>by
  simp only[gp,c_];by_cases h:k=s;·subst h;simp
  ·have a:δu k s=false:=by
    cases a:δu k s<;>simp_all
   simp only[a,cond_false];rw[Pa (k+1) b s];grind
def yz (a:Array Value):ResultVar->Sem Value
 | .tmp t=>pure (a.getD t undef)
 | .cell x t=>do loadVar t (<-asAddr (a.getD x undef))
theorem YN (b:Func) (a:Array Value):results b a=(do let vs <-b.results.mapM (yz a);pure (if h:vs.size=1 then vs[0] else .tuple vs)):=by
 unfold results;congr 1
theorem YM {m:Nat} {i:World} {e:TN} {l:a_} {st:St} {a:Act} (h:cq A m D i e l st a w σ) {f:ResultVar} {g:lW} (d:qD P f=some g) {r:AV} (c:pP st g=some r):
  ∃u,(yz a.tmps f).run P w= .ok u w/\nA A w σ st.o r u:=by
 cases f with
 |tmp t=>
  simp only[qD,γ] at d;subst d;simp only[pP,γ] at c;subst c;exact⟨_,rfl,h.env t⟩;|cell x t=>
  simp only[qD,ε] at d;obtain⟨n,j,rfl⟩:=d;simp only[pP] at c;split at c
  ·rename_i y s k;obtain⟨p,z,b⟩:=(h.env x).Pn h.sim k;obtain⟨u,v,q⟩:=Pm (P:=P) j b c;grind[yz,asAddr]
  ·cases c
theorem Gj {K:Nat} {Q:World} {t:TN} {N:a_} {st:St} {a:Act} (h:cq A K D Q t N st a w σ) {m:Func} {H:List lW} (O:pK (qD P) m.results.toList=some H) {r:AV} (j:mL st H=some r):
  ∃u,(results m a.tmps).run P w= .ok u w/\nA A w σ st.o r u:=by
 obtain⟨n,S⟩:=Hc O;unfold mL at j;have z:∀(c:List ResultVar) (b:List lW) (g:List AV),c.length=b.length->(∀(i:Nat) (x:ResultVar) (y:lW),c[i]?=some x->b[i]?=some y->qD P x=some y)->b.mapM (pP st)=some g->
   ∃d:List Value,(c.mapM (yz a.tmps)).run P w= .ok d w/\Aq A w σ st.o g d:=by
  intro c;induction c with
  |nil=>
   intro b g l _ f;have:b=[]:=χ (by simp_all);simp_all[Aq];|cons x c R=>
   intro b g l G f;match b,l with
   |y::b,l=>
    rw[List.mapM_cons] at f;cases s:pP st y with
    |none=>simp[s] at f;|some v=>
     cases e:b.mapM (pP st) with
     |none=>simp_all;|some C=>
      simp[s,e] at f;subst f;obtain⟨u,U,M⟩:=YM h (G 0 x y (by simp) (by simp)) s;obtain⟨d,B,E⟩:=R b C (by grind) (λi p q J T=>G (i+1) p q (by simpa using J) (by simpa using T)) e;refine⟨u::d,?_,by grind[Aq]⟩;simp_all
 have F:∀d:List Value,(m.results.toList.mapM (yz a.tmps)).run P w= .ok d w->
   (results m a.tmps).run P w= .ok (if h:d.length=1 then d[0]'(by omega) else .tuple d.toArray) w:=by
  grind[YN,Array.mapM_eq_mapM_toList,Sem.run_bind,Sem.run_map,Result.andThen_ok,Sem.run_pure]
 split at j;·grind[Aq]
 ·rename_i g I f;injection j with j;subst j;obtain⟨d,B,l⟩:=z _ _ _ n S f;have k:=Aq.length _ _ l;have L:¬d.length=1:=by
   intro n;match g,k.trans n with
   |[v],_=>simp_all
  grind[nA]
 ·cases j
theorem Gi {a:Nat} {args:List AV} {vs:List Value} (d:OM A w σ o) (b:Aq A w σ o args vs) (j:args.length<=a):cq A a [] w σ o ⟨gp 0 args,o⟩ {tmps:=vs.toArray++εd (a - vs.toArray.size) undef,defers:=[]} w σ:=by
 have i:=Aq.length _ _ b;refine⟨d,λs=>?_,?_,⟨[],rfl,δv,by simp⟩,cE.refl _ _ _⟩
 ·simp only[Pa,Nat.zero_le,if_true,Nat.sub_zero];cases h:args[s]? with
  |none=>simp[nA];|some c=>
   obtain⟨v,e,g⟩:=Aq.get _ _ b s c h;have f:s<vs.length:=(ζ.1 e).1;have:(vs.toArray++εd (a - vs.toArray.size) undef).getD s undef=v:=by
    simp_all[Array.getElem?_append_left]
   simp_all
 ·simp;omega
theorem YL {T:jn} {n:Nat} (W:yB P T n) {md:Md} {B:dg->World->TN->a_->Prop} (N:tk P none B md) (L:eM B) {f:FuncId} {c:Func} {g:Code} {H:List RH} {b:IR} {E:List lW}
  (t:P.funcs[f]?=some c) (i:c.body=some g) (X:comp P c.ntmps H g=some b) (y:pK (qD P) c.results.toList=some E) (Q:¬c.ntmps<c.params.size+c.nfree)
  {args:List AV} {out:Out} {st:St} (C:args.length=c.params.size+c.nfree) (j:out= .norm\/out= .ret) (m:exec T md n o.length b ⟨gp 0 args,o⟩=some (out,st)) {G r:AV} (z:mL st E=some G) {own:Bool} (q:finish own o.length G st.o=some (r,o'))
  {vs:List Value} (x:B A w σ o) (J:OM A w σ o) (I:Aq A w σ o args vs):
  CallsIn (FR none) 0 P f vs.toArray w λe w'=>∃u a,e= .returned u/\OM A w' a o'/\nA A w' a o' r u/\cE w σ o w' a o':=by
 have M:=Aq.length _ _ I;refine callsIn_of_wp_marks (F:=FR none) t i trivial (wpIn_mono (W none md B N L _ b _ out st m c.ntmps H g X [] A w σ o {tmps:=vs.toArray++εd (c.ntmps - vs.toArray.size) undef,defers:=[]} w σ x (π _) (Gi J I (by omega))) ?_)
 ·rintro e p w' ⟨rfl,a,d⟩;have k:LeavesInM (FR none) 0 P c p.tmps (λe w'=>∃u a,e= .returned u/\OM A w' a o'/\nA A w' a o' r u/\cE w σ o w' a o') p.defers .returning w':=by
   obtain⟨K,v,U⟩:=d.defers;rw[v];refine AD K w' U d.sim λS R V O=>?_;simp only[LeavesInM,LeavesIn];have h:cq A c.ntmps [] w σ o st {p with defers:=[]} S a:=⟨R,λs=>O _ _ (d.env s),d.size,⟨[],rfl,δv,by simp⟩,V d.ext⟩;obtain⟨u,Y,l⟩:=Gj h y z;have D:=Ol h.sim h.ext l q;simp_all
  rcases j with rfl|rfl;·exact k
  ·exact k
theorem O_ {out:Out} (h:pN out=true):out= .norm\/out= .ret:=by
 grind[pN]
theorem YK {P:Program} {j:Nat} {H:List RH} {g:FuncId} {e:List Operand} {d:Nat} {a b:IR} (c:Code):comp P j H c≠some (.dfr g e d a b):=by
 intro h;cases c with
 |region k i f=>
  simp only[comp] at h;unfold wk at h;split at h;·cases h
  ·split at h;·grind
   simp_all;|seq x y=>grind[comp];|cond c x y=>
  grind[comp];|_=>simp[comp] at h
theorem YJ {f:Array Oper} {g:FuncId} {e:List Operand} {d:Nat} (h:Bj f=some (g,e,d)):∃i j a b c,f.toList=[i,j]/\i.dst=some d/\i.op= .makeFunc (.func g) a b/\i.guard=none/\j.op= .defer c/\j.dst=none/\j.guard=none/\c.callee= .value (.tmp d)/\a.toList=[]/\c.args.toList=[]/\b.toList=e:=by
 grind[Bj]
theorem Ze {n:Nat} {id:Nat} {e:Array Oper} {g:FuncId} {f:List Operand} {d:Nat} (H:Bj e=some (g,f,d)) (p:d<n) {st:St} {a:Act} {F:World} {l:TN} {G:a_} (h:cq A n D F l G st a w σ) {Q:Exit->Act->World->Prop}
  (I:∀(r:Act) (vs:List Value),Aq A w σ st.o (f.map (dQ st.env)) vs->cq A n ({target:=.fn (.func g) vs.toArray,args:=#[]}::a.defers) w σ st.o ⟨(d,.ud)::st.env,st.o⟩ r w σ->Q .normal r w):
  (Code.region id e false).wpIn (FR none) 0 P Q a w:=by
 obtain⟨k,u,x,b,c,t,q,U,X,S,J,V,R,N,T,rfl⟩:=YJ H;have L:e[0]?=some k:=by rw[<-γZ,t];rfl
 have z:e[1]?=some u:=by rw[<-γZ,t];rfl
 have B:e.size=2:=by grind[Array.length_toList]
 have W:x=#[]:=εj (by omega);have O:c.args=#[]:=εj (by omega);refine wpIn_region ?_;rw[B];show wpOpsIn (FR none) 0 P e Q [0,1] a w;rw[wpOpsIn_cons];unfold wpOpIn;simp only[L];rw[if_pos (by grind[Region.wanted])];unfold Oper.wpIn;rw[show(FR none).round=none from rfl,Oper.semAt_none];refine⟨λ_ _=>trivial,?_⟩;have E:(execOp a.eval k).run P w= .ok (.value (.func (.func g) #[] (b.map a.eval))) w:=by
  simp_all[execOp,Instr.makeFunc]
 rw[E,Oper.uponIn_value,wpOpsIn_cons];have C:d<a.tmps.size:=by rw[h.size];exact p
 have m:(a.put k.dst (.func (.func g) #[] (b.map a.eval))).eval (.tmp d)= .func (.func g) #[] (b.map a.eval):=by
  simp_all[Act.put,Act.eval]
 generalize i:a.put k.dst (.func (.func g) #[] (b.map a.eval))=K at m;unfold wpOpIn;simp only[z];rw[if_pos (by grind[Region.wanted])];unfold Oper.wpIn;rw[show(FR none).round=none from rfl,Oper.semAt_none];refine⟨λ_ _=>trivial,?_⟩;have y:(execOp K.eval u).run P w= .ok (.defer {target:=.fn (.func g) (b.map a.eval),args:=#[]}) w:=by
  simp_all[execOp,resolve,Deferred.ofValue]
 rw[y,Oper.uponIn_defer,J];show Q .normal _ w;have j:Aq A w σ st.o (b.toList.map (dQ st.env)) (b.toList.map a.eval):=tA (λx=>h.ev x) b.toList;refine I _ (b.toList.map a.eval) j ⟨h.sim,λs=>?_,?_,⟨[],?_,δv,by simp⟩,cE.refl _ _ _⟩
 ·subst i;by_cases M:d=s;·simp_all[c_,nA]
  ·have v:δu d s=false:=by
    cases v:δu d s<;>simp_all
   simp only[c_,v,cond_false];have:=h.env s;simp_all[Act.put]
 ·subst i;simp[q,Act.put,h.size]
 ·subst i;simp[q,Act.put];grind
theorem Zd {T:jn} {n:Nat} (Q:yB P T n) {v:Nat} {H:List RH} {lo:Nat} {C:World} {p:TN} {D:a_} (I:D.length<=lo) {g:FuncId} {m:List Operand} {d:Nat} {S:IR} {s0 s2:St} {out:Out}
  (J:exec T .plain n s0.o.length S ⟨(d,.ud)::s0.env,s0.o⟩=some (out,s2)):∀(f:Code) (z:IR) (st:St) (a:Act) (w:World) (σ:TN),tE P v H f=some (z,(g,m,d),S)->pO (exec T .plain n lo) z st=some s0->cq A v [] C p D st a w σ->
  f.wpIn (FR none) 0 P (λe B w'=>e=out.rW/\fU P g=true/\∃(q:World) (j t:TN) (R:List Deferred) (vs:List Value),sn C q R/\OM A q j s0.o/\cE C p D q j s0.o/\Aq A q j s0.o (m.map (dQ s0.env)) vs/\
   cq A v ({target:=.fn (.func g) vs.toArray,args:=#[]}::R) q j s0.o s2 B w' t) a w:=by
 intro f;induction f with
 |seq c l _ G=>
  intro z st a w σ k i h;cases c with
  |region W K N=>
   unfold tE at k;split at k
   ·rename_i x X _;split at k
    ·rename_i y;obtain⟨b,Y,O⟩:=ε.1 k;simp only[ι] at O;obtain⟨rfl,rfl,rfl⟩:=O;simp only[pO,γ] at i;subst i;refine wpIn_seq (Ze X y.1 h λE vs V s=>?_);show l.wpIn _ _ _ _ E w;obtain⟨ms,U,Z⟩:=h.defers;refine wpIn_mono (Q none .plain yA rfl AC _ b _ out s2 J v H l Y _ A w σ st.o E w σ trivial (π _) s) ?_;rintro e B w' ⟨rfl,t,L⟩;exact⟨rfl,y.2,w,σ,t,a.defers,vs,by simp_all,h.sim,h.ext,V,L⟩
    ·cases k
   ·split at k
    ·rename_i r B x b hr F;simp only[γ,ι] at k;obtain⟨rfl,rfl,rfl⟩:=k;simp only[pO] at i;split at i
     ·rename_i u M;refine wpIn_seq (wpIn_mono (Q none .plain yA rfl AC lo r st .norm u M v H (.region W K _) (by grind[comp]) [] A C p D a w σ trivial I h) ?_);rintro e E q ⟨rfl,j,s⟩;exact G B u E q j F i s
     ·cases i
    ·cases k;|_=>simp[tE] at k
 |_=>
  intro z st a w σ k;simp[tE] at k
theorem Zc {T:jn} (hT:jY P T) {n:Nat} (ih:yB P T n) {f:FuncId} {fn:Func} {code:Code} {H:List RH} {ia ib:IR} {g:FuncId} {caps:List Operand} {d:Nat} {rs:List lW}
  (hfn:P.funcs[f]?=some fn) (hcode:fn.body=some code) (hb:tE P fn.ntmps H code=some (ia,(g,caps,d),ib)) (hrs:pK (qD P) fn.results.toList=some rs) (hnt:¬fn.ntmps<fn.params.size+fn.nfree)
  {args:List AV} {out ayk:Out} {s0 s2 s3:St} (hlen:args.length=fn.params.size+fn.nfree) (hout:out= .norm\/out= .ret) (h1:pO (exec T .plain n o.length) ia ⟨gp 0 args,o⟩=some s0) (h2:exec T .plain n s0.o.length ib ⟨(d,.ud)::s0.env,s0.o⟩=some (out,s2))
  {F:eu} (hF:T.fn g=some F) (hcl:(caps.map (dQ s0.env)).length=F.params) (hre:F.res=[]) (h3:exec T .plain n s2.o.length F.body ⟨gp 0 (caps.map (dQ s0.env)),s2.o⟩=some (ayk,s3)) (aYS:ayk= .norm\/ayk= .ret)
  {r0 r:AV} (hr0:mL ⟨s2.env,s3.o⟩ rs=some r0) {own:Bool} (hfi:finish own o.length r0 s3.o=some (r,o'))
  {vs:List Value} (hS:OM A w σ o) (hr:Aq A w σ o args vs):
  CallsIn (FR none) 0 P f vs.toArray w λe w'=>∃u σ',e= .returned u/\OM A w' σ' o'/\nA A w' σ' o' r u/\cE w σ o w' σ' o':=by
 have hvl:=Aq.length _ _ hr;obtain⟨fg,Hg,hfg,hcg,hgg⟩:=hT.fn g F hF;obtain⟨cg,aP3,aP4,hpg,hrg⟩:∃cg,fg.body=some cg/\comp P fg.ntmps Hg cg=some F.body/\F.params<=fg.ntmps/\pK (qD P) fg.results.toList=some []:=by
  unfold Bi at hcg;split at hcg;·cases hcg
  ·rename_i cg aYT;split at hcg
   ·rename_i b rs' hb' aYU;split at hcg;·cases hcg
    ·rename_i aYV;injection hcg with hcg;subst hcg;simp only at h3 hre ⊢;subst hre;unfold Hk at hb';split at hb';·simp_all
     ·obtain⟨x,_,rfl⟩:=ε.1 hb';cases n<;>simp[exec] at h3
   ·cases hcg
 refine callsIn_of_wp_marks (F:=FR none) hfn hcode trivial (wpIn_mono (Zd ih (π _) h2 code ia _ _ w σ hb h1 (Gi hS hr (by omega))) ?_);rintro e a' w' ⟨rfl,hg,w1,σ1,σ',ds,cv,wH,hS1,hE1,hcv,hs'⟩;have key:LeavesInM (FR none) 0 P fn a'.tmps (λe w'=>∃u σ',e= .returned u/\OM A w' σ' o'/\nA A w' σ' o' r u/\cE w σ o w' σ' o') a'.defers .returning w':=by
  obtain⟨ms,hms,hM⟩:=hs'.defers;rw[hms];refine AD ms w' hM hs'.sim λw2 q1 q3 q4=>?_;simp only[LeavesInM];refine⟨by simp,.inr ⟨λh=>by grind[FR,Fence.wide],.func g,cv.toArray,g,cv.toArray,rfl,by simp[invoke,AF hg],λ_ _=>trivial,?_⟩⟩;have aHD:Aq A w2 σ' s2.o (caps.map (dQ s0.env)) cv:=by
   have e1:cE w1 σ1 s0.o w' σ' s2.o:=hs'.ext;grind[Aq.ext]
  have aYW:=Aq.length _ _ aHD;refine CallsDIn.mono (YV (A:=A) hfg aP3 (R:=λe w3=>∃u σ3,e= .returned u/\OM A w3 σ3 s3.o/\cE w2 σ' s2.o w3 σ3 s3.o) (wpIn_mono (ih none .plain yA rfl AC _ F.body _ ayk s3 h3 fg.ntmps Hg cg aP4 [] A w2 σ' s2.o _ w2 σ' trivial (π _) (Gi q1 aHD (by omega))) ?_)) ?_
  ·rintro e a3 w3 ⟨rfl,σ3,hs3⟩;obtain⟨ms3,aP5,Ci⟩:=hs3.defers;rw[γ0] at aP5;refine⟨by grind[Out.rW],w2,σ3,s3.o,by simp_all,hs3.sim,λw4 k1 k2 k3=>?_⟩;have hs4:cq A fg.ntmps [] w2 σ' s2.o s3 {a3 with defers:=[]} w4 σ3:=⟨k1,λs=>k3 _ _ (hs3.env s),hs3.size,⟨[],rfl,δv,by simp⟩,k2 hs3.ext⟩;obtain⟨u,hu,_⟩:=Gj hs4 hrg (r:=.Gz []) rfl;exact⟨u,hu,u,σ3,rfl,k1,k2 hs3.ext⟩
  ·rintro e u' w3 ⟨rfl,u,σ3,rfl,p1,p2⟩;show LeavesInM (FR none) 0 P fn a'.tmps _ ds (settle .returning) w3;rw[show settle FrameMode.returning= .returning from rfl,<-γ0 ds];have e13:cE w1 σ1 s0.o w3 σ3 s3.o:=(q3 hs'.ext).trans p2;refine AD ds w3 (wH.ext hS1 e13) p1 λw4 t1 t3 t4=>?_;simp only[LeavesInM,LeavesIn];have hs4:cq A fn.ntmps [] w σ o ⟨s2.env,s3.o⟩ {a' with defers:=[]} w4 σ3:=⟨t1,λs=>t4 _ _ ((q4 _ _ (hs'.env s)).ext p2),hs'.size,⟨[],rfl,δv,by simp⟩,t3 (hE1.trans e13)⟩;obtain⟨u,hu,hru⟩:=Gj hs4 hrs hr0;have hfin:=Ol hs4.sim hs4.ext hru hfi;simp_all
 rcases hout with rfl|rfl;·exact key
 ·exact key
theorem O9 {T:jn} (N:jY P T) {n:Nat} (ih:yB P T n):nY P (oJ T (exec T .plain n)):=by
 intro f e o m r I c;unfold oJ at c;split at c
 ·rename_i x hK;injection c with c;subst c;exact N.K _ _ _ _ _ _ hK
 ·split at c;·cases c
  ·rename_i F J;obtain⟨fn,H,y,a,hg⟩:=N.fn f F J;split at c
   ·rename_i k;unfold Bi at a;split at a;·cases a
    ·rename_i a0 j;split at a
     ·rename_i b rs i D;split at a;·cases a
      ·rename_i E;injection a with a;subst a;simp only at c k;have p:∀{t:AV} {u:St},finish m o.length t u.o=some (r,I)->m=false->I=[]:=λl ho=>by
        subst ho;unfold finish at l;grind
       unfold Hk at i;split at i
       ·rename_i V S;injection i with i;subst i;have R:∀(x:Option (Out×St)),ry T (exec T .plain n) o.length V ⟨gp 0 e,o⟩=x->exec T .plain n o.length V ⟨gp 0 e,o⟩=x:=λx hx=>by
         unfold ry at hx;grind[YK]
        have a1:∀(h:Out) (u:St),(h= .norm\/h= .ret)->ry T (exec T .plain n) o.length V ⟨gp 0 e,o⟩=some (h,u)->∀t,mL u rs=some t->finish m o.length t u.o=some (r,I)->
          fU P f=true/\jD P f e o r I/\(m=false->I=[]):=by
         intro h u G Q t s l;exact⟨hg,λA w σ vs L U=>(callsIn_wide (n:=0)).1 (YL ih (md:=.plain) (B:=yA) rfl AC y j S D E k G (R _ Q) s l trivial L U),p l⟩
        grind
       ·obtain⟨⟨ia,⟨g,q,d⟩,ib⟩,S,rfl⟩:=ε.1 i;simp only[ry] at c;cases W:pO (exec T .plain n o.length) ia ⟨gp 0 e,o⟩ with
        |none=>simp_all;|some v=>
        simp only[W] at c;cases h2:exec T .plain n v.o.length ib ⟨(d,.ud)::v.env,v.o⟩ with
        |none=>simp_all;|some x2=>
        obtain⟨h,Y⟩:=x2;simp only[h2] at c;cases Z:pN h with
        |false=>simp_all;|true=>
        simp only[Z,if_true] at c;unfold Hn at c;cases J:T.fn g with
        |none=>simp_all;|some O=>
        simp only[J] at c;by_cases M:(q.map (dQ v.env)).length=O.params/\O.res.isEmpty=true
        ·rw[if_pos M] at c;cases X:exec T .plain n Y.o.length O.body ⟨gp 0 (q.map (dQ v.env)),Y.o⟩ with
         |none=>simp_all;|some x3=>
         obtain⟨C,s3⟩:=x3;simp only[X] at c;cases z:pN C with
         |false=>simp_all;|true=>
         simp only[z,if_true] at c;split at c
         ·rename_i t s;exact⟨hg,λA w σ vs L U=>(callsIn_wide (n:=0)).1 (Zc N ih y j S D E k (O_ Z) W h2 J M.1 (List.isEmpty_iff.1 M.2) X (O_ z) s c L U),p c⟩
         ·cases c
        simp_all
     ·cases a
   ·cases c
end
open Go.RowKit
section
variable {P:Program} {A:dg} {D:List Deferred} {w w':World} {σ σ':TN} {o o':a_}
theorem Zb {rnd:Option Nat} {Q:Exit->Act->World->Prop} {a:Act} {w:World} {c:Code} (h:c.wpIn (FR rnd) 0 P (Exit.noGoto Q) a w):(Code.scope c).wpIn (FR rnd) 0 P Q a w:=by
 intro b k n o p m;obtain⟨e,d,f,j,g⟩:=h b (.inScope c::k) n o p m;have s:step P (lone (b.atR a (.code (.scope c)::k)) n w)= .next (lone (b.atR a (.code c:: .inScope c::k)) n w):=step_lone_go (by simp[stepG,stepG.exec,Frame.atR]);have q:step P (lone (b.atR d (.inScope c::k)) n f)= .next (lone (b.atR d k) n f):=step_lone_go (by simp[stepG,stepG.exec,Frame.atR]);have i:=StepsIn.one (I:=Machine.fenced P (FR rnd)) (fenced_calm (fr:=b.atR a (.code (.scope c)::k)) p m rfl) s;cases e with
 |normal=>exact⟨.normal,d,f,j,(StepsIn.trans i (StepsIn.trans g (.one (fenced_calm (fr:=b.atR d (.inScope c::k)) p m rfl) q)))⟩;|exit u=>exact⟨.exit u,d,f,j,.of_steps i ⟨λr t=>g.1 r (by grind[exitTo]),λm t=>by obtain⟨x,z,v⟩:=g.2 m (by grind[exitTo]);grind⟩⟩;|goto l=>exact j.elim;|ret=>exact⟨_,d,f,j,.of_steps i g⟩;|panic y=>exact⟨_,d,f,j,.of_steps i g⟩;|outgrown=>exact⟨_,d,f,j,.of_steps i g⟩
def yx (rnd:Option Nat) (P:Program) (b:Code) (l:Nat) (Q:Exit->Act->World->Prop):Nat->Code->Act->World->Prop
 |0,_,_,_=>False
 |n+1,x,a,w=>x.wpIn (FR rnd) 0 P (λe d c=>match e with
   | .goto f=>f=l/\yx rnd P b l Q n b d c
   |e=>Q e d c) a w
theorem Za {rnd:Option Nat} {Q:Exit->Act->World->Prop} {a:Act} {w:World} {c i:Code} {l:Nat} (S:findLabel c l=some i) {n:Nat} (h:yx rnd P i l Q n c a w):(Code.scope c).wpIn (FR rnd) 0 P Q a w:=by
 intro b k p A y t;have E:gotoIn l (.inScope c::k)=some (.code i:: .inScope c::k):=by grind[gotoIn]
 have B:∀n x a w,yx rnd P i l Q n x a w->∃e u v,Q e u v/\ArrivesIn (Machine.fenced P (FR rnd)) P (lone (b.atR a (.code x:: .inScope c::k)) p w) b k p e u v:=by
  intro n;induction n with
  |zero=>intro x a w h;exact h.elim;|succ n J=>
   intro x a w h;obtain⟨e,d,g,m,f⟩:=h b (.inScope c::k) p A y t;have G:step P (lone (b.atR d (.inScope c::k)) p g)= .next (lone (b.atR d k) p g):=step_lone_go (by simp[stepG,stepG.exec,Frame.atR]);cases e with
   |normal=>exact⟨.normal,d,g,m,StepsIn.trans f (.one (fenced_calm (fr:=b.atR d (.inScope c::k)) y t rfl) G)⟩;|exit K=>exact⟨.exit K,d,g,m,λD C=>f.1 D (by grind[exitTo]),λt C=>by obtain⟨M,O,N⟩:=f.2 t (by grind[exitTo]);grind⟩;|goto L=>
    obtain⟨rfl,H⟩:=m;obtain⟨q,r,s,o,j⟩:=J i d g H;exact⟨q,r,s,o,.of_steps (f.1 _ E) j⟩;|ret=>exact⟨_,d,g,m,f⟩;|panic R=>exact⟨_,d,g,m,f⟩;|outgrown=>exact⟨_,d,g,m,f⟩
 have F:step P (lone (b.atR a (.code (.scope c)::k)) p w)= .next (lone (b.atR a (.code c:: .inScope c::k)) p w):=step_lone_go (by simp[stepG,stepG.exec,Frame.atR]);have z:=StepsIn.one (I:=Machine.fenced P (FR rnd)) (fenced_calm (fr:=b.atR a (.code (.scope c)::k)) y t rfl) F;obtain⟨e,u,v,m,f⟩:=B n c a w h;exact⟨e,u,v,m,.of_steps z f⟩
theorem Y_ {b:Code} {l c:Nat} {H:List RH} {x:IR} (h:Bk b=some l) (d:comp P c H b=some x):∃a,findLabel b l=some a/\comp P c H a=some x:=by
 unfold Bk at h;grind[findLabel,comp]
theorem O8 {T:jn} (hT:jY P T):∀n,yB P T n/\(∀(rnd:Option Nat) (md:Md) (B:dg->World->TN->a_->Prop),tk P rnd B md->eM B->∀(lo:Nat) (b:IR) (st:St) (out:Out) (st':St),exec T md n lo (.loop b) st=some (out,st')->∀(q:Nat) (H:List RH) (f:Code),comp P q H f=some b->∀(D:List Deferred) (A:dg) (r:World) (d:TN) (m:a_) (a:Act) (w:World) (σ:TN),B A r d m->
   m.length<=lo->cq A q D r d m st a w σ->Code.roundsIn (FR rnd) 0 P f (λe v w'=>e=out.rW/\∃u,cq A q D r d m st' v w' u) n a w)/\∀(rnd:Option Nat) (md:Md) (B:dg->World->TN->a_->Prop),tk P rnd B md->eM B->∀(lo l:Nat) (b:IR) (st:St) (out:Out) (st':St),exec T md n lo (.turns (some l) b) st=some (out,st')->∀(q:Nat) (H:List RH) (f s:Code),comp P q H f=some b->comp P q H s=some b->∀(D:List Deferred) (A:dg) (r:World) (d:TN) (m:a_) (a:Act) (w:World) (σ:TN),B A r d m->
   m.length<=lo->cq A q D r d m st a w σ->yx rnd P s l (λe v w'=>e=out.rW/\∃u,cq A q D r d m st' v w' u) n f a w
 |0=>⟨λrnd md B _ _ lo c st out st' h=>by grind[exec],λrnd md B _ _ lo b st out st' h=>by grind[exec],λrnd md B _ _ lo l b st out st' h=>by grind[exec]⟩
 |n+1=>by
  obtain⟨I,a0,Z⟩:=O8 hT n;have M:∀(rnd:Option Nat) (md:Md) (B:dg->World->TN->a_->Prop),tk P rnd B md->eM B->∀(lo:Nat) (b:IR) (st:St) (out:Out) (st':St),exec T md (n+1) lo (.loop b) st=some (out,st')->∀(q:Nat) (H:List RH) (f:Code),comp P q H f=some b->∀(D:List Deferred) (A:dg) (r:World) (d:TN) (m:a_) (a:Act) (w:World) (σ:TN),B A r d m->
    m.length<=lo->cq A q D r d m st a w σ->Code.roundsIn (FR rnd) 0 P f (λe v w'=>e=out.rW/\∃u,cq A q D r d m st' v w' u) (n+1) a w:=by
   intro rnd md B C E lo b st out st' h q H f p D A r d m a w σ j i t;simp only[exec] at h;split at h
   ·rename_i F Q;have O:=I rnd md B C E lo b st .norm F Q q H f p _ A r d m a w σ j i t;rw[roundsIn_succ];refine wpIn_mono O ?_;rintro e v w' ⟨rfl,u,g⟩;obtain⟨N,L⟩:=g.trim (k:=st.o.length) t.len;exact a0 rnd md B C E lo b _ out st' h q H f p _ A r d m v w' N j i L
   ·rename_i K;have O:=I rnd md B C E lo b st out st' h q H f p _ A r d m a w σ j i t;rw[roundsIn_succ];refine wpIn_mono O ?_;rintro e v w' ⟨rfl,g⟩;cases out with
    |norm=>simp_all;|exit S=>exact⟨rfl,g⟩;|ret=>exact⟨rfl,g⟩;|goto l=>exact⟨rfl,g⟩
  have R:∀(rnd:Option Nat) (md:Md) (B:dg->World->TN->a_->Prop),tk P rnd B md->eM B->∀(lo l:Nat) (b:IR) (st:St) (out:Out) (st':St),exec T md (n+1) lo (.turns (some l) b) st=some (out,st')->∀(q:Nat) (H:List RH) (f s:Code),comp P q H f=some b->comp P q H s=some b->∀(D:List Deferred) (A:dg) (r:World) (d:TN) (m:a_) (a:Act) (w:World) (σ:TN),B A r d m->
    m.length<=lo->cq A q D r d m st a w σ->yx rnd P s l (λe v w'=>e=out.rW/\∃u,cq A q D r d m st' v w' u) (n+1) f a w:=by
   intro rnd md B C E lo l b st out st' h q H f s p hr D A r d m a w σ j i t;simp only[exec] at h;split at h
   ·rename_i l' F Q;split at h
    ·rename_i U;injection U with U;subst U;refine wpIn_mono (I rnd md B C E lo b st (.goto l) F Q q H f p _ A r d m a w σ j i t) ?_;rintro e v w' ⟨rfl,u,g⟩;obtain⟨N,L⟩:=g.trim (k:=st.o.length) t.len;exact⟨rfl,Z rnd md B C E lo l b _ out st' h q H s s hr hr _ A r d m v w' N j i L⟩
    ·cases h
   ·rename_i K;refine wpIn_mono (I rnd md B C E lo b st out st' h q H f p _ A r d m a w σ j i t) ?_;rintro e v w' ⟨rfl,g⟩;cases out with
    |norm=>exact⟨rfl,g⟩;|exit S=>exact⟨rfl,g⟩;|ret=>exact⟨rfl,g⟩;|goto l=>simp_all
  refine⟨λrnd md B C E lo c st out st' h q H f p D A r d m a w σ j i t=>?_,M,R⟩;cases f with
  |skip=>
   simp only[comp,γ] at p;subst p;simp only[exec,γ,ι] at h;obtain⟨rfl,rfl⟩:=h;exact wpIn_skip ⟨rfl,σ,t⟩;|scope b=>
   simp only[comp] at p;obtain⟨V,J,rfl⟩:=ε.1 p;cases U:Bk b with
   |some l=>
    grind[Y_,Za];|none=>
    rw[U] at h;simp only[exec] at h;refine Zb ?_;split at h;·simp_all
    ·rename_i K;refine wpIn_mono (I rnd md B C E lo V st out st' h q H b J _ A r d m a w σ j i t) ?_;rintro e v w' ⟨rfl,g⟩;cases out with
     |norm=>exact⟨rfl,g⟩;|exit S=>exact⟨rfl,g⟩;|ret=>exact⟨rfl,g⟩;|goto l=>simp_all
  |goto l=>
   simp only[comp,γ] at p;subst p;simp only[exec,γ,ι] at h;obtain⟨rfl,rfl⟩:=h;exact wpIn_goto ⟨rfl,σ,t⟩;|label l=>
   simp only[comp,γ] at p;subst p;simp only[exec,γ,ι] at h;obtain⟨rfl,rfl⟩:=h;exact wpIn_label ⟨rfl,σ,t⟩;|region S a8 a3=>
   simp only[comp] at p;obtain⟨k,l,a4,a1,a7,a2,rfl,hw⟩:=YP (O9 hT I) C E (A:=A) (lo:=lo) p;simp only[exec] at h;split at h
   ·rename_i a5 h2;simp only[γ,ι] at h;obtain⟨rfl,rfl⟩:=h;exact hw h2 j i t
   ·cases h;|seq x y=>
   simp only[comp] at p;split at p
   ·rename_i V W J X;injection p with p;subst p;simp only[exec] at h;split at h
    ·rename_i F Q;refine wpIn_seq (wpIn_mono (I rnd md B C E lo V st .norm F Q q H x J _ A r d m a w σ j i t) ?_);rintro e v w' ⟨rfl,u,g⟩;exact I rnd md B C E lo W F out st' h q H y X _ A r d m v w' u j i g
    ·rename_i K;refine wpIn_seq (wpIn_mono (I rnd md B C E lo V st out st' h q H x J _ A r d m a w σ j i t) ?_);rintro e v w' ⟨rfl,g⟩;cases out with
     |norm=>simp_all;|exit S=>exact⟨rfl,g⟩;|ret=>exact⟨rfl,g⟩;|goto l=>exact⟨rfl,g⟩
   ·cases p;|cond x y z=>
   simp only[comp] at p;split at p
   ·rename_i W z' X hz;injection p with p;subst p;by_cases hk:Pu H x=true
    ·rw[if_pos hk] at h;simp only[exec] at h;have J:=t.ev x;split at h
     ·rename_i G;rw[G] at J;exact wpIn_cond_true (fD J) (I rnd md B C E lo W _ out st' h q H y X _ A r d m a w σ j i t)
     ·rename_i G;rw[G] at J;exact wpIn_cond_false (fD J) (I rnd md B C E lo z' _ out st' h q H z hz _ A r d m a w σ j i t)
     ·cases h
    rw[if_neg hk] at h;simp only[exec] at h;have J:=t.ev x;split at h
    ·rename_i G;rw[G] at J;exact wpIn_cond_true (fD J) (I rnd md B C E lo W _ out st' h q H y X _ A r d m a w σ j i (t.drop x))
    ·rename_i G;rw[G] at J;exact wpIn_cond_false (fD J) (I rnd md B C E lo z' _ out st' h q H z hz _ A r d m a w σ j i (t.drop x))
    ·cases h
   ·cases p;|block S b=>
   simp only[comp] at p;obtain⟨b',O,rfl⟩:=ε.1 p;simp only[exec] at h;split at h
   ·rename_i Y F Q;refine wpIn_block (wpIn_mono (I rnd md B C E lo b' st (.exit Y) F Q q H b O _ A r d m a w σ j i t) ?_);rintro e v w' ⟨rfl,g⟩;simp only[Out.rW,Exit.inBlock];grind
   ·rename_i K;refine wpIn_block (wpIn_mono (I rnd md B C E lo b' st out st' h q H b O _ A r d m a w σ j i t) ?_);rintro e v w' ⟨rfl,g⟩;cases out with
    |norm=>exact⟨rfl,g⟩;|exit a6=>simp_all;|ret=>exact⟨rfl,g⟩;|goto l=>exact⟨rfl,g⟩
  |loop b=>
   simp only[comp] at p;obtain⟨b',O,rfl⟩:=ε.1 p;grind[wpIn_loop_rounds];|exit S=>
   simp only[comp,γ] at p;subst p;simp only[exec,γ,ι] at h;obtain⟨rfl,rfl⟩:=h;exact wpIn_exit ⟨rfl,σ,t⟩;|ret=>
   simp only[comp,γ] at p;subst p;simp only[exec,γ,ι] at h;obtain⟨rfl,rfl⟩:=h;exact wpIn_ret ⟨rfl,σ,t⟩;|_=>grind[comp]
theorem Gh {T:jn} (a:jY P T) (n:Nat):nY P (oJ T (exec T .plain n)):=O9 a (O8 a n).1
end
def Ev (T:jn) (md:Nat->Md) (lo:Nat) (c:IR) (st:St) (r:Out×St):Prop:=∃N,∀m n,N<=m->N<=n->exec T (md m) n lo c st=some r
abbrev yw:Nat->Md:=λ_=> .plain
section
variable {T:jn} {md:Nat->Md} {lo:Nat} {st st1 st':St} {r:Out×St} {a b:IR} {out:Out}
theorem Ev.mk (N:Nat) (h:∀m n,N<=m->N<=n->exec T (md m) (n+1) lo a st=some r):Ev T md lo a st r:=
 ⟨N+1,λm n c b=>by
  match n,b with
  |n+1,b=>grind⟩
theorem Ev.skip:Ev T md lo .skip st (.norm,st):=.mk 0 λ_ _ _ _=>by simp only[exec]
theorem Ev.ret:Ev T md lo .ret st (.ret,st):=.mk 0 λ_ _ _ _=>by simp only[exec]
theorem Ev.exit {id:Nat}:Ev T md lo (.exit id) st (.exit id,st):=.mk 0 λ_ _ _ _=>by simp only[exec]
theorem Ev.seq (h:Ev T md lo a st (.norm,st1)) (k:Ev T md lo b st1 r):Ev T md lo (.seq a b) st r:=by
 obtain⟨N,h⟩:=h;obtain⟨M,k⟩:=k;exact .mk (N+M) λm n c d=>by simp only[exec,h m n (by omega) (by omega),k m n (by omega) (by omega)]
theorem Ev.Y9 (h:Ev T md lo a st (out,st1)) (c:out≠ .norm):Ev T md lo (.seq a b) st (out,st1):=by
 obtain⟨N,h⟩:=h;exact .mk N λm n e d=>by
  simp_all[exec]
theorem Ev.XK {x:Operand} (d:dQ st.env x= .sc (.bool true)) (h:Ev T md lo a ⟨n9 x st.env,st.o⟩ r):Ev T md lo (.cond x a b) st r:=by
 obtain⟨N,h⟩:=h;exact .mk N λm n c e=>by simp_all[exec]
theorem Ev.XJ {x:Operand} (d:dQ st.env x= .sc (.bool false)) (h:Ev T md lo b ⟨n9 x st.env,st.o⟩ r):Ev T md lo (.cond x a b) st r:=by
 obtain⟨N,h⟩:=h;exact .mk N λm n c e=>by simp_all[exec]
theorem Ev.nx {x:Operand} {q:Bool} (g:dQ st.env x= .sc (.bool q)) (e:q=true->Ev T md lo a st r) (d:q=false->Ev T md lo b st r):Ev T md lo (.nx x a b) st r:=by
 cases q with
 |true=>
  obtain⟨N,h⟩:=e rfl;exact .mk N λm n c f=>by simp_all[exec];|false=>
  obtain⟨N,h⟩:=d rfl;exact .mk N λm n c f=>by simp_all[exec]
def Out.inBlock (id:Nat):Out->Out
 | .exit a=>if a=id then .norm else .exit a
 |o=>o
theorem Ev.block {id:Nat} (h:Ev T md lo a st (out,st1)):Ev T md lo (.block id a) st (out.inBlock id,st1):=by
 obtain⟨N,h⟩:=h;exact .mk N λm n b c=>by
  simp only[exec,h m n b c];cases out<;>grind[exit,Out.inBlock]
theorem Ev.XI (h:Ev T md lo a st (.norm,st1)) (k:Ev T md lo (.loop a) (trim st.o.length st1) r):Ev T md lo (.loop a) st r:=by
 obtain⟨N,h⟩:=h;obtain⟨M,k⟩:=k;exact .mk (N+M) λm n b c=>by
  simp only[exec,h m n (by omega) (by omega)];grind
theorem Ev.XH (h:Ev T md lo a st (out,st1)) (b:out≠ .norm):Ev T md lo (.loop a) st (out,st1):=by
 obtain⟨N,h⟩:=h;exact .mk N λm n d c=>by
  simp_all[exec]
theorem Ev.goto {l:Nat}:Ev T md lo (.goto l) st (.goto l,st):=.mk 0 λ_ _ _ _=>by simp only[exec]
theorem Ev.XG {l:Nat} (h:Ev T md lo a st (.goto l,st1)) (k:Ev T md lo (.turns (some l) a) (trim st.o.length st1) r):Ev T md lo (.turns (some l) a) st r:=by
 obtain⟨N,h⟩:=h;obtain⟨M,k⟩:=k;exact .mk (N+M) λm n b c=>by
  simp only[exec,h m n (by omega) (by omega),if_true];grind
theorem Ev.O7 {l:Option Nat} (h:Ev T md lo a st (out,st1)) (c:∀b,out≠ .goto b):Ev T md lo (.turns l a) st (out,st1):=by
 obtain⟨N,h⟩:=h;exact .mk N λm n e d=>by
  simp_all[exec]
theorem Ev.region {id k:Nat} {b:Bool} {f:List cO} {d:List (Nat×Nat)} {a:List Nat} {e c:List iO}
  (h:∃N,∀g m,N<=m->Hm (md m) b (oJ T g) k f d (e.foldl (λs h=>jF lo h s) st)=some st'):
  Ev T md lo (.region id b k f d a e c) st (.norm,c.foldl (λs h=>jF lo h s) ⟨eL a st'.env,st'.o⟩):=by
 obtain⟨N,h⟩:=h;exact .mk N λm n i _=>by simp_all[exec]
theorem XF {P:Program} (i:jY P T) {f:FuncId} {F:eu} (l:T.fn f=some F) {args:List AV} {o:a_} {own:Bool} (g:T.K f args o own=none) (d:args.length=F.params)
  (h:Ev T yw o.length F.body ⟨gp 0 args,o⟩ (out,st')) (c:out= .norm\/out= .ret) {b v:AV} {o':a_} (k:mL st' F.res=some b) (a:finish own o.length b st'.o=some (v,o')):
  fU P f=true/\jD P f args o v o'/\(own=false->o'=[]):=by
 obtain⟨N,h⟩:=h;refine Gh i N f args o own v o' ?_;unfold oJ;rw[g];have h:=h N N (π _) (π _);have j:ry T (exec T .plain N) o.length F.body ⟨gp 0 args,o⟩=some (out,st'):=by
  unfold ry;split
  ·rename_i e;rw[e] at h;cases N<;>simp[exec] at h
  ·exact h
 grind
theorem XE {P:Program} (A:jY P T) {f:FuncId} {F:eu} (z:T.fn f=some F) {g:FuncId} {a:List Operand} {d:Nat} {w u:IR} (e:F.body= .dfr g a d w u) {args:List AV} {o:a_} {own:Bool} (E:T.K f args o own=none) (k:args.length=F.params)
  {s0 s2 s3:St} {b:Out} {G:eu} (t:∃N,∀n,N<=n->pO (exec T .plain n o.length) w ⟨gp 0 args,o⟩=some s0) (s:Ev T yw s0.o.length u ⟨(d,.ud)::s0.env,s0.o⟩ (out,s2)) (l:pN out=true)
  (D:T.fn g=some G) (q:(a.map (dQ s0.env)).length=G.params) (p:G.res.isEmpty=true) (r:Ev T yw s2.o.length G.body ⟨gp 0 (a.map (dQ s0.env)),s2.o⟩ (b,s3)) (c:pN b=true)
  {x v:AV} {o':a_} (C:mL ⟨s2.env,s3.o⟩ F.res=some x) (m:finish own o.length x s3.o=some (v,o')):
  fU P f=true/\jD P f args o v o'/\(own=false->o'=[]):=by
 obtain⟨h,t⟩:=t;obtain⟨j,s⟩:=s;obtain⟨i,r⟩:=r;refine Gh A (h+j+i) f args o own v o' ?_;unfold oJ;rw[E];simp only[z,if_pos k,e,ry,t _ (show h<=h+j+i by omega)];have y:=s (h+j+i) (h+j+i) (by omega) (by omega);have B:=r (h+j+i) (h+j+i) (by omega) (by omega);simp only[y,l,if_true,Hn,D,if_pos (And.intro q p),B,c,C,m]
end
section
variable {call call':cy}
def mg (call b:cy):Prop:=∀f a o c r,call f a o c=some r->b f a o c=some r
theorem mg.oJ (T:jn) (b:Nat->IR->St->Option (Out×St)):mg T.K (oJ T b):=by
 intro f a o c r h;grind[Go.Vi.oJ]
theorem mg.fV (h:mg call call') {f:FuncId} {args:List AV} {o:a_} {own:Bool} {r:AV×a_} (a:fV call f args o own=some r):fV call' f args o own=some r:=by
 unfold Go.Vi.fV at a ⊢;split at a
 ·rename_i b;rw[if_pos b];unfold gV at a ⊢;simp only at a ⊢;split at a
  ·split at a
   ·rename_i e d c;rw[h _ _ _ _ _ c];exact a
   ·cases a
  ·cases a
 ·rename_i b;rw[if_neg b];split at a;·cases a
  ·split at a
   ·rename_i c;rw[h _ _ _ _ _ c];exact a
   ·cases a
theorem mg.qc (h:mg call call') {op:bT} {ρ:Operand->AV} {o:a_} {qE:Nat} {r:AV×a_} (hc:qc call op ρ o qE=some r):qc call' op ρ o qE=some r:=by
 cases op with
 |call f args own=>exact h.fV hc;|ak4 f args own=>
  simp only[θh,Ho,Pz] at hc ⊢;split at hc;·exact h.fV hc
  ·cases hc;|aoe tab x args=>
  simp only[θh,Ho,Py] at hc ⊢;split at hc
  ·split at hc;·exact h.fV hc
   ·cases hc
  ·cases hc;|_=>exact hc
theorem mg.gq (h:mg call call') {base:Nat} {i:cO} {st st':St} (a:gq call base i st=some st'):gq call' base i st=some st':=by
 unfold Go.Vi.gq at a ⊢;split at a;·cases a
 ·exact a
 ·split at a
  ·rename_i b;rw[h.qc b];exact a
  ·cases a
theorem mg.dN (h:mg call call') {b:bT} {ρ:Operand->AV} {o:a_} {qE:Nat} {r:AV×a_} (d:θh call b ρ o qE=some r):Go.Vi.dN call' b ρ o qE=Go.Vi.dN call b ρ o qE:=by
 unfold Go.Vi.dN;split
 ·rename_i f a;have c:Go.Vi.fV call f (a.map ρ) o true=some r:=d;have e:=h.fV c;simp_all[Go.Vi.fV]
 ·rfl
theorem mg.fw (h:mg call call') {base:Nat}:∀{l:List cO} {st st':St},fw call base l st=some st'->fw call' base l st=some st'/\lu call' base l st=lu call base l st
 |[],_,_,b=>⟨b,rfl⟩
 |i::l,st,st',b=>by
  simp only[Go.Vi.fw] at b ⊢;split at b
  ·rename_i g a;obtain⟨j,c⟩:=h.fw b;have f:=h.gq a;refine⟨by simp_all,?_⟩;simp only[lu,a,f,c];congr 1;split
   ·rename_i e;unfold Go.Vi.gq at a;rw[e] at a;simp only at a;split at a
    ·rename_i d;rw[h.dN d]
    ·cases a
   ·rfl
  ·cases b
theorem mg.n_ (h:mg call call') {k:Nat} {b:List cO} {a:List (Nat×Nat)} {st st':St} (c:n_ call k b a st=some st'):n_ call' k b a st=some st':=by
 unfold Go.Vi.n_ at c ⊢;simp only at c ⊢;split at c
 ·rename_i e d;obtain⟨f,g⟩:=h.fw d;simp_all
 ·cases c
end
def VW (T:jn) (md:Nat->Md) (lo:Nat) (c:IR) (st:St) (Q:Out->St->Prop):Prop:=∃b a,Ev T md lo c st (b,a)/\Q b a
def RQ (x:Option St) (Q:St->Prop):Prop:=match x with|some a=>Q a|none=>False
section
variable {T:jn} {md:Nat->Md} {lo:Nat} {st:St} {a b:IR} {Q Q':Out->St->Prop}
theorem VW.mono (h:VW T md lo a st Q) (d:∀o s,Q o s->Q' o s):VW T md lo a st Q':=by
 obtain⟨o,s,b,c⟩:=h;exact⟨o,s,b,d o s c⟩
theorem VW.skip (h:Q .norm st):VW T md lo .skip st Q:=⟨_,_,.skip,h⟩
theorem VW.ret (h:Q .ret st):VW T md lo .ret st Q:=⟨_,_,.ret,h⟩
theorem VW.exit {id:Nat} (h:Q (.exit id) st):VW T md lo (.exit id) st Q:=⟨_,_,.exit,h⟩
theorem VW.seq (h:VW T md lo a st λout s=>if out= .norm then VW T md lo b s Q else Q out s):VW T md lo (.seq a b) st Q:=by
 obtain⟨o,s,e,c⟩:=h;by_cases d:o= .norm
 ·subst d;rw[if_pos rfl] at c;obtain⟨i,j,g,f⟩:=c;exact⟨i,j,e.seq g,f⟩
 ·rw[if_neg d] at c;exact⟨o,s,e.Y9 d,c⟩
theorem VW.cond {x:Operand} {q:Bool} (e:dQ st.env x= .sc (.bool q)) (h:if q=true then VW T md lo a ⟨n9 x st.env,st.o⟩ Q else VW T md lo b ⟨n9 x st.env,st.o⟩ Q):VW T md lo (.cond x a b) st Q:=by
 cases q with
 |true=>obtain⟨o,s,c,d⟩:=(by simpa using h:VW T md lo a ⟨n9 x st.env,st.o⟩ Q);exact⟨o,s,.XK e c,d⟩;|false=>obtain⟨o,s,c,d⟩:=(by simpa using h:VW T md lo b ⟨n9 x st.env,st.o⟩ Q);exact⟨o,s,.XJ e c,d⟩
theorem VW.nx {x:Operand} {q:Bool} (e:dQ st.env x= .sc (.bool q)) (h:if q=true then VW T md lo a st Q else VW T md lo b st Q):VW T md lo (.nx x a b) st Q:=by
 cases q with
 |true=>obtain⟨o,s,c,d⟩:=(by simpa using h:VW T md lo a st Q);exact⟨o,s,.nx e (λ_=>c) (λh=>by cases h),d⟩;|false=>obtain⟨o,s,c,d⟩:=(by simpa using h:VW T md lo b st Q);exact⟨o,s,.nx e (λh=>by cases h) (λ_=>c),d⟩
theorem VW.block {id:Nat} (h:VW T md lo a st λout s=>Q (out.inBlock id) s):VW T md lo (.block id a) st Q:=by
 obtain⟨o,s,b,c⟩:=h;exact⟨_,_,b.block,c⟩
theorem VW.region {id k:Nat} {d:Bool} {e:List cO} {c:List (Nat×Nat)} {b:List Nat} {f a:List iO}
  (h:RQ (n_ T.K k e c (f.foldl (λs h=>jF lo h s) st)) λst'=>Q .norm (a.foldl (λs h=>jF lo h s) ⟨eL b st'.env,st'.o⟩)):
  VW T md lo (.region id d k e c b f a) st Q:=by
 unfold RQ at h;split at h
 ·rename_i st' g;refine⟨_,_,Ev.region ⟨0,λi m _=>?_⟩,h⟩;have:=(mg.oJ T i).n_ g;exact this
 simp_all
theorem VW.loop (h:VW T md lo a st λout s=>if out= .norm then VW T md lo (.loop a) (trim st.o.length s) Q else Q out s):VW T md lo (.loop a) st Q:=by
 obtain⟨o,s,d,b⟩:=h;by_cases c:o= .norm
 ·subst c;rw[if_pos rfl] at b;obtain⟨g,i,f,e⟩:=b;exact⟨g,i,d.XI f,e⟩
 ·rw[if_neg c] at b;exact⟨o,s,d.XH c,b⟩
theorem VW.XD (I:Nat->St->Prop) (b:∀m s,I m s->VW T md lo a s λout s'=>if out= .norm then ∃c,c<m/\I c (trim s.o.length s') else Q out s'):
  ∀(m:Nat) (s:St),I m s->VW T md lo (.loop a) s Q:=by
 intro m;induction m using ζM with
 |_ m e=>
  intro s d;refine VW.loop ((b m s d).mono λo s' h=>?_);grind
theorem VW.goto {l:Nat} (h:Q (.goto l) st):VW T md lo (.goto l) st Q:=⟨_,_,.goto,h⟩
theorem VW.XC {l:Option Nat} (h:VW T md lo a st λout s=>(∀e,out≠ .goto e)/\Q out s):VW T md lo (.turns l a) st Q:=by
 obtain⟨o,s,b,c,d⟩:=h;exact⟨o,s,b.O7 c,d⟩
theorem VW.XB {l:Nat} (I:Nat->St->Prop) (b:∀m s,I m s->VW T md lo a s λout s'=>(out= .goto l/\∃c,c<m/\I c (trim s.o.length s'))\/((∀h,out≠ .goto h)/\Q out s')):
  ∀(m:Nat) (s:St),I m s->VW T md lo (.turns (some l) a) s Q:=by
 intro m;induction m using ζM with
 |_ m i=>
  intro s k;obtain⟨o,s',f,j⟩:=b m s k;rcases j with⟨rfl,c,d,e⟩|⟨d,e⟩
  ·obtain⟨p,q,n,g⟩:=i c d _ e;exact⟨p,q,f.XG n,g⟩
  ·exact⟨o,s',f.O7 d,e⟩
theorem AB {P:Program} (k:jY P T) {f:FuncId} {F:eu} (g:T.fn f=some F) {args:List AV} {o:a_} {own:Bool} (j:T.K f args o own=none) (b:args.length=F.params) {v:AV} {o':a_}
  (h:VW T yw o.length F.body ⟨gp 0 args,o⟩ λout st'=>(out= .norm\/out= .ret)/\(mL st' F.res).bind (λc=>finish own o.length c st'.o)=some (v,o')):
  fU P f=true/\jD P f args o v o'/\(own=false->o'=[]):=by
 obtain⟨out,st',e,i,d⟩:=h;obtain⟨c,l,a⟩:=Option.bind_eq_some_iff.1 d;grind[XF]
end
open Classical in
noncomputable def tR {α:Type} (enc:α->List AV) (dom:α->Prop) (spec:α->AV) (args:List AV):Option AV:=
 if h:∃a,args=enc a/\dom a then some (spec (Classical.choose h)) else none
theorem XA {e:Type} {enc:e->List AV} {d:e->Prop} {c:e->AV} (f:∀a b,enc a=enc b->a=b) {a:e} (g:d a):tR enc d c (enc a)=some (c a):=by
 have h:∃b,enc a=enc b/\d b:=⟨a,rfl,g⟩;unfold tR;grind
theorem Xz {d:Type} {enc:d->List AV} {c:d->Prop} {b:d->AV} {args:List AV} {v:AV} (h:tR enc c b args=some v):∃a,args=enc a/\c a/\v=b a:=by
 unfold tR at h;split at h<;>grind
structure oz where
 (a0 a1 a2 a3 a4 a5:Int)
 deriving DecidableEq
structure bD where
 TM:Int
 bw:oz
 value:Int
 deriving DecidableEq
structure ue where
 aHH:Int
 least:Int
 deriving DecidableEq
structure mK where
 TM:Int
 bw:oz
 deriving DecidableEq
structure tT where
 members:Int
 left:oz
 bq:oz
 deriving DecidableEq
def oz.zero:oz:=⟨0,0,0,0,0,0⟩
inductive ew where
 |i (k:IntKind)
 |b
 |bun
 |bt
 |need
 |key
 |sit
 |Ap (s:ew)
 |pair (s t:ew)
 deriving DecidableEq
@[reducible] def ew.T:ew->Type
 | .i _=>Int
 | .b=>Bool
 | .bun=>oz
 | .bt=>bD
 | .need=>ue
 | .key=>mK
 | .sit=>tT
 | .Ap s=>List s.T
 | .pair s t=>s.T×t.T
def ew.bu:(s:ew)->s.T
 | .i _=>(0:Int)
 | .b=>false
 | .bun=> .zero
 | .bt=>⟨0,.zero,0⟩
 | .need=>⟨0,0⟩
 | .key=>⟨0,.zero⟩
 | .sit=>⟨0,.zero,.zero⟩
 | .Ap _=>[]
 | .pair s t=>(s.bu,t.bu)
def ew.sz:ew->Nat
 | .i _=>1
 | .b=>1
 | .bun=>6
 | .bt=>8
 | .need=>2
 | .key=>7
 | .sit=>13
 | .Ap _=>1
 | .pair s t=>s.sz+t.sz
@[reducible] def ew.dec:(s:ew)->DecidableEq s.T
 | .i _=>inferInstanceAs (DecidableEq Int)
 | .b=>inferInstanceAs (DecidableEq Bool)
 | .bun=>inferInstanceAs (DecidableEq oz)
 | .bt=>inferInstanceAs (DecidableEq bD)
 | .need=>inferInstanceAs (DecidableEq ue)
 | .key=>inferInstanceAs (DecidableEq mK)
 | .sit=>inferInstanceAs (DecidableEq tT)
 | .Ap s=>@instDecidableEqList _ s.dec
 | .pair s t=>@instDecidableEqProd _ _ s.dec t.dec
instance (s:ew):DecidableEq s.T:=s.dec
def ew.vp:ew->Bool
 | .i _| .b=>true
 |_=>false
def ew.flat:ew->Bool
 | .Ap _=>false
 | .pair s t=>s.flat&&t.flat
 |_=>true
def iv (n:Int):Value:=.int .i64 n
def oz.vs (b:oz):List Value:=[iv b.a0,iv b.a1,iv b.a2,iv b.a3,iv b.a4,iv b.a5]
def cK:(s:ew)->s.T->List Value
 | .i k,n=>[.int k n]
 | .b,b=>[.bool b]
 | .bun,x=>[iv x.a0,iv x.a1,iv x.a2,iv x.a3,iv x.a4,iv x.a5]
 | .bt,x=>[iv x.TM,iv x.bw.a0,iv x.bw.a1,iv x.bw.a2,iv x.bw.a3,iv x.bw.a4,iv x.bw.a5,iv x.value]
 | .need,x=>[iv x.aHH,iv x.least]
 | .key,x=>[iv x.TM,iv x.bw.a0,iv x.bw.a1,iv x.bw.a2,iv x.bw.a3,iv x.bw.a4,iv x.bw.a5]
 | .sit,x=>[iv x.members,iv x.left.a0,iv x.left.a1,iv x.left.a2,iv x.left.a3,iv x.left.a4,iv x.left.a5,iv x.bq.a0,iv x.bq.a1,iv x.bq.a2,iv x.bq.a3,iv x.bq.a4,iv x.bq.a5]
 | .Ap _,_=>[.bool false]
 | .pair s t,x=>cK s x.1++cK t x.2
def dh:(s:ew)->s.T->List AV
 | .Ap s,l=>[.sl l.length (l.flatMap (dh s))]
 | .pair s t,x=>dh s x.1++dh t x.2
 | .i k,x=>(cK (.i k) x).map .sc
 | .b,x=>(cK .b x).map .sc
 | .bun,x=>(cK .bun x).map .sc
 | .bt,x=>(cK .bt x).map .sc
 | .need,x=>(cK .need x).map .sc
 | .key,x=>(cK .key x).map .sc
 | .sit,x=>(cK .sit x).map .sc
inductive SV where
 |ud
 |sc (v:Value)
 |il (k:IntKind) (n:Int)
 |si (k:IntKind) (n:Int)
 |bl (b:Bool)
 |sb (b:Bool)
 |agg (cs:List SV)
 |Gz (cs:List SV)
 |row (s:ew) (l:List s.T)
 |ep (s:ew) (l:List s.T) (i bt:Nat)
 |ptr (id bt tot:Nat)
 |ap (id base sz len tot i:Nat)
 |rp (id i bt n sz:Nat)
 |ow (id n sz:Nat)
 |os (id bt len n sz:Nat)
 |oc (id bt len n sz:Nat)
 |mp (id:Nat)
 |fn (f:Fn) (first captured:List SV)
 |ia (t:TypeId) (cs:List SV)
 |ite (c:Bool) (a b:SV)
inductive iZ where
 |dead
 |cells (cs:List SV) (e:TypeId) (sz:Nat) (pu:Bool)
 |row (s:ew) (l:List s.T) (e:TypeId) (pu:Bool)
 |map (sk sv:ew) (ka:Bool) (es:List (sk.T×sv.T)) (kt:List Nat×Bool) (pu:Bool)
 |aol (s:ew) (l:List s.T) (e:TypeId) (t:List SV)
def bQ (s:ew) (l:List s.T):List AV:=l.flatMap (dh s)
def nV (s:ew) (a:Bool) (x:s.T):Value:=if a then .agg (cK s x).toArray else(cK s x).headD (.bool false)
def lT (s:ew) (x:s.T):AV:=.sc ((cK s x).headD (.bool false))
mutual
def SV.g:SV->AV
 | .ud=> .ud
 | .sc v=> .sc v
 | .il k n=> .sc (.int k n)
 | .si k n=> .sc (.int k n)
 | .bl b=> .sc (.bool b)
 | .sb b=> .sc (.bool b)
 | .agg m=> .agg (gL m)
 | .Gz m=> .Gz (gL m)
 | .row s l=> .sl l.length (bQ s l)
 | .ep s l i d=> .ep (bQ s l) (i*s.sz+d)
 | .ptr h d o=> .ptr h d o
 | .ap h p e _ o i=> .ptr h (p+i*e) o
 | .rp h i d n e=> .ptr h (i*e+d) (n*e)
 | .ow h n e=> .os h 0 n (n*e)
 | .os h d j n e=> .os h (d*e) j (n*e)
 | .oc h d j n e=> .os h (d*e+(n*e+e)) j (n*e)
 | .mp h=> .mp h
 | .fn f a b=> .fn f (gL a) (gL b)
 | .ia t m=> .ifc t (gL m)
 | .ite _ _ _=> .ud
def gL:List SV->List AV
 |[]=>[]
 |c::m=>c.g::gL m
end
theorem ft:∀(l:List SV),gL l=l.map SV.g
 |[]=>rfl
 |c::a=>by simp[gL,ft a]
def iZ.g:iZ->OL
 | .dead=> .dead
 | .cells c e i a=> .cells (gL c) e i a
 | .row s l e a=> .cells (bQ s l) e s.sz a
 | .aol s l e t=> .cells (bQ s l++gL t) e s.sz false
 | .map f b j h d a=> .map (h.map λp=>(nV f j p.1,lT b p.2)) d a
def cU:(s:ew)->s.T->List SV
 | .i k,n=>[.si k n]
 | .b,b=>[.sb b]
 | .bun,x=>[.si .i64 x.a0,.si .i64 x.a1,.si .i64 x.a2,.si .i64 x.a3,.si .i64 x.a4,.si .i64 x.a5]
 | .bt,x=>[.si .i64 x.TM,.si .i64 x.bw.a0,.si .i64 x.bw.a1,.si .i64 x.bw.a2,.si .i64 x.bw.a3,.si .i64 x.bw.a4,.si .i64 x.bw.a5,.si .i64 x.value]
 | .need,x=>[.si .i64 x.aHH,.si .i64 x.least]
 | .key,x=>[.si .i64 x.TM,.si .i64 x.bw.a0,.si .i64 x.bw.a1,.si .i64 x.bw.a2,.si .i64 x.bw.a3,.si .i64 x.bw.a4,.si .i64 x.bw.a5]
 | .sit,x=>[.si .i64 x.members,.si .i64 x.left.a0,.si .i64 x.left.a1,.si .i64 x.left.a2,.si .i64 x.left.a3,.si .i64 x.left.a4,.si .i64 x.left.a5,.si .i64 x.bq.a0,.si .i64 x.bq.a1,.si .i64 x.bq.a2,.si .i64 x.bq.a3,.si .i64 x.bq.a4,.si .i64 x.bq.a5]
 | .Ap s,l=>[.row s l]
 | .pair s t,x=>cU s x.1++cU t x.2
def gG (s s':ew) (l:List s.T):Option (List s'.T):=if h:s=s' then some (h▸l) else none
def iI (s:ew):SV->Option (List s.T)
 | .row a l=>match gG a s l with
  |some l=>some l
  |none=>match l with
   |[]=>some []
   |_=>none
 |_=>none
def SV.qn:SV->SV
 | .sc (.slice none 0 0)=> .row (.i .i64) []
 |v=>v
def SV.int:IntKind->SV->Option Int
 |k,.si a n=>if a=k then some n else none
 |k,.il a n=>if a=k then some n else none
 |_,_=>none
def SV.pn:SV->Option Bool
 | .sb b=>some b
 | .bl b=>some b
 |_=>none
def ints:List SV->Option (List Int)
 |[]=>some []
 |c::a=>match c.int .i64,ints a with
  |some n,some l=>some (n::l)
  |_,_=>none
def jm:(s:ew)->List SV->Option s.T
 | .i k,[c]=>c.int k
 | .b,[c]=>c.pn
 | .bun,d=>match ints d with
  |some [f,e,l,h,g,j]=>some (⟨f,e,l,h,g,j⟩:oz)
  |_=>none
 | .bt,d=>match ints d with
  |some [b,f,e,l,h,g,j,v]=>some (⟨b,⟨f,e,l,h,g,j⟩,v⟩:bD)
  |_=>none
 | .need,d=>match ints d with
  |some [a,b]=>some (⟨a,b⟩:ue)
  |_=>none
 | .key,d=>match ints d with
  |some [b,f,e,l,h,g,j]=>some (⟨b,⟨f,e,l,h,g,j⟩⟩:mK)
  |_=>none
 | .sit,d=>match ints d with
  |some [m,f,e,l,h,g,j,p,u,n,q,r,o]=>some (⟨m,⟨f,e,l,h,g,j⟩,⟨p,u,n,q,r,o⟩⟩:tT)
  |_=>none
 | .Ap s,[c]=>iI s c
 | .pair s t,d=>match jm s (d.take s.sz),jm t (d.drop s.sz) with
  |some x,some y=>some (x,y)
  |_,_=>none
 |_,_=>none
theorem Gg:(s:ew)->0<s.sz
 | .i _| .b| .bun| .bt| .need| .key| .sit| .Ap _=>by simp[ew.sz];| .pair s t=>by
  have:=Gg s;grind[ew.sz]
theorem rV:(s:ew)->(x:s.T)->(cU s x).map SV.g=dh s x
 | .Ap s,l=>by grind[cU,dh,SV.g,bQ];| .pair s t,x=>by simp only[cU,dh,γb,rV s x.1,rV t x.2];| .i _,x| .b,x| .bun,x| .bt,x| .need,x| .key,x| .sit,x=>by simp[cU,dh,cK,SV.g,iv]
theorem Gf:(s:ew)->(x:s.T)->(cK s x).length=s.sz
 | .pair s t,x=>by simp only[cK,γh,Gf s x.1,Gf t x.2,ew.sz];| .Ap _,x| .i _,x| .b,x| .bun,x| .bt,x| .need,x| .key,x| .sit,x=>rfl
theorem kF:(s:ew)->(x:s.T)->(dh s x).length=s.sz
 | .pair s t,x=>by simp only[dh,γh,kF s x.1,kF t x.2,ew.sz];| .Ap _,x| .i _,x| .b,x| .bun,x| .bt,x| .need,x| .key,x| .sit,x=>rfl
theorem AA:(s:ew)->s.flat=true->(x:s.T)->dh s x=(cK s x).map .sc
 | .pair s t,h,x=>by
  simp only[ew.flat,θ] at h;simp only[dh,cK,γb,AA s h.1,AA t h.2];| .Ap _,h,x=>by grind[ew.flat];| .i _,_,x| .b,_,x| .bun,_,x| .bt,_,x| .need,_,x| .key,_,x| .sit,_,x=>rfl
theorem gU {k:IntKind} {c:SV} {n:Int} (h:c.int k=some n):c.g= .sc (.int k n):=by
 cases c<;>simp only[SV.int,reduceCtorEq] at h<;>grind[SV.int,reduceCtorEq,SV.g]
theorem tj {c:SV} {b:Bool} (h:c.pn=some b):c.g= .sc (.bool b):=by
 cases c<;>simp[SV.pn] at h<;>subst h<;>simp[SV.g]
theorem Az:∀{cs:List SV} {l:List Int},ints cs=some l->cs.map SV.g=l.map λn=> .sc (iv n)
 |[],l,h=>by grind[ints];|c::cs,l,h=>by
  simp only[ints] at h;split at h
  ·rename_i n d a b;simp at h;subst h;simp[gU a,Az b,iv]
  ·cases h
theorem lq {s s':ew} {l:List s.T} {a:List s'.T} (h:gG s s' l=some a):s=s'/\HEq l a:=by
 unfold gG at h;grind
theorem Xy {s:ew} {v:SV} {l:List s.T} (h:iI s v=some l):v.g= .sl l.length (bQ s l):=by
 cases v<;>simp only[iI,reduceCtorEq] at h;grind[lq,SV.g,bQ]
theorem mJ:{s:ew}->{cs:List SV}->{x:s.T}->(h:jm s cs=some x)->cs.map SV.g=dh s x
 | .i k,[c],_,h=>by grind[jm,dh,cK,gU];| .b,[c],_,h=>by grind[jm,dh,cK,tj];| .Ap s,[c],_,h=>by grind[jm,Xy,dh,bQ];| .pair s t,cs,_,h=>by
  simp only[jm] at h;split at h
  ·rename_i x y a d;simp only[γ] at h;subst h;have f:=mJ a;have e:=mJ d;simp only[dh,<-f,<-e];rw[<-γb,List.take_append_drop]
  ·cases h;| .bun,cs,_,h| .bt,cs,_,h| .need,cs,_,h| .key,cs,_,h| .sit,cs,_,h=>by
  simp only[jm] at h;split at h
  ·rename_i a;simp at h;subst h;rw[Az a];simp[dh,cK]
  ·cases h
theorem Xx (v:SV):v.qn.g=v.g.qn:=by
 unfold SV.qn;split;·simp[SV.g,AV.qn,bQ]
 ·rename_i h;cases v<;>grind[SV.g,AV.qn,AV.sc.injEq]
theorem Ay:(s:ew)->(x:s.T)->∀v∈cK s x,v.oneCell'=true
 | .pair s t,x=>by
  intro v a;simp only[cK] at a;rcases γi.1 a with h|h;·exact Ay s _ v h
  ·exact Ay t _ v h;| .Ap _,x| .i _,x| .b,x| .bun,x| .bt,x| .need,x| .key,x| .sit,x=>by simp[cK,iv,Value.oneCell']
def Plain (a:AV):Prop:=(∃v,a= .sc v/\v.oneCell'=true/\v≠ .slice none 0 0)\/∃n b,a= .sl n b/\cL b=true
theorem Ax:∀{l:List AV},(∀a∈l,a.pure=true)->cL l=true
 |[],_=>by simp[cL];|a::l,h=>by simp[cL,h a (by simp),Ax (l:=l) λb c=>h b (by simp[c])]
theorem Ge {k:Nat}:∀{l:List AV},(∀a∈l,a.VI k=true)->dJ k l=true
 |[],_=>by simp[dJ];|a::l,h=>by simp[dJ,h a (by simp),Ge (l:=l) λb c=>h b (by simp[c])]
theorem Plain.pure {a:AV} (h:Plain a):a.pure=true:=by
 rcases h with⟨v,rfl,_⟩|⟨n,b,rfl,h⟩<;>grind[AV.pure]
theorem Plain.VI {a:AV} (h:Plain a) (k:Nat):a.VI k=true:=by
 rcases h with⟨v,rfl,_⟩|⟨n,b,rfl,h⟩<;>simp[AV.VI]
theorem Plain.one {a:AV} (h:Plain a):a.one=true:=by
 rcases h with⟨v,rfl,h,_⟩|⟨n,b,rfl,h⟩<;>grind[AV.one]
theorem yv:(s:ew)->(x:s.T)->∀a∈dh s x,Plain a
 | .pair s t,x=>by
  intro a c;simp only[dh] at c;rcases γi.1 c with h|h;·exact yv s _ a h
  ·exact yv t _ a h;| .Ap s,l=>by
  intro a c;simp only[dh,List.mem_singleton] at c;subst c;refine .inr ⟨_,_,rfl,Ax λb e=>?_⟩;obtain⟨y,_,f⟩:=List.mem_flatMap.1 e;exact(yv s y b f).pure;| .i _,x| .b,x| .bun,x| .bt,x| .need,x| .key,x| .sit,x=>by
  intro a c;simp only[dh] at c;obtain⟨v,d,rfl⟩:=List.mem_map.1 c;refine .inl ⟨v,rfl,Ay _ _ v d,?_⟩;rintro rfl;simp[cK,iv] at d
theorem lS {s:ew} {l:List s.T} {a:AV} (h:a∈bQ s l):Plain a:=by
 grind[bQ,yv]
theorem nr (s:ew) (l:List s.T):cL (bQ s l)=true:=Ax λa h=>(lS h).pure
theorem O6 (k:Nat) (s:ew) (l:List s.T):dJ k (bQ s l)=true:=Ge λa h=>(lS h).VI k
theorem Aw (s:ew) (l:List s.T):dS (bQ s l)=true:=by
 simp only[dS,ψ];intro a h;exact(lS h).one
theorem ee (s:ew) (l:List s.T):(bQ s l).length=l.length*s.sz:=by
 induction l<;>grind[bQ,kF]
theorem O5 (s:ew) (l a:List s.T):bQ s (l++a)=bQ s l++bQ s a:=by simp[bQ]
theorem Gd (s:ew):∀(l:List s.T) (i:Nat),(bQ s l).drop (i*s.sz)=bQ s (l.drop i)
 |l,0=>by simp;|[],i+1=>by simp[bQ];|x::l,i+1=>by
  have h:=Gd s l i;simp only[bQ,δ0,List.drop_succ_cons] at h ⊢;rw[Nat.succ_mul,Nat.add_comm,List.drop_append,kF,ζD,h,List.drop_of_length_le (by grind[kF])];simp
theorem O4 (s:ew):∀(l:List s.T) (i:Nat),(bQ s l).take (i*s.sz)=bQ s (l.take i)
 |l,0=>by simp[bQ];|[],i+1=>by simp[bQ];|x::l,i+1=>by
  have h:=O4 s l i;simp only[bQ,δ0,List.take_succ_cons] at h ⊢;rw[Nat.succ_mul,Nat.add_comm,List.take_append,kF,ζD,h,List.take_of_length_le (by grind[kF])]
def bN {a:Type} (l:List a) (i:Nat) (d:a):a:=(l[i]?).getD d
theorem bW {a:Type} {l:List a} {i:Nat} {d:a} (h:i<l.length):bN l i d=l[i]:=by simp[bN,h]
theorem O3 {s:ew} {l:List s.T} {i:Nat} (h:i<l.length):(bQ s l).drop (i*s.sz)=dh s (bN l i s.bu)++bQ s (l.drop (i+1)):=by
 rw[Gd,List.drop_eq_getElem_cons h,bW h];grind[bQ]
end Go.Vi
