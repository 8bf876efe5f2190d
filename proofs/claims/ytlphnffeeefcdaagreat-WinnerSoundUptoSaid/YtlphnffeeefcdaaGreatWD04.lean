/-
  The abstract interpreter: a region whose order is open.
  Conditions: none.
-/
import Derived.Test.YtlphnffeeefcdaaGreatWD03
import Derived.RangeFuncOwn
import Derived.RangeFuncLeaves
import Derived.LoopNIn
import Derived.ControlIn
import Derived.LoopN
import Derived.Scope
import Derived.Tactics
set_option maxRecDepth 100000
set_option maxHeartbeats 4000000
set_option linter.all false
open Array renaming getElem?_eq_some_iff->γR,replicate->εc,getElem?_toList->δy,ext'->εj
open Bool renaming and_eq_true->ζ,false_eq_true->χ
open Go.Vi renaming prune->ζB
open List renaming not_mem_nil->δr,mem_filter->γD,getElem?_set_ne->δD,getElem?_eq_getElem->ν,getElem?_eq_none->εL,getElem?_set->εk,map_congr_left->γV,mem_append->γh,ext_getElem?->δc,cons_append->γy,getD_eq_getElem?_getD->εW,all_eq_true->κ,getElem?_cons_succ->γz,map_cons->ξ,nodup_cons->γU,mem_of_getElem?->γt,eq_nil_of_length_eq_zero->Φ,getElem?_eq_some_iff->θ,range->ψ,pairwise_cons->γA,mem_cons_of_mem->γW,append_nil->γL,map_append->γb,length_append->γg,flatMap_cons->δW
open List.Pairwise renaming nil->δv
open Nat renaming le_refl->φ,lt_or_ge->εY,strongRecOn->ζr,beq->δu,eq_of_beq_eq_true->εK,lt_of_lt_of_le->γo,add_sub_cancel_left->ζi
open Option renaming map_eq_some_iff->ε
open Option.some renaming injEq->γ
open Prod.mk renaming injEq->μ
namespace Go.Vi
section
variable {call:dh} {ρ mh:Operand->AV} {bE:Nat}
theorem NI {a:cJ} {o:Store} {j:Nat} (h:j∈wrt a ρ o bE):j∈dU a ρ o bE:=by
 cases a<;>simp only[wrt,dU,δr] at h ⊢<;>try exact h
 all_goals grind
theorem Xo {a:cJ} {o:Store} (h:a.cls=0\/a.cls=1):wrt a ρ o bE=[]:=by
 cases a<;>try (simp[cJ.cls] at h;done)
 case call f c b=>cases b<;>simp[cJ.cls] at h;rfl
 case jI f c b=>cases b<;>simp[cJ.cls] at h;rfl
 all_goals rfl
theorem F4 {b:cJ} {o:Store} (h:b.cls=0):dU b ρ o bE=[]:=by
 cases b<;>try (simp[cJ.cls] at h;done)
 case call f c a=>cases a<;>simp[cJ.cls] at h
 case jI f c a=>cases a<;>simp[cJ.cls] at h
 all_goals rfl
theorem Xp (a:cJ):a.cls=0\/a.cls=1\/a.cls=2\/a.cls=3:=by
 cases a<;>try (simp[cJ.cls];done)
 case call f c b=>cases b<;>simp[cJ.cls]
 case jI f c b=>cases b<;>simp[cJ.cls]
def mj (a:cJ) (W:List Nat) (n j:Nat):Prop:=j∈W\/(a.cls=3/\n<=j)
theorem F5 {a:cJ} {o:Store} {j:Nat} (h:j∈eu call a ρ o bE):j∈wrt a ρ o bE:=by
 unfold eu at h;split at h
 ·split at h;·exact(γD.1 h).1
  ·simp at h
 ·exact h
theorem Xq {a:cJ} {o:Store} {j:Nat} (h:j∈eu call a ρ o bE):j∈dU a ρ o bE:=NI (F5 h)
theorem tj {a:cJ} {o:Store} (h:a.cls=0\/a.cls=1):eu call a ρ o bE=[]:=by
 unfold eu;grind[cJ.cls,Xo]
theorem Xr {a:cJ} {o:Store} (h:a.cls=2):eu call a ρ o bE=wrt a ρ o bE:=by
 unfold eu;grind[cJ.cls]
open Classical in
theorem Xt {fN:cJ} {o o':Store} {v:AV} (he:bK call fN ρ o bE=some (v,o')):
  o.length<=o'.length/\(fN.cls≠3->o'.length=o.length)/\(∀j,¬mj fN (eu call fN ρ o bE) o.length j->o'[j]?=o[j]?)/\
  ∀o2:Store,(∀j∈dU fN ρ o bE,o2[j]?=o[j]?)->(fN.cls=3->o2.length=o.length)->
   ∃rT,bK call fN ρ o2 bE=some (v,rT)/\dU fN ρ o2 bE=dU fN ρ o bE/\eu call fN ρ o2 bE=eu call fN ρ o bE/\∀j,mj fN (eu call fN ρ o bE) o.length j->rT[j]?=o'[j]?:=by
 rcases Xp fN with hc|hc|hc|hc
 ·have:=Xe hc he;subst this;refine⟨φ _,λ_=>rfl,λ_ _=>rfl,λo2 _ _=>⟨o2,?_,by rw[F4 hc,F4 hc],by rw[tj (.inl hc),tj (.inl hc)],λj hj=>?_⟩⟩;·rw[ND hc o' o2,he];rfl
  ·rw[mj,tj (.inl hc)] at hj;simp[hc] at hj
 ·have:=Xl hc he;subst this;refine⟨φ _,λ_=>rfl,λ_ _=>rfl,λo2 h _=>⟨o2,?_,(F3 (call:=call) hc h).2,by rw[tj (.inr hc),tj (.inr hc)],λj hj=>?_⟩⟩;·rw[(F3 hc h).1,he];rfl
  ·rw[mj,tj (.inr hc)] at hj;simp[hc] at hj
 ·simp only[Xr hc];obtain⟨id,x,hid,rfl,hk⟩:=Xm hc he;refine⟨by simp,λ_=>by simp,λj hj=>?_,λo2 h _=>?_⟩
  ·have:j≠id:=λhji=>hj (.inl (hji▸hid));rw[δD (Ne.symm this)]
  ·obtain⟨k1,k2,k3⟩:=hk o2 h;refine⟨_,k1,k2,k3,λj hj=>?_⟩;have hj:j∈wrt fN ρ o bE:=hj.resolve_right (by simp[hc]);have hjo:=h j (NI hj);by_cases hji:id=j
   ·subst hji;have hlen:(id<o2.length)↔(id<o.length):=by
     rcases εY id o2.length with g1|g1<;>rcases εY id o.length with g2|g2;·simp[g1,g2]
     ·rw[ν g1,εL g2] at hjo;cases hjo
     ·rw[ν g2,εL g1] at hjo;cases hjo
     ·omega
    rw[εk,εk];simp only[if_true];by_cases h1:id<o.length;·rw[if_pos h1,if_pos (hlen.2 h1)]
    ·rw[if_neg h1,if_neg λh2=>h1 (hlen.1 h2)]
   ·rw[δD hji,δD hji];exact hjo
 ·have key:∀(f:FuncId) (args:List AV),iI call f args o=some (v,o')->eu call fN ρ o bE=cT o fz args []->dU fN ρ o bE=cT o fz args []->
    (∀o2:Store,bK call fN ρ o2 bE=iI call f args o2/\dU fN ρ o2 bE=cT o2 fz args []/\eu call fN ρ o2 bE=cT o2 fz args [])->
    o.length<=o'.length/\(fN.cls≠3->o'.length=o.length)/\(∀j,¬mj fN (eu call fN ρ o bE) o.length j->o'[j]?=o[j]?)/\
    ∀o2:Store,(∀j∈dU fN ρ o bE,o2[j]?=o[j]?)->(fN.cls=3->o2.length=o.length)->
    ∃rT,bK call fN ρ o2 bE=some (v,rT)/\dU fN ρ o2 bE=dU fN ρ o bE/\eu call fN ρ o2 bE=eu call fN ρ o bE/\∀j,mj fN (eu call fN ρ o bE) o.length j->rT[j]?=o'[j]?:=by
   intro f args hcall hw ht hg;obtain⟨c1,c2,c3⟩:=NH hcall;refine⟨c1,λh=>absurd hc h,λj hj=>?_,λo2 h hl=>?_⟩
   ·simp only[mj,hc,true_and,not_or,Nat.not_le,hw] at hj;exact c2 j hj.2 hj.1
   ·rw[ht] at h;obtain⟨rT,d1,d2,d3⟩:=c3 o2 (hl hc) h;obtain⟨g1,g2,g3⟩:=hg o2;refine⟨rT,by rw[g1,d1],by rw[g2,d2,ht],by rw[g3,d2,hw],λj hj=>d3 j ?_⟩;simp only[mj,hc,true_and,hw] at hj;exact hj
  cases fN<;>try (simp[cJ.cls] at hc;done)
  case call f args own=>
   cases own;·simp[cJ.cls] at hc
   ·simp only[bK,gw,if_true] at he;obtain⟨c1,c2,c3⟩:=NH he;have hw:eu call (.call f args true) ρ o bE=(cT o fz (args.map ρ) []).filter λj=>decide (o'[j]?≠o[j]?):=by simp only[eu,he]
    refine⟨c1,λh=>absurd hc h,λj hj=>?_,λo2 h hl=>?_⟩
    ·simp only[mj,hc,true_and,not_or,Nat.not_le,hw,γD,decide_eq_true_eq,not_and,Classical.not_not,ne_eq] at hj;by_cases hm:j∈cT o fz (args.map ρ) [];·exact hj.1 hm
     ·exact c2 j hj.2 hm
    ·obtain⟨rT,d1,d2,d3⟩:=c3 o2 (hl hc) h;refine⟨rT,by simp only[bK,gw,if_true,d1],d2,?_,λj hj=>?_⟩
     ·rw[hw];simp only[eu,d1,d2];refine List.filter_congr λj hj=>?_;rw[d3 j (.inl hj),h j hj]
     ·rw[mj,hw,γD] at hj;exact d3 j (hj.imp (λh=>h.1) λh=>h.2)
  case jI f args own=>
   cases own;·simp[cJ.cls] at hc
   ·simp only[bK,gw,if_true] at he;split at he
    ·rename_i g first captured hf;exact key g (first++args.map ρ++captured) he (by simp[eu,wrt,hf]) (by simp[dU,hf]) λo2=>⟨by simp[bK,gw,hf],by simp[dU,hf],by simp[eu,wrt,hf]⟩
    ·cases he
theorem F6 {l:List Operand} (h:∀x∈l,mh x=ρ x):l.map mh=l.map ρ:=γV h
theorem Xu {c:cJ} (h:∀x∈c.kz,mh x=ρ x) (o:Store):bK call c mh o bE=bK call c ρ o bE/\dU c mh o bE=dU c ρ o bE/\eu call c mh o bE=eu call c ρ o bE:=by
 cases c;case build z i=>
  have:(i.map λp=>(p.1,p.2.1,mh p.2.2))=i.map λp=>(p.1,p.2.1,ρ p.2.2):=γV λp r=>by grind[cJ.kz]
  simp only[bK,dU,eu,wrt,this,and_self]
 case o9 z n i e l=>
  have:(i.map λp=>(p.1,l,mh p.2))=i.map λp=>(p.1,l,ρ p.2):=γV λp r=>by grind[cJ.kz]
  simp only[bK,dU,eu,wrt,this,and_self]
 case sU z n i e l=>
  have:(i.map λp=>(p.1,l,mh p.2))=i.map λp=>(p.1,l,ρ p.2):=γV λp r=>by grind[cJ.kz]
  simp only[bK,dU,eu,wrt,this,and_self]
 case call f d k=>
  have:=F6 h;simp only[cJ.kz] at this;cases k<;>simp only[bK,dU,eu,wrt,this,and_self]
 case jI f d k=>
  have m:d.map mh=d.map ρ:=F6 λx u=>h x (by grind[cJ.kz]);have q:=h f (by simp[cJ.kz]);cases k<;>simp only[bK,dU,eu,wrt,m,q,and_self]
 case ot s x d=>
  simp_all[F6,cJ.kz,bK,dU,eu,wrt]
 case sV f a b=>
  simp_all[cJ.kz,bK,dU,eu,wrt]
 case slice l x g j=>
  have m:g.map mh=g.map ρ:=by cases g<;>simp[cJ.kz] at h ⊢;exact h.2.1
  have q:j.map mh=j.map ρ:=by cases j<;>simp[cJ.kz] at h ⊢;simp_all
  simp_all[cJ.kz,bK,dU,eu,wrt]
 case uF x g j=>
  have m:g.map mh=g.map ρ:=by cases g<;>simp[cJ.kz] at h ⊢;exact h.2.1
  have q:j.map mh=j.map ρ:=by cases j<;>simp[cJ.kz] at h ⊢;simp_all
  simp_all[cJ.kz,bK,dU,eu,wrt]
 case slice3 l x g j t=>
  have m:g.map mh=g.map ρ:=by
   cases g with
   |none=>rfl;|some a=>simp_all[cJ.kz]
  simp_all[cJ.kz,bK,dU,eu,wrt]
 all_goals
  simp only[cJ.kz,List.mem_cons,δr,or_false,forall_eq_or_imp,forall_eq] at h;simp[bK,dU,eu,wrt,h]
end
section
variable {call:dh} {base:Nat}
noncomputable def entry (call:dh) (base:Nat) (i:dy) (st:St):List Nat×List Nat:=
 match mf st.env i.guard with
 |some true=>(dU i.op (eF st.env) st.o (base+i.bE),eu call i.op (eF st.env) st.o (base+i.bE))
 |_=>([],[])
theorem Xv {i:dy} {st:St} {j:Nat} (h:j∈(entry call base i st).2):j∈(entry call base i st).1:=by
 grind[entry,Xq]
theorem NJ {i:dy} {e a:js} (h:∀s∈i.reads,dL a s=dL e s):(∀x∈i.op.kz,eF a x=eF e x)/\mf a i.guard=mf e i.guard:=by
 constructor
 ·intro x b;cases x with
  |tmp t=>
   refine h t ?_;simp only[dy.reads,γh];left;exact List.mem_filterMap.2 ⟨.tmp t,b,rfl⟩;|_=>rfl
 ·unfold mf;grind[dy.reads]
theorem wY {i:dy} {st st':St} (a:iq call base i st=some st'):
  ∃v,(∀s,dL st'.env s=if i.dst=some s then v else dL st.env s)/\st.o.length<=st'.o.length/\(i.op.cls≠3->st'.o.length=st.o.length)/\
   (∀j,¬mj i.op (entry call base i st).2 st.o.length j->st'.o[j]?=st.o[j]?)/\
   ∀st2:St,(∀s∈i.reads,dL st2.env s=dL st.env s)->(∀j∈(entry call base i st).1,st2.o[j]?=st.o[j]?)->(i.op.cls=3->st2.o.length=st.o.length)->
    ∃b,iq call base i st2=some b/\(∀s,dL b.env s=if i.dst=some s then v else dL st2.env s)/\entry call base i st2=entry call base i st/\
     ∀j,mj i.op (entry call base i st).2 st.o.length j->b.o[j]?=st'.o[j]?:=by
 unfold iq at a;split at a;·cases a
 ·rename_i n;injection a with a;subst a;refine⟨.bJ [],λs=>uW _ _ _ _,φ _,λ_=>rfl,λ_ _=>rfl,λst2 c _ k=>?_⟩;obtain⟨h,t⟩:=NJ c;refine⟨⟨oq st2.env i.dst (.bJ []),st2.o⟩,?_,λs=>uW _ _ _ _,?_,λj w=>?_⟩;all_goals simp_all[iq,entry,mj]
 ·rename_i n;split at a
  ·rename_i v y c;injection a with a;subst a;rw[yP] at c;obtain⟨r,l,m,p⟩:=Xt c;have e:entry call base i st=(dU i.op (eF st.env) st.o (base+i.bE),eu call i.op (eF st.env) st.o (base+i.bE)):=by grind[entry]
   rw[e];refine⟨v,λs=>uW _ _ _ _,r,l,m,λst2 f d k=>?_⟩;obtain⟨h,t⟩:=NJ f;obtain⟨g,z,x,B,q⟩:=p st2.o d k;obtain⟨C,A,u⟩:=Xu (call:=call) (bE:=base+i.bE) h st2.o;refine⟨⟨oq st2.env i.dst v,g⟩,?_,λs=>uW _ _ _ _,?_,q⟩<;>grind[oq,uW,iq,yP,entry]
  ·cases a
def jX (a b:St):Prop:=(∀s,dL a.env s=dL b.env s)/\a.o=b.o
theorem jX.refl (a:St):jX a a:=⟨λ_=>rfl,rfl⟩
theorem jX.trans {a b c:St} (h:jX a b) (k:jX b c):jX a c:=⟨λs=>(h.1 s).trans (k.1 s),h.2.trans k.2⟩
theorem jX.symm {a b:St} (h:jX a b):jX b a:=⟨λs=>(h.1 s).symm,h.2.symm⟩
theorem jX.run {i:dy} {a b l:St} (h:jX a b) (e:iq call base i a=some l):∃k,iq call base i b=some k/\jX l k/\entry call base i b=entry call base i a:=by
 have j:eF b.env=eF a.env:=by
  funext x;cases x with
  |tmp t=>exact(h.1 t).symm;|_=>rfl
 have o:mf b.env i.guard=mf a.env i.guard:=by
  cases p:i.guard with
  |none=>rfl;|some g=>
   obtain⟨c,d⟩:=g;cases c with
   |none=>rfl;|some s=>simp only[mf];rw[h.1]
 have f:∀(v:AV) (s:Nat),dL (oq a.env i.dst v) s=dL (oq b.env i.dst v) s:=by
  intro v s;simp only[uW];by_cases m:i.dst=some s;·simp_all
  ·rw[if_neg m,if_neg m];exact h.1 s
 have n:entry call base i b=entry call base i a:=by unfold entry;rw[o,j,h.2]
 unfold iq at e ⊢;rw[o,j,<-h.2];split at e;·cases e
 ·injection e with e;subst e;exact⟨_,rfl,⟨f _,rfl⟩,n⟩
 ·split at e
  ·injection e with e;subst e;exact⟨_,rfl,⟨f _,rfl⟩,n⟩
  ·cases e
def y7 (n0:Nat) (y:dy) (a:List Nat×List Nat) (x:dy) (b:List Nat×List Nat):Prop:=
 yS y x=true/\(∀j∈a.2,j∉b.1)/\(∀j∈b.2,j∉a.1)/\(y.op.cls=3->x.op.cls≠3/\∀j∈b.1,j<n0)/\(x.op.cls=3->∀j∈a.1,j<n0)
theorem Xw {y x:dy} (h:yS y x=true):(∀d,y.dst=some d->d∉x.reads)/\(∀d,x.dst=some d->d∉y.reads)/\∀d,y.dst=some d->x.dst≠some d:=by
 grind[yS,Fp]
theorem swap {n0:Nat} {y x:dy} {st c s2:St} (k:iq call base y st=some c) (n:iq call base x c=some s2) (P:n0<=st.o.length) (D:y7 n0 y (entry call base y st) x (entry call base x c)):
  ∃a b,iq call base x st=some a/\iq call base y a=some b/\jX s2 b/\entry call base x st=entry call base x c/\entry call base y a=entry call base y st:=by
 obtain⟨d,Z,O,H,Q⟩:=D;obtain⟨a1,K,U⟩:=Xw d;obtain⟨G,A,y2,S,C,F⟩:=wY k;obtain⟨L,q,V,T,X,l⟩:=wY n;obtain⟨a,h,u,f,p4⟩:=l st (λs i=>by
   grind) (λj m=>by
   rw[C j];rintro(z|⟨e,B⟩)<;>grind) (λe=>by
   omega);obtain⟨E,J,W,I,r,_⟩:=wY h;obtain⟨b,g,w,p,R⟩:=F a (λs i=>by
   grind) (λj m=>by
   rw[r j];rw[f];rintro(z|⟨e,B⟩)<;>grind) (λe=>by
   omega);obtain⟨t,b1,M,Y,N,_⟩:=wY g;refine⟨a,b,h,g,⟨λs=>?_,?_⟩,f.symm▸rfl,p⟩
 ·rw[q s,w s,u s,A s];grind
 ·apply δc;intro j;by_cases v:mj x.op (entry call base x c).2 c.o.length j;·
   grind[mj,Xv]
  grind[mj]
noncomputable def ents (call:dh) (base:Nat):List dy->St->List (List Nat×List Nat)
 |[],_=>[]
 |i::r,b=>entry call base i b::match iq call base i b with
  |some a=>ents call base r a
  |none=>[]
theorem jX.runs {l:List dy}:∀{a b d:St},jX a b->fR call base l a=some d->∃e,fR call base l b=some e/\jX d e/\ents call base l b=ents call base l a:=by
 induction l with
 |nil=>intro a b d h c;simp only[fR,γ] at c;subst c;exact⟨b,rfl,h,rfl⟩;|cons i l o=>
  intro a b d h c;simp only[fR] at c;split at c
  ·rename_i k f;obtain⟨j,m,g,n⟩:=h.run f;grind[fR,ents]
  ·cases c
theorem front {n0:Nat} {x:dy} {b:List dy}:∀(a:List dy) {st s:St},fR call base (a++x::b) st=some s->n0<=st.o.length->
  (∀(k:Nat) (y:dy) (p f:List Nat×List Nat),a[k]?=some y->(ents call base (a++x::b) st)[k]?=some p->(ents call base (a++x::b) st)[a.length]?=some f->y7 n0 y p x f)->
  ∃g s',iq call base x st=some g/\fR call base (a++b) g=some s'/\jX s s'/\(ents call base (a++x::b) st)[a.length]?=some (entry call base x st)/\
   ents call base (a++b) g=(ents call base (a++x::b) st).eraseIdx a.length
 |[],st,s,d,_,_=>by
  grind[fR,jX.refl,ents];|y::a,st,s,d,n,m=>by
  simp only[γy,fR] at d;split at d
  ·rename_i l i;have c:ents call base (y::(a++x::b)) st=entry call base y st::ents call base (a++x::b) l:=by simp[ents,i]
   obtain⟨_,_,h,_⟩:=wY i;obtain⟨g,s',r,v,C,M,I⟩:=front a d (Nat.le_trans n h) λk z u f t K L=>m (k+1) z u f (by simpa using t) (by simp_all) (by simp_all);have e:y7 n0 y (entry call base y st) x (entry call base x l):=m 0 y _ _ (by simp) (by simp[c]) (by simp_all);obtain⟨B,H,w,F,A,D,J⟩:=swap i r n e;obtain⟨j,G,q,E⟩:=A.runs v;refine⟨B,j,w,?_,C.trans q,?_,?_⟩<;>grind[fR,ents]
  ·cases d
end
theorem Xx {acc:List Nat} {l:List Edge} {m:Nat}:∀{s:Nat},(l.foldl (Bq acc) s).testBit m=true->s.testBit m=true\/∃e∈l,Region.binds .any e=true/\(m=e.on\/(acc.getD e.on 0).testBit m=true):=by
 induction l with
 |nil=>simp_all;|cons e l b=>
  intro s h;simp only[List.foldl_cons] at h;rcases b h with a|⟨d,f,a,c⟩
  ·unfold Bq at a;grind
  grind
def y8 (acc:List Nat) (o:Oper):Nat:=o.after.toList.foldl (Bq acc) 0
theorem NK:∀(L:List Oper) (acc:List Nat),∃r,L.foldl (λacc o=>acc++[y8 acc o]) acc=acc++r/\r.length=L.length/\
  ∀(k:Nat) (o:Oper),L[k]?=some o->r[k]?=some (y8 (acc++r.take k) o)
 |[],acc=>⟨[],by simp,rfl,by simp⟩
 |o::L,acc=>by
  obtain⟨r,b,a,d⟩:=NK L (acc++[y8 acc o]);refine⟨y8 acc o::r,by simp[b],by simp[a],λk e c=>?_⟩;cases k<;>simp_all
theorem Xy {a:Array Oper} {k m:Nat} {o:Oper} (p:a[k]?=some o) (h:((oD a).getD k 0).testBit m=true):
  ∃e∈o.after,Region.binds .any e=true/\(m=e.on\/((oD a).getD e.on 0).testBit m=true):=by
 obtain⟨r,j,n,g⟩:=NK a.toList [];have c:oD a=r:=by
  grind[oD,y8]
 rw[c] at h ⊢;have d:=g k o (by simp_all);rw[εW,d] at h;simp only[Option.getD_some,List.nil_append] at h;rcases Xx h with f|⟨e,l,i,b⟩;·simp at f
 ·refine⟨e,by simp_all,i,b.imp_right λb=>?_⟩;rw[εW] at b ⊢;rw[List.getElem?_take] at b;grind
theorem NL:∀(L:List Oper) (i:Nat),wB i L=true->∀(k:Nat) (o:Oper),L[k]?=some o->∀e∈o.after,Region.binds .any e=true->e.on<i+k
 |[],i,_,k,o,a,_,_,_=>by simp at a;|o::L,i,h,k,c,a,e,d,b=>by
  simp only[wB,ζ,κ] at h;cases k with
  |zero=>
   grind;|succ k=>
   have:=NL L (i+1) h.2 k c (by simp_all) e d b;omega
theorem NM {c:List Nat}:∀{l:List dy},wF c l=true->∀(p q:Nat) (y x:dy),p<q->l[p]?=some y->l[q]?=some x->
  (c.getD x.idx 0).testBit y.idx=true\/(yS y x=true/\(wA y x=true\/Bm y x=true))
 |[],_,p,q,y,x,_,e,_=>by simp at e;|a::r,h,p,q,y,x,b,e,d=>by
  simp only[wF,ζ,κ] at h;match q,b with
  |q+1,b=>
   simp only[γz] at d;cases p with
   |zero=>
    grind;|succ p=>exact NM h.2 p q y x (by omega) (by simp_all) d
theorem NN {d:List Nat}:∀{l:List dy} (p q:Nat) (y x:dy),p<q->l[p]?=some y->l[q]?=some x->¬(d.getD x.idx 0).testBit y.idx=true->wA y x=false->(y.idx,x.idx)∈qX d l
 |[],p,q,y,x,_,c,_,_,_=>by simp at c;|a::r,p,q,y,x,b,c,e,g,f=>by
  simp only[qX,γh];match q,b with
  |q+1,b=>
   simp only[γz] at e;cases p with
   |zero=>
    grind;|succ p=>exact .inr (NN p q y x (by omega) (by simp_all) e g f)
section
variable {P:Program} {A:dQ} {D:List Deferred} {call:dh} {base:Nat}
theorem F7:∀{l:List dy} {st:St} {p:Nat} {x:dy} {t:List Nat×List Nat},l[p]?=some x->(ents call base l st)[p]?=some t->∃st',t=entry call base x st'
 |[],st,p,x,t,b,_=>by simp at b;|i::l,st,p,x,t,b,a=>by
  simp only[ents] at a;cases p with
  |zero=>grind;|succ p=>
   simp only[γz] at b a;split at a;·exact F7 b a
   ·simp at a
theorem F8:∀{l:List dy} {st s:St} {p:Nat} {x:dy} {t:List Nat×List Nat},fR call base l st=some s->(l.map (·.idx)).Nodup->l[p]?=some x->(ents call base l st)[p]?=some t->qc (mg call base l st) x.idx=t
 |[],st,s,p,x,t,_,_,a,_=>by simp at a;|i::l,st,s,p,x,t,b,g,a,d=>by
  simp only[fR] at b;split at b
  ·rename_i j k;simp only[ξ,γU] at g;have e:mg call base (i::l) st=(i.idx,entry call base i st)::mg call base l j:=by
    grind[mg,entry]
   rw[e];simp only[ents,k] at d;cases p with
   |zero=>grind[qc];|succ p=>
    simp only[γz] at a d;have c:i.idx≠x.idx:=λh=>g.1 (h▸List.mem_map_of_mem (f:=λi:dy=>i.idx) (γt a));simp only[qc,beq_iff_eq,c,if_false];exact F8 b g.2 a d
  ·cases b
theorem NP {i:dy} {st:St} (h:i.op.cls=0):entry call base i st=([],[]):=by
 grind[entry,F4,tj]
theorem NQ {i:dy} {st:St} (h:i.op.cls=1):(entry call base i st).2=[]:=by
 grind[entry,tj]
theorem NR {a b:List Nat} (h:wz a b=true):∀j∈a,j∉b:=by
 intro j c d;have:=κ.1 h j c;simp_all
theorem Xz {n0:Nat} {c:List Nat} {l:List dy} {st s:St} (z:fR call base l st=some s) (A:(l.map (·.idx)).Nodup) (r:wF c l=true)
  (b:((qX c l).isEmpty||sX n0 (mg call base l st) (qX c l))=true) {p q:Nat} {y x:dy} {E D:List Nat×List Nat} (e:p<q) (i:l[p]?=some y) (j:l[q]?=some x)
  (d:(ents call base l st)[p]?=some E) (f:(ents call base l st)[q]?=some D):(c.getD x.idx 0).testBit y.idx=true\/y7 n0 y E x D:=by
 rcases NM r p q y x e i j with h|⟨g,I⟩;·exact .inl h
 by_cases u:(c.getD x.idx 0).testBit y.idx=true;·exact .inl u
 right;obtain⟨v,m⟩:=F7 i d;obtain⟨C,k⟩:=F7 j f;cases a:wA y x with
 |true=>
  unfold wA at a;simp only[Bool.or_eq_true,ζ,beq_iff_eq] at a;rcases a with(a|a)|⟨a,n⟩
  ·have:=NP (call:=call) (base:=base) (st:=v) a;rw[this] at m;subst m;exact⟨g,by simp,by simp,λh=>(by omega),by simp⟩
  ·have:=NP (call:=call) (base:=base) (st:=C) a;rw[this] at k;subst k;exact⟨g,by simp,by simp,λ_=>⟨by rw[a];decide,by simp⟩,λh=>(by omega)⟩
  ·have B:=NQ (call:=call) (base:=base) (st:=v) a;have w:=NQ (call:=call) (base:=base) (st:=C) n;rw[<-m] at B;rw[<-k] at w;exact⟨g,by simp[B],by simp[w],λh=>(by omega),λh=>(by omega)⟩;|false=>
  have M:Bm y x=true:=I.resolve_left (by simp[a]);have J:=NN p q y x e i j u a;have o:(qX c l).isEmpty=false:=by
   grind
  rw[o,Bool.false_or] at b;have t:=κ.1 b _ J;simp only[F8 z A i d,F8 z A j f,ζ,κ,decide_eq_true_eq] at t;obtain⟨⟨⟨F,K⟩,H⟩,G⟩:=t;refine⟨g,NR F,NR K,λL=>⟨λN=>?_,G⟩,λ_=>H⟩;grind[Bm]
theorem cY.eq {e:Nat} {f:World} {b:bY} {d:Store} {st st':St} {a:Act} {w:World} {σ:bY} (h:cY A e D f b d st a w σ) (c:jX st st'):cY A e D f b d st' a w σ where
 fh:=c.2▸h.fh;env:=λs=>by rw[<-c.1 s,<-c.2];exact h.env s
 size:=h.size;defers:=h.defers;ext:=c.2▸h.ext
theorem cY.drew {e:Nat} {f:World} {b:bY} {d:Store} {st:St} {a:Act} {w:World} {σ:bY} (h:cY A e D f b d st a w σ):cY A e D f b d st a {w with drawn:=w.drawn+1} σ:=by
 have c:Ext w σ st.o {w with drawn:=w.drawn+1} σ st.o:=⟨φ _,λ_ _ h=>⟨rfl,h⟩,φ _,λ_ _ h=>⟨h,λ_ h=>⟨h,rfl⟩⟩,λ_ h=>⟨h,rfl⟩,rfl,rfl,rfl⟩;exact⟨⟨h.fh.len,h.fh.dist,h.fh.bnd,λi x g=>(h.fh.obj i x g).ext c rfl λ_ _ _=>rfl,h.fh.av,h.fh.jV⟩,λs=>(h.env s).ext c,h.size,h.defers,h.ext.trans c⟩
theorem XA {c:Type} (b a:List c) (x:c):b++a=(b++x::a).eraseIdx b.length:=by
 grind
structure F9 (P:Program) (nt:Nat) (fl:List Nat) (ops:Array Oper) (call:dh) (base n0:Nat) (st2:St) (l:List dy) (listed:Array Bool) (st:St):Prop where
 run:∃s,fR call base l st=some s/\jX st2 s
 len:n0<=st.o.length
 rel:∀(p q:Nat) (y x:dy) (ty tx:List Nat×List Nat),p<q->l[p]?=some y->l[q]?=some x->(ents call base l st)[p]?=some ty->(ents call base l st)[q]?=some tx->((oD ops).getD x.idx 0).testBit y.idx=true\/y7 n0 y ty x tx
 comp:∀x∈l,∃bE,qW P nt fl ops bE x.idx=some x
 nodup:(l.map (·.idx)).Nodup
 sz:listed.size=ops.size
 bH:∀k,k<ops.size->(listed.getD k true=false↔∃x∈l,x.idx=k)
 closed:∀k m,listed.getD k false=true->((oD ops).getD k 0).testBit m=true->listed.getD m false=true
theorem getD_lt {c:Array Bool} {k:Nat} (h:k<c.size) (a b:Bool):c.getD k a=c.getD k b:=by
 simp_all
theorem XB {M:Nat} {fl:List Nat} {c:Array Oper} (K:pr P call) (a5:wB 0 c.toList=true) {n0:Nat} {st2:St} {w0:World} {L:bY} {o0:Store} {Q:Exit->Act->World->Prop}
  (hQ:∀Y w' F,cY A M D w0 L o0 st2 Y w' F->Q .normal Y w') {di:Option Nat}:∀(h:Nat) (l:List dy) (b:Array Bool) (st:St) (a:Act) (w:World) (σ:bY),l.length<=h->
   F9 P M fl c call base n0 st2 l b st->cY A M D w0 L o0 st a w σ->wpAnyIn (FR di) 0 P .any c Q h b a w:=by
 have C:∀(b:Array Bool) (st:St) (a:Act) (w:World) (σ:bY),F9 P M fl c call base n0 st2 [] b st->cY A M D w0 L o0 st a w σ->Q .normal a w:=by
  intro b st a w σ d O;obtain⟨s,n,h2⟩:=d.run;simp only[fR,γ] at n;subst n;exact hQ _ _ _ (O.eq h2.symm)
 have H:∀(l:List dy) (b:Array Bool) (st:St),F9 P M fl c call base n0 st2 l b st->∀(k:Nat),(∃x∈l,x.idx=k)->Region.ready .any c b≠[]:=by
  intro l b st d k;induction k using ζr with
  |_ k ih=>
   rintro⟨x,G,rfl⟩;obtain⟨V,X⟩:=d.comp x G;cases I:c[x.idx]? with
   |none=>grind[qW];|some o=>
    have j:x.idx<c.size:=(γR.1 I).1;by_cases i:∀e∈o.after,Region.binds .any e=true->b.getD e.on false=true
    ·intro u;have:x.idx∈Region.ready .any c b:=mem_ready.2 ⟨(d.bH _ j).2 ⟨x,G,rfl⟩,o,I,i⟩;simp_all
    ·simp only[Classical.not_forall] at i;obtain⟨e,he,hb,hn⟩:=i;have N:=NL c.toList 0 a5 x.idx o (by simp_all) e he hb;simp only[Nat.zero_add] at N;refine ih e.on N ((d.bH e.on (by omega)).1 ?_);rw[getD_lt (by rw[d.sz];omega) true false];simp_all
 intro h;induction h with
 |zero=>
  intro l b st a w σ hl d O;have:l=[]:=Φ (by omega);subst this;refine⟨?_,C b st a w σ d O⟩;rw[List.eq_nil_iff_forall_not_mem];intro k j;obtain⟨h0,o,I,_⟩:=mem_ready.1 j;obtain⟨x,G,_⟩:=(d.bH k (γR.1 I).1).1 h0;simp at G;|succ h ih=>
  intro l b st a w σ hl d O;refine⟨λu=>?_,λk j=>?_⟩;·cases l with
   |nil=>grind;|cons x l=>exact absurd u (H _ b st d x.idx ⟨x,by simp,rfl⟩)
  ·obtain⟨h0,o,I,i⟩:=mem_ready.1 j;have a2:k<c.size:=(γR.1 I).1;obtain⟨x,G,rfl⟩:=(d.bH k a2).1 h0;obtain⟨f,g,rfl⟩:=List.append_of_mem G;obtain⟨s,R,S⟩:=d.run;have T:∀m,((oD c).getD x.idx 0).testBit m=true->b.getD m false=true:=by
    intro m hm;obtain⟨e,he,hb,n⟩:=Xy I hm;rcases n with rfl|n;·simp_all
    ·exact d.closed _ _ (i e he hb) n
   obtain⟨s1,s',f1,f2,f3,f4,f5⟩:=front (n0:=n0) f R d.len λp y W tx hp n h2=>by
    have a0:p<f.length:=(θ.1 hp).1;have J:(f++x::g)[p]?=some y:=by grind
    rcases d.rel p f.length y x W tx a0 J (by simp) n h2 with Z|Z
    ·exfalso;have h4:=T _ Z;obtain⟨V,X⟩:=d.comp y (γt J);cases U:c[y.idx]? with
     |none=>simp[qW,U] at X;|some oy=>
      have a6:y.idx<c.size:=(γR.1 U).1;have h5:=(d.bH _ a6).2 ⟨y,γt J,rfl⟩;grind
    ·exact Z
   obtain⟨V,X⟩:=d.comp x G;refine NB K X f1 O λY w' F a4=>?_;have a8:=d.nodup;have a7:=XA f g x;have v:∀(p:Nat) (y:dy),(f++g)[p]?=some y->(f++x::g)[if p<f.length then p else p+1]?=some y:=by
    grind
   have B:∀(p:Nat) (t:List Nat×List Nat),(ents call base (f++g) s1)[p]?=some t->(ents call base (f++x::g) st)[if p<f.length then p else p+1]?=some t:=by
    grind
   obtain⟨_,_,E,_⟩:=wY f1;refine ih (f++g) _ s1 Y w' F (by grind) ⟨⟨s',f2,S.trans f3⟩,Nat.le_trans d.len E,λp q y z W tz a9 hy hz a1 a3=>?_,λy hy=>d.comp y ?_,?_,by simp[d.sz],λk j=>?_,λk m j hm=>?_⟩ a4
   ·refine d.rel _ _ y z W tz ?_ (v p y hy) (v q z hz) (B p W a1) (B q tz a3);split<;>split<;>omega
   ·grind
   ·grind
   ·by_cases r:k=x.idx
    ·subst r;have n:(b.setIfInBounds x.idx true).getD x.idx true=true:=by simp
     grind
    ·rw[getD_set_ne true (Ne.symm r),d.bH k j];grind
   ·by_cases r:k=x.idx;·grind[getD_set_true]
    ·rw[getD_set_ne false (Ne.symm r)] at j;exact getD_set_true (d.closed k m j hm)
theorem NS:∀{l:List Nat},nodupB l=true->l.Nodup
 |[],_=>List.nodup_nil
 |a::r,h=>by
  simp only[nodupB,ζ,Bool.not_eq_true',List.contains_eq_mem,decide_eq_false_iff_not] at h;exact γU.2 ⟨h.1,NS h.2⟩
theorem XC {b:Nat} {fl:List Nat} {a:Array Oper} {bE k:Nat} {x:dy} (h:qW P b fl a bE k=some x):x.idx=k/\k<a.size:=by
 unfold qW at h;split at h;·cases h
 ·rename_i o d;split at h
  ·obtain⟨c,_,rfl⟩:=ε.1 h;grind
  ·cases h
theorem XD (g:pr P call) {s:Nat} {fl:List Nat} {d:Array Oper} {id k:Nat} {c:List Nat} {l:List dy} (S:uL P s fl d 0 c=some (l,k)) (h:P.follows .mixedOrders=true)
  (C:c.length=d.size) (L:nodupB c=true) (M:wF (oD d) l=true) (u:wB 0 d.toList=true) (r:(ψ d.size).all c.contains=true)
  {b st2:St} (T:fR call b.o.length l ⟨b.env,b.o++fS k⟩=some st2)
  (G:((qX (oD d) l).isEmpty||sX (b.o++fS k).length (mg call b.o.length l ⟨b.env,b.o++fS k⟩) (qX (oD d) l))=true)
  {I:World} {n:bY} {F:Store} {a:Act} {w:World} {σ:bY} {Q:Exit->Act->World->Prop} (O:cY A s D I n F ⟨b.env,b.o++fS k⟩ a w σ) (K:∀B w' t,cY A s D I n F st2 B w' t->Q .normal B w') {di:Option Nat}:(Code.region id d true).wpIn (FR di) 0 P Q a w:=by
 obtain⟨Z,W⟩:=F2 S;have E:l.map (·.idx)=c:=by
  apply δc;intro j;rw[List.getElem?_map];cases f:l[j]? with
  |none=>
   simp_all;|some x=>
   have v:=(θ.1 f).1;have z:=ν (l:=c) (i:=j) (by omega);obtain⟨X,V⟩:=W j x _ f z;rw[z];simp[(XC V).1]
 have e:(l.map (·.idx)).Nodup:=by grind[NS]
 refine wpIn_region_any h (XB (fl:=fl) (base:=b.o.length) (n0:=(b.o++fS k).length) g u K d.size l _ ⟨b.env,b.o++fS k⟩ a _ σ (by omega) ⟨⟨st2,T,jX.refl _⟩,φ _,λp q y x ty tx R Y H N U=>?_,λx H=>?_,e,by simp,λj f=>?_,λj m f=>?_⟩ O.drew);·grind[Xz]
 ·obtain⟨j,f⟩:=List.getElem?_of_mem H;have v:=(θ.1 f).1;have z:=ν (l:=c) (i:=j) (by omega);grind
 ·have J:(εc d.size false).getD j true=false:=by simp[f]
  rw[J];refine⟨λ_=>?_,λ_=>rfl⟩;have:=κ.1 r j (List.mem_range.2 f);grind
 ·exfalso;rw[Array.getD_eq_getD_getElem?,Array.getElem?_replicate] at f;grind
end
section
variable {P:Program} {A:dQ} {D:List Deferred} {w w':World} {σ σ':bY} {o o':Store}
theorem bV.fresh (i:bV A w σ o) (e:TypeId) (sz:Nat) (pu:Bool):∃a,bV A w a (o++[.cells [] e sz pu])/\Ext w σ o w a (o++[.cells [] e sz pu])/\a[o.length]?=some none:=by
 obtain⟨k,j⟩:=i.fS 1;have b:(o++Go.Vi.fS 1)[o.length]?=some .dead:=by simp[Go.Vi.fS]
 have c:(o++Go.Vi.fS 1).set o.length (.cells [] e sz pu)=o++[.cells [] e sz pu]:=by
  grind[Go.Vi.fS]
 have f:o.length<(σ++List.replicate 1 none).length:=by simp[i.len]
 obtain⟨d,g⟩:=k.upd (w':=w) (x':=.cells [] e sz pu) (s':=none) b (φ _) rfl rfl rfl (λ_ _ _=>rfl) (λ_ _ h=>by cases h) trivial (λl=>by
  simp only[dD];exact⟨λ_=>rfl,rfl,.inl ⟨by simp_all,trivial⟩⟩);rw[c] at d g;exact⟨_,d,j.trans g,by simp_all⟩
theorem NT {n:Nat} {e:TypeId} {sz:Nat} {pu:Bool} (c:o[n]?=some (.cells [] e sz pu)) (a:σ[n]?=some none):bw A w σ o (.os n 0 0 0) (.slice none 0 0):=by
 simp only[bw];refine⟨⟨[],e,sz,pu,c,φ _⟩,none,0,rfl,φ _,λb _=>?_⟩;grind[kA]
theorem cY.XE {t:Nat} {r:World} {g:bY} {p:Store} {st:St} {a:Act} (h:cY A t D r g p st a w σ) (id:Nat):∃i,cY A t D r g p (Bi id st) a w i:=by
 unfold Bi;split
 ·rename_i E e L k;have n:id<st.o.length:=(θ.1 k).1;have d:id<σ.length:=by rw[h.fh.len];exact n
  obtain⟨x,q⟩:=h.fh.upd (w':=w) (x':=.cells E e L false) (s':=σ[id]) k (φ _) rfl rfl rfl (λ_ _ _=>rfl)
   (λb c N=> .inl ⟨c,by simp_all⟩) ⟨_,e,false,rfl,by simp,λ_=>ν d⟩ (λK=>by
    have f:=h.fh.obj id _ k;simp only[dD] at f ⊢;obtain⟨P,H,I⟩:=f;refine⟨λG=>(by cases G),H,?_⟩;rcases I with⟨O,R⟩|⟨b,l,m,Q,J,u,y,F,M⟩;·simp_all
    ·refine .inr ⟨b,l,m,?_,J,u,y,F,λj c C=>?_⟩;·simp_all
     ·obtain⟨v,z,B⟩:=M j c C;exact⟨v,z,B.ext K⟩);exact⟨_,x,λs=>(h.env s).ext q,h.size,h.defers,h.ext.trans q⟩
 grind
theorem cY.XF {M:Nat} {P:World} {u:bY} {U:Store} {st:St} {a:Act} (h:cY A M D P u U st a w σ) (x:ky):∃C,cY A M D P u U (Bj x st) a w C:=by
 obtain⟨f,I,z,V⟩:=h.fh.fresh x.e x.sz x.pu;have r:(st.o++[bR.cells [] x.e x.sz x.pu])[st.o.length]?=some (.cells [] x.e x.sz x.pu):=by simp
 unfold Bj;split
 ·split
  ·rename_i N;refine⟨f,I,λs=>?_,h.size,h.defers,h.ext.trans z⟩;simp only[dL];cases X:δu x.slot s with
   |true=>
    have:=εK X;subst this;have:=h.env x.slot;grind[gX,NT];|false=>exact(h.env s).ext z
  ·split;·exact h.XE _
   grind
  grind
 ·rename_i k _;split
  ·rename_i i d a1 N;split
   ·rename_i p e y pu ho;split
    ·rename_i R;split
     ·rename_i g;obtain⟨L,rfl⟩:=g;have a0:i<st.o.length:=(θ.1 ho).1;have l:i<f.length:=by grind
      have n:(st.o++[bR.cells [] x.e x.sz x.pu])[i]?=some (.cells p e y false):=by grind
      have Z:d+k<p.length:=(θ.1 R).1;obtain⟨O,G⟩:=I.upd (w':=w) (x':=.cells (p.set (d+k) (.os st.o.length 0 0 0)) e y false) (s':=f[i]) n (φ _) rfl rfl rfl (λ_ _ _=>rfl)
       (λb c N=> .inl ⟨c,by simp_all⟩) ⟨_,e,false,rfl,by simp,λ_=>ν l⟩ (λS=>by
        have t:=I.obj i _ n;simp only[dD] at t ⊢;obtain⟨q1,q2,q3⟩:=t;refine⟨λh=>(by cases h),?_,?_⟩
        ·refine mN.2 λc H=>?_;rcases List.mem_or_eq_of_mem_set H with T|T;·grind[mN]
         ·subst T;rfl
        ·rcases q3 with⟨_,h0⟩|⟨b,K,B,r1,W,r3,Y,r5,Q⟩;·simp_all
         ·refine .inr ⟨b,K,B,?_,W,r3,Y,by simp_all,λj c m=>?_⟩;·simp_all
          ·rw[εk] at m;split at m
           ·rename_i J;subst J;injection m with m;subst m;obtain⟨v,E,F⟩:=Q _ _ R;refine⟨v,E,?_⟩;rw[gX F];exact(NT r V).ext S
           ·obtain⟨v,E,F⟩:=Q j c m;exact⟨v,E,F.ext S⟩);have q:(st.o++[bR.cells [] x.e x.sz x.pu]).set i (.cells (p.set (d+k) (.os st.o.length 0 0 0)) e y false)=(st.o.set i (.cells (p.set (d+k) (.os st.o.length 0 0 0)) e y false))++[bR.cells [] x.e x.sz x.pu]:=by
       simp_all
      rw[q] at O G;exact⟨_,O,λs=>((h.env s).ext z).ext G,h.size,h.defers,(h.ext.trans z).trans G⟩
     grind
    grind
   grind
  grind
theorem cY.XG {t:Nat} {r:World} {f:bY} {p:Store} {st:St} {a:Act} (h:cY A t D r f p st a w σ) (id:Nat):∃i,cY A t D r f p (yQ id st) a w i:=by
 unfold yQ;split
 ·rename_i G e x k;split
  ·rename_i E;have n:id<st.o.length:=(θ.1 k).1;have d:id<σ.length:=by rw[h.fh.len];exact n
   obtain⟨y,q⟩:=h.fh.upd (w':=w) (x':=.cells G e x true) (s':=σ[id]) k (φ _) rfl rfl rfl (λ_ _ _=>rfl)
    (λb c N=> .inl ⟨c,by simp_all⟩) ⟨_,e,true,rfl,by simp,λ_=>ν d⟩ (λH=>by
     have g:=h.fh.obj id _ k;simp only[dD] at g ⊢;obtain⟨P,F,K⟩:=g;refine⟨λ_=>E,F,?_⟩;rcases K with⟨O,R⟩|⟨b,l,m,Q,L,u,z,I,M⟩;·simp_all
     ·refine .inr ⟨b,l,m,?_,L,u,z,I,λj c B=>?_⟩;·simp_all
      ·obtain⟨v,C,J⟩:=M j c B;exact⟨v,C,J.ext H⟩);exact⟨_,y,λs=>(h.env s).ext q,h.size,h.defers,h.ext.trans q⟩
  grind
 grind
theorem cY.hint {f:Nat} {g:World} {b:bY} {e:Store} {st:St} {a:Act} {lo:Nat} (l:e.length<=lo) (h:cY A f D g b e st a w σ) (x:ky):∃d,cY A f D g b e (jU lo x st) a w d:=by
 unfold jU;split;·exact h.XF x
 ·split
  ·rename_i o _ _ _ _;split
   ·rename_i p;have m:=Nat.le_of_ble_eq_true p;obtain⟨k,h⟩:=h.XG o;unfold Bl;simp only;split
    ·rename_i q t n j;have c:=Nv j;exact⟨_,h.fh.bU c,λs=>bw.bU h.fh c _ _ _ (Ns n s) (h.env s),h.size,h.defers,h.ext.bU c λi r=>by
      grind⟩
    grind
   grind
  grind
theorem NU {s:World} {f:bY} {h:Store} (j:bV A w σ o) (g:Ext s f h w σ o) {l r:AV} {u:Value} (y:bw A w σ o l u) {own:Bool} (a:finish own h.length l o=some (r,o')):
  ∃d,bV A w d o'/\bw A w d o' r u/\Ext s f h w d o':=by
 unfold finish at a;cases own with
 |true=>grind[W4];|false=>
  simp only[χ,if_false] at a;split at a
  ·rename_i D;split at a
   ·rename_i C m;simp only[γ,μ] at a;obtain⟨rfl,rfl⟩:=a;have t:h=[]:=Φ D;subst t;refine⟨[],BL w j.jV,FN j (λb _ a=>a.2) 6 l C u m (λq _ b c p=>j.av q b c p) y,g.size,λb v B=>⟨(g.blk b v B).1,λ⟨i,c,z⟩=>by simp at z⟩,φ _,λq x k=>?_,λq k=>?_,g.os,g.tape,g.output⟩;·obtain⟨G,e,F,E,n,_⟩:=k;simp at n
    ·obtain⟨H,I,E,n⟩:=k;simp at n
   ·cases a
  ·cases a
end
open Go.RowKit
section
variable {A:dQ} {w w':World} {σ:bY} {o:Store}
mutual
theorem bw.to (g:∀(p:Addr) (v:Value),w.cell? p=some v->w'.cell? p=some v):∀(c:AV) (v:Value),bw A w σ o c v->bw A w' σ o c v
 | .ud,_,_=>by simp[bw];| .sc u,v,d=>by grind[bw];| .agg e,v,d=>by
  simp only[bw] at d ⊢;obtain⟨k,rfl,i⟩:=d;exact⟨k,rfl,bF.to g e _ i⟩;| .bJ e,v,d=>by
  simp only[bw] at d ⊢;obtain⟨k,rfl,i⟩:=d;exact⟨k,rfl,bF.to g e _ i⟩;| .sl n e,v,d=>by
  simp only[bw] at d ⊢;obtain⟨a,q,rfl,G,x,y⟩:=d;exact⟨a,q,rfl,G,x,dA.to g e a 0 y⟩;| .ep e l,v,d=>by
  simp only[bw] at d ⊢;obtain⟨a,rfl,x,y⟩:=d;exact⟨a,rfl,x,dA.to g e _ 0 y⟩;| .ptr z l m,v,d=>by grind[bw];| .os z l H m,v,d=>by grind[bw];| .mp z,v,d=>by grind[bw];| .fn f a b,v,d=>by
  simp only[bw] at d ⊢;obtain⟨E,F,rfl,C,I⟩:=d;exact⟨E,F,rfl,bF.to g a _ C,bF.to g b _ I⟩;| .je t e,v,d=>by
  simp only[bw] at d ⊢;obtain⟨k,rfl,B,i⟩:=d;exact⟨k,rfl,B,bF.to g e _ i⟩
theorem bF.to (g:∀(p:Addr) (v:Value),w.cell? p=some v->w'.cell? p=some v):∀(e:List AV) (k:List Value),bF A w σ o e k->bF A w' σ o e k
 |[],_,h=>by grind[bF];|c::e,k,h=>by
  simp only[bF] at h ⊢;obtain⟨v,r,rfl,s,i⟩:=h;exact⟨v,r,rfl,bw.to g c v s,bF.to g e r i⟩
theorem dA.to (g:∀(p:Addr) (v:Value),w.cell? p=some v->w'.cell? p=some v):∀(e:List AV) (a:Option Addr) (j:Nat),dA A w σ o e a j->dA A w' σ o e a j
 |[],_,_,_=>by simp[dA];|c::e,a,j,h=>by
  simp only[dA] at h ⊢;obtain⟨⟨b,v,rfl,D,s,d⟩,i⟩:=h;exact⟨⟨b,v,rfl,D,g _ _ s,bw.to g c v d⟩,dA.to g e _ (j+1) i⟩
end
theorem bV.to (a:bV A w σ o) (t:∀(p:Addr) (v:Value),w.cell? p=some v->w'.cell? p=some v) (J:∀(i b c:Nat),σ[i]?=some (some (b,c))->w'.heap[b]?=w.heap[b]?)
  (d:w.heap.size<=w'.heap.size):bV A w' σ o:=by
 refine⟨a.len,a.dist,λi b c h=>γo (a.bnd i b c h) d,λi x F=>?_,a.av,λb h=>γo (a.jV b h) d⟩;have h:=a.obj i x F;cases x with
 |dead=>grind[dD];|cells N e K H=>
  simp only[dD] at h ⊢;refine⟨h.1,h.2.1,?_⟩;rcases h.2.2 with s|⟨b,n,g,k,u,y,l,D,C⟩;·exact .inl s
  ·refine .inr ⟨b,n,g,k,u,by grind,l,D,λj c q=>?_⟩;obtain⟨v,I,f⟩:=C j c q;exact⟨v,I,f.to t c v⟩;|map M L H=>
  simp only[dD] at h ⊢;obtain⟨s,r,b,c,E,G,k,u,y,l⟩:=h;refine⟨s,r,b,c,E,G,k,by grind,y,λj e q=>?_⟩;obtain⟨m,B,z,f⟩:=l j e q;exact⟨m,B,z,f.to t e.2 _⟩
theorem y9 {r b:Nat} {y:Obj} (h:b≠r):(w.putObj r y).heap[b]?=w.heap[b]?:=by
 simp_all[World.putObj,Ne.symm]
theorem putObj_size {r:Nat} {y:Obj}:(w.putObj r y).heap.size=w.heap.size:=by simp_all
theorem NV {r:Nat} {x y:Obj} (h:w.heap[r]?=some x) (b:x.isCells=false) (p:Addr) (v:Value) (a:w.cell? p=some v):(w.putObj r y).cell? p=some v:=by
 grind[cells_of_cell,World.cell?_of_block,y9]
theorem bV.tn (a:bV A w σ o) {r:Nat} {x y:Obj} (h:w.heap[r]?=some x) (d:x.isCells=false) (g:¬Own σ r):bV A (w.putObj r y) σ o:=
 a.to (NV h d) (λi b c f=>y9 λe=>g ⟨i,c,e▸f⟩) (by simp_all)
theorem bw.tn {c:AV} {v:Value} (a:bw A w σ o c v) {r:Nat} {x y:Obj} (h:w.heap[r]?=some x) (b:x.isCells=false):bw A (w.putObj r y) σ o c v:=
 a.to (NV h b) c v
theorem Ext.tn {c:World} {a:bY} {d:Store} (h:Ext c a d w σ o) {r:Nat} {y:Obj} (g:c.heap.size<=r):Ext c a d (w.putObj r y) σ o where
 size:=by rw[putObj_size];exact h.size
 blk:=λb e f=>by
  obtain⟨i,j⟩:=h.blk b e f;grind[y9]
 len:=h.len;cur:=h.cur;isMap:=h.isMap;os:=h.os;tape:=h.tape;output:=h.output
theorem BU {P:Program} {t:Func} {a:Array Value} {m:World} {D:List Deferred} {R:Ending->World->Prop}:∀(j:List Deferred) (w:World),tf m w j->bV A w σ o->
  (∀w',bV A w' σ o->(∀{c:bY} {q:Store},Ext m c q w σ o->Ext m c q w' σ o)->(∀s v,bw A w σ o s v->bw A w' σ o s v)->LeavesInM (FR none) 0 P t a R D .returning w')->
  LeavesInM (FR none) 0 P t a R (j++D) .returning w
 |[],w,_,f,k=>k w f (λh=>h) (λ_ _ h=>h)
 |d::j,w,g,f,k=>by
  obtain⟨r,x,n,i⟩:=g.2 d (by simp);have C:=f.FZ i (by simp) (by simp);simp only[γy,LeavesInM];refine⟨by simp,.inl ⟨r,w.putObj r (.deferred none),by rw[x],run_takeDeferred i,?_⟩⟩;refine BU j _ ⟨(γA.1 g.1).2,λe p=>?_⟩ (f.tn i rfl C) λw' y z E=>k w' y (λh=>z (h.tn n)) (λs v h=>E s v (h.tn i rfl));obtain⟨B,l,b,u⟩:=g.2 e (γW _ p);refine⟨B,l,b,?_⟩;have:=(γA.1 g.1).1 e p;grind[y9]
theorem Ge {P:Program} {m:World}:∀(f:List Deferred) (w:World) (fr:Frame) (cs:List Frame),fr.mode= .returning->fr.defers=f->tf m w f->bV A w σ o->
  ∃w',StepsIn (Machine.fenced P (FR none)) P (lone fr cs w) (lone {fr with defers:=[]} cs w')/\bV A w' σ o/\(∀{a:bY} {u:Store},Ext m a u w σ o->Ext m a u w' σ o)/\∀s v,bw A w σ o s v->bw A w' σ o s v
 |[],w,fr,cs,_,k,_,l=>by
  refine⟨w,?_,l,λh=>h,λ_ _ h=>h⟩;have:fr={fr with defers:=[]}:=by rw[<-k]
  rw[<-this];exact StepsIn.refl _;|d::f,w,fr,cs,x,k,j,l=>by
  obtain⟨r,p,q,i⟩:=j.2 d (by simp);have C:=l.FZ i (by simp) (by simp);have b:fr.mode≠ .run:=by rw[x];simp
  have I:=step_collected (cs:=cs) b k (by rw[p]) (run_takeDeferred (P:=P) i);have H:(lone fr cs w).fenced P (FR none):=fenced_out (n:=0) trivial (by simp[FR,Fence.wide,Fence.room]) b k (λg J=>by grind[Target.leads]);obtain⟨w',E,z,F,D⟩:=Ge f (w.putObj r (.deferred none)) {fr with defers:=[]++f} cs x rfl ⟨(γA.1 j.1).2,λe y=>by
   obtain⟨G,t,c,B⟩:=j.2 e (γW _ y);refine⟨G,t,c,?_⟩;have:=(γA.1 j.1).1 e y;grind[y9]⟩ (l.tn i rfl C);exact⟨w',.head H I E,z,λh=>F (h.tn q),λs v h=>D s v (h.tn i rfl)⟩
theorem XH {P:Program} {f:FuncId} {m:Func} {c:Code} {args:Array Value} {u:FrameMode} {w:World} {R:Ending->World->Prop}
  (E:P.funcs[f]?=some m) (S:m.body=some c)
  (h:c.wpIn (FR none) 0 P (λe a r=>(e= .normal\/e= .ret)/\∃(q:World) (g:bY) (l:Store),tf q r a.defers/\bV A r g l/\∀i,bV A i g l->(∀{n:bY} {I:Store},Ext q n I r g l->Ext q n I i g l)->(∀s v,bw A r g l s v->bw A i g l s v)->
   ∃v,(results m a.tmps).run P i= .ok v i/\R (.returned v) i) {tmps:=args++εc (m.ntmps - args.size) undef,defers:=[]} w):
  CallsDIn (FR none) 0 P f args u w λe L w'=>L=u/\R e w':=by
 refine⟨trivial,λd z Q J=>?_⟩;let b:Frame:={(default:Frame) with fn:=f,kind:=.deferred,roundOf:=none};have k:Frame.enter P f args .deferred=
   b.atR {tmps:=args++εc (m.ntmps - args.size) undef,defers:=[]} [.code c]:=by
  grind[Frame.enter,Frame.atR]
 have F:({d with mode:=u}:Frame)=d:=by subst Q;rfl
 obtain⟨e,p,w',O,j⟩:=h b [] (d::z) rfl trivial J;rw[<-k] at j;obtain⟨N,q,g,l,H,K,G⟩:=O;rcases N with rfl|rfl
 ·obtain⟨i,C,t,y,B⟩:=Ge (P:=P) p.defers w' {b.atR p [] with mode:=.returning} (d::z) rfl rfl H K;obtain⟨v,D,x⟩:=G i t y B;exact⟨.returned v,u,i,_,⟨rfl,x⟩,(by rw[F];exact StepsIn.trans (StepsIn.trans j (.one (fenced_calm (fr:=b.atR p []) trivial J rfl) (stepR_end rfl))) C),rfl,rfl,rfl,rfl,m,E,D⟩
 ·obtain⟨o,M⟩:=j.1 rfl;obtain⟨i,C,t,y,B⟩:=Ge (P:=P) p.defers w' {b.atR p o with mode:=.returning} (d::z) rfl rfl H K;obtain⟨v,D,x⟩:=G i t y B;exact⟨.returned v,u,i,_,⟨rfl,x⟩,(by rw[F];exact StepsIn.trans M C),rfl,rfl,rfl,rfl,m,E,D⟩
end
open Go.RowKit
def Out.tq:Out->Exit
 | .norm=> .normal
 | .exit a=> .exit a
 | .ret=> .ret
 | .goto l=> .goto l
section
variable {P:Program} {A:dQ} {D:List Deferred} {w w':World} {σ σ':bY} {o o':Store}
theorem XI (a:List Nat) (env:js) (s:Nat):dL (prune a env) s=dL env s\/dL (prune a env) s= .ud:=by
 unfold prune;induction a with
 |nil=>right;rfl;|cons x a b=>
  simp only[ξ,dL];cases c:δu x s<;>simp_all
theorem XJ (t:Nat) (env:js) (s:Nat):dL (qT t env) s=dL env s\/dL (qT t env) s= .ud:=by
 induction env with
 |nil=>left;rfl;|cons p env c=>
  simp only[qT];cases a:δu p.1 t with
  |true=>
   simp only[cond_true];by_cases d:p.1=s
   ·have e:=εK a;right;have:∀env:js,dL (qT t env) t= .ud:=by
     intro env;induction env with
     |nil=>rfl;|cons q env c=>
      simp only[qT];cases b:δu q.1 t with
      |true=>simp_all;|false=>simp_all[dL]
    simp_all
   ·have:dL (p::env) s=dL env s:=by
     simp only[dL];have:δu p.1 s=false:=by
      cases h:δu p.1 s<;>simp_all
     rw[this];rfl
    simp_all;|false=>
   simp only[cond_false,dL];grind
theorem cY.drop {d:Nat} {e:World} {b:bY} {c:Store} {st:St} {a:Act} (h:cY A d D e b c st a w σ) (x:Operand):cY A d D e b c ⟨pg x st.env,st.o⟩ a w σ where
 fh:=h.fh;env:=λs=>by
  unfold pg;split
  ·rename_i t;rcases XJ t st.env s with f|f;·simp only[f];exact h.env s
   grind[bw]
  ·exact h.env s
 size:=h.size;defers:=h.defers;ext:=h.ext
theorem cY.prune {e:Nat} {f:World} {c:bY} {d:Store} {st:St} {a:Act} (h:cY A e D f c d st a w σ) (b:List Nat):cY A e D f c d ⟨ζB b st.env,st.o⟩ a w σ where
 fh:=h.fh;env:=λs=>by
  rcases XI b st.env s with g|g;·simp only[g];exact h.env s
  grind[bw]
 size:=h.size;defers:=h.defers;ext:=h.ext
theorem XK {env:js} {s:Nat}:dL env s= .ud\/∃p∈env,p.2=dL env s:=by
 induction env<;>grind[dL]
theorem cY.trim {g:Nat} {f:World} {b:bY} {d:Store} {st:St} {a:Act} (h:cY A g D f b d st a w σ) {k:Nat} (i:d.length<=k):∃c,cY A g D f b d (Go.Vi.trim k st) a w c:=by
 unfold Go.Vi.trim;split;·grind
 ·split
  ·rename_i e;simp only[ζ,κ] at e;refine⟨σ.take k,⟨h.fh.take e.2,λs=>?_,h.size,h.defers,h.ext.take i⟩⟩;grind[XK,env,bw,bw.take]
  grind
theorem cY.fS {e:Nat} {g:World} {b:bY} {d:Store} {st:St} {a:Act} (h:cY A e D g b d st a w σ) (n:Nat):∃c,cY A e D g b d ⟨st.env,st.o++Go.Vi.fS n⟩ a w c:=by
 obtain⟨i,f⟩:=h.fh.fS n;exact⟨_,i,λs=>(h.env s).ext f,h.size,h.defers,h.ext.trans f⟩
theorem cY.qP {e:Nat} {f:World} {c:bY} {d:Store} {st:St} {a:Act} (h:cY A e D f c d st a w σ) {k:Nat} (g:d.length<=k):∃b,cY A e D f c d ⟨st.env,Go.Vi.qP k st.o⟩ a w b:=by
 obtain⟨b,l,j,i⟩:=W0 h.fh k;exact⟨b,l,λs=>j _ _ (h.env s),h.size,h.defers,i _ _ _ g h.ext⟩
theorem cY.len {d:Nat} {e:World} {b:bY} {c:Store} {st:St} {a:Act} (h:cY A d D e b c st a w σ):c.length<=st.o.length:=h.ext.len
theorem cY.hints {nt:Nat} {w0:World} {lJ:bY} {o0:Store} {lo:Nat} (hlo:o0.length<=lo) (l:List ky):∀{st:St} {a:Act} {σ:bY},cY A nt D w0 lJ o0 st a w σ->∃σ',cY A nt D w0 lJ o0 (l.foldl (λs h=>jU lo h s) st) a w σ':=by
 induction l with
 |nil=>intro st a σ h;exact⟨σ,h⟩;|cons x l ih=>
  intro st a σ h;obtain⟨σ1,h1⟩:=cY.hint hlo h x;exact ih h1
theorem XL {di:Option Nat} {call:dh} (hcall:pr P call) {lo nt:Nat} {H:List RH} {id:Nat} {ops:Array Oper} {draw:Bool} {c:IR} (hc:wG P nt H id ops draw=some c):
  ∃k l jJ live pre post,c= .region id draw k l jJ live pre post/\∀{st st':St},pe call k l jJ (pre.foldl (λs h=>jU lo h s) st)=some st'->∀{w0:World} {lJ:bY} {o0:Store} {a:Act} {w:World} {σ:bY},o0.length<=lo->cY A nt D w0 lJ o0 st a w σ->
   (Code.region id ops draw).wpIn (FR di) 0 P (λe a' w'=>e= .normal/\∃σ',cY A nt D w0 lJ o0 (post.foldl (λs h=>jU lo h s) ⟨ζB live st'.env,st'.o⟩) a' w' σ') a w:=by
 unfold wG at hc;split at hc;·cases hc
 ·rename_i h hh;have fin:∀(k:Nat) (l:List dy) (jJ:List (Nat×Nat)),(∀{st1 st2:St},fR call st1.o.length l ⟨st1.env,st1.o++fS k⟩=some st2->(jJ.isEmpty||sX (st1.o++fS k).length (mg call st1.o.length l ⟨st1.env,st1.o++fS k⟩) jJ)=true->
     ∀{w0:World} {lJ:bY} {o0:Store} {a:Act} {w:World} {σ:bY} {Q:Exit->Act->World->Prop},cY A nt D w0 lJ o0 ⟨st1.env,st1.o++fS k⟩ a w σ->(∀a' w' σ',cY A nt D w0 lJ o0 st2 a' w' σ'->Q .normal a' w')->(Code.region id ops draw).wpIn (FR di) 0 P Q a w)->
    ∀{st st':St},pe call k l jJ (h.pre.foldl (λs h=>jU lo h s) st)=some st'->∀{w0:World} {lJ:bY} {o0:Store} {a:Act} {w:World} {σ:bY},o0.length<=lo->cY A nt D w0 lJ o0 st a w σ->
     (Code.region id ops draw).wpIn (FR di) 0 P (λe a' w'=>e= .normal/\∃σ',cY A nt D w0 lJ o0 (h.post.foldl (λs h=>jU lo h s) ⟨ζB h.live st'.env,st'.o⟩) a' w' σ') a w:=by
   intro k l jJ hrun st st' hr w0 lJ o0 a w σ hlo hs;obtain⟨σ1,hs1⟩:=cY.hints hlo h.pre hs;generalize agr:h.pre.foldl (λs h=>jU lo h s) st=st1 at hr hs1;unfold pe at hr;simp only at hr;split at hr
   ·rename_i st2 h2;split at hr
    ·rename_i Gf;injection hr with hr;obtain⟨σ2,hs2⟩:=hs1.fS k;refine hrun h2 Gf hs2 λa' w' σ' h3=>⟨rfl,?_⟩;have h4:∃NW,cY A nt D w0 lJ o0 st' a' w' NW:=by
      subst hr;by_cases hk:k=0;·simp only[hk,if_true];exact⟨σ',h3⟩
      ·simp only[hk,if_false];exact h3.qP hs1.len
     obtain⟨NW,h4⟩:=h4;exact cY.hints hlo h.post (h4.prune h.live)
    ·cases hr
   ·cases hr
  cases draw with
  |false=>
   simp only[χ,if_false] at hc;obtain⟨⟨l,k⟩,hl,rfl⟩:=ε.1 hc;refine⟨k,l,[],h.live,h.pre,h.post,rfl,fin k l [] λ{st1 st2} h2 _ w0 lJ o0 a w σ Q hs hQ=>?_⟩;obtain⟨g1,g2⟩:=F2 hl;exact wpIn_region (NC hcall l (ψ ops.size) g1 g2 _ _ a w σ h2 hs hQ);|true=>
   simp only[if_true] at hc;generalize (if h.perm.isEmpty=true then ψ ops.size else h.perm)=perm at hc;split at hc
   ·rename_i l k hl;split at hc
    ·rename_i hcond;injection hc with hc;refine⟨k,l,qX (oD ops) l,h.live,h.pre,h.post,hc.symm,fin k l _ λ{st1 st2} h2 Gf w0 lJ o0 a w σ Q hs hQ=>?_⟩;simp only[ζ,beq_iff_eq] at hcond;exact XD hcall hl hcond.1.1.1.1.1 hcond.1.1.1.1.2 hcond.1.1.1.2 hcond.1.1.2 hcond.1.2 hcond.2 h2 Gf hs hQ
    ·cases hc
   ·cases hc
def uX (_:Program) (di:Option Nat) (_:dQ->World->bY->Store->Prop):Md->Prop
 | .plain=>di=none
def Closed (B:dQ->World->bY->Store->Prop):Prop:=∀A w c o b a d,B A w c o->Ext w c o b a d->B A b a d
theorem XM {call:dh} (m:pr P call) {di:Option Nat} {B:dQ->World->bY->Store->Prop} {md:Md} (G:uX P di B md) (F:Closed B) {lo r:Nat} {H:List RH} {id:Nat} {p:Array Oper} {d:Bool} {c:IR} (y:wG P r H id p d=some c):
  ∃k l j f g b,c= .region id d k l j f g b/\∀{st st':St},Fo md d call k l j (g.foldl (λs h=>jU lo h s) st)=some st'->∀{q:World} {i:bY} {n:Store} {a:Act} {w:World} {σ:bY},B A q i n->n.length<=lo->cY A r D q i n st a w σ->
   (Code.region id p d).wpIn (FR di) 0 P (λe x w'=>e= .normal/\∃u,cY A r D q i n (b.foldl (λs h=>jU lo h s) ⟨ζB f st'.env,st'.o⟩) x w' u) a w:=by
 obtain⟨k,l,j,f,g,b,v,E⟩:=XL (di:=di) m (A:=A) (lo:=lo) y;refine⟨k,l,j,f,g,b,v,?_⟩;intro st st' z q i n a w σ _ t C;exact E z t C
structure kB (P:Program) (T:Tab):Prop where
 fn:∀f F,T.fn f=some F->∃fn H,P.funcs[f]?=some fn/\Bw P H fn=some F/\gA P f=true
 K:∀f args o own r o',T.K f args o own=some (r,o')->gA P f=true/\kP P f args o r o'/\(own=false->o'=[])
def za (P:Program) (T:Tab) (n:Nat):Prop:=
 ∀(g:Option Nat) (m:Md) (B:dQ->World->bY->Store->Prop),uX P g B m->Closed B->
 ∀(o:Nat) (c:IR) (p:St) (h:Out) (f:St),exec T m n o c p=some (h,f)->∀(j:Nat) (H:List RH) (b:Code),comp P j H b=some c->∀(D:List Deferred) (A:dQ) (l:World) (d:bY) (i:Store) (a:Act) (w:World) (q:bY),B A l d i->i.length<=o->cY A j D l d i p a w q->
  b.wpIn (FR g) 0 P (λe s r=>e=h.tq/\∃k,cY A j D l d i f s r k) a w
def zb:dQ->World->bY->Store->Prop:=λ_ _ _ _=>True
theorem BV:Closed zb:=λ_ _ _ _ _ _ _ _ _=>trivial
theorem NY:∀(k:Nat) (args:List AV) (s:Nat),dL (iu k args) s=if k<=s then(args[s - k]?).getD .ud else .ud
 |k,[],s=>by simp[iu,dL];|k,v::b,s=>by
  simp only[iu,dL];by_cases h:k=s;·subst h;simp
  ·have a:δu k s=false:=by
    cases a:δu k s<;>simp_all
   simp only[a,cond_false];rw[NY (k+1) b s];grind
def zc (a:Array Value):ResultVar->Sem Value
 | .tmp t=>pure (a.getD t undef)
 | .cell x t=>do loadVar t (<-asAddr (a.getD x undef))
theorem XN (b:Func) (a:Array Value):results b a=(do let vs <-b.results.mapM (zc a);pure (if h:vs.size=1 then vs[0] else .tuple vs)):=by
 unfold results;congr 1
theorem XO {m:Nat} {i:World} {e:bY} {l:Store} {st:St} {a:Act} (h:cY A m D i e l st a w σ) {f:ResultVar} {g:mM} (d:rQ P f=some g) {r:AV} (c:qQ st g=some r):
  ∃u,(zc a.tmps f).run P w= .ok u w/\bw A w σ st.o r u:=by
 cases f with
 |tmp t=>
  simp only[rQ,γ] at d;subst d;simp only[qQ,γ] at c;subst c;exact⟨_,rfl,h.env t⟩;|cell x t=>
  simp only[rQ,ε] at d;obtain⟨n,j,rfl⟩:=d;simp only[qQ] at c;split at c
  ·rename_i y s k;obtain⟨p,z,b⟩:=(h.env x).MI h.fh k;obtain⟨u,v,q⟩:=MJ (P:=P) j b c;grind[zc,asAddr]
  ·cases c
theorem Gg {K:Nat} {Q:World} {t:bY} {N:Store} {st:St} {a:Act} (h:cY A K D Q t N st a w σ) {m:Func} {H:List mM} (O:qV (rQ P) m.results.toList=some H) {r:AV} (j:nG st H=some r):
  ∃u,(results m a.tmps).run P w= .ok u w/\bw A w σ st.o r u:=by
 obtain⟨n,S⟩:=FD O;unfold nG at j;have z:∀(c:List ResultVar) (b:List mM) (g:List AV),c.length=b.length->(∀(i:Nat) (x:ResultVar) (y:mM),c[i]?=some x->b[i]?=some y->rQ P x=some y)->b.mapM (qQ st)=some g->
   ∃d:List Value,(c.mapM (zc a.tmps)).run P w= .ok d w/\bF A w σ st.o g d:=by
  intro c;induction c with
  |nil=>
   intro b g l _ f;have:b=[]:=Φ (by simp_all);simp_all[bF];|cons x c R=>
   intro b g l G f;match b,l with
   |y::b,l=>
    rw[List.mapM_cons] at f;cases s:qQ st y with
    |none=>simp[s] at f;|some v=>
     cases e:b.mapM (qQ st) with
     |none=>simp_all;|some C=>
      simp[s,e] at f;subst f;obtain⟨u,U,M⟩:=XO h (G 0 x y (by simp) (by simp)) s;obtain⟨d,B,E⟩:=R b C (by grind) (λi p q J T=>G (i+1) p q (by simpa using J) (by simpa using T)) e;refine⟨u::d,?_,by grind[bF]⟩;simp_all
 have F:∀d:List Value,(m.results.toList.mapM (zc a.tmps)).run P w= .ok d w->
   (results m a.tmps).run P w= .ok (if h:d.length=1 then d[0]'(by omega) else .tuple d.toArray) w:=by
  grind[XN,Array.mapM_eq_mapM_toList,Sem.run_bind,Sem.run_map,Result.andThen_ok,Sem.run_pure]
 split at j;·grind[bF]
 ·rename_i g I f;injection j with j;subst j;obtain⟨d,B,l⟩:=z _ _ _ n S f;have k:=bF.length _ _ l;have L:¬d.length=1:=by
   intro n;match g,k.trans n with
   |[v],_=>simp_all
  grind[bw]
 ·cases j
theorem Gh {a:Nat} {args:List AV} {vs:List Value} (d:bV A w σ o) (b:bF A w σ o args vs) (j:args.length<=a):cY A a [] w σ o ⟨iu 0 args,o⟩ {tmps:=vs.toArray++εc (a - vs.toArray.size) undef,defers:=[]} w σ:=by
 have i:=bF.length _ _ b;refine⟨d,λs=>?_,?_,⟨[],rfl,δv,by simp⟩,Ext.refl _ _ _⟩
 ·simp only[NY,Nat.zero_le,if_true,Nat.sub_zero];cases h:args[s]? with
  |none=>simp[bw];|some c=>
   obtain⟨v,e,g⟩:=bF.get _ _ b s c h;have f:s<vs.length:=(θ.1 e).1;have:(vs.toArray++εc (a - vs.toArray.size) undef).getD s undef=v:=by
    simp_all[Array.getElem?_append_left]
   simp_all
 ·simp;omega
theorem XP {T:Tab} {n:Nat} (W:za P T n) {md:Md} {B:dQ->World->bY->Store->Prop} (N:uX P none B md) (L:Closed B) {f:FuncId} {c:Func} {g:Code} {H:List RH} {b:IR} {E:List mM}
  (t:P.funcs[f]?=some c) (i:c.body=some g) (X:comp P c.ntmps H g=some b) (y:qV (rQ P) c.results.toList=some E) (Q:¬c.ntmps<c.params.size+c.nfree)
  {args:List AV} {out:Out} {st:St} (C:args.length=c.params.size+c.nfree) (j:out= .norm\/out= .ret) (m:exec T md n o.length b ⟨iu 0 args,o⟩=some (out,st)) {G r:AV} (z:nG st E=some G) {own:Bool} (q:finish own o.length G st.o=some (r,o'))
  {vs:List Value} (x:B A w σ o) (J:bV A w σ o) (I:bF A w σ o args vs):
  CallsIn (FR none) 0 P f vs.toArray w λe w'=>∃u a,e= .returned u/\bV A w' a o'/\bw A w' a o' r u/\Ext w σ o w' a o':=by
 have M:=bF.length _ _ I;refine callsIn_of_wp_marks (F:=FR none) t i trivial (wpIn_mono (W none md B N L _ b _ out st m c.ntmps H g X [] A w σ o {tmps:=vs.toArray++εc (c.ntmps - vs.toArray.size) undef,defers:=[]} w σ x (φ _) (Gh J I (by omega))) ?_)
 ·rintro e p w' ⟨rfl,a,d⟩;have k:LeavesInM (FR none) 0 P c p.tmps (λe w'=>∃u a,e= .returned u/\bV A w' a o'/\bw A w' a o' r u/\Ext w σ o w' a o') p.defers .returning w':=by
   obtain⟨K,v,U⟩:=d.defers;rw[v];refine BU K w' U d.fh λS R V O=>?_;simp only[LeavesInM,LeavesIn];have h:cY A c.ntmps [] w σ o st {p with defers:=[]} S a:=⟨R,λs=>O _ _ (d.env s),d.size,⟨[],rfl,δv,by simp⟩,V d.ext⟩;obtain⟨u,Y,l⟩:=Gg h y z;have D:=NU h.fh h.ext l q;simp_all
  rcases j with rfl|rfl;·exact k
  ·exact k
theorem NZ {out:Out} (h:qS out=true):out= .norm\/out= .ret:=by
 grind[qS]
theorem XQ {P:Program} {j:Nat} {H:List RH} {g:FuncId} {e:List Operand} {d:Nat} {a b:IR} (c:Code):comp P j H c≠some (.sW g e d a b):=by
 intro h;cases c with
 |region k i f=>
  simp only[comp] at h;unfold wG at h;split at h;·cases h
  ·split at h;·grind
   simp_all;|seq x y=>grind[comp];|cond c x y=>
  grind[comp];|_=>simp[comp] at h
theorem XR {f:Array Oper} {g:FuncId} {e:List Operand} {d:Nat} (h:Bv f=some (g,e,d)):∃i j a b c,f.toList=[i,j]/\i.dst=some d/\i.op= .makeFunc (.func g) a b/\i.guard=none/\j.op= .defer c/\j.dst=none/\j.guard=none/\c.callee= .value (.tmp d)/\a.toList=[]/\c.args.toList=[]/\b.toList=e:=by
 grind[Bv]
theorem XS {n:Nat} {id:Nat} {e:Array Oper} {g:FuncId} {f:List Operand} {d:Nat} (H:Bv e=some (g,f,d)) (p:d<n) {st:St} {a:Act} {F:World} {l:bY} {G:Store} (h:cY A n D F l G st a w σ) {Q:Exit->Act->World->Prop}
  (I:∀(r:Act) (vs:List Value),bF A w σ st.o (f.map (eF st.env)) vs->cY A n ({target:=.fn (.func g) vs.toArray,args:=#[]}::a.defers) w σ st.o ⟨(d,.ud)::st.env,st.o⟩ r w σ->Q .normal r w):
  (Code.region id e false).wpIn (FR none) 0 P Q a w:=by
 obtain⟨k,u,x,b,c,t,q,U,X,S,J,V,R,N,T,rfl⟩:=XR H;have L:e[0]?=some k:=by rw[<-δy,t];rfl
 have z:e[1]?=some u:=by rw[<-δy,t];rfl
 have B:e.size=2:=by grind[Array.length_toList]
 have W:x=#[]:=εj (by omega);have O:c.args=#[]:=εj (by omega);refine wpIn_region ?_;rw[B];show wpOpsIn (FR none) 0 P e Q [0,1] a w;rw[wpOpsIn_cons];unfold wpOpIn;simp only[L];rw[if_pos (by grind[Region.wanted])];unfold Oper.wpIn;rw[show(FR none).round=none from rfl,Oper.semAt_none];refine⟨λ_ _=>trivial,?_⟩;have E:(execOp a.eval k).run P w= .ok (.value (.func (.func g) #[] (b.map a.eval))) w:=by
  simp_all[execOp,Instr.makeFunc]
 rw[E,Oper.uponIn_value,wpOpsIn_cons];have C:d<a.tmps.size:=by rw[h.size];exact p
 have m:(a.put k.dst (.func (.func g) #[] (b.map a.eval))).eval (.tmp d)= .func (.func g) #[] (b.map a.eval):=by
  simp_all[Act.put,Act.eval]
 generalize i:a.put k.dst (.func (.func g) #[] (b.map a.eval))=K at m;unfold wpOpIn;simp only[z];rw[if_pos (by grind[Region.wanted])];unfold Oper.wpIn;rw[show(FR none).round=none from rfl,Oper.semAt_none];refine⟨λ_ _=>trivial,?_⟩;have y:(execOp K.eval u).run P w= .ok (.defer {target:=.fn (.func g) (b.map a.eval),args:=#[]}) w:=by
  simp_all[execOp,resolve,Deferred.ofValue]
 rw[y,Oper.uponIn_defer,J];show Q .normal _ w;have j:bF A w σ st.o (b.toList.map (eF st.env)) (b.toList.map a.eval):=uP (λx=>h.ev x) b.toList;refine I _ (b.toList.map a.eval) j ⟨h.fh,λs=>?_,?_,⟨[],?_,δv,by simp⟩,Ext.refl _ _ _⟩
 ·subst i;by_cases M:d=s;·simp_all[dL,bw]
  ·have v:δu d s=false:=by
    cases v:δu d s<;>simp_all
   simp only[dL,v,cond_false];have:=h.env s;simp_all[Act.put]
 ·subst i;simp[q,Act.put,h.size]
 ·subst i;simp[q,Act.put];grind
theorem XT {T:Tab} {n:Nat} (Q:za P T n) {v:Nat} {H:List RH} {lo:Nat} {C:World} {p:bY} {D:Store} (I:D.length<=lo) {g:FuncId} {m:List Operand} {d:Nat} {S:IR} {s0 s2:St} {out:Out}
  (J:exec T .plain n s0.o.length S ⟨(d,.ud)::s0.env,s0.o⟩=some (out,s2)):∀(f:Code) (z:IR) (st:St) (a:Act) (w:World) (σ:bY),uM P v H f=some (z,(g,m,d),S)->qR (exec T .plain n lo) z st=some s0->cY A v [] C p D st a w σ->
  f.wpIn (FR none) 0 P (λe B w'=>e=out.tq/\gA P g=true/\∃(q:World) (j t:bY) (R:List Deferred) (vs:List Value),tf C q R/\bV A q j s0.o/\Ext C p D q j s0.o/\bF A q j s0.o (m.map (eF s0.env)) vs/\
   cY A v ({target:=.fn (.func g) vs.toArray,args:=#[]}::R) q j s0.o s2 B w' t) a w:=by
 intro f;induction f with
 |seq c l _ G=>
  intro z st a w σ k i h;cases c with
  |region W K N=>
   unfold uM at k;split at k
   ·rename_i x X _;split at k
    ·rename_i y;obtain⟨b,Y,O⟩:=ε.1 k;simp only[μ] at O;obtain⟨rfl,rfl,rfl⟩:=O;simp only[qR,γ] at i;subst i;refine wpIn_seq (XS X y.1 h λE vs V s=>?_);show l.wpIn _ _ _ _ E w;obtain⟨ms,U,Z⟩:=h.defers;refine wpIn_mono (Q none .plain zb rfl BV _ b _ out s2 J v H l Y _ A w σ st.o E w σ trivial (φ _) s) ?_;rintro e B w' ⟨rfl,t,L⟩;exact⟨rfl,y.2,w,σ,t,a.defers,vs,by simp_all,h.fh,h.ext,V,L⟩
    ·cases k
   ·split at k
    ·rename_i r B x b hr F;simp only[γ,μ] at k;obtain⟨rfl,rfl,rfl⟩:=k;simp only[qR] at i;split at i
     ·rename_i u M;refine wpIn_seq (wpIn_mono (Q none .plain zb rfl BV lo r st .norm u M v H (.region W K _) (by grind[comp]) [] A C p D a w σ trivial I h) ?_);rintro e E q ⟨rfl,j,s⟩;exact G B u E q j F i s
     ·cases i
    ·cases k;|_=>simp[uM] at k
 |_=>
  intro z st a w σ k;simp[uM] at k
theorem XU {T:Tab} (hT:kB P T) {n:Nat} (ih:za P T n) {f:FuncId} {fn:Func} {code:Code} {H:List RH} {ia ib:IR} {g:FuncId} {caps:List Operand} {d:Nat} {rs:List mM}
  (hfn:P.funcs[f]?=some fn) (hcode:fn.body=some code) (hb:uM P fn.ntmps H code=some (ia,(g,caps,d),ib)) (hrs:qV (rQ P) fn.results.toList=some rs) (hnt:¬fn.ntmps<fn.params.size+fn.nfree)
  {args:List AV} {out BW:Out} {s0 s2 s3:St} (hlen:args.length=fn.params.size+fn.nfree) (hout:out= .norm\/out= .ret) (h1:qR (exec T .plain n o.length) ia ⟨iu 0 args,o⟩=some s0) (h2:exec T .plain n s0.o.length ib ⟨(d,.ud)::s0.env,s0.o⟩=some (out,s2))
  {F:eZ} (hF:T.fn g=some F) (hcl:(caps.map (eF s0.env)).length=F.params) (hre:F.res=[]) (h3:exec T .plain n s2.o.length F.body ⟨iu 0 (caps.map (eF s0.env)),s2.o⟩=some (BW,s3)) (ags:BW= .norm\/BW= .ret)
  {r0 r:AV} (hr0:nG ⟨s2.env,s3.o⟩ rs=some r0) {own:Bool} (hfi:finish own o.length r0 s3.o=some (r,o'))
  {vs:List Value} (hS:bV A w σ o) (hr:bF A w σ o args vs):
  CallsIn (FR none) 0 P f vs.toArray w λe w'=>∃u σ',e= .returned u/\bV A w' σ' o'/\bw A w' σ' o' r u/\Ext w σ o w' σ' o':=by
 have hvl:=bF.length _ _ hr;obtain⟨fg,Hg,hfg,hcg,hgg⟩:=hT.fn g F hF;obtain⟨cg,XV,XW,hpg,hrg⟩:∃cg,fg.body=some cg/\comp P fg.ntmps Hg cg=some F.body/\F.params<=fg.ntmps/\qV (rQ P) fg.results.toList=some []:=by
  unfold Bw at hcg;split at hcg;·cases hcg
  ·rename_i cg agt;split at hcg
   ·rename_i b rs' hb' agu;split at hcg;·cases hcg
    ·rename_i agv;injection hcg with hcg;subst hcg;simp only at h3 hre ⊢;subst hre;unfold Fq at hb';split at hb';·simp_all
     ·obtain⟨x,_,rfl⟩:=ε.1 hb';cases n<;>simp[exec] at h3
   ·cases hcg
 refine callsIn_of_wp_marks (F:=FR none) hfn hcode trivial (wpIn_mono (XT ih (φ _) h2 code ia _ _ w σ hb h1 (Gh hS hr (by omega))) ?_);rintro e a' w' ⟨rfl,hg,w1,σ1,σ',ds,cv,hM1,hS1,hE1,hcv,hs'⟩;have key:LeavesInM (FR none) 0 P fn a'.tmps (λe w'=>∃u σ',e= .returned u/\bV A w' σ' o'/\bw A w' σ' o' r u/\Ext w σ o w' σ' o') a'.defers .returning w':=by
  obtain⟨ms,hms,hM⟩:=hs'.defers;rw[hms];refine BU ms w' hM hs'.fh λw2 q1 q3 q4=>?_;simp only[LeavesInM];refine⟨by simp,.inr ⟨λh=>by grind[FR,Fence.wide],.func g,cv.toArray,g,cv.toArray,rfl,by simp[invoke,BQ hg],λ_ _=>trivial,?_⟩⟩;have N1:bF A w2 σ' s2.o (caps.map (eF s0.env)) cv:=by
   have e1:Ext w1 σ1 s0.o w' σ' s2.o:=hs'.ext;grind[bF.ext]
  have agw:=bF.length _ _ N1;refine CallsDIn.mono (XH (A:=A) hfg XV (R:=λe w3=>∃u σ3,e= .returned u/\bV A w3 σ3 s3.o/\Ext w2 σ' s2.o w3 σ3 s3.o) (wpIn_mono (ih none .plain zb rfl BV _ F.body _ BW s3 h3 fg.ntmps Hg cg XW [] A w2 σ' s2.o _ w2 σ' trivial (φ _) (Gh q1 N1 (by omega))) ?_)) ?_
  ·rintro e a3 w3 ⟨rfl,σ3,hs3⟩;obtain⟨ms3,XX,Gi⟩:=hs3.defers;rw[γL] at XX;refine⟨by grind[Out.tq],w2,σ3,s3.o,by simp_all,hs3.fh,λw4 k1 k2 k3=>?_⟩;have hs4:cY A fg.ntmps [] w2 σ' s2.o s3 {a3 with defers:=[]} w4 σ3:=⟨k1,λs=>k3 _ _ (hs3.env s),hs3.size,⟨[],rfl,δv,by simp⟩,k2 hs3.ext⟩;obtain⟨u,hu,_⟩:=Gg hs4 hrg (r:=.bJ []) rfl;exact⟨u,hu,u,σ3,rfl,k1,k2 hs3.ext⟩
  ·rintro e u' w3 ⟨rfl,u,σ3,rfl,p1,p2⟩;show LeavesInM (FR none) 0 P fn a'.tmps _ ds (settle .returning) w3;rw[show settle FrameMode.returning= .returning from rfl,<-γL ds];have e13:Ext w1 σ1 s0.o w3 σ3 s3.o:=(q3 hs'.ext).trans p2;refine BU ds w3 (hM1.ext hS1 e13) p1 λw4 t1 t3 t4=>?_;simp only[LeavesInM,LeavesIn];have hs4:cY A fn.ntmps [] w σ o ⟨s2.env,s3.o⟩ {a' with defers:=[]} w4 σ3:=⟨t1,λs=>t4 _ _ ((q4 _ _ (hs'.env s)).ext p2),hs'.size,⟨[],rfl,δv,by simp⟩,t3 (hE1.trans e13)⟩;obtain⟨u,hu,oG⟩:=Gg hs4 hrs hr0;have hfin:=NU hs4.fh hs4.ext oG hfi;simp_all
 rcases hout with rfl|rfl;·exact key
 ·exact key
theorem N2 {T:Tab} (N:kB P T) {n:Nat} (ih:za P T n):pr P (qe T (exec T .plain n)):=by
 intro f e o m r I c;unfold qe at c;split at c
 ·rename_i x hK;injection c with c;subst c;exact N.K _ _ _ _ _ _ hK
 ·split at c;·cases c
  ·rename_i F J;obtain⟨fn,H,y,a,hg⟩:=N.fn f F J;split at c
   ·rename_i k;unfold Bw at a;split at a;·cases a
    ·rename_i a0 j;split at a
     ·rename_i b rs i D;split at a;·cases a
      ·rename_i E;injection a with a;subst a;simp only at c k;have p:∀{t:AV} {u:St},finish m o.length t u.o=some (r,I)->m=false->I=[]:=λl ho=>by
        subst ho;unfold finish at l;grind
       unfold Fq at i;split at i
       ·rename_i V S;injection i with i;subst i;have R:∀(x:Option (Out×St)),sY T (exec T .plain n) o.length V ⟨iu 0 e,o⟩=x->exec T .plain n o.length V ⟨iu 0 e,o⟩=x:=λx hx=>by
         unfold sY at hx;grind[XQ]
        have a1:∀(h:Out) (u:St),(h= .norm\/h= .ret)->sY T (exec T .plain n) o.length V ⟨iu 0 e,o⟩=some (h,u)->∀t,nG u rs=some t->finish m o.length t u.o=some (r,I)->
          gA P f=true/\kP P f e o r I/\(m=false->I=[]):=by
         intro h u G Q t s l;exact⟨hg,λA w σ vs L U=>(callsIn_wide (n:=0)).1 (XP ih (md:=.plain) (B:=zb) rfl BV y j S D E k G (R _ Q) s l trivial L U),p l⟩
        grind
       ·obtain⟨⟨ia,⟨g,q,d⟩,ib⟩,S,rfl⟩:=ε.1 i;simp only[sY] at c;cases W:qR (exec T .plain n o.length) ia ⟨iu 0 e,o⟩ with
        |none=>simp_all;|some v=>
        simp only[W] at c;cases h2:exec T .plain n v.o.length ib ⟨(d,.ud)::v.env,v.o⟩ with
        |none=>simp_all;|some x2=>
        obtain⟨h,Y⟩:=x2;simp only[h2] at c;cases Z:qS h with
        |false=>simp_all;|true=>
        simp only[Z,if_true] at c;unfold Fj at c;cases J:T.fn g with
        |none=>simp_all;|some O=>
        simp only[J] at c;by_cases M:(q.map (eF v.env)).length=O.params/\O.res.isEmpty=true
        ·rw[if_pos M] at c;cases X:exec T .plain n Y.o.length O.body ⟨iu 0 (q.map (eF v.env)),Y.o⟩ with
         |none=>simp_all;|some x3=>
         obtain⟨C,s3⟩:=x3;simp only[X] at c;cases z:qS C with
         |false=>simp_all;|true=>
         simp only[z,if_true] at c;split at c
         ·rename_i t s;exact⟨hg,λA w σ vs L U=>(callsIn_wide (n:=0)).1 (XU N ih y j S D E k (NZ Z) W h2 J M.1 (List.isEmpty_iff.1 M.2) X (NZ z) s c L U),p c⟩
         ·cases c
        simp_all
     ·cases a
   ·cases c
end
open Go.RowKit
section
variable {P:Program} {A:dQ} {D:List Deferred} {w w':World} {σ σ':bY} {o o':Store}
theorem XY {di:Option Nat} {Q:Exit->Act->World->Prop} {a:Act} {w:World} {c:Code} (h:c.wpIn (FR di) 0 P (Exit.noGoto Q) a w):(Code.scope c).wpIn (FR di) 0 P Q a w:=by
 intro b k n o p m;obtain⟨e,d,f,j,g⟩:=h b (.inScope c::k) n o p m;have s:step P (lone (b.atR a (.code (.scope c)::k)) n w)= .next (lone (b.atR a (.code c:: .inScope c::k)) n w):=step_lone_go (by simp[stepG,stepG.exec,Frame.atR]);have q:step P (lone (b.atR d (.inScope c::k)) n f)= .next (lone (b.atR d k) n f):=step_lone_go (by simp[stepG,stepG.exec,Frame.atR]);have i:=StepsIn.one (I:=Machine.fenced P (FR di)) (fenced_calm (fr:=b.atR a (.code (.scope c)::k)) p m rfl) s;cases e with
 |normal=>exact⟨.normal,d,f,j,(StepsIn.trans i (StepsIn.trans g (.one (fenced_calm (fr:=b.atR d (.inScope c::k)) p m rfl) q)))⟩;|exit u=>exact⟨.exit u,d,f,j,.of_steps i ⟨λr t=>g.1 r (by grind[exitTo]),λm t=>by obtain⟨x,z,v⟩:=g.2 m (by grind[exitTo]);grind⟩⟩;|goto l=>exact j.elim;|ret=>exact⟨_,d,f,j,.of_steps i g⟩;|panic y=>exact⟨_,d,f,j,.of_steps i g⟩;|outgrown=>exact⟨_,d,f,j,.of_steps i g⟩
def zd (di:Option Nat) (P:Program) (b:Code) (l:Nat) (Q:Exit->Act->World->Prop):Nat->Code->Act->World->Prop
 |0,_,_,_=>False
 |n+1,x,a,w=>x.wpIn (FR di) 0 P (λe d c=>match e with
   | .goto f=>f=l/\zd di P b l Q n b d c
   |e=>Q e d c) a w
theorem XZ {di:Option Nat} {Q:Exit->Act->World->Prop} {a:Act} {w:World} {c i:Code} {l:Nat} (S:findLabel c l=some i) {n:Nat} (h:zd di P i l Q n c a w):(Code.scope c).wpIn (FR di) 0 P Q a w:=by
 intro b k p A y t;have E:gotoIn l (.inScope c::k)=some (.code i:: .inScope c::k):=by grind[gotoIn]
 have B:∀n x a w,zd di P i l Q n x a w->∃e u v,Q e u v/\ArrivesIn (Machine.fenced P (FR di)) P (lone (b.atR a (.code x:: .inScope c::k)) p w) b k p e u v:=by
  intro n;induction n with
  |zero=>intro x a w h;exact h.elim;|succ n J=>
   intro x a w h;obtain⟨e,d,g,m,f⟩:=h b (.inScope c::k) p A y t;have G:step P (lone (b.atR d (.inScope c::k)) p g)= .next (lone (b.atR d k) p g):=step_lone_go (by simp[stepG,stepG.exec,Frame.atR]);cases e with
   |normal=>exact⟨.normal,d,g,m,StepsIn.trans f (.one (fenced_calm (fr:=b.atR d (.inScope c::k)) y t rfl) G)⟩;|exit K=>exact⟨.exit K,d,g,m,λD C=>f.1 D (by grind[exitTo]),λt C=>by obtain⟨M,O,N⟩:=f.2 t (by grind[exitTo]);grind⟩;|goto L=>
    obtain⟨rfl,H⟩:=m;obtain⟨q,r,s,o,j⟩:=J i d g H;exact⟨q,r,s,o,.of_steps (f.1 _ E) j⟩;|ret=>exact⟨_,d,g,m,f⟩;|panic R=>exact⟨_,d,g,m,f⟩;|outgrown=>exact⟨_,d,g,m,f⟩
 have F:step P (lone (b.atR a (.code (.scope c)::k)) p w)= .next (lone (b.atR a (.code c:: .inScope c::k)) p w):=step_lone_go (by simp[stepG,stepG.exec,Frame.atR]);have z:=StepsIn.one (I:=Machine.fenced P (FR di)) (fenced_calm (fr:=b.atR a (.code (.scope c)::k)) y t rfl) F;obtain⟨e,u,v,m,f⟩:=B n c a w h;exact⟨e,u,v,m,.of_steps z f⟩
theorem X0 {b:Code} {l c:Nat} {H:List RH} {x:IR} (h:Bt b=some l) (d:comp P c H b=some x):∃a,findLabel b l=some a/\comp P c H a=some x:=by
 unfold Bt at h;grind[findLabel,comp]
theorem N3 {T:Tab} (hT:kB P T):∀n,za P T n/\(∀(di:Option Nat) (md:Md) (B:dQ->World->bY->Store->Prop),uX P di B md->Closed B->∀(lo:Nat) (b:IR) (st:St) (out:Out) (st':St),exec T md n lo (.loop b) st=some (out,st')->∀(q:Nat) (H:List RH) (f:Code),comp P q H f=some b->∀(D:List Deferred) (A:dQ) (r:World) (d:bY) (m:Store) (a:Act) (w:World) (σ:bY),B A r d m->
   m.length<=lo->cY A q D r d m st a w σ->Code.roundsIn (FR di) 0 P f (λe v w'=>e=out.tq/\∃u,cY A q D r d m st' v w' u) n a w)/\∀(di:Option Nat) (md:Md) (B:dQ->World->bY->Store->Prop),uX P di B md->Closed B->∀(lo l:Nat) (b:IR) (st:St) (out:Out) (st':St),exec T md n lo (.turns (some l) b) st=some (out,st')->∀(q:Nat) (H:List RH) (f s:Code),comp P q H f=some b->comp P q H s=some b->∀(D:List Deferred) (A:dQ) (r:World) (d:bY) (m:Store) (a:Act) (w:World) (σ:bY),B A r d m->
   m.length<=lo->cY A q D r d m st a w σ->zd di P s l (λe v w'=>e=out.tq/\∃u,cY A q D r d m st' v w' u) n f a w
 |0=>⟨λdi md B _ _ lo c st out st' h=>by grind[exec],λdi md B _ _ lo b st out st' h=>by grind[exec],λdi md B _ _ lo l b st out st' h=>by grind[exec]⟩
 |n+1=>by
  obtain⟨I,a0,Z⟩:=N3 hT n;have M:∀(di:Option Nat) (md:Md) (B:dQ->World->bY->Store->Prop),uX P di B md->Closed B->∀(lo:Nat) (b:IR) (st:St) (out:Out) (st':St),exec T md (n+1) lo (.loop b) st=some (out,st')->∀(q:Nat) (H:List RH) (f:Code),comp P q H f=some b->∀(D:List Deferred) (A:dQ) (r:World) (d:bY) (m:Store) (a:Act) (w:World) (σ:bY),B A r d m->
    m.length<=lo->cY A q D r d m st a w σ->Code.roundsIn (FR di) 0 P f (λe v w'=>e=out.tq/\∃u,cY A q D r d m st' v w' u) (n+1) a w:=by
   intro di md B C E lo b st out st' h q H f p D A r d m a w σ j i t;simp only[exec] at h;split at h
   ·rename_i F Q;have O:=I di md B C E lo b st .norm F Q q H f p _ A r d m a w σ j i t;rw[roundsIn_succ];refine wpIn_mono O ?_;rintro e v w' ⟨rfl,u,g⟩;obtain⟨N,L⟩:=g.trim (k:=st.o.length) t.len;exact a0 di md B C E lo b _ out st' h q H f p _ A r d m v w' N j i L
   ·rename_i K;have O:=I di md B C E lo b st out st' h q H f p _ A r d m a w σ j i t;rw[roundsIn_succ];refine wpIn_mono O ?_;rintro e v w' ⟨rfl,g⟩;cases out with
    |norm=>simp_all;|exit S=>exact⟨rfl,g⟩;|ret=>exact⟨rfl,g⟩;|goto l=>exact⟨rfl,g⟩
  have R:∀(di:Option Nat) (md:Md) (B:dQ->World->bY->Store->Prop),uX P di B md->Closed B->∀(lo l:Nat) (b:IR) (st:St) (out:Out) (st':St),exec T md (n+1) lo (.turns (some l) b) st=some (out,st')->∀(q:Nat) (H:List RH) (f s:Code),comp P q H f=some b->comp P q H s=some b->∀(D:List Deferred) (A:dQ) (r:World) (d:bY) (m:Store) (a:Act) (w:World) (σ:bY),B A r d m->
    m.length<=lo->cY A q D r d m st a w σ->zd di P s l (λe v w'=>e=out.tq/\∃u,cY A q D r d m st' v w' u) (n+1) f a w:=by
   intro di md B C E lo l b st out st' h q H f s p hr D A r d m a w σ j i t;simp only[exec] at h;split at h
   ·rename_i l' F Q;split at h
    ·rename_i U;injection U with U;subst U;refine wpIn_mono (I di md B C E lo b st (.goto l) F Q q H f p _ A r d m a w σ j i t) ?_;rintro e v w' ⟨rfl,u,g⟩;obtain⟨N,L⟩:=g.trim (k:=st.o.length) t.len;exact⟨rfl,Z di md B C E lo l b _ out st' h q H s s hr hr _ A r d m v w' N j i L⟩
    ·cases h
   ·rename_i K;refine wpIn_mono (I di md B C E lo b st out st' h q H f p _ A r d m a w σ j i t) ?_;rintro e v w' ⟨rfl,g⟩;cases out with
    |norm=>exact⟨rfl,g⟩;|exit S=>exact⟨rfl,g⟩;|ret=>exact⟨rfl,g⟩;|goto l=>simp_all
  refine⟨λdi md B C E lo c st out st' h q H f p D A r d m a w σ j i t=>?_,M,R⟩;cases f with
  |skip=>
   simp only[comp,γ] at p;subst p;simp only[exec,γ,μ] at h;obtain⟨rfl,rfl⟩:=h;exact wpIn_skip ⟨rfl,σ,t⟩;|scope b=>
   simp only[comp] at p;obtain⟨V,J,rfl⟩:=ε.1 p;cases U:Bt b with
   |some l=>
    grind[X0,XZ];|none=>
    rw[U] at h;simp only[exec] at h;refine XY ?_;split at h;·simp_all
    ·rename_i K;refine wpIn_mono (I di md B C E lo V st out st' h q H b J _ A r d m a w σ j i t) ?_;rintro e v w' ⟨rfl,g⟩;cases out with
     |norm=>exact⟨rfl,g⟩;|exit S=>exact⟨rfl,g⟩;|ret=>exact⟨rfl,g⟩;|goto l=>simp_all
  |goto l=>
   simp only[comp,γ] at p;subst p;simp only[exec,γ,μ] at h;obtain⟨rfl,rfl⟩:=h;exact wpIn_goto ⟨rfl,σ,t⟩;|label l=>
   simp only[comp,γ] at p;subst p;simp only[exec,γ,μ] at h;obtain⟨rfl,rfl⟩:=h;exact wpIn_label ⟨rfl,σ,t⟩;|region S a8 a3=>
   simp only[comp] at p;obtain⟨k,l,a4,a1,a7,a2,rfl,hw⟩:=XM (N2 hT I) C E (A:=A) (lo:=lo) p;simp only[exec] at h;split at h
   ·rename_i a5 h2;simp only[γ,μ] at h;obtain⟨rfl,rfl⟩:=h;exact hw h2 j i t
   ·cases h;|seq x y=>
   simp only[comp] at p;split at p
   ·rename_i V W J X;injection p with p;subst p;simp only[exec] at h;split at h
    ·rename_i F Q;refine wpIn_seq (wpIn_mono (I di md B C E lo V st .norm F Q q H x J _ A r d m a w σ j i t) ?_);rintro e v w' ⟨rfl,u,g⟩;exact I di md B C E lo W F out st' h q H y X _ A r d m v w' u j i g
    ·rename_i K;refine wpIn_seq (wpIn_mono (I di md B C E lo V st out st' h q H x J _ A r d m a w σ j i t) ?_);rintro e v w' ⟨rfl,g⟩;cases out with
     |norm=>simp_all;|exit S=>exact⟨rfl,g⟩;|ret=>exact⟨rfl,g⟩;|goto l=>exact⟨rfl,g⟩
   ·cases p;|cond x y z=>
   simp only[comp] at p;split at p
   ·rename_i W z' X hz;injection p with p;subst p;by_cases hk:MB H x=true
    ·rw[if_pos hk] at h;simp only[exec] at h;have J:=t.ev x;split at h
     ·rename_i G;rw[G] at J;exact wpIn_cond_true (gX J) (I di md B C E lo W _ out st' h q H y X _ A r d m a w σ j i t)
     ·rename_i G;rw[G] at J;exact wpIn_cond_false (gX J) (I di md B C E lo z' _ out st' h q H z hz _ A r d m a w σ j i t)
     ·cases h
    rw[if_neg hk] at h;simp only[exec] at h;have J:=t.ev x;split at h
    ·rename_i G;rw[G] at J;exact wpIn_cond_true (gX J) (I di md B C E lo W _ out st' h q H y X _ A r d m a w σ j i (t.drop x))
    ·rename_i G;rw[G] at J;exact wpIn_cond_false (gX J) (I di md B C E lo z' _ out st' h q H z hz _ A r d m a w σ j i (t.drop x))
    ·cases h
   ·cases p;|block S b=>
   simp only[comp] at p;obtain⟨b',O,rfl⟩:=ε.1 p;simp only[exec] at h;split at h
   ·rename_i Y F Q;refine wpIn_block (wpIn_mono (I di md B C E lo b' st (.exit Y) F Q q H b O _ A r d m a w σ j i t) ?_);rintro e v w' ⟨rfl,g⟩;simp only[Out.tq,Exit.inBlock];grind
   ·rename_i K;refine wpIn_block (wpIn_mono (I di md B C E lo b' st out st' h q H b O _ A r d m a w σ j i t) ?_);rintro e v w' ⟨rfl,g⟩;cases out with
    |norm=>exact⟨rfl,g⟩;|exit a6=>simp_all;|ret=>exact⟨rfl,g⟩;|goto l=>exact⟨rfl,g⟩
  |loop b=>
   simp only[comp] at p;obtain⟨b',O,rfl⟩:=ε.1 p;grind[wpIn_loop_rounds];|exit S=>
   simp only[comp,γ] at p;subst p;simp only[exec,γ,μ] at h;obtain⟨rfl,rfl⟩:=h;exact wpIn_exit ⟨rfl,σ,t⟩;|ret=>
   simp only[comp,γ] at p;subst p;simp only[exec,γ,μ] at h;obtain⟨rfl,rfl⟩:=h;exact wpIn_ret ⟨rfl,σ,t⟩;|_=>grind[comp]
theorem N4 {T:Tab} (a:kB P T) (n:Nat):pr P (qe T (exec T .plain n)):=N2 a (N3 a n).1
end
def Ev (T:Tab) (md:Nat->Md) (lo:Nat) (c:IR) (st:St) (r:Out×St):Prop:=∃N,∀m n,N<=m->N<=n->exec T (md m) n lo c st=some r
abbrev ze:Nat->Md:=λ_=> .plain
section
variable {T:Tab} {md:Nat->Md} {lo:Nat} {st st1 st':St} {r:Out×St} {a b:IR} {out:Out}
theorem Ev.mk (N:Nat) (h:∀m n,N<=m->N<=n->exec T (md m) (n+1) lo a st=some r):Ev T md lo a st r:=
 ⟨N+1,λm n c b=>by
  match n,b with
  |n+1,b=>grind⟩
theorem Ev.skip:Ev T md lo .skip st (.norm,st):=.mk 0 λ_ _ _ _=>by simp only[exec]
theorem Ev.ret:Ev T md lo .ret st (.ret,st):=.mk 0 λ_ _ _ _=>by simp only[exec]
theorem Ev.exit {id:Nat}:Ev T md lo (.exit id) st (.exit id,st):=.mk 0 λ_ _ _ _=>by simp only[exec]
theorem Ev.seq (h:Ev T md lo a st (.norm,st1)) (k:Ev T md lo b st1 r):Ev T md lo (.seq a b) st r:=by
 obtain⟨N,h⟩:=h;obtain⟨M,k⟩:=k;exact .mk (N+M) λm n c d=>by simp only[exec,h m n (by omega) (by omega),k m n (by omega) (by omega)]
theorem Ev.X1 (h:Ev T md lo a st (out,st1)) (c:out≠ .norm):Ev T md lo (.seq a b) st (out,st1):=by
 obtain⟨N,h⟩:=h;exact .mk N λm n e d=>by
  simp_all[exec]
theorem Ev.X2 {x:Operand} (d:eF st.env x= .sc (.bool true)) (h:Ev T md lo a ⟨pg x st.env,st.o⟩ r):Ev T md lo (.cond x a b) st r:=by
 obtain⟨N,h⟩:=h;exact .mk N λm n c e=>by simp_all[exec]
theorem Ev.X3 {x:Operand} (d:eF st.env x= .sc (.bool false)) (h:Ev T md lo b ⟨pg x st.env,st.o⟩ r):Ev T md lo (.cond x a b) st r:=by
 obtain⟨N,h⟩:=h;exact .mk N λm n c e=>by simp_all[exec]
theorem Ev.ou {x:Operand} {q:Bool} (g:eF st.env x= .sc (.bool q)) (e:q=true->Ev T md lo a st r) (d:q=false->Ev T md lo b st r):Ev T md lo (.ou x a b) st r:=by
 cases q with
 |true=>
  obtain⟨N,h⟩:=e rfl;exact .mk N λm n c f=>by simp_all[exec];|false=>
  obtain⟨N,h⟩:=d rfl;exact .mk N λm n c f=>by simp_all[exec]
def Out.inBlock (id:Nat):Out->Out
 | .exit a=>if a=id then .norm else .exit a
 |o=>o
theorem Ev.block {id:Nat} (h:Ev T md lo a st (out,st1)):Ev T md lo (.block id a) st (out.inBlock id,st1):=by
 obtain⟨N,h⟩:=h;exact .mk N λm n b c=>by
  simp only[exec,h m n b c];cases out<;>grind[exit,Out.inBlock]
theorem Ev.X4 (h:Ev T md lo a st (.norm,st1)) (k:Ev T md lo (.loop a) (trim st.o.length st1) r):Ev T md lo (.loop a) st r:=by
 obtain⟨N,h⟩:=h;obtain⟨M,k⟩:=k;exact .mk (N+M) λm n b c=>by
  simp only[exec,h m n (by omega) (by omega)];grind
theorem Ev.X5 (h:Ev T md lo a st (out,st1)) (b:out≠ .norm):Ev T md lo (.loop a) st (out,st1):=by
 obtain⟨N,h⟩:=h;exact .mk N λm n d c=>by
  simp_all[exec]
theorem Ev.goto {l:Nat}:Ev T md lo (.goto l) st (.goto l,st):=.mk 0 λ_ _ _ _=>by simp only[exec]
theorem Ev.X6 {l:Nat} (h:Ev T md lo a st (.goto l,st1)) (k:Ev T md lo (.turns (some l) a) (trim st.o.length st1) r):Ev T md lo (.turns (some l) a) st r:=by
 obtain⟨N,h⟩:=h;obtain⟨M,k⟩:=k;exact .mk (N+M) λm n b c=>by
  simp only[exec,h m n (by omega) (by omega),if_true];grind
theorem Ev.N5 {l:Option Nat} (h:Ev T md lo a st (out,st1)) (c:∀b,out≠ .goto b):Ev T md lo (.turns l a) st (out,st1):=by
 obtain⟨N,h⟩:=h;exact .mk N λm n e d=>by
  simp_all[exec]
theorem Ev.region {id k:Nat} {b:Bool} {f:List dy} {d:List (Nat×Nat)} {a:List Nat} {e c:List ky}
  (h:∃N,∀g m,N<=m->Fo (md m) b (qe T g) k f d (e.foldl (λs h=>jU lo h s) st)=some st'):
  Ev T md lo (.region id b k f d a e c) st (.norm,c.foldl (λs h=>jU lo h s) ⟨prune a st'.env,st'.o⟩):=by
 obtain⟨N,h⟩:=h;exact .mk N λm n i _=>by simp_all[exec]
theorem X7 {P:Program} (i:kB P T) {f:FuncId} {F:eZ} (l:T.fn f=some F) {args:List AV} {o:Store} {own:Bool} (g:T.K f args o own=none) (d:args.length=F.params)
  (h:Ev T ze o.length F.body ⟨iu 0 args,o⟩ (out,st')) (c:out= .norm\/out= .ret) {b v:AV} {o':Store} (k:nG st' F.res=some b) (a:finish own o.length b st'.o=some (v,o')):
  gA P f=true/\kP P f args o v o'/\(own=false->o'=[]):=by
 obtain⟨N,h⟩:=h;refine N4 i N f args o own v o' ?_;unfold qe;rw[g];have h:=h N N (φ _) (φ _);have j:sY T (exec T .plain N) o.length F.body ⟨iu 0 args,o⟩=some (out,st'):=by
  unfold sY;split
  ·rename_i e;rw[e] at h;cases N<;>simp[exec] at h
  ·exact h
 grind
theorem X8 {P:Program} (A:kB P T) {f:FuncId} {F:eZ} (z:T.fn f=some F) {g:FuncId} {a:List Operand} {d:Nat} {w u:IR} (e:F.body= .sW g a d w u) {args:List AV} {o:Store} {own:Bool} (E:T.K f args o own=none) (k:args.length=F.params)
  {s0 s2 s3:St} {b:Out} {G:eZ} (t:∃N,∀n,N<=n->qR (exec T .plain n o.length) w ⟨iu 0 args,o⟩=some s0) (s:Ev T ze s0.o.length u ⟨(d,.ud)::s0.env,s0.o⟩ (out,s2)) (l:qS out=true)
  (D:T.fn g=some G) (q:(a.map (eF s0.env)).length=G.params) (p:G.res.isEmpty=true) (r:Ev T ze s2.o.length G.body ⟨iu 0 (a.map (eF s0.env)),s2.o⟩ (b,s3)) (c:qS b=true)
  {x v:AV} {o':Store} (C:nG ⟨s2.env,s3.o⟩ F.res=some x) (m:finish own o.length x s3.o=some (v,o')):
  gA P f=true/\kP P f args o v o'/\(own=false->o'=[]):=by
 obtain⟨h,t⟩:=t;obtain⟨j,s⟩:=s;obtain⟨i,r⟩:=r;refine N4 A (h+j+i) f args o own v o' ?_;unfold qe;rw[E];simp only[z,if_pos k,e,sY,t _ (show h<=h+j+i by omega)];have y:=s (h+j+i) (h+j+i) (by omega) (by omega);have B:=r (h+j+i) (h+j+i) (by omega) (by omega);simp only[y,l,if_true,Fj,D,if_pos (And.intro q p),B,c,C,m]
end
section
variable {call call':dh}
def mP (call b:dh):Prop:=∀f a o c r,call f a o c=some r->b f a o c=some r
theorem mP.qe (T:Tab) (b:Nat->IR->St->Option (Out×St)):mP T.K (qe T b):=by
 intro f a o c r h;grind[Go.Vi.qe]
theorem mP.gw (h:mP call call') {f:FuncId} {args:List AV} {o:Store} {own:Bool} {r:AV×Store} (a:gw call f args o own=some r):gw call' f args o own=some r:=by
 unfold Go.Vi.gw at a ⊢;split at a
 ·rename_i b;rw[if_pos b];unfold iI at a ⊢;simp only at a ⊢;split at a
  ·split at a
   ·rename_i e d c;rw[h _ _ _ _ _ c];exact a
   ·cases a
  ·cases a
 ·rename_i b;rw[if_neg b];split at a;·cases a
  ·split at a
   ·rename_i c;rw[h _ _ _ _ _ c];exact a
   ·cases a
theorem mP.qb (h:mP call call') {op:cJ} {ρ:Operand->AV} {o:Store} {bE:Nat} {r:AV×Store} (hc:qb call op ρ o bE=some r):qb call' op ρ o bE=some r:=by
 cases op with
 |call f args own=>exact h.gw hc;|jI f args own=>
  simp only[Go.Vi.qb,Fh,L1] at hc ⊢;split at hc;·exact h.gw hc
  ·cases hc;|ot tab x args=>
  simp only[Go.Vi.qb,Fh,L9] at hc ⊢;split at hc
  ·split at hc;·exact h.gw hc
   ·cases hc
  ·cases hc;|_=>exact hc
theorem mP.iq (h:mP call call') {base:Nat} {i:dy} {st st':St} (a:iq call base i st=some st'):iq call' base i st=some st':=by
 unfold Go.Vi.iq at a ⊢;split at a;·cases a
 ·exact a
 ·split at a
  ·rename_i b;rw[h.qb b];exact a
  ·cases a
theorem mP.eu (h:mP call call') {b:cJ} {ρ:Operand->AV} {o:Store} {bE:Nat} {r:AV×Store} (d:Go.Vi.qb call b ρ o bE=some r):Go.Vi.eu call' b ρ o bE=Go.Vi.eu call b ρ o bE:=by
 unfold Go.Vi.eu;split
 ·rename_i f a;have c:Go.Vi.gw call f (a.map ρ) o true=some r:=d;have e:=h.gw c;simp_all[Go.Vi.gw]
 ·rfl
theorem mP.fR (h:mP call call') {base:Nat}:∀{l:List dy} {st st':St},fR call base l st=some st'->fR call' base l st=some st'/\mg call' base l st=mg call base l st
 |[],_,_,b=>⟨b,rfl⟩
 |i::l,st,st',b=>by
  simp only[Go.Vi.fR] at b ⊢;split at b
  ·rename_i g a;obtain⟨j,c⟩:=h.fR b;have f:=h.iq a;refine⟨by simp_all,?_⟩;simp only[mg,a,f,c];congr 1;split
   ·rename_i e;unfold Go.Vi.iq at a;rw[e] at a;simp only at a;split at a
    ·rename_i d;rw[h.eu d]
    ·cases a
   ·rfl
  ·cases b
theorem mP.pe (h:mP call call') {k:Nat} {b:List dy} {a:List (Nat×Nat)} {st st':St} (c:pe call k b a st=some st'):pe call' k b a st=some st':=by
 unfold Go.Vi.pe at c ⊢;simp only at c ⊢;split at c
 ·rename_i e d;obtain⟨f,g⟩:=h.fR d;simp_all
 ·cases c
end
def VW (T:Tab) (md:Nat->Md) (lo:Nat) (c:IR) (st:St) (Q:Out->St->Prop):Prop:=∃b a,Ev T md lo c st (b,a)/\Q b a
def RQ (x:Option St) (Q:St->Prop):Prop:=match x with|some a=>Q a|none=>False
section
variable {T:Tab} {md:Nat->Md} {lo:Nat} {st:St} {a b:IR} {Q Q':Out->St->Prop}
theorem VW.mono (h:VW T md lo a st Q) (d:∀o s,Q o s->Q' o s):VW T md lo a st Q':=by
 obtain⟨o,s,b,c⟩:=h;exact⟨o,s,b,d o s c⟩
theorem VW.skip (h:Q .norm st):VW T md lo .skip st Q:=⟨_,_,.skip,h⟩
theorem VW.ret (h:Q .ret st):VW T md lo .ret st Q:=⟨_,_,.ret,h⟩
theorem VW.exit {id:Nat} (h:Q (.exit id) st):VW T md lo (.exit id) st Q:=⟨_,_,.exit,h⟩
theorem VW.seq (h:VW T md lo a st λout s=>if out= .norm then VW T md lo b s Q else Q out s):VW T md lo (.seq a b) st Q:=by
 obtain⟨o,s,e,c⟩:=h;by_cases d:o= .norm
 ·subst d;rw[if_pos rfl] at c;obtain⟨i,j,g,f⟩:=c;exact⟨i,j,e.seq g,f⟩
 ·rw[if_neg d] at c;exact⟨o,s,e.X1 d,c⟩
theorem VW.cond {x:Operand} {q:Bool} (e:eF st.env x= .sc (.bool q)) (h:if q=true then VW T md lo a ⟨pg x st.env,st.o⟩ Q else VW T md lo b ⟨pg x st.env,st.o⟩ Q):VW T md lo (.cond x a b) st Q:=by
 cases q with
 |true=>obtain⟨o,s,c,d⟩:=(by simpa using h:VW T md lo a ⟨pg x st.env,st.o⟩ Q);exact⟨o,s,.X2 e c,d⟩;|false=>obtain⟨o,s,c,d⟩:=(by simpa using h:VW T md lo b ⟨pg x st.env,st.o⟩ Q);exact⟨o,s,.X3 e c,d⟩
theorem VW.ou {x:Operand} {q:Bool} (e:eF st.env x= .sc (.bool q)) (h:if q=true then VW T md lo a st Q else VW T md lo b st Q):VW T md lo (.ou x a b) st Q:=by
 cases q with
 |true=>obtain⟨o,s,c,d⟩:=(by simpa using h:VW T md lo a st Q);exact⟨o,s,.ou e (λ_=>c) (λh=>by cases h),d⟩;|false=>obtain⟨o,s,c,d⟩:=(by simpa using h:VW T md lo b st Q);exact⟨o,s,.ou e (λh=>by cases h) (λ_=>c),d⟩
theorem VW.block {id:Nat} (h:VW T md lo a st λout s=>Q (out.inBlock id) s):VW T md lo (.block id a) st Q:=by
 obtain⟨o,s,b,c⟩:=h;exact⟨_,_,b.block,c⟩
theorem VW.region {id k:Nat} {d:Bool} {e:List dy} {c:List (Nat×Nat)} {b:List Nat} {f a:List ky}
  (h:RQ (pe T.K k e c (f.foldl (λs h=>jU lo h s) st)) λst'=>Q .norm (a.foldl (λs h=>jU lo h s) ⟨prune b st'.env,st'.o⟩)):
  VW T md lo (.region id d k e c b f a) st Q:=by
 unfold RQ at h;split at h
 ·rename_i st' g;refine⟨_,_,Ev.region ⟨0,λi m _=>?_⟩,h⟩;have:=(mP.qe T i).pe g;exact this
 simp_all
theorem VW.loop (h:VW T md lo a st λout s=>if out= .norm then VW T md lo (.loop a) (trim st.o.length s) Q else Q out s):VW T md lo (.loop a) st Q:=by
 obtain⟨o,s,d,b⟩:=h;by_cases c:o= .norm
 ·subst c;rw[if_pos rfl] at b;obtain⟨g,i,f,e⟩:=b;exact⟨g,i,d.X4 f,e⟩
 ·rw[if_neg c] at b;exact⟨o,s,d.X5 c,b⟩
theorem VW.X9 (I:Nat->St->Prop) (b:∀m s,I m s->VW T md lo a s λout s'=>if out= .norm then ∃c,c<m/\I c (trim s.o.length s') else Q out s'):
  ∀(m:Nat) (s:St),I m s->VW T md lo (.loop a) s Q:=by
 intro m;induction m using ζr with
 |_ m e=>
  intro s d;refine VW.loop ((b m s d).mono λo s' h=>?_);grind
theorem VW.goto {l:Nat} (h:Q (.goto l) st):VW T md lo (.goto l) st Q:=⟨_,_,.goto,h⟩
theorem VW.Ya {l:Option Nat} (h:VW T md lo a st λout s=>(∀e,out≠ .goto e)/\Q out s):VW T md lo (.turns l a) st Q:=by
 obtain⟨o,s,b,c,d⟩:=h;exact⟨o,s,b.N5 c,d⟩
theorem VW.Yb {l:Nat} (I:Nat->St->Prop) (b:∀m s,I m s->VW T md lo a s λout s'=>(out= .goto l/\∃c,c<m/\I c (trim s.o.length s'))\/((∀h,out≠ .goto h)/\Q out s')):
  ∀(m:Nat) (s:St),I m s->VW T md lo (.turns (some l) a) s Q:=by
 intro m;induction m using ζr with
 |_ m i=>
  intro s k;obtain⟨o,s',f,j⟩:=b m s k;rcases j with⟨rfl,c,d,e⟩|⟨d,e⟩
  ·obtain⟨p,q,n,g⟩:=i c d _ e;exact⟨p,q,f.X6 n,g⟩
  ·exact⟨o,s',f.N5 d,e⟩
theorem BX {P:Program} (k:kB P T) {f:FuncId} {F:eZ} (g:T.fn f=some F) {args:List AV} {o:Store} {own:Bool} (j:T.K f args o own=none) (b:args.length=F.params) {v:AV} {o':Store}
  (h:VW T ze o.length F.body ⟨iu 0 args,o⟩ λout st'=>(out= .norm\/out= .ret)/\(nG st' F.res).bind (λc=>finish own o.length c st'.o)=some (v,o')):
  gA P f=true/\kP P f args o v o'/\(own=false->o'=[]):=by
 obtain⟨out,st',e,i,d⟩:=h;obtain⟨c,l,a⟩:=Option.bind_eq_some_iff.1 d;grind[X7]
end
open Classical in
noncomputable def ans {α:Type} (enc:α->List AV) (dom:α->Prop) (spec:α->AV) (args:List AV):Option AV:=
 if h:∃a,args=enc a/\dom a then some (spec (Classical.choose h)) else none
theorem Yc {e:Type} {enc:e->List AV} {d:e->Prop} {c:e->AV} (f:∀a b,enc a=enc b->a=b) {a:e} (g:d a):ans enc d c (enc a)=some (c a):=by
 have h:∃b,enc a=enc b/\d b:=⟨a,rfl,g⟩;unfold ans;grind
theorem Yd {d:Type} {enc:d->List AV} {c:d->Prop} {b:d->AV} {args:List AV} {v:AV} (h:ans enc c b args=some v):∃a,args=enc a/\c a/\v=b a:=by
 unfold ans at h;split at h<;>grind
structure bD where
 (a0 a1 a2 a3 a4 a5:Int)
 deriving DecidableEq
structure Off where
 bX:Int
 want:bD
 value:Int
 deriving DecidableEq
structure Need where
 N6:Int
 least:Int
 deriving DecidableEq
structure nI where
 bX:Int
 want:bD
 deriving DecidableEq
structure Sit where
 members:Int
 left:bD
 opn:bD
 deriving DecidableEq
def bD.zero:bD:=⟨0,0,0,0,0,0⟩
inductive bp where
 |i (k:IntKind)
 |b
 |dR
 |off
 |need
 |key
 |sit
 |bH (s:bp)
 |pair (s t:bp)
 deriving DecidableEq
@[reducible] def bp.T:bp->Type
 | .i _=>Int
 | .b=>Bool
 | .dR=>bD
 | .off=>Off
 | .need=>Need
 | .key=>nI
 | .sit=>Sit
 | .bH s=>List s.T
 | .pair s t=>s.T×t.T
def bp.dflt:(s:bp)->s.T
 | .i _=>(0:Int)
 | .b=>false
 | .dR=> .zero
 | .off=>⟨0,.zero,0⟩
 | .need=>⟨0,0⟩
 | .key=>⟨0,.zero⟩
 | .sit=>⟨0,.zero,.zero⟩
 | .bH _=>[]
 | .pair s t=>(s.dflt,t.dflt)
def bp.sz:bp->Nat
 | .i _=>1
 | .b=>1
 | .dR=>6
 | .off=>8
 | .need=>2
 | .key=>7
 | .sit=>13
 | .bH _=>1
 | .pair s t=>s.sz+t.sz
@[reducible] def bp.dec:(s:bp)->DecidableEq s.T
 | .i _=>inferInstanceAs (DecidableEq Int)
 | .b=>inferInstanceAs (DecidableEq Bool)
 | .dR=>inferInstanceAs (DecidableEq bD)
 | .off=>inferInstanceAs (DecidableEq Off)
 | .need=>inferInstanceAs (DecidableEq Need)
 | .key=>inferInstanceAs (DecidableEq nI)
 | .sit=>inferInstanceAs (DecidableEq Sit)
 | .bH s=>@instDecidableEqList _ s.dec
 | .pair s t=>@instDecidableEqProd _ _ s.dec t.dec
instance (s:bp):DecidableEq s.T:=s.dec
def bp.wZ:bp->Bool
 | .i _| .b=>true
 |_=>false
def bp.flat:bp->Bool
 | .bH _=>false
 | .pair s t=>s.flat&&t.flat
 |_=>true
def iv (n:Int):Value:=.int .i64 n
def bD.vs (b:bD):List Value:=[iv b.a0,iv b.a1,iv b.a2,iv b.a3,iv b.a4,iv b.a5]
def dJ:(s:bp)->s.T->List Value
 | .i k,n=>[.int k n]
 | .b,b=>[.bool b]
 | .dR,x=>[iv x.a0,iv x.a1,iv x.a2,iv x.a3,iv x.a4,iv x.a5]
 | .off,x=>[iv x.bX,iv x.want.a0,iv x.want.a1,iv x.want.a2,iv x.want.a3,iv x.want.a4,iv x.want.a5,iv x.value]
 | .need,x=>[iv x.N6,iv x.least]
 | .key,x=>[iv x.bX,iv x.want.a0,iv x.want.a1,iv x.want.a2,iv x.want.a3,iv x.want.a4,iv x.want.a5]
 | .sit,x=>[iv x.members,iv x.left.a0,iv x.left.a1,iv x.left.a2,iv x.left.a3,iv x.left.a4,iv x.left.a5,iv x.opn.a0,iv x.opn.a1,iv x.opn.a2,iv x.opn.a3,iv x.opn.a4,iv x.opn.a5]
 | .bH _,_=>[.bool false]
 | .pair s t,x=>dJ s x.1++dJ t x.2
def dB:(s:bp)->s.T->List AV
 | .bH s,l=>[.sl l.length (l.flatMap (dB s))]
 | .pair s t,x=>dB s x.1++dB t x.2
 | .i k,x=>(dJ (.i k) x).map .sc
 | .b,x=>(dJ .b x).map .sc
 | .dR,x=>(dJ .dR x).map .sc
 | .off,x=>(dJ .off x).map .sc
 | .need,x=>(dJ .need x).map .sc
 | .key,x=>(dJ .key x).map .sc
 | .sit,x=>(dJ .sit x).map .sc
inductive SV where
 |ud
 |sc (v:Value)
 |il (k:IntKind) (n:Int)
 |si (k:IntKind) (n:Int)
 |bl (b:Bool)
 |sb (b:Bool)
 |agg (cs:List SV)
 |bJ (cs:List SV)
 |row (s:bp) (l:List s.T)
 |ep (s:bp) (l:List s.T) (i off:Nat)
 |ptr (id off tot:Nat)
 |ap (id base sz len tot i:Nat)
 |rp (id i off n sz:Nat)
 |ow (id n sz:Nat)
 |os (id off len n sz:Nat)
 |oc (id off len n sz:Nat)
 |mp (id:Nat)
 |fn (f:Fn) (first captured:List SV)
 |ia (t:TypeId) (cs:List SV)
 |ite (c:Bool) (a b:SV)
inductive bq where
 |dead
 |cells (cs:List SV) (e:TypeId) (sz:Nat) (pu:Bool)
 |row (s:bp) (l:List s.T) (e:TypeId) (pu:Bool)
 |map (sk sv:bp) (ka:Bool) (es:List (sk.T×sv.T)) (kt:List Nat×Bool) (pu:Bool)
 |oH (s:bp) (l:List s.T) (e:TypeId) (t:List SV)
def cE (s:bp) (l:List s.T):List AV:=l.flatMap (dB s)
def px (s:bp) (a:Bool) (x:s.T):Value:=if a then .agg (dJ s x).toArray else(dJ s x).headD (.bool false)
def mQ (s:bp) (x:s.T):AV:=.sc ((dJ s x).headD (.bool false))
mutual
def SV.g:SV->AV
 | .ud=> .ud
 | .sc v=> .sc v
 | .il k n=> .sc (.int k n)
 | .si k n=> .sc (.int k n)
 | .bl b=> .sc (.bool b)
 | .sb b=> .sc (.bool b)
 | .agg m=> .agg (gL m)
 | .bJ m=> .bJ (gL m)
 | .row s l=> .sl l.length (cE s l)
 | .ep s l i d=> .ep (cE s l) (i*s.sz+d)
 | .ptr h d o=> .ptr h d o
 | .ap h p e _ o i=> .ptr h (p+i*e) o
 | .rp h i d n e=> .ptr h (i*e+d) (n*e)
 | .ow h n e=> .os h 0 n (n*e)
 | .os h d j n e=> .os h (d*e) j (n*e)
 | .oc h d j n e=> .os h (d*e+(n*e+e)) j (n*e)
 | .mp h=> .mp h
 | .fn f a b=> .fn f (gL a) (gL b)
 | .ia t m=> .je t (gL m)
 | .ite _ _ _=> .ud
def gL:List SV->List AV
 |[]=>[]
 |c::m=>c.g::gL m
end
theorem fU:∀(l:List SV),gL l=l.map SV.g
 |[]=>rfl
 |c::a=>by simp[gL,fU a]
def bq.g:bq->bR
 | .dead=> .dead
 | .cells c e i a=> .cells (gL c) e i a
 | .row s l e a=> .cells (cE s l) e s.sz a
 | .oH s l e t=> .cells (cE s l++gL t) e s.sz false
 | .map f b j h d a=> .map (h.map λp=>(px f j p.1,mQ b p.2)) d a
def encS:(s:bp)->s.T->List SV
 | .i k,n=>[.si k n]
 | .b,b=>[.sb b]
 | .dR,x=>[.si .i64 x.a0,.si .i64 x.a1,.si .i64 x.a2,.si .i64 x.a3,.si .i64 x.a4,.si .i64 x.a5]
 | .off,x=>[.si .i64 x.bX,.si .i64 x.want.a0,.si .i64 x.want.a1,.si .i64 x.want.a2,.si .i64 x.want.a3,.si .i64 x.want.a4,.si .i64 x.want.a5,.si .i64 x.value]
 | .need,x=>[.si .i64 x.N6,.si .i64 x.least]
 | .key,x=>[.si .i64 x.bX,.si .i64 x.want.a0,.si .i64 x.want.a1,.si .i64 x.want.a2,.si .i64 x.want.a3,.si .i64 x.want.a4,.si .i64 x.want.a5]
 | .sit,x=>[.si .i64 x.members,.si .i64 x.left.a0,.si .i64 x.left.a1,.si .i64 x.left.a2,.si .i64 x.left.a3,.si .i64 x.left.a4,.si .i64 x.left.a5,.si .i64 x.opn.a0,.si .i64 x.opn.a1,.si .i64 x.opn.a2,.si .i64 x.opn.a3,.si .i64 x.opn.a4,.si .i64 x.opn.a5]
 | .bH s,l=>[.row s l]
 | .pair s t,x=>encS s x.1++encS t x.2
def iJ (s s':bp) (l:List s.T):Option (List s'.T):=if h:s=s' then some (h▸l) else none
def jf (s:bp):SV->Option (List s.T)
 | .row a l=>match iJ a s l with
  |some l=>some l
  |none=>match l with
   |[]=>some []
   |_=>none
 |_=>none
def SV.qn:SV->SV
 | .sc (.slice none 0 0)=> .row (.i .i64) []
 |v=>v
def SV.int:IntKind->SV->Option Int
 |k,.si a n=>if a=k then some n else none
 |k,.il a n=>if a=k then some n else none
 |_,_=>none
def SV.boo:SV->Option Bool
 | .sb b=>some b
 | .bl b=>some b
 |_=>none
def ints:List SV->Option (List Int)
 |[]=>some []
 |c::a=>match c.int .i64,ints a with
  |some n,some l=>some (n::l)
  |_,_=>none
def jK:(s:bp)->List SV->Option s.T
 | .i k,[c]=>c.int k
 | .b,[c]=>c.boo
 | .dR,d=>match ints d with
  |some [f,e,l,h,g,j]=>some (⟨f,e,l,h,g,j⟩:bD)
  |_=>none
 | .off,d=>match ints d with
  |some [b,f,e,l,h,g,j,v]=>some (⟨b,⟨f,e,l,h,g,j⟩,v⟩:Off)
  |_=>none
 | .need,d=>match ints d with
  |some [a,b]=>some (⟨a,b⟩:Need)
  |_=>none
 | .key,d=>match ints d with
  |some [b,f,e,l,h,g,j]=>some (⟨b,⟨f,e,l,h,g,j⟩⟩:nI)
  |_=>none
 | .sit,d=>match ints d with
  |some [m,f,e,l,h,g,j,p,u,n,q,r,o]=>some (⟨m,⟨f,e,l,h,g,j⟩,⟨p,u,n,q,r,o⟩⟩:Sit)
  |_=>none
 | .bH s,[c]=>jf s c
 | .pair s t,d=>match jK s (d.take s.sz),jK t (d.drop s.sz) with
  |some x,some y=>some (x,y)
  |_,_=>none
 |_,_=>none
theorem Gj:(s:bp)->0<s.sz
 | .i _| .b| .dR| .off| .need| .key| .sit| .bH _=>by simp[bp.sz];| .pair s t=>by
  have:=Gj s;grind[bp.sz]
theorem tt:(s:bp)->(x:s.T)->(encS s x).map SV.g=dB s x
 | .bH s,l=>by grind[encS,dB,SV.g,cE];| .pair s t,x=>by simp only[encS,dB,γb,tt s x.1,tt t x.2];| .i _,x| .b,x| .dR,x| .off,x| .need,x| .key,x| .sit,x=>by simp[encS,dB,dJ,SV.g,iv]
theorem Gk:(s:bp)->(x:s.T)->(dJ s x).length=s.sz
 | .pair s t,x=>by simp only[dJ,γg,Gk s x.1,Gk t x.2,bp.sz];| .bH _,x| .i _,x| .b,x| .dR,x| .off,x| .need,x| .key,x| .sit,x=>rfl
theorem lK:(s:bp)->(x:s.T)->(dB s x).length=s.sz
 | .pair s t,x=>by simp only[dB,γg,lK s x.1,lK t x.2,bp.sz];| .bH _,x| .i _,x| .b,x| .dR,x| .off,x| .need,x| .key,x| .sit,x=>rfl
theorem BY:(s:bp)->s.flat=true->(x:s.T)->dB s x=(dJ s x).map .sc
 | .pair s t,h,x=>by
  simp only[bp.flat,ζ] at h;simp only[dB,dJ,γb,BY s h.1,BY t h.2];| .bH _,h,x=>by grind[bp.flat];| .i _,_,x| .b,_,x| .dR,_,x| .off,_,x| .need,_,x| .key,_,x| .sit,_,x=>rfl
theorem iK {k:IntKind} {c:SV} {n:Int} (h:c.int k=some n):c.g= .sc (.int k n):=by
 cases c<;>simp only[SV.int,reduceCtorEq] at h<;>grind[SV.int,reduceCtorEq,SV.g]
theorem w9 {c:SV} {b:Bool} (h:c.boo=some b):c.g= .sc (.bool b):=by
 cases c<;>simp[SV.boo] at h<;>subst h<;>simp[SV.g]
theorem BZ:∀{cs:List SV} {l:List Int},ints cs=some l->cs.map SV.g=l.map λn=> .sc (iv n)
 |[],l,h=>by grind[ints];|c::cs,l,h=>by
  simp only[ints] at h;split at h
  ·rename_i n d a b;simp at h;subst h;simp[iK a,BZ b,iv]
  ·cases h
theorem mR {s s':bp} {l:List s.T} {a:List s'.T} (h:iJ s s' l=some a):s=s'/\HEq l a:=by
 unfold iJ at h;grind
theorem Ye {s:bp} {v:SV} {l:List s.T} (h:jf s v=some l):v.g= .sl l.length (cE s l):=by
 cases v<;>simp only[jf,reduceCtorEq] at h;grind[mR,SV.g,cE]
theorem nJ:{s:bp}->{cs:List SV}->{x:s.T}->(h:jK s cs=some x)->cs.map SV.g=dB s x
 | .i k,[c],_,h=>by grind[jK,dB,dJ,iK];| .b,[c],_,h=>by grind[jK,dB,dJ,w9];| .bH s,[c],_,h=>by grind[jK,Ye,dB,cE];| .pair s t,cs,_,h=>by
  simp only[jK] at h;split at h
  ·rename_i x y a d;simp only[γ] at h;subst h;have f:=nJ a;have e:=nJ d;simp only[dB,<-f,<-e];rw[<-γb,List.take_append_drop]
  ·cases h;| .dR,cs,_,h| .off,cs,_,h| .need,cs,_,h| .key,cs,_,h| .sit,cs,_,h=>by
  simp only[jK] at h;split at h
  ·rename_i a;simp at h;subst h;rw[BZ a];simp[dB,dJ]
  ·cases h
theorem Yf (v:SV):v.qn.g=v.g.qn:=by
 unfold SV.qn;split;·simp[SV.g,AV.qn,cE]
 ·rename_i h;cases v<;>grind[SV.g,AV.qn,AV.sc.injEq]
theorem B0:(s:bp)->(x:s.T)->∀v∈dJ s x,v.oneCell'=true
 | .pair s t,x=>by
  intro v a;simp only[dJ] at a;rcases γh.1 a with h|h;·exact B0 s _ v h
  ·exact B0 t _ v h;| .bH _,x| .i _,x| .b,x| .dR,x| .off,x| .need,x| .key,x| .sit,x=>by simp[dJ,iv,Value.oneCell']
def Plain (a:AV):Prop:=(∃v,a= .sc v/\v.oneCell'=true/\v≠ .slice none 0 0)\/∃n b,a= .sl n b/\dr b=true
theorem B2:∀{l:List AV},(∀a∈l,a.pure=true)->dr l=true
 |[],_=>by simp[dr];|a::l,h=>by simp[dr,h a (by simp),B2 (l:=l) λb c=>h b (by simp[c])]
theorem Gl {k:Nat}:∀{l:List AV},(∀a∈l,a.cj k=true)->ei k l=true
 |[],_=>by simp[ei];|a::l,h=>by simp[ei,h a (by simp),Gl (l:=l) λb c=>h b (by simp[c])]
theorem Plain.pure {a:AV} (h:Plain a):a.pure=true:=by
 rcases h with⟨v,rfl,_⟩|⟨n,b,rfl,h⟩<;>grind[AV.pure]
theorem Plain.cj {a:AV} (h:Plain a) (k:Nat):a.cj k=true:=by
 rcases h with⟨v,rfl,_⟩|⟨n,b,rfl,h⟩<;>simp[AV.cj]
theorem Plain.one {a:AV} (h:Plain a):a.one=true:=by
 rcases h with⟨v,rfl,h,_⟩|⟨n,b,rfl,h⟩<;>grind[AV.one]
theorem zf:(s:bp)->(x:s.T)->∀a∈dB s x,Plain a
 | .pair s t,x=>by
  intro a c;simp only[dB] at c;rcases γh.1 c with h|h;·exact zf s _ a h
  ·exact zf t _ a h;| .bH s,l=>by
  intro a c;simp only[dB,List.mem_singleton] at c;subst c;refine .inr ⟨_,_,rfl,B2 λb e=>?_⟩;obtain⟨y,_,f⟩:=List.mem_flatMap.1 e;exact(zf s y b f).pure;| .i _,x| .b,x| .dR,x| .off,x| .need,x| .key,x| .sit,x=>by
  intro a c;simp only[dB] at c;obtain⟨v,d,rfl⟩:=List.mem_map.1 c;refine .inl ⟨v,rfl,B0 _ _ v d,?_⟩;rintro rfl;simp[dJ,iv] at d
theorem mT {s:bp} {l:List s.T} {a:AV} (h:a∈cE s l):Plain a:=by
 grind[cE,zf]
theorem oJ (s:bp) (l:List s.T):dr (cE s l)=true:=B2 λa h=>(mT h).pure
theorem N7 (k:Nat) (s:bp) (l:List s.T):ei k (cE s l)=true:=Gl λa h=>(mT h).cj k
theorem B5 (s:bp) (l:List s.T):eJ (cE s l)=true:=by
 simp only[eJ,κ];intro a h;exact(mT h).one
theorem fi (s:bp) (l:List s.T):(cE s l).length=l.length*s.sz:=by
 induction l<;>grind[cE,lK]
theorem N8 (s:bp) (l a:List s.T):cE s (l++a)=cE s l++cE s a:=by simp[cE]
theorem Gm (s:bp):∀(l:List s.T) (i:Nat),(cE s l).drop (i*s.sz)=cE s (l.drop i)
 |l,0=>by simp;|[],i+1=>by simp[cE];|x::l,i+1=>by
  have h:=Gm s l i;simp only[cE,δW,List.drop_succ_cons] at h ⊢;rw[Nat.succ_mul,Nat.add_comm,List.drop_append,lK,ζi,h,List.drop_of_length_le (by grind[lK])];simp
theorem N9 (s:bp):∀(l:List s.T) (i:Nat),(cE s l).take (i*s.sz)=cE s (l.take i)
 |l,0=>by simp[cE];|[],i+1=>by simp[cE];|x::l,i+1=>by
  have h:=N9 s l i;simp only[cE,δW,List.take_succ_cons] at h ⊢;rw[Nat.succ_mul,Nat.add_comm,List.take_append,lK,ζi,h,List.take_of_length_le (by grind[lK])]
def bj {a:Type} (l:List a) (i:Nat) (d:a):a:=(l[i]?).getD d
theorem cV {a:Type} {l:List a} {i:Nat} {d:a} (h:i<l.length):bj l i d=l[i]:=by simp[bj,h]
theorem Yg {s:bp} {l:List s.T} {i:Nat} (h:i<l.length):(cE s l).drop (i*s.sz)=dB s (bj l i s.dflt)++cE s (l.drop (i+1)):=by
 rw[Gm,List.drop_eq_getElem_cons h,cV h];grind[cE]
end Go.Vi
