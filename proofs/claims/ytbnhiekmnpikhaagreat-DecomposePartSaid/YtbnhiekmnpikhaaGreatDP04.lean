/-
  The abstract interpreter: a region whose order is open.
  Conditions: none.
-/
import Derived.Test.YtbnhiekmnpikhaaGreatDP03
import Derived.RangeFuncOwn
import Derived.RangeFuncLeaves
import Derived.LoopNIn
import Derived.ControlIn
import Derived.LoopN
import Derived.Scope
import Derived.Tactics
set_option maxRecDepth 100000
set_option maxHeartbeats 4000000
set_option linter.all false
open Array renaming getElem?_eq_some_iff->γw,replicate->εb,getElem?_toList->γV,ext'->εi
open Bool renaming and_eq_true->θ,false_eq_true->χ
open Go.Vi renaming prune->ζO
open List renaming not_mem_nil->δO,mem_filter->γs,getElem?_set_ne->δo,getElem?_eq_getElem->μ,getElem?_eq_none->ζC,getElem?_set->εj,map_congr_left->γY,mem_append->γk,ext_getElem?->γ9,cons_append->γG,getD_eq_getElem?_getD->ε6,all_eq_true->φ,getElem?_cons_succ->γK,map_cons->π,nodup_cons->γW,mem_of_getElem?->γd,eq_nil_of_length_eq_zero->τ,getElem?_eq_some_iff->ζ,range->ω,pairwise_cons->γA,mem_cons_of_mem->γT,append_nil->γ1,map_append->γa,length_append->γf,flatMap_cons->δX
open List.Pairwise renaming nil->δG
open Nat renaming le_refl->ξ,lt_or_ge->ζa,le_trans->δ8,strongRecOn->ζD,beq->δq,eq_of_beq_eq_true->εS,lt_of_lt_of_le->γi,add_sub_cancel_left->ζv
open Option renaming map_eq_some_iff->ε
open Option.some renaming injEq->γ
open Prod.mk renaming injEq->ι
namespace Go.Vi
section
variable {call:df} {ρ mD:Operand->AV} {bC:Nat}
theorem N9 {a:cG} {o:Store} {j:Nat} (h:j∈wrt a ρ o bC):j∈dR a ρ o bC:=by
 cases a<;>simp only[wrt,dR,δO] at h ⊢<;>try exact h
 all_goals grind
theorem X9 {a:cG} {o:Store} (h:a.cls=0\/a.cls=1):wrt a ρ o bC=[]:=by
 cases a<;>try (simp[cG.cls] at h;done)
 case call f c b=>cases b<;>simp[cG.cls] at h;rfl
 case jS f c b=>cases b<;>simp[cG.cls] at h;rfl
 all_goals rfl
theorem Gg {b:cG} {o:Store} (h:b.cls=0):dR b ρ o bC=[]:=by
 cases b<;>try (simp[cG.cls] at h;done)
 case call f c a=>cases a<;>simp[cG.cls] at h
 case jS f c a=>cases a<;>simp[cG.cls] at h
 all_goals rfl
theorem Ya (a:cG):a.cls=0\/a.cls=1\/a.cls=2\/a.cls=3:=by
 cases a<;>try (simp[cG.cls];done)
 case call f c b=>cases b<;>simp[cG.cls]
 case jS f c b=>cases b<;>simp[cG.cls]
def mE (a:cG) (W:List Nat) (n j:Nat):Prop:=j∈W\/(a.cls=3/\n<=j)
theorem Gh {a:cG} {o:Store} {j:Nat} (h:j∈ez call a ρ o bC):j∈wrt a ρ o bC:=by
 unfold ez at h;split at h
 ·split at h;·exact(γs.1 h).1
  ·simp at h
 ·exact h
theorem Yb {a:cG} {o:Store} {j:Nat} (h:j∈ez call a ρ o bC):j∈dR a ρ o bC:=N9 (Gh h)
theorem tO {a:cG} {o:Store} (h:a.cls=0\/a.cls=1):ez call a ρ o bC=[]:=by
 unfold ez;grind[cG.cls,X9]
theorem Yc {a:cG} {o:Store} (h:a.cls=2):ez call a ρ o bC=wrt a ρ o bC:=by
 unfold ez;grind[cG.cls]
open Classical in
theorem Yd {eO:cG} {o o':Store} {v:AV} (he:bK call eO ρ o bC=some (v,o')):
  o.length<=o'.length/\(eO.cls≠3->o'.length=o.length)/\(∀j,¬mE eO (ez call eO ρ o bC) o.length j->o'[j]?=o[j]?)/\
  ∀o2:Store,(∀j∈dR eO ρ o bC,o2[j]?=o[j]?)->(eO.cls=3->o2.length=o.length)->
   ∃sj,bK call eO ρ o2 bC=some (v,sj)/\dR eO ρ o2 bC=dR eO ρ o bC/\ez call eO ρ o2 bC=ez call eO ρ o bC/\∀j,mE eO (ez call eO ρ o bC) o.length j->sj[j]?=o'[j]?:=by
 rcases Ya eO with hc|hc|hc|hc
 ·have:=XZ hc he;subst this;refine⟨ξ _,λ_=>rfl,λ_ _=>rfl,λo2 _ _=>⟨o2,?_,by rw[Gg hc,Gg hc],by rw[tO (.inl hc),tO (.inl hc)],λj hj=>?_⟩⟩;·rw[N5 hc o' o2,he];rfl
  ·rw[mE,tO (.inl hc)] at hj;simp[hc] at hj
 ·have:=X6 hc he;subst this;refine⟨ξ _,λ_=>rfl,λ_ _=>rfl,λo2 h _=>⟨o2,?_,(Gf (call:=call) hc h).2,by rw[tO (.inr hc),tO (.inr hc)],λj hj=>?_⟩⟩;·rw[(Gf hc h).1,he];rfl
  ·rw[mE,tO (.inr hc)] at hj;simp[hc] at hj
 ·simp only[Yc hc];obtain⟨id,x,hid,rfl,hk⟩:=X7 hc he;refine⟨by simp,λ_=>by simp,λj hj=>?_,λo2 h _=>?_⟩
  ·have:j≠id:=λhji=>hj (.inl (hji▸hid));rw[δo (Ne.symm this)]
  ·obtain⟨k1,k2,k3⟩:=hk o2 h;refine⟨_,k1,k2,k3,λj hj=>?_⟩;have hj:j∈wrt eO ρ o bC:=hj.resolve_right (by simp[hc]);have hjo:=h j (N9 hj);by_cases hji:id=j
   ·subst hji;have hlen:(id<o2.length)↔(id<o.length):=by
     rcases ζa id o2.length with g1|g1<;>rcases ζa id o.length with g2|g2;·simp[g1,g2]
     ·rw[μ g1,ζC g2] at hjo;cases hjo
     ·rw[μ g2,ζC g1] at hjo;cases hjo
     ·omega
    rw[εj,εj];simp only[if_true];by_cases h1:id<o.length;·rw[if_pos h1,if_pos (hlen.2 h1)]
    ·rw[if_neg h1,if_neg λh2=>h1 (hlen.1 h2)]
   ·rw[δo hji,δo hji];exact hjo
 ·have key:∀(f:FuncId) (args:List AV),iM call f args o=some (v,o')->ez call eO ρ o bC=cQ o fN args []->dR eO ρ o bC=cQ o fN args []->
    (∀o2:Store,bK call eO ρ o2 bC=iM call f args o2/\dR eO ρ o2 bC=cQ o2 fN args []/\ez call eO ρ o2 bC=cQ o2 fN args [])->
    o.length<=o'.length/\(eO.cls≠3->o'.length=o.length)/\(∀j,¬mE eO (ez call eO ρ o bC) o.length j->o'[j]?=o[j]?)/\
    ∀o2:Store,(∀j∈dR eO ρ o bC,o2[j]?=o[j]?)->(eO.cls=3->o2.length=o.length)->
    ∃sj,bK call eO ρ o2 bC=some (v,sj)/\dR eO ρ o2 bC=dR eO ρ o bC/\ez call eO ρ o2 bC=ez call eO ρ o bC/\∀j,mE eO (ez call eO ρ o bC) o.length j->sj[j]?=o'[j]?:=by
   intro f args hcall hw ht hg;obtain⟨c1,c2,c3⟩:=N8 hcall;refine⟨c1,λh=>absurd hc h,λj hj=>?_,λo2 h hl=>?_⟩
   ·simp only[mE,hc,true_and,not_or,Nat.not_le,hw] at hj;exact c2 j hj.2 hj.1
   ·rw[ht] at h;obtain⟨sj,d1,d2,d3⟩:=c3 o2 (hl hc) h;obtain⟨g1,g2,g3⟩:=hg o2;refine⟨sj,by rw[g1,d1],by rw[g2,d2,ht],by rw[g3,d2,hw],λj hj=>d3 j ?_⟩;simp only[mE,hc,true_and,hw] at hj;exact hj
  cases eO<;>try (simp[cG.cls] at hc;done)
  case call f args own=>
   cases own;·simp[cG.cls] at hc
   ·simp only[bK,gJ,if_true] at he;obtain⟨c1,c2,c3⟩:=N8 he;have hw:ez call (.call f args true) ρ o bC=(cQ o fN (args.map ρ) []).filter λj=>decide (o'[j]?≠o[j]?):=by simp only[ez,he]
    refine⟨c1,λh=>absurd hc h,λj hj=>?_,λo2 h hl=>?_⟩
    ·simp only[mE,hc,true_and,not_or,Nat.not_le,hw,γs,decide_eq_true_eq,not_and,Classical.not_not,ne_eq] at hj;by_cases hm:j∈cQ o fN (args.map ρ) [];·exact hj.1 hm
     ·exact c2 j hj.2 hm
    ·obtain⟨sj,d1,d2,d3⟩:=c3 o2 (hl hc) h;refine⟨sj,by simp only[bK,gJ,if_true,d1],d2,?_,λj hj=>?_⟩
     ·rw[hw];simp only[ez,d1,d2];refine List.filter_congr λj hj=>?_;rw[d3 j (.inl hj),h j hj]
     ·rw[mE,hw,γs] at hj;exact d3 j (hj.imp (λh=>h.1) λh=>h.2)
  case jS f args own=>
   cases own;·simp[cG.cls] at hc
   ·simp only[bK,gJ,if_true] at he;split at he
    ·rename_i g first captured hf;exact key g (first++args.map ρ++captured) he (by simp[ez,wrt,hf]) (by simp[dR,hf]) λo2=>⟨by simp[bK,gJ,hf],by simp[dR,hf],by simp[ez,wrt,hf]⟩
    ·cases he
theorem Gi {l:List Operand} (h:∀x∈l,mD x=ρ x):l.map mD=l.map ρ:=γY h
theorem Ye {c:cG} (h:∀x∈c.kC,mD x=ρ x) (o:Store):bK call c mD o bC=bK call c ρ o bC/\dR c mD o bC=dR c ρ o bC/\ez call c mD o bC=ez call c ρ o bC:=by
 cases c;case build z i=>
  have:(i.map λp=>(p.1,p.2.1,mD p.2.2))=i.map λp=>(p.1,p.2.1,ρ p.2.2):=γY λp r=>by grind[cG.kC]
  simp only[bK,dR,ez,wrt,this,and_self]
 case py z n i e l=>
  have:(i.map λp=>(p.1,l,mD p.2))=i.map λp=>(p.1,l,ρ p.2):=γY λp r=>by grind[cG.kC]
  simp only[bK,dR,ez,wrt,this,and_self]
 case tg z n i e l=>
  have:(i.map λp=>(p.1,l,mD p.2))=i.map λp=>(p.1,l,ρ p.2):=γY λp r=>by grind[cG.kC]
  simp only[bK,dR,ez,wrt,this,and_self]
 case call f d k=>
  have:=Gi h;simp only[cG.kC] at this;cases k<;>simp only[bK,dR,ez,wrt,this,and_self]
 case jS f d k=>
  have m:d.map mD=d.map ρ:=Gi λx u=>h x (by grind[cG.kC]);have q:=h f (by simp[cG.kC]);cases k<;>simp only[bK,dR,ez,wrt,m,q,and_self]
 case oN s x d=>
  simp_all[Gi,cG.kC,bK,dR,ez,wrt]
 case tn f a b=>
  simp_all[cG.kC,bK,dR,ez,wrt]
 case slice l x g j=>
  have m:g.map mD=g.map ρ:=by cases g<;>simp[cG.kC] at h ⊢;exact h.2.1
  have q:j.map mD=j.map ρ:=by cases j<;>simp[cG.kC] at h ⊢;simp_all
  simp_all[cG.kC,bK,dR,ez,wrt]
 case uU x g j=>
  have m:g.map mD=g.map ρ:=by cases g<;>simp[cG.kC] at h ⊢;exact h.2.1
  have q:j.map mD=j.map ρ:=by cases j<;>simp[cG.kC] at h ⊢;simp_all
  simp_all[cG.kC,bK,dR,ez,wrt]
 case slice3 l x g j t=>
  have m:g.map mD=g.map ρ:=by
   cases g with
   |none=>rfl;|some a=>simp_all[cG.kC]
  simp_all[cG.kC,bK,dR,ez,wrt]
 all_goals
  simp only[cG.kC,List.mem_cons,δO,or_false,forall_eq_or_imp,forall_eq] at h;simp[bK,dR,ez,wrt,h]
end
section
variable {call:df} {base:Nat}
noncomputable def entry (call:df) (base:Nat) (i:dC) (st:St):List Nat×List Nat:=
 match mB st.env i.guard with
 |some true=>(dR i.op (eJ st.env) st.o (base+i.bC),ez call i.op (eJ st.env) st.o (base+i.bC))
 |_=>([],[])
theorem Yf {i:dC} {st:St} {j:Nat} (h:j∈(entry call base i st).2):j∈(entry call base i st).1:=by
 grind[entry,Yb]
theorem Oa {i:dC} {e a:jB} (h:∀s∈i.reads,dM a s=dM e s):(∀x∈i.op.kC,eJ a x=eJ e x)/\mB a i.guard=mB e i.guard:=by
 constructor
 ·intro x b;cases x with
  |tmp t=>
   refine h t ?_;simp only[dC.reads,γk];left;exact List.mem_filterMap.2 ⟨.tmp t,b,rfl⟩;|_=>rfl
 ·unfold mB;grind[dC.reads]
theorem xk {i:dC} {st st':St} (a:iu call base i st=some st'):
  ∃v,(∀s,dM st'.env s=if i.dst=some s then v else dM st.env s)/\st.o.length<=st'.o.length/\(i.op.cls≠3->st'.o.length=st.o.length)/\
   (∀j,¬mE i.op (entry call base i st).2 st.o.length j->st'.o[j]?=st.o[j]?)/\
   ∀st2:St,(∀s∈i.reads,dM st2.env s=dM st.env s)->(∀j∈(entry call base i st).1,st2.o[j]?=st.o[j]?)->(i.op.cls=3->st2.o.length=st.o.length)->
    ∃b,iu call base i st2=some b/\(∀s,dM b.env s=if i.dst=some s then v else dM st2.env s)/\entry call base i st2=entry call base i st/\
     ∀j,mE i.op (entry call base i st).2 st.o.length j->b.o[j]?=st'.o[j]?:=by
 unfold iu at a;split at a;·cases a
 ·rename_i n;injection a with a;subst a;refine⟨.bI [],λs=>vo _ _ _ _,ξ _,λ_=>rfl,λ_ _=>rfl,λst2 c _ k=>?_⟩;obtain⟨h,t⟩:=Oa c;refine⟨⟨oM st2.env i.dst (.bI []),st2.o⟩,?_,λs=>vo _ _ _ _,?_,λj w=>?_⟩;all_goals simp_all[iu,entry,mE]
 ·rename_i n;split at a
  ·rename_i v y c;injection a with a;subst a;rw[y7] at c;obtain⟨r,l,m,p⟩:=Yd c;have e:entry call base i st=(dR i.op (eJ st.env) st.o (base+i.bC),ez call i.op (eJ st.env) st.o (base+i.bC)):=by grind[entry]
   rw[e];refine⟨v,λs=>vo _ _ _ _,r,l,m,λst2 f d k=>?_⟩;obtain⟨h,t⟩:=Oa f;obtain⟨g,z,x,B,q⟩:=p st2.o d k;obtain⟨C,A,u⟩:=Ye (call:=call) (bC:=base+i.bC) h st2.o;refine⟨⟨oM st2.env i.dst v,g⟩,?_,λs=>vo _ _ _ _,?_,q⟩<;>grind[oM,vo,iu,y7,entry]
  ·cases a
def kh (a b:St):Prop:=(∀s,dM a.env s=dM b.env s)/\a.o=b.o
theorem kh.refl (a:St):kh a a:=⟨λ_=>rfl,rfl⟩
theorem kh.trans {a b c:St} (h:kh a b) (k:kh b c):kh a c:=⟨λs=>(h.1 s).trans (k.1 s),h.2.trans k.2⟩
theorem kh.symm {a b:St} (h:kh a b):kh b a:=⟨λs=>(h.1 s).symm,h.2.symm⟩
theorem kh.run {i:dC} {a b l:St} (h:kh a b) (e:iu call base i a=some l):∃k,iu call base i b=some k/\kh l k/\entry call base i b=entry call base i a:=by
 have j:eJ b.env=eJ a.env:=by
  funext x;cases x with
  |tmp t=>exact(h.1 t).symm;|_=>rfl
 have o:mB b.env i.guard=mB a.env i.guard:=by
  cases p:i.guard with
  |none=>rfl;|some g=>
   obtain⟨c,d⟩:=g;cases c with
   |none=>rfl;|some s=>simp only[mB];rw[h.1]
 have f:∀(v:AV) (s:Nat),dM (oM a.env i.dst v) s=dM (oM b.env i.dst v) s:=by
  intro v s;simp only[vo];by_cases m:i.dst=some s;·simp_all
  ·rw[if_neg m,if_neg m];exact h.1 s
 have n:entry call base i b=entry call base i a:=by unfold entry;rw[o,j,h.2]
 unfold iu at e ⊢;rw[o,j,<-h.2];split at e;·cases e
 ·injection e with e;subst e;exact⟨_,rfl,⟨f _,rfl⟩,n⟩
 ·split at e
  ·injection e with e;subst e;exact⟨_,rfl,⟨f _,rfl⟩,n⟩
  ·cases e
def zo (n0:Nat) (y:dC) (a:List Nat×List Nat) (x:dC) (b:List Nat×List Nat):Prop:=
 za y x=true/\(∀j∈a.2,j∉b.1)/\(∀j∈b.2,j∉a.1)/\(y.op.cls=3->x.op.cls≠3/\∀j∈b.1,j<n0)/\(x.op.cls=3->∀j∈a.1,j<n0)
theorem Yg {y x:dC} (h:za y x=true):(∀d,y.dst=some d->d∉x.reads)/\(∀d,x.dst=some d->d∉y.reads)/\∀d,y.dst=some d->x.dst≠some d:=by
 grind[za,FA]
theorem swap {n0:Nat} {y x:dC} {st c s2:St} (k:iu call base y st=some c) (n:iu call base x c=some s2) (P:n0<=st.o.length) (D:zo n0 y (entry call base y st) x (entry call base x c)):
  ∃a b,iu call base x st=some a/\iu call base y a=some b/\kh s2 b/\entry call base x st=entry call base x c/\entry call base y a=entry call base y st:=by
 obtain⟨d,Z,O,H,Q⟩:=D;obtain⟨a1,K,U⟩:=Yg d;obtain⟨G,A,y2,S,C,F⟩:=xk k;obtain⟨L,q,V,T,X,l⟩:=xk n;obtain⟨a,h,u,f,p4⟩:=l st (λs i=>by
   grind) (λj m=>by
   rw[C j];rintro(z|⟨e,B⟩)<;>grind) (λe=>by
   omega);obtain⟨E,J,W,I,r,_⟩:=xk h;obtain⟨b,g,w,p,R⟩:=F a (λs i=>by
   grind) (λj m=>by
   rw[r j];rw[f];rintro(z|⟨e,B⟩)<;>grind) (λe=>by
   omega);obtain⟨t,b1,M,Y,N,_⟩:=xk g;refine⟨a,b,h,g,⟨λs=>?_,?_⟩,f.symm▸rfl,p⟩
 ·rw[q s,w s,u s,A s];grind
 ·apply γ9;intro j;by_cases v:mE x.op (entry call base x c).2 c.o.length j;·
   grind[mE,Yf]
  grind[mE]
noncomputable def ents (call:df) (base:Nat):List dC->St->List (List Nat×List Nat)
 |[],_=>[]
 |i::r,b=>entry call base i b::match iu call base i b with
  |some a=>ents call base r a
  |none=>[]
theorem kh.runs {l:List dC}:∀{a b d:St},kh a b->gh call base l a=some d->∃e,gh call base l b=some e/\kh d e/\ents call base l b=ents call base l a:=by
 induction l with
 |nil=>intro a b d h c;simp only[gh,γ] at c;subst c;exact⟨b,rfl,h,rfl⟩;|cons i l o=>
  intro a b d h c;simp only[gh] at c;split at c
  ·rename_i k f;obtain⟨j,m,g,n⟩:=h.run f;grind[gh,ents]
  ·cases c
theorem front {n0:Nat} {x:dC} {b:List dC}:∀(a:List dC) {st s:St},gh call base (a++x::b) st=some s->n0<=st.o.length->
  (∀(k:Nat) (y:dC) (p f:List Nat×List Nat),a[k]?=some y->(ents call base (a++x::b) st)[k]?=some p->(ents call base (a++x::b) st)[a.length]?=some f->zo n0 y p x f)->
  ∃g s',iu call base x st=some g/\gh call base (a++b) g=some s'/\kh s s'/\(ents call base (a++x::b) st)[a.length]?=some (entry call base x st)/\
   ents call base (a++b) g=(ents call base (a++x::b) st).eraseIdx a.length
 |[],st,s,d,_,_=>by
  grind[gh,kh.refl,ents];|y::a,st,s,d,n,m=>by
  simp only[γG,gh] at d;split at d
  ·rename_i l i;have c:ents call base (y::(a++x::b)) st=entry call base y st::ents call base (a++x::b) l:=by simp[ents,i]
   obtain⟨_,_,h,_⟩:=xk i;obtain⟨g,s',r,v,C,M,I⟩:=front a d (δ8 n h) λk z u f t K L=>m (k+1) z u f (by simpa using t) (by simp_all) (by simp_all);have e:zo n0 y (entry call base y st) x (entry call base x l):=m 0 y _ _ (by simp) (by simp[c]) (by simp_all);obtain⟨B,H,w,F,A,D,J⟩:=swap i r n e;obtain⟨j,G,q,E⟩:=A.runs v;refine⟨B,j,w,?_,C.trans q,?_,?_⟩<;>grind[gh,ents]
  ·cases d
end
theorem Yh {acc:List Nat} {l:List Edge} {m:Nat}:∀{s:Nat},(l.foldl (BN acc) s).testBit m=true->s.testBit m=true\/∃e∈l,Region.binds .any e=true/\(m=e.on\/(acc.getD e.on 0).testBit m=true):=by
 induction l with
 |nil=>simp_all;|cons e l b=>
  intro s h;simp only[List.foldl_cons] at h;rcases b h with a|⟨d,f,a,c⟩
  ·unfold BN at a;grind
  grind
def zp (acc:List Nat) (o:Oper):Nat:=o.after.toList.foldl (BN acc) 0
theorem Ob:∀(L:List Oper) (acc:List Nat),∃r,L.foldl (λacc o=>acc++[zp acc o]) acc=acc++r/\r.length=L.length/\
  ∀(k:Nat) (o:Oper),L[k]?=some o->r[k]?=some (zp (acc++r.take k) o)
 |[],acc=>⟨[],by simp,rfl,by simp⟩
 |o::L,acc=>by
  obtain⟨r,b,a,d⟩:=Ob L (acc++[zp acc o]);refine⟨zp acc o::r,by simp[b],by simp[a],λk e c=>?_⟩;cases k<;>simp_all
theorem Yi {a:Array Oper} {k m:Nat} {o:Oper} (p:a[k]?=some o) (h:((oU a).getD k 0).testBit m=true):
  ∃e∈o.after,Region.binds .any e=true/\(m=e.on\/((oU a).getD e.on 0).testBit m=true):=by
 obtain⟨r,j,n,g⟩:=Ob a.toList [];have c:oU a=r:=by
  grind[oU,zp]
 rw[c] at h ⊢;have d:=g k o (by simp_all);rw[ε6,d] at h;simp only[Option.getD_some,List.nil_append] at h;rcases Yh h with f|⟨e,l,i,b⟩;·simp at f
 ·refine⟨e,by simp_all,i,b.imp_right λb=>?_⟩;rw[ε6] at b ⊢;rw[List.getElem?_take] at b;grind
theorem Oc:∀(L:List Oper) (i:Nat),wO i L=true->∀(k:Nat) (o:Oper),L[k]?=some o->∀e∈o.after,Region.binds .any e=true->e.on<i+k
 |[],i,_,k,o,a,_,_,_=>by simp at a;|o::L,i,h,k,c,a,e,d,b=>by
  simp only[wO,θ,φ] at h;cases k with
  |zero=>
   grind;|succ k=>
   have:=Oc L (i+1) h.2 k c (by simp_all) e d b;omega
theorem Oe {c:List Nat}:∀{l:List dC},wR c l=true->∀(p q:Nat) (y x:dC),p<q->l[p]?=some y->l[q]?=some x->
  (c.getD x.idx 0).testBit y.idx=true\/(za y x=true/\(wM y x=true\/BK y x=true))
 |[],_,p,q,y,x,_,e,_=>by simp at e;|a::r,h,p,q,y,x,b,e,d=>by
  simp only[wR,θ,φ] at h;match q,b with
  |q+1,b=>
   simp only[γK] at d;cases p with
   |zero=>
    grind;|succ p=>exact Oe h.2 p q y x (by omega) (by simp_all) d
theorem Og {d:List Nat}:∀{l:List dC} (p q:Nat) (y x:dC),p<q->l[p]?=some y->l[q]?=some x->¬(d.getD x.idx 0).testBit y.idx=true->wM y x=false->(y.idx,x.idx)∈rb d l
 |[],p,q,y,x,_,c,_,_,_=>by simp at c;|a::r,p,q,y,x,b,c,e,g,f=>by
  simp only[rb,γk];match q,b with
  |q+1,b=>
   simp only[γK] at e;cases p with
   |zero=>
    grind;|succ p=>exact .inr (Og p q y x (by omega) (by simp_all) e g f)
section
variable {P:Program} {A:dN} {D:List Deferred} {call:df} {base:Nat}
theorem Gj:∀{l:List dC} {st:St} {p:Nat} {x:dC} {t:List Nat×List Nat},l[p]?=some x->(ents call base l st)[p]?=some t->∃st',t=entry call base x st'
 |[],st,p,x,t,b,_=>by simp at b;|i::l,st,p,x,t,b,a=>by
  simp only[ents] at a;cases p with
  |zero=>grind;|succ p=>
   simp only[γK] at b a;split at a;·exact Gj b a
   ·simp at a
theorem Gk:∀{l:List dC} {st s:St} {p:Nat} {x:dC} {t:List Nat×List Nat},gh call base l st=some s->(l.map (·.idx)).Nodup->l[p]?=some x->(ents call base l st)[p]?=some t->qf (mC call base l st) x.idx=t
 |[],st,s,p,x,t,_,_,a,_=>by simp at a;|i::l,st,s,p,x,t,b,g,a,d=>by
  simp only[gh] at b;split at b
  ·rename_i j k;simp only[π,γW] at g;have e:mC call base (i::l) st=(i.idx,entry call base i st)::mC call base l j:=by
    grind[mC,entry]
   rw[e];simp only[ents,k] at d;cases p with
   |zero=>grind[qf];|succ p=>
    simp only[γK] at a d;have c:i.idx≠x.idx:=λh=>g.1 (h▸List.mem_map_of_mem (f:=λi:dC=>i.idx) (γd a));simp only[qf,beq_iff_eq,c,if_false];exact Gk b g.2 a d
  ·cases b
theorem Oh {i:dC} {st:St} (h:i.op.cls=0):entry call base i st=([],[]):=by
 grind[entry,Gg,tO]
theorem Oi {i:dC} {st:St} (h:i.op.cls=1):(entry call base i st).2=[]:=by
 grind[entry,tO]
theorem Oj {a b:List Nat} (h:wL a b=true):∀j∈a,j∉b:=by
 intro j c d;have:=φ.1 h j c;simp_all
theorem Yj {n0:Nat} {c:List Nat} {l:List dC} {st s:St} (z:gh call base l st=some s) (A:(l.map (·.idx)).Nodup) (r:wR c l=true)
  (b:((rb c l).isEmpty||tu n0 (mC call base l st) (rb c l))=true) {p q:Nat} {y x:dC} {E D:List Nat×List Nat} (e:p<q) (i:l[p]?=some y) (j:l[q]?=some x)
  (d:(ents call base l st)[p]?=some E) (f:(ents call base l st)[q]?=some D):(c.getD x.idx 0).testBit y.idx=true\/zo n0 y E x D:=by
 rcases Oe r p q y x e i j with h|⟨g,I⟩;·exact .inl h
 by_cases u:(c.getD x.idx 0).testBit y.idx=true;·exact .inl u
 right;obtain⟨v,m⟩:=Gj i d;obtain⟨C,k⟩:=Gj j f;cases a:wM y x with
 |true=>
  unfold wM at a;simp only[Bool.or_eq_true,θ,beq_iff_eq] at a;rcases a with(a|a)|⟨a,n⟩
  ·have:=Oh (call:=call) (base:=base) (st:=v) a;rw[this] at m;subst m;exact⟨g,by simp,by simp,λh=>(by omega),by simp⟩
  ·have:=Oh (call:=call) (base:=base) (st:=C) a;rw[this] at k;subst k;exact⟨g,by simp,by simp,λ_=>⟨by rw[a];decide,by simp⟩,λh=>(by omega)⟩
  ·have B:=Oi (call:=call) (base:=base) (st:=v) a;have w:=Oi (call:=call) (base:=base) (st:=C) n;rw[<-m] at B;rw[<-k] at w;exact⟨g,by simp[B],by simp[w],λh=>(by omega),λh=>(by omega)⟩;|false=>
  have M:BK y x=true:=I.resolve_left (by simp[a]);have J:=Og p q y x e i j u a;have o:(rb c l).isEmpty=false:=by
   grind
  rw[o,Bool.false_or] at b;have t:=φ.1 b _ J;simp only[Gk z A i d,Gk z A j f,θ,φ,decide_eq_true_eq] at t;obtain⟨⟨⟨F,K⟩,H⟩,G⟩:=t;refine⟨g,Oj F,Oj K,λL=>⟨λN=>?_,G⟩,λ_=>H⟩;grind[BK]
theorem dc.eq {e:Nat} {f:World} {b:bW} {d:Store} {st st':St} {a:Act} {w:World} {σ:bW} (h:dc A e D f b d st a w σ) (c:kh st st'):dc A e D f b d st' a w σ where
 fz:=c.2▸h.fz;env:=λs=>by rw[<-c.1 s,<-c.2];exact h.env s
 size:=h.size;defers:=h.defers;ext:=c.2▸h.ext
theorem dc.drew {e:Nat} {f:World} {b:bW} {d:Store} {st:St} {a:Act} {w:World} {σ:bW} (h:dc A e D f b d st a w σ):dc A e D f b d st a {w with drawn:=w.drawn+1} σ:=by
 have c:Ext w σ st.o {w with drawn:=w.drawn+1} σ st.o:=⟨ξ _,λ_ _ h=>⟨rfl,h⟩,ξ _,λ_ _ h=>⟨h,λ_ h=>⟨h,rfl⟩⟩,λ_ h=>⟨h,rfl⟩,rfl,rfl,rfl⟩;exact⟨⟨h.fz.len,h.fz.dist,h.fz.bnd,λi x g=>(h.fz.obj i x g).ext c rfl λ_ _ _=>rfl,h.fz.av,h.fz.jE⟩,λs=>(h.env s).ext c,h.size,h.defers,h.ext.trans c⟩
theorem Yk {c:Type} (b a:List c) (x:c):b++a=(b++x::a).eraseIdx b.length:=by
 grind
structure Gl (P:Program) (nt:Nat) (fl:List Nat) (ops:Array Oper) (call:df) (base n0:Nat) (st2:St) (l:List dC) (listed:Array Bool) (st:St):Prop where
 run:∃s,gh call base l st=some s/\kh st2 s
 len:n0<=st.o.length
 rel:∀(p q:Nat) (y x:dC) (ty tx:List Nat×List Nat),p<q->l[p]?=some y->l[q]?=some x->(ents call base l st)[p]?=some ty->(ents call base l st)[q]?=some tx->((oU ops).getD x.idx 0).testBit y.idx=true\/zo n0 y ty x tx
 comp:∀x∈l,∃bC,ra P nt fl ops bC x.idx=some x
 nodup:(l.map (·.idx)).Nodup
 sz:listed.size=ops.size
 bF:∀k,k<ops.size->(listed.getD k true=false↔∃x∈l,x.idx=k)
 closed:∀k m,listed.getD k false=true->((oU ops).getD k 0).testBit m=true->listed.getD m false=true
theorem getD_lt {c:Array Bool} {k:Nat} (h:k<c.size) (a b:Bool):c.getD k a=c.getD k b:=by
 simp_all
theorem Yl {M:Nat} {fl:List Nat} {c:Array Oper} (K:pF P call) (a5:wO 0 c.toList=true) {n0:Nat} {st2:St} {w0:World} {L:bW} {o0:Store} {Q:Exit->Act->World->Prop}
  (hQ:∀Y w' F,dc A M D w0 L o0 st2 Y w' F->Q .normal Y w') {dn:Option Nat}:∀(h:Nat) (l:List dC) (b:Array Bool) (st:St) (a:Act) (w:World) (σ:bW),l.length<=h->
   Gl P M fl c call base n0 st2 l b st->dc A M D w0 L o0 st a w σ->wpAnyIn (FR dn) 0 P .any c Q h b a w:=by
 have C:∀(b:Array Bool) (st:St) (a:Act) (w:World) (σ:bW),Gl P M fl c call base n0 st2 [] b st->dc A M D w0 L o0 st a w σ->Q .normal a w:=by
  intro b st a w σ d O;obtain⟨s,n,h2⟩:=d.run;simp only[gh,γ] at n;subst n;exact hQ _ _ _ (O.eq h2.symm)
 have H:∀(l:List dC) (b:Array Bool) (st:St),Gl P M fl c call base n0 st2 l b st->∀(k:Nat),(∃x∈l,x.idx=k)->Region.ready .any c b≠[]:=by
  intro l b st d k;induction k using ζD with
  |_ k ih=>
   rintro⟨x,G,rfl⟩;obtain⟨V,X⟩:=d.comp x G;cases I:c[x.idx]? with
   |none=>grind[ra];|some o=>
    have j:x.idx<c.size:=(γw.1 I).1;by_cases i:∀e∈o.after,Region.binds .any e=true->b.getD e.on false=true
    ·intro u;have:x.idx∈Region.ready .any c b:=mem_ready.2 ⟨(d.bF _ j).2 ⟨x,G,rfl⟩,o,I,i⟩;simp_all
    ·simp only[Classical.not_forall] at i;obtain⟨e,he,hb,hn⟩:=i;have N:=Oc c.toList 0 a5 x.idx o (by simp_all) e he hb;simp only[Nat.zero_add] at N;refine ih e.on N ((d.bF e.on (by omega)).1 ?_);rw[getD_lt (by rw[d.sz];omega) true false];simp_all
 intro h;induction h with
 |zero=>
  intro l b st a w σ hl d O;have:l=[]:=τ (by omega);subst this;refine⟨?_,C b st a w σ d O⟩;rw[List.eq_nil_iff_forall_not_mem];intro k j;obtain⟨h0,o,I,_⟩:=mem_ready.1 j;obtain⟨x,G,_⟩:=(d.bF k (γw.1 I).1).1 h0;simp at G;|succ h ih=>
  intro l b st a w σ hl d O;refine⟨λu=>?_,λk j=>?_⟩;·cases l with
   |nil=>grind;|cons x l=>exact absurd u (H _ b st d x.idx ⟨x,by simp,rfl⟩)
  ·obtain⟨h0,o,I,i⟩:=mem_ready.1 j;have a2:k<c.size:=(γw.1 I).1;obtain⟨x,G,rfl⟩:=(d.bF k a2).1 h0;obtain⟨f,g,rfl⟩:=List.append_of_mem G;obtain⟨s,R,S⟩:=d.run;have T:∀m,((oU c).getD x.idx 0).testBit m=true->b.getD m false=true:=by
    intro m hm;obtain⟨e,he,hb,n⟩:=Yi I hm;rcases n with rfl|n;·simp_all
    ·exact d.closed _ _ (i e he hb) n
   obtain⟨s1,s',f1,f2,f3,f4,f5⟩:=front (n0:=n0) f R d.len λp y W tx hp n h2=>by
    have a0:p<f.length:=(ζ.1 hp).1;have J:(f++x::g)[p]?=some y:=by grind
    rcases d.rel p f.length y x W tx a0 J (by simp) n h2 with Z|Z
    ·exfalso;have h4:=T _ Z;obtain⟨V,X⟩:=d.comp y (γd J);cases U:c[y.idx]? with
     |none=>simp[ra,U] at X;|some oy=>
      have a6:y.idx<c.size:=(γw.1 U).1;have h5:=(d.bF _ a6).2 ⟨y,γd J,rfl⟩;grind
    ·exact Z
   obtain⟨V,X⟩:=d.comp x G;refine N3 K X f1 O λY w' F a4=>?_;have a8:=d.nodup;have a7:=Yk f g x;have v:∀(p:Nat) (y:dC),(f++g)[p]?=some y->(f++x::g)[if p<f.length then p else p+1]?=some y:=by
    grind
   have B:∀(p:Nat) (t:List Nat×List Nat),(ents call base (f++g) s1)[p]?=some t->(ents call base (f++x::g) st)[if p<f.length then p else p+1]?=some t:=by
    grind
   obtain⟨_,_,E,_⟩:=xk f1;refine ih (f++g) _ s1 Y w' F (by grind) ⟨⟨s',f2,S.trans f3⟩,δ8 d.len E,λp q y z W tz a9 hy hz a1 a3=>?_,λy hy=>d.comp y ?_,?_,by simp[d.sz],λk j=>?_,λk m j hm=>?_⟩ a4
   ·refine d.rel _ _ y z W tz ?_ (v p y hy) (v q z hz) (B p W a1) (B q tz a3);split<;>split<;>omega
   ·grind
   ·grind
   ·by_cases r:k=x.idx
    ·subst r;have n:(b.setIfInBounds x.idx true).getD x.idx true=true:=by simp
     grind
    ·rw[getD_set_ne true (Ne.symm r),d.bF k j];grind
   ·by_cases r:k=x.idx;·grind[getD_set_true]
    ·rw[getD_set_ne false (Ne.symm r)] at j;exact getD_set_true (d.closed k m j hm)
theorem Ol:∀{l:List Nat},nodupB l=true->l.Nodup
 |[],_=>List.nodup_nil
 |a::r,h=>by
  simp only[nodupB,θ,Bool.not_eq_true',List.contains_eq_mem,decide_eq_false_iff_not] at h;exact γW.2 ⟨h.1,Ol h.2⟩
theorem Ym {b:Nat} {fl:List Nat} {a:Array Oper} {bC k:Nat} {x:dC} (h:ra P b fl a bC k=some x):x.idx=k/\k<a.size:=by
 unfold ra at h;split at h;·cases h
 ·rename_i o d;split at h
  ·obtain⟨c,_,rfl⟩:=ε.1 h;grind
  ·cases h
theorem Yn (g:pF P call) {s:Nat} {fl:List Nat} {d:Array Oper} {id k:Nat} {c:List Nat} {l:List dC} (S:u7 P s fl d 0 c=some (l,k)) (h:P.follows .mixedOrders=true)
  (C:c.length=d.size) (L:nodupB c=true) (M:wR (oU d) l=true) (u:wO 0 d.toList=true) (r:(ω d.size).all c.contains=true)
  {b st2:St} (T:gh call b.o.length l ⟨b.env,b.o++gi k⟩=some st2)
  (G:((rb (oU d) l).isEmpty||tu (b.o++gi k).length (mC call b.o.length l ⟨b.env,b.o++gi k⟩) (rb (oU d) l))=true)
  {I:World} {n:bW} {F:Store} {a:Act} {w:World} {σ:bW} {Q:Exit->Act->World->Prop} (O:dc A s D I n F ⟨b.env,b.o++gi k⟩ a w σ) (K:∀B w' t,dc A s D I n F st2 B w' t->Q .normal B w') {dn:Option Nat}:(Code.region id d true).wpIn (FR dn) 0 P Q a w:=by
 obtain⟨Z,W⟩:=Ge S;have E:l.map (·.idx)=c:=by
  apply γ9;intro j;rw[List.getElem?_map];cases f:l[j]? with
  |none=>
   simp_all;|some x=>
   have v:=(ζ.1 f).1;have z:=μ (l:=c) (i:=j) (by omega);obtain⟨X,V⟩:=W j x _ f z;rw[z];simp[(Ym V).1]
 have e:(l.map (·.idx)).Nodup:=by grind[Ol]
 refine wpIn_region_any h (Yl (fl:=fl) (base:=b.o.length) (n0:=(b.o++gi k).length) g u K d.size l _ ⟨b.env,b.o++gi k⟩ a _ σ (by omega) ⟨⟨st2,T,kh.refl _⟩,ξ _,λp q y x ty tx R Y H N U=>?_,λx H=>?_,e,by simp,λj f=>?_,λj m f=>?_⟩ O.drew);·grind[Yj]
 ·obtain⟨j,f⟩:=List.getElem?_of_mem H;have v:=(ζ.1 f).1;have z:=μ (l:=c) (i:=j) (by omega);grind
 ·have J:(εb d.size false).getD j true=false:=by simp[f]
  rw[J];refine⟨λ_=>?_,λ_=>rfl⟩;have:=φ.1 r j (List.mem_range.2 f);grind
 ·exfalso;rw[Array.getD_eq_getD_getElem?,Array.getElem?_replicate] at f;grind
end
section
variable {P:Program} {A:dN} {D:List Deferred} {w w':World} {σ σ':bW} {o o':Store}
theorem bT.fresh (i:bT A w σ o) (e:TypeId) (sz:Nat) (pu:Bool):∃a,bT A w a (o++[.cells [] e sz pu])/\Ext w σ o w a (o++[.cells [] e sz pu])/\a[o.length]?=some none:=by
 obtain⟨k,j⟩:=i.gi 1;have b:(o++Go.Vi.gi 1)[o.length]?=some .dead:=by simp[Go.Vi.gi]
 have c:(o++Go.Vi.gi 1).set o.length (.cells [] e sz pu)=o++[.cells [] e sz pu]:=by
  grind[Go.Vi.gi]
 have f:o.length<(σ++List.replicate 1 none).length:=by simp[i.len]
 obtain⟨d,g⟩:=k.upd (w':=w) (x':=.cells [] e sz pu) (s':=none) b (ξ _) rfl rfl rfl (λ_ _ _=>rfl) (λ_ _ h=>by cases h) trivial (λl=>by
  simp only[dE];exact⟨λ_=>rfl,rfl,.inl ⟨by simp_all,trivial⟩⟩);rw[c] at d g;exact⟨_,d,j.trans g,by simp_all⟩
theorem Om {n:Nat} {e:TypeId} {sz:Nat} {pu:Bool} (c:o[n]?=some (.cells [] e sz pu)) (a:σ[n]?=some none):bw A w σ o (.os n 0 0 0) (.slice none 0 0):=by
 simp only[bw];refine⟨⟨[],e,sz,pu,c,ξ _⟩,none,0,rfl,ξ _,λb _=>?_⟩;grind[kD]
theorem dc.Yo {t:Nat} {r:World} {g:bW} {p:Store} {st:St} {a:Act} (h:dc A t D r g p st a w σ) (id:Nat):∃i,dc A t D r g p (BH id st) a w i:=by
 unfold BH;split
 ·rename_i E e L k;have n:id<st.o.length:=(ζ.1 k).1;have d:id<σ.length:=by rw[h.fz.len];exact n
  obtain⟨x,q⟩:=h.fz.upd (w':=w) (x':=.cells E e L false) (s':=σ[id]) k (ξ _) rfl rfl rfl (λ_ _ _=>rfl)
   (λb c N=> .inl ⟨c,by simp_all⟩) ⟨_,e,false,rfl,by simp,λ_=>μ d⟩ (λK=>by
    have f:=h.fz.obj id _ k;simp only[dE] at f ⊢;obtain⟨P,H,I⟩:=f;refine⟨λG=>(by cases G),H,?_⟩;rcases I with⟨O,R⟩|⟨b,l,m,Q,J,u,y,F,M⟩;·simp_all
    ·refine .inr ⟨b,l,m,?_,J,u,y,F,λj c C=>?_⟩;·simp_all
     ·obtain⟨v,z,B⟩:=M j c C;exact⟨v,z,B.ext K⟩);exact⟨_,x,λs=>(h.env s).ext q,h.size,h.defers,h.ext.trans q⟩
 grind
theorem dc.Yp {M:Nat} {P:World} {u:bW} {U:Store} {st:St} {a:Act} (h:dc A M D P u U st a w σ) (x:kA):∃C,dc A M D P u U (BI x st) a w C:=by
 obtain⟨f,I,z,V⟩:=h.fz.fresh x.e x.sz x.pu;have r:(st.o++[bR.cells [] x.e x.sz x.pu])[st.o.length]?=some (.cells [] x.e x.sz x.pu):=by simp
 unfold BI;split
 ·split
  ·rename_i N;refine⟨f,I,λs=>?_,h.size,h.defers,h.ext.trans z⟩;simp only[dM];cases X:δq x.slot s with
   |true=>
    have:=εS X;subst this;have:=h.env x.slot;grind[gv,Om];|false=>exact(h.env s).ext z
  ·split;·exact h.Yo _
   grind
  grind
 ·rename_i k _;split
  ·rename_i i d a1 N;split
   ·rename_i p e y pu ho;split
    ·rename_i R;split
     ·rename_i g;obtain⟨L,rfl⟩:=g;have a0:i<st.o.length:=(ζ.1 ho).1;have l:i<f.length:=by grind
      have n:(st.o++[bR.cells [] x.e x.sz x.pu])[i]?=some (.cells p e y false):=by grind
      have Z:d+k<p.length:=(ζ.1 R).1;obtain⟨O,G⟩:=I.upd (w':=w) (x':=.cells (p.set (d+k) (.os st.o.length 0 0 0)) e y false) (s':=f[i]) n (ξ _) rfl rfl rfl (λ_ _ _=>rfl)
       (λb c N=> .inl ⟨c,by simp_all⟩) ⟨_,e,false,rfl,by simp,λ_=>μ l⟩ (λS=>by
        have t:=I.obj i _ n;simp only[dE] at t ⊢;obtain⟨q1,q2,q3⟩:=t;refine⟨λh=>(by cases h),?_,?_⟩
        ·refine nc.2 λc H=>?_;rcases List.mem_or_eq_of_mem_set H with T|T;·grind[nc]
         ·subst T;rfl
        ·rcases q3 with⟨_,h0⟩|⟨b,K,B,r1,W,r3,Y,r5,Q⟩;·simp_all
         ·refine .inr ⟨b,K,B,?_,W,r3,Y,by simp_all,λj c m=>?_⟩;·simp_all
          ·rw[εj] at m;split at m
           ·rename_i J;subst J;injection m with m;subst m;obtain⟨v,E,F⟩:=Q _ _ R;refine⟨v,E,?_⟩;rw[gv F];exact(Om r V).ext S
           ·obtain⟨v,E,F⟩:=Q j c m;exact⟨v,E,F.ext S⟩);have q:(st.o++[bR.cells [] x.e x.sz x.pu]).set i (.cells (p.set (d+k) (.os st.o.length 0 0 0)) e y false)=(st.o.set i (.cells (p.set (d+k) (.os st.o.length 0 0 0)) e y false))++[bR.cells [] x.e x.sz x.pu]:=by
       simp_all
      rw[q] at O G;exact⟨_,O,λs=>((h.env s).ext z).ext G,h.size,h.defers,(h.ext.trans z).trans G⟩
     grind
    grind
   grind
  grind
theorem dc.Yq {t:Nat} {r:World} {f:bW} {p:Store} {st:St} {a:Act} (h:dc A t D r f p st a w σ) (id:Nat):∃i,dc A t D r f p (y8 id st) a w i:=by
 unfold y8;split
 ·rename_i G e x k;split
  ·rename_i E;have n:id<st.o.length:=(ζ.1 k).1;have d:id<σ.length:=by rw[h.fz.len];exact n
   obtain⟨y,q⟩:=h.fz.upd (w':=w) (x':=.cells G e x true) (s':=σ[id]) k (ξ _) rfl rfl rfl (λ_ _ _=>rfl)
    (λb c N=> .inl ⟨c,by simp_all⟩) ⟨_,e,true,rfl,by simp,λ_=>μ d⟩ (λH=>by
     have g:=h.fz.obj id _ k;simp only[dE] at g ⊢;obtain⟨P,F,K⟩:=g;refine⟨λ_=>E,F,?_⟩;rcases K with⟨O,R⟩|⟨b,l,m,Q,L,u,z,I,M⟩;·simp_all
     ·refine .inr ⟨b,l,m,?_,L,u,z,I,λj c B=>?_⟩;·simp_all
      ·obtain⟨v,C,J⟩:=M j c B;exact⟨v,C,J.ext H⟩);exact⟨_,y,λs=>(h.env s).ext q,h.size,h.defers,h.ext.trans q⟩
  grind
 grind
theorem dc.hint {f:Nat} {g:World} {b:bW} {e:Store} {st:St} {a:Act} {lo:Nat} (l:e.length<=lo) (h:dc A f D g b e st a w σ) (x:kA):∃d,dc A f D g b e (j9 lo x st) a w d:=by
 unfold j9;split;·exact h.Yp x
 ·split
  ·rename_i o _ _ _ _;split
   ·rename_i p;have m:=Nat.le_of_ble_eq_true p;obtain⟨k,h⟩:=h.Yq o;unfold BJ;simp only;split
    ·rename_i q t n j;have c:=NV j;exact⟨_,h.fz.bU c,λs=>bw.bU h.fz c _ _ _ (NT n s) (h.env s),h.size,h.defers,h.ext.bU c λi r=>by
      grind⟩
    grind
   grind
  grind
theorem On {s:World} {f:bW} {h:Store} (j:bT A w σ o) (g:Ext s f h w σ o) {l r:AV} {u:Value} (y:bw A w σ o l u) {own:Bool} (a:finish own h.length l o=some (r,o')):
  ∃d,bT A w d o'/\bw A w d o' r u/\Ext s f h w d o':=by
 unfold finish at a;cases own with
 |true=>grind[XP];|false=>
  simp only[χ,if_false] at a;split at a
  ·rename_i D;split at a
   ·rename_i C m;simp only[γ,ι] at a;obtain⟨rfl,rfl⟩:=a;have t:h=[]:=τ D;subst t;refine⟨[],zk w j.jE,FX j (λb _ a=>a.2) 6 l C u m (λq _ b c p=>j.av q b c p) y,g.size,λb v B=>⟨(g.blk b v B).1,λ⟨i,c,z⟩=>by simp at z⟩,ξ _,λq x k=>?_,λq k=>?_,g.os,g.tape,g.output⟩;·obtain⟨G,e,F,E,n,_⟩:=k;simp at n
    ·obtain⟨H,I,E,n⟩:=k;simp at n
   ·cases a
  ·cases a
end
open Go.RowKit
section
variable {A:dN} {w w':World} {σ:bW} {o:Store}
mutual
theorem bw.to (g:∀(p:Addr) (v:Value),w.cell? p=some v->w'.cell? p=some v):∀(c:AV) (v:Value),bw A w σ o c v->bw A w' σ o c v
 | .ud,_,_=>by simp[bw];| .sc u,v,d=>by grind[bw];| .agg e,v,d=>by
  simp only[bw] at d ⊢;obtain⟨k,rfl,i⟩:=d;exact⟨k,rfl,bG.to g e _ i⟩;| .bI e,v,d=>by
  simp only[bw] at d ⊢;obtain⟨k,rfl,i⟩:=d;exact⟨k,rfl,bG.to g e _ i⟩;| .sl n e,v,d=>by
  simp only[bw] at d ⊢;obtain⟨a,q,rfl,G,x,y⟩:=d;exact⟨a,q,rfl,G,x,dq.to g e a 0 y⟩;| .ep e l,v,d=>by
  simp only[bw] at d ⊢;obtain⟨a,rfl,x,y⟩:=d;exact⟨a,rfl,x,dq.to g e _ 0 y⟩;| .ptr z l m,v,d=>by grind[bw];| .os z l H m,v,d=>by grind[bw];| .mp z,v,d=>by grind[bw];| .fn f a b,v,d=>by
  simp only[bw] at d ⊢;obtain⟨E,F,rfl,C,I⟩:=d;exact⟨E,F,rfl,bG.to g a _ C,bG.to g b _ I⟩;| .jl t e,v,d=>by
  simp only[bw] at d ⊢;obtain⟨k,rfl,B,i⟩:=d;exact⟨k,rfl,B,bG.to g e _ i⟩
theorem bG.to (g:∀(p:Addr) (v:Value),w.cell? p=some v->w'.cell? p=some v):∀(e:List AV) (k:List Value),bG A w σ o e k->bG A w' σ o e k
 |[],_,h=>by grind[bG];|c::e,k,h=>by
  simp only[bG] at h ⊢;obtain⟨v,r,rfl,s,i⟩:=h;exact⟨v,r,rfl,bw.to g c v s,bG.to g e r i⟩
theorem dq.to (g:∀(p:Addr) (v:Value),w.cell? p=some v->w'.cell? p=some v):∀(e:List AV) (a:Option Addr) (j:Nat),dq A w σ o e a j->dq A w' σ o e a j
 |[],_,_,_=>by simp[dq];|c::e,a,j,h=>by
  simp only[dq] at h ⊢;obtain⟨⟨b,v,rfl,D,s,d⟩,i⟩:=h;exact⟨⟨b,v,rfl,D,g _ _ s,bw.to g c v d⟩,dq.to g e _ (j+1) i⟩
end
theorem bT.to (a:bT A w σ o) (t:∀(p:Addr) (v:Value),w.cell? p=some v->w'.cell? p=some v) (J:∀(i b c:Nat),σ[i]?=some (some (b,c))->w'.heap[b]?=w.heap[b]?)
  (d:w.heap.size<=w'.heap.size):bT A w' σ o:=by
 refine⟨a.len,a.dist,λi b c h=>γi (a.bnd i b c h) d,λi x F=>?_,a.av,λb h=>γi (a.jE b h) d⟩;have h:=a.obj i x F;cases x with
 |dead=>grind[dE];|cells N e K H=>
  simp only[dE] at h ⊢;refine⟨h.1,h.2.1,?_⟩;rcases h.2.2 with s|⟨b,n,g,k,u,y,l,D,C⟩;·exact .inl s
  ·refine .inr ⟨b,n,g,k,u,by grind,l,D,λj c q=>?_⟩;obtain⟨v,I,f⟩:=C j c q;exact⟨v,I,f.to t c v⟩;|map M L H=>
  simp only[dE] at h ⊢;obtain⟨s,r,b,c,E,G,k,u,y,l⟩:=h;refine⟨s,r,b,c,E,G,k,by grind,y,λj e q=>?_⟩;obtain⟨m,B,z,f⟩:=l j e q;exact⟨m,B,z,f.to t e.2 _⟩
theorem zq {r b:Nat} {y:Obj} (h:b≠r):(w.putObj r y).heap[b]?=w.heap[b]?:=by
 simp_all[World.putObj,Ne.symm]
theorem putObj_size {r:Nat} {y:Obj}:(w.putObj r y).heap.size=w.heap.size:=by simp_all
theorem Oo {r:Nat} {x y:Obj} (h:w.heap[r]?=some x) (b:x.isCells=false) (p:Addr) (v:Value) (a:w.cell? p=some v):(w.putObj r y).cell? p=some v:=by
 grind[cells_of_cell,World.cell?_of_block,zq]
theorem bT.tP (a:bT A w σ o) {r:Nat} {x y:Obj} (h:w.heap[r]?=some x) (d:x.isCells=false) (g:¬Own σ r):bT A (w.putObj r y) σ o:=
 a.to (Oo h d) (λi b c f=>zq λe=>g ⟨i,c,e▸f⟩) (by simp_all)
theorem bw.tP {c:AV} {v:Value} (a:bw A w σ o c v) {r:Nat} {x y:Obj} (h:w.heap[r]?=some x) (b:x.isCells=false):bw A (w.putObj r y) σ o c v:=
 a.to (Oo h b) c v
theorem Ext.tP {c:World} {a:bW} {d:Store} (h:Ext c a d w σ o) {r:Nat} {y:Obj} (g:c.heap.size<=r):Ext c a d (w.putObj r y) σ o where
 size:=by rw[putObj_size];exact h.size
 blk:=λb e f=>by
  obtain⟨i,j⟩:=h.blk b e f;grind[zq]
 len:=h.len;cur:=h.cur;isMap:=h.isMap;os:=h.os;tape:=h.tape;output:=h.output
theorem Cf {P:Program} {t:Func} {a:Array Value} {m:World} {D:List Deferred} {R:Ending->World->Prop}:∀(j:List Deferred) (w:World),tM m w j->bT A w σ o->
  (∀w',bT A w' σ o->(∀{c:bW} {q:Store},Ext m c q w σ o->Ext m c q w' σ o)->(∀s v,bw A w σ o s v->bw A w' σ o s v)->LeavesInM (FR none) 0 P t a R D .returning w')->
  LeavesInM (FR none) 0 P t a R (j++D) .returning w
 |[],w,_,f,k=>k w f (λh=>h) (λ_ _ h=>h)
 |d::j,w,g,f,k=>by
  obtain⟨r,x,n,i⟩:=g.2 d (by simp);have C:=f.F9 i (by simp) (by simp);simp only[γG,LeavesInM];refine⟨by simp,.inl ⟨r,w.putObj r (.deferred none),by rw[x],run_takeDeferred i,?_⟩⟩;refine Cf j _ ⟨(γA.1 g.1).2,λe p=>?_⟩ (f.tP i rfl C) λw' y z E=>k w' y (λh=>z (h.tP n)) (λs v h=>E s v (h.tP i rfl));obtain⟨B,l,b,u⟩:=g.2 e (γT _ p);refine⟨B,l,b,?_⟩;have:=(γA.1 g.1).1 e p;grind[zq]
theorem Gm {P:Program} {m:World}:∀(f:List Deferred) (w:World) (fr:Frame) (cs:List Frame),fr.mode= .returning->fr.defers=f->tM m w f->bT A w σ o->
  ∃w',StepsIn (Machine.fenced P (FR none)) P (lone fr cs w) (lone {fr with defers:=[]} cs w')/\bT A w' σ o/\(∀{a:bW} {u:Store},Ext m a u w σ o->Ext m a u w' σ o)/\∀s v,bw A w σ o s v->bw A w' σ o s v
 |[],w,fr,cs,_,k,_,l=>by
  refine⟨w,?_,l,λh=>h,λ_ _ h=>h⟩;have:fr={fr with defers:=[]}:=by rw[<-k]
  rw[<-this];exact StepsIn.refl _;|d::f,w,fr,cs,x,k,j,l=>by
  obtain⟨r,p,q,i⟩:=j.2 d (by simp);have C:=l.F9 i (by simp) (by simp);have b:fr.mode≠ .run:=by rw[x];simp
  have I:=step_collected (cs:=cs) b k (by rw[p]) (run_takeDeferred (P:=P) i);have H:(lone fr cs w).fenced P (FR none):=fenced_out (n:=0) trivial (by simp[FR,Fence.wide,Fence.room]) b k (λg J=>by grind[Target.leads]);obtain⟨w',E,z,F,D⟩:=Gm f (w.putObj r (.deferred none)) {fr with defers:=[]++f} cs x rfl ⟨(γA.1 j.1).2,λe y=>by
   obtain⟨G,t,c,B⟩:=j.2 e (γT _ y);refine⟨G,t,c,?_⟩;have:=(γA.1 j.1).1 e y;grind[zq]⟩ (l.tP i rfl C);exact⟨w',.head H I E,z,λh=>F (h.tP q),λs v h=>D s v (h.tP i rfl)⟩
theorem Yr {P:Program} {f:FuncId} {m:Func} {c:Code} {args:Array Value} {u:FrameMode} {w:World} {R:Ending->World->Prop}
  (E:P.funcs[f]?=some m) (S:m.body=some c)
  (h:c.wpIn (FR none) 0 P (λe a r=>(e= .normal\/e= .ret)/\∃(q:World) (g:bW) (l:Store),tM q r a.defers/\bT A r g l/\∀i,bT A i g l->(∀{n:bW} {I:Store},Ext q n I r g l->Ext q n I i g l)->(∀s v,bw A r g l s v->bw A i g l s v)->
   ∃v,(results m a.tmps).run P i= .ok v i/\R (.returned v) i) {tmps:=args++εb (m.ntmps - args.size) undef,defers:=[]} w):
  CallsDIn (FR none) 0 P f args u w λe L w'=>L=u/\R e w':=by
 refine⟨trivial,λd z Q J=>?_⟩;let b:Frame:={(default:Frame) with fn:=f,kind:=.deferred,roundOf:=none};have k:Frame.enter P f args .deferred=
   b.atR {tmps:=args++εb (m.ntmps - args.size) undef,defers:=[]} [.code c]:=by
  grind[Frame.enter,Frame.atR]
 have F:({d with mode:=u}:Frame)=d:=by subst Q;rfl
 obtain⟨e,p,w',O,j⟩:=h b [] (d::z) rfl trivial J;rw[<-k] at j;obtain⟨N,q,g,l,H,K,G⟩:=O;rcases N with rfl|rfl
 ·obtain⟨i,C,t,y,B⟩:=Gm (P:=P) p.defers w' {b.atR p [] with mode:=.returning} (d::z) rfl rfl H K;obtain⟨v,D,x⟩:=G i t y B;exact⟨.returned v,u,i,_,⟨rfl,x⟩,(by rw[F];exact StepsIn.trans (StepsIn.trans j (.one (fenced_calm (fr:=b.atR p []) trivial J rfl) (stepR_end rfl))) C),rfl,rfl,rfl,rfl,m,E,D⟩
 ·obtain⟨o,M⟩:=j.1 rfl;obtain⟨i,C,t,y,B⟩:=Gm (P:=P) p.defers w' {b.atR p o with mode:=.returning} (d::z) rfl rfl H K;obtain⟨v,D,x⟩:=G i t y B;exact⟨.returned v,u,i,_,⟨rfl,x⟩,(by rw[F];exact StepsIn.trans M C),rfl,rfl,rfl,rfl,m,E,D⟩
end
open Go.RowKit
def Out.tQ:Out->Exit
 | .norm=> .normal
 | .exit a=> .exit a
 | .ret=> .ret
 | .goto l=> .goto l
section
variable {P:Program} {A:dN} {D:List Deferred} {w w':World} {σ σ':bW} {o o':Store}
theorem Ys (a:List Nat) (env:jB) (s:Nat):dM (prune a env) s=dM env s\/dM (prune a env) s= .ud:=by
 unfold prune;induction a with
 |nil=>right;rfl;|cons x a b=>
  simp only[π,dM];cases c:δq x s<;>simp_all
theorem Yt (t:Nat) (env:jB) (s:Nat):dM (qZ t env) s=dM env s\/dM (qZ t env) s= .ud:=by
 induction env with
 |nil=>left;rfl;|cons p env c=>
  simp only[qZ];cases a:δq p.1 t with
  |true=>
   simp only[cond_true];by_cases d:p.1=s
   ·have e:=εS a;right;have:∀env:jB,dM (qZ t env) t= .ud:=by
     intro env;induction env with
     |nil=>rfl;|cons q env c=>
      simp only[qZ];cases b:δq q.1 t with
      |true=>simp_all;|false=>simp_all[dM]
    simp_all
   ·have:dM (p::env) s=dM env s:=by
     simp only[dM];have:δq p.1 s=false:=by
      cases h:δq p.1 s<;>simp_all
     rw[this];rfl
    simp_all;|false=>
   simp only[cond_false,dM];grind
theorem dc.drop {d:Nat} {e:World} {b:bW} {c:Store} {st:St} {a:Act} (h:dc A d D e b c st a w σ) (x:Operand):dc A d D e b c ⟨pB x st.env,st.o⟩ a w σ where
 fz:=h.fz;env:=λs=>by
  unfold pB;split
  ·rename_i t;rcases Yt t st.env s with f|f;·simp only[f];exact h.env s
   grind[bw]
  ·exact h.env s
 size:=h.size;defers:=h.defers;ext:=h.ext
theorem dc.prune {e:Nat} {f:World} {c:bW} {d:Store} {st:St} {a:Act} (h:dc A e D f c d st a w σ) (b:List Nat):dc A e D f c d ⟨ζO b st.env,st.o⟩ a w σ where
 fz:=h.fz;env:=λs=>by
  rcases Ys b st.env s with g|g;·simp only[g];exact h.env s
  grind[bw]
 size:=h.size;defers:=h.defers;ext:=h.ext
theorem Yu {env:jB} {s:Nat}:dM env s= .ud\/∃p∈env,p.2=dM env s:=by
 induction env<;>grind[dM]
theorem dc.trim {g:Nat} {f:World} {b:bW} {d:Store} {st:St} {a:Act} (h:dc A g D f b d st a w σ) {k:Nat} (i:d.length<=k):∃c,dc A g D f b d (Go.Vi.trim k st) a w c:=by
 unfold Go.Vi.trim;split;·grind
 ·split
  ·rename_i e;simp only[θ,φ] at e;refine⟨σ.take k,⟨h.fz.take e.2,λs=>?_,h.size,h.defers,h.ext.take i⟩⟩;grind[Yu,env,bw,bw.take]
  grind
theorem dc.gi {e:Nat} {g:World} {b:bW} {d:Store} {st:St} {a:Act} (h:dc A e D g b d st a w σ) (n:Nat):∃c,dc A e D g b d ⟨st.env,st.o++Go.Vi.gi n⟩ a w c:=by
 obtain⟨i,f⟩:=h.fz.gi n;exact⟨_,i,λs=>(h.env s).ext f,h.size,h.defers,h.ext.trans f⟩
theorem dc.qV {e:Nat} {f:World} {c:bW} {d:Store} {st:St} {a:Act} (h:dc A e D f c d st a w σ) {k:Nat} (g:d.length<=k):∃b,dc A e D f c d ⟨st.env,Go.Vi.qV k st.o⟩ a w b:=by
 obtain⟨b,l,j,i⟩:=XM h.fz k;exact⟨b,l,λs=>j _ _ (h.env s),h.size,h.defers,i _ _ _ g h.ext⟩
theorem dc.len {d:Nat} {e:World} {b:bW} {c:Store} {st:St} {a:Act} (h:dc A d D e b c st a w σ):c.length<=st.o.length:=h.ext.len
theorem dc.hints {nt:Nat} {w0:World} {lS:bW} {o0:Store} {lo:Nat} (hlo:o0.length<=lo) (l:List kA):∀{st:St} {a:Act} {σ:bW},dc A nt D w0 lS o0 st a w σ->∃σ',dc A nt D w0 lS o0 (l.foldl (λs h=>j9 lo h s) st) a w σ':=by
 induction l with
 |nil=>intro st a σ h;exact⟨σ,h⟩;|cons x l ih=>
  intro st a σ h;obtain⟨σ1,h1⟩:=dc.hint hlo h x;exact ih h1
theorem Yv {dn:Option Nat} {call:df} (hcall:pF P call) {lo nt:Nat} {H:List RH} {id:Nat} {ops:Array Oper} {draw:Bool} {c:IR} (hc:wS P nt H id ops draw=some c):
  ∃k l kB live pre post,c= .region id draw k l kB live pre post/\∀{st st':St},pA call k l kB (pre.foldl (λs h=>j9 lo h s) st)=some st'->∀{w0:World} {lS:bW} {o0:Store} {a:Act} {w:World} {σ:bW},o0.length<=lo->dc A nt D w0 lS o0 st a w σ->
   (Code.region id ops draw).wpIn (FR dn) 0 P (λe a' w'=>e= .normal/\∃σ',dc A nt D w0 lS o0 (post.foldl (λs h=>j9 lo h s) ⟨ζO live st'.env,st'.o⟩) a' w' σ') a w:=by
 unfold wS at hc;split at hc;·cases hc
 ·rename_i h hh;have fin:∀(k:Nat) (l:List dC) (kB:List (Nat×Nat)),(∀{st1 st2:St},gh call st1.o.length l ⟨st1.env,st1.o++gi k⟩=some st2->(kB.isEmpty||tu (st1.o++gi k).length (mC call st1.o.length l ⟨st1.env,st1.o++gi k⟩) kB)=true->
     ∀{w0:World} {lS:bW} {o0:Store} {a:Act} {w:World} {σ:bW} {Q:Exit->Act->World->Prop},dc A nt D w0 lS o0 ⟨st1.env,st1.o++gi k⟩ a w σ->(∀a' w' σ',dc A nt D w0 lS o0 st2 a' w' σ'->Q .normal a' w')->(Code.region id ops draw).wpIn (FR dn) 0 P Q a w)->
    ∀{st st':St},pA call k l kB (h.pre.foldl (λs h=>j9 lo h s) st)=some st'->∀{w0:World} {lS:bW} {o0:Store} {a:Act} {w:World} {σ:bW},o0.length<=lo->dc A nt D w0 lS o0 st a w σ->
     (Code.region id ops draw).wpIn (FR dn) 0 P (λe a' w'=>e= .normal/\∃σ',dc A nt D w0 lS o0 (h.post.foldl (λs h=>j9 lo h s) ⟨ζO h.live st'.env,st'.o⟩) a' w' σ') a w:=by
   intro k l kB hrun st st' hr w0 lS o0 a w σ hlo hs;obtain⟨σ1,hs1⟩:=dc.hints hlo h.pre hs;generalize ahP:h.pre.foldl (λs h=>j9 lo h s) st=st1 at hr hs1;unfold pA at hr;simp only at hr;split at hr
   ·rename_i st2 h2;split at hr
    ·rename_i Gn;injection hr with hr;obtain⟨σ2,hs2⟩:=hs1.gi k;refine hrun h2 Gn hs2 λa' w' σ' h3=>⟨rfl,?_⟩;have h4:∃Oq,dc A nt D w0 lS o0 st' a' w' Oq:=by
      subst hr;by_cases hk:k=0;·simp only[hk,if_true];exact⟨σ',h3⟩
      ·simp only[hk,if_false];exact h3.qV hs1.len
     obtain⟨Oq,h4⟩:=h4;exact dc.hints hlo h.post (h4.prune h.live)
    ·cases hr
   ·cases hr
  cases draw with
  |false=>
   simp only[χ,if_false] at hc;obtain⟨⟨l,k⟩,hl,rfl⟩:=ε.1 hc;refine⟨k,l,[],h.live,h.pre,h.post,rfl,fin k l [] λ{st1 st2} h2 _ w0 lS o0 a w σ Q hs hQ=>?_⟩;obtain⟨g1,g2⟩:=Ge hl;exact wpIn_region (N4 hcall l (ω ops.size) g1 g2 _ _ a w σ h2 hs hQ);|true=>
   simp only[if_true] at hc;generalize (if h.perm.isEmpty=true then ω ops.size else h.perm)=perm at hc;split at hc
   ·rename_i l k hl;split at hc
    ·rename_i hcond;injection hc with hc;refine⟨k,l,rb (oU ops) l,h.live,h.pre,h.post,hc.symm,fin k l _ λ{st1 st2} h2 Gn w0 lS o0 a w σ Q hs hQ=>?_⟩;simp only[θ,beq_iff_eq] at hcond;exact Yn hcall hl hcond.1.1.1.1.1 hcond.1.1.1.1.2 hcond.1.1.1.2 hcond.1.1.2 hcond.1.2 hcond.2 h2 Gn hs hQ
    ·cases hc
   ·cases hc
def vp (_:Program) (dn:Option Nat) (_:dN->World->bW->Store->Prop):Md->Prop
 | .plain=>dn=none
def Closed (B:dN->World->bW->Store->Prop):Prop:=∀A w c o b a d,B A w c o->Ext w c o b a d->B A b a d
theorem Yw {call:df} (m:pF P call) {dn:Option Nat} {B:dN->World->bW->Store->Prop} {md:Md} (G:vp P dn B md) (F:Closed B) {lo r:Nat} {H:List RH} {id:Nat} {p:Array Oper} {d:Bool} {c:IR} (y:wS P r H id p d=some c):
  ∃k l j f g b,c= .region id d k l j f g b/\∀{st st':St},Fz md d call k l j (g.foldl (λs h=>j9 lo h s) st)=some st'->∀{q:World} {i:bW} {n:Store} {a:Act} {w:World} {σ:bW},B A q i n->n.length<=lo->dc A r D q i n st a w σ->
   (Code.region id p d).wpIn (FR dn) 0 P (λe x w'=>e= .normal/\∃u,dc A r D q i n (b.foldl (λs h=>j9 lo h s) ⟨ζO f st'.env,st'.o⟩) x w' u) a w:=by
 obtain⟨k,l,j,f,g,b,v,E⟩:=Yv (dn:=dn) m (A:=A) (lo:=lo) y;refine⟨k,l,j,f,g,b,v,?_⟩;intro st st' z q i n a w σ _ t C;exact E z t C
structure kF (P:Program) (T:Tab):Prop where
 fn:∀f F,T.fn f=some F->∃fn H,P.funcs[f]?=some fn/\BR P H fn=some F/\gW P f=true
 K:∀f args o own r o',T.K f args o own=some (r,o')->gW P f=true/\kE P f args o r o'/\(own=false->o'=[])
def zr (P:Program) (T:Tab) (n:Nat):Prop:=
 ∀(g:Option Nat) (m:Md) (B:dN->World->bW->Store->Prop),vp P g B m->Closed B->
 ∀(o:Nat) (c:IR) (p:St) (h:Out) (f:St),exec T m n o c p=some (h,f)->∀(j:Nat) (H:List RH) (b:Code),comp P j H b=some c->∀(D:List Deferred) (A:dN) (l:World) (d:bW) (i:Store) (a:Act) (w:World) (q:bW),B A l d i->i.length<=o->dc A j D l d i p a w q->
  b.wpIn (FR g) 0 P (λe s r=>e=h.tQ/\∃k,dc A j D l d i f s r k) a w
def zt:dN->World->bW->Store->Prop:=λ_ _ _ _=>True
theorem Ci:Closed zt:=λ_ _ _ _ _ _ _ _ _=>trivial
theorem Ot:∀(k:Nat) (args:List AV) (s:Nat),dM (iw k args) s=if k<=s then(args[s - k]?).getD .ud else .ud
 |k,[],s=>by simp[iw,dM];|k,v::b,s=>by
  simp only[iw,dM];by_cases h:k=s;·subst h;simp
  ·have a:δq k s=false:=by
    cases a:δq k s<;>simp_all
   simp only[a,cond_false];rw[Ot (k+1) b s];grind
def zu (a:Array Value):ResultVar->Sem Value
 | .tmp t=>pure (a.getD t undef)
 | .cell x t=>do loadVar t (<-asAddr (a.getD x undef))
theorem Yx (b:Func) (a:Array Value):results b a=(do let vs <-b.results.mapM (zu a);pure (if h:vs.size=1 then vs[0] else .tuple vs)):=by
 unfold results;congr 1
theorem Yy {m:Nat} {i:World} {e:bW} {l:Store} {st:St} {a:Act} (h:dc A m D i e l st a w σ) {f:ResultVar} {g:mZ} (d:sf P f=some g) {r:AV} (c:qW st g=some r):
  ∃u,(zu a.tmps f).run P w= .ok u w/\bw A w σ st.o r u:=by
 cases f with
 |tmp t=>
  simp only[sf,γ] at d;subst d;simp only[qW,γ] at c;subst c;exact⟨_,rfl,h.env t⟩;|cell x t=>
  simp only[sf,ε] at d;obtain⟨n,j,rfl⟩:=d;simp only[qW] at c;split at c
  ·rename_i y s k;obtain⟨p,z,b⟩:=(h.env x).M7 h.fz k;obtain⟨u,v,q⟩:=M8 (P:=P) j b c;grind[zu,asAddr]
  ·cases c
theorem Gp {K:Nat} {Q:World} {t:bW} {N:Store} {st:St} {a:Act} (h:dc A K D Q t N st a w σ) {m:Func} {H:List mZ} (O:q9 (sf P) m.results.toList=some H) {r:AV} (j:nQ st H=some r):
  ∃u,(results m a.tmps).run P w= .ok u w/\bw A w σ st.o r u:=by
 obtain⟨n,S⟩:=FM O;unfold nQ at j;have z:∀(c:List ResultVar) (b:List mZ) (g:List AV),c.length=b.length->(∀(i:Nat) (x:ResultVar) (y:mZ),c[i]?=some x->b[i]?=some y->sf P x=some y)->b.mapM (qW st)=some g->
   ∃d:List Value,(c.mapM (zu a.tmps)).run P w= .ok d w/\bG A w σ st.o g d:=by
  intro c;induction c with
  |nil=>
   intro b g l _ f;have:b=[]:=τ (by simp_all);simp_all[bG];|cons x c R=>
   intro b g l G f;match b,l with
   |y::b,l=>
    rw[List.mapM_cons] at f;cases s:qW st y with
    |none=>simp[s] at f;|some v=>
     cases e:b.mapM (qW st) with
     |none=>simp_all;|some C=>
      simp[s,e] at f;subst f;obtain⟨u,U,M⟩:=Yy h (G 0 x y (by simp) (by simp)) s;obtain⟨d,B,E⟩:=R b C (by grind) (λi p q J T=>G (i+1) p q (by simpa using J) (by simpa using T)) e;refine⟨u::d,?_,by grind[bG]⟩;simp_all
 have F:∀d:List Value,(m.results.toList.mapM (zu a.tmps)).run P w= .ok d w->
   (results m a.tmps).run P w= .ok (if h:d.length=1 then d[0]'(by omega) else .tuple d.toArray) w:=by
  grind[Yx,Array.mapM_eq_mapM_toList,Sem.run_bind,Sem.run_map,Result.andThen_ok,Sem.run_pure]
 split at j;·grind[bG]
 ·rename_i g I f;injection j with j;subst j;obtain⟨d,B,l⟩:=z _ _ _ n S f;have k:=bG.length _ _ l;have L:¬d.length=1:=by
   intro n;match g,k.trans n with
   |[v],_=>simp_all
  grind[bw]
 ·cases j
theorem Gq {a:Nat} {args:List AV} {vs:List Value} (d:bT A w σ o) (b:bG A w σ o args vs) (j:args.length<=a):dc A a [] w σ o ⟨iw 0 args,o⟩ {tmps:=vs.toArray++εb (a - vs.toArray.size) undef,defers:=[]} w σ:=by
 have i:=bG.length _ _ b;refine⟨d,λs=>?_,?_,⟨[],rfl,δG,by simp⟩,Ext.refl _ _ _⟩
 ·simp only[Ot,Nat.zero_le,if_true,Nat.sub_zero];cases h:args[s]? with
  |none=>simp[bw];|some c=>
   obtain⟨v,e,g⟩:=bG.get _ _ b s c h;have f:s<vs.length:=(ζ.1 e).1;have:(vs.toArray++εb (a - vs.toArray.size) undef).getD s undef=v:=by
    simp_all[Array.getElem?_append_left]
   simp_all
 ·simp;omega
theorem Yz {T:Tab} {n:Nat} (W:zr P T n) {md:Md} {B:dN->World->bW->Store->Prop} (N:vp P none B md) (L:Closed B) {f:FuncId} {c:Func} {g:Code} {H:List RH} {b:IR} {E:List mZ}
  (t:P.funcs[f]?=some c) (i:c.body=some g) (X:comp P c.ntmps H g=some b) (y:q9 (sf P) c.results.toList=some E) (Q:¬c.ntmps<c.params.size+c.nfree)
  {args:List AV} {out:Out} {st:St} (C:args.length=c.params.size+c.nfree) (j:out= .norm\/out= .ret) (m:exec T md n o.length b ⟨iw 0 args,o⟩=some (out,st)) {G r:AV} (z:nQ st E=some G) {own:Bool} (q:finish own o.length G st.o=some (r,o'))
  {vs:List Value} (x:B A w σ o) (J:bT A w σ o) (I:bG A w σ o args vs):
  CallsIn (FR none) 0 P f vs.toArray w λe w'=>∃u a,e= .returned u/\bT A w' a o'/\bw A w' a o' r u/\Ext w σ o w' a o':=by
 have M:=bG.length _ _ I;refine callsIn_of_wp_marks (F:=FR none) t i trivial (wpIn_mono (W none md B N L _ b _ out st m c.ntmps H g X [] A w σ o {tmps:=vs.toArray++εb (c.ntmps - vs.toArray.size) undef,defers:=[]} w σ x (ξ _) (Gq J I (by omega))) ?_)
 ·rintro e p w' ⟨rfl,a,d⟩;have k:LeavesInM (FR none) 0 P c p.tmps (λe w'=>∃u a,e= .returned u/\bT A w' a o'/\bw A w' a o' r u/\Ext w σ o w' a o') p.defers .returning w':=by
   obtain⟨K,v,U⟩:=d.defers;rw[v];refine Cf K w' U d.fz λS R V O=>?_;simp only[LeavesInM,LeavesIn];have h:dc A c.ntmps [] w σ o st {p with defers:=[]} S a:=⟨R,λs=>O _ _ (d.env s),d.size,⟨[],rfl,δG,by simp⟩,V d.ext⟩;obtain⟨u,Y,l⟩:=Gp h y z;have D:=On h.fz h.ext l q;simp_all
  rcases j with rfl|rfl;·exact k
  ·exact k
theorem Ou {out:Out} (h:qY out=true):out= .norm\/out= .ret:=by
 grind[qY]
theorem YA {P:Program} {j:Nat} {H:List RH} {g:FuncId} {e:List Operand} {d:Nat} {a b:IR} (c:Code):comp P j H c≠some (.tq g e d a b):=by
 intro h;cases c with
 |region k i f=>
  simp only[comp] at h;unfold wS at h;split at h;·cases h
  ·split at h;·grind
   simp_all;|seq x y=>grind[comp];|cond c x y=>
  grind[comp];|_=>simp[comp] at h
theorem YB {f:Array Oper} {g:FuncId} {e:List Operand} {d:Nat} (h:BQ f=some (g,e,d)):∃i j a b c,f.toList=[i,j]/\i.dst=some d/\i.op= .makeFunc (.func g) a b/\i.guard=none/\j.op= .defer c/\j.dst=none/\j.guard=none/\c.callee= .value (.tmp d)/\a.toList=[]/\c.args.toList=[]/\b.toList=e:=by
 grind[BQ]
theorem YC {n:Nat} {id:Nat} {e:Array Oper} {g:FuncId} {f:List Operand} {d:Nat} (H:BQ e=some (g,f,d)) (p:d<n) {st:St} {a:Act} {F:World} {l:bW} {G:Store} (h:dc A n D F l G st a w σ) {Q:Exit->Act->World->Prop}
  (I:∀(r:Act) (vs:List Value),bG A w σ st.o (f.map (eJ st.env)) vs->dc A n ({target:=.fn (.func g) vs.toArray,args:=#[]}::a.defers) w σ st.o ⟨(d,.ud)::st.env,st.o⟩ r w σ->Q .normal r w):
  (Code.region id e false).wpIn (FR none) 0 P Q a w:=by
 obtain⟨k,u,x,b,c,t,q,U,X,S,J,V,R,N,T,rfl⟩:=YB H;have L:e[0]?=some k:=by rw[<-γV,t];rfl
 have z:e[1]?=some u:=by rw[<-γV,t];rfl
 have B:e.size=2:=by grind[Array.length_toList]
 have W:x=#[]:=εi (by omega);have O:c.args=#[]:=εi (by omega);refine wpIn_region ?_;rw[B];show wpOpsIn (FR none) 0 P e Q [0,1] a w;rw[wpOpsIn_cons];unfold wpOpIn;simp only[L];rw[if_pos (by grind[Region.wanted])];unfold Oper.wpIn;rw[show(FR none).round=none from rfl,Oper.semAt_none];refine⟨λ_ _=>trivial,?_⟩;have E:(execOp a.eval k).run P w= .ok (.value (.func (.func g) #[] (b.map a.eval))) w:=by
  simp_all[execOp,Instr.makeFunc]
 rw[E,Oper.uponIn_value,wpOpsIn_cons];have C:d<a.tmps.size:=by rw[h.size];exact p
 have m:(a.put k.dst (.func (.func g) #[] (b.map a.eval))).eval (.tmp d)= .func (.func g) #[] (b.map a.eval):=by
  simp_all[Act.put,Act.eval]
 generalize i:a.put k.dst (.func (.func g) #[] (b.map a.eval))=K at m;unfold wpOpIn;simp only[z];rw[if_pos (by grind[Region.wanted])];unfold Oper.wpIn;rw[show(FR none).round=none from rfl,Oper.semAt_none];refine⟨λ_ _=>trivial,?_⟩;have y:(execOp K.eval u).run P w= .ok (.defer {target:=.fn (.func g) (b.map a.eval),args:=#[]}) w:=by
  simp_all[execOp,resolve,Deferred.ofValue]
 rw[y,Oper.uponIn_defer,J];show Q .normal _ w;have j:bG A w σ st.o (b.toList.map (eJ st.env)) (b.toList.map a.eval):=vh (λx=>h.ev x) b.toList;refine I _ (b.toList.map a.eval) j ⟨h.fz,λs=>?_,?_,⟨[],?_,δG,by simp⟩,Ext.refl _ _ _⟩
 ·subst i;by_cases M:d=s;·simp_all[dM,bw]
  ·have v:δq d s=false:=by
    cases v:δq d s<;>simp_all
   simp only[dM,v,cond_false];have:=h.env s;simp_all[Act.put]
 ·subst i;simp[q,Act.put,h.size]
 ·subst i;simp[q,Act.put];grind
theorem YD {T:Tab} {n:Nat} (Q:zr P T n) {v:Nat} {H:List RH} {lo:Nat} {C:World} {p:bW} {D:Store} (I:D.length<=lo) {g:FuncId} {m:List Operand} {d:Nat} {S:IR} {s0 s2:St} {out:Out}
  (J:exec T .plain n s0.o.length S ⟨(d,.ud)::s0.env,s0.o⟩=some (out,s2)):∀(f:Code) (z:IR) (st:St) (a:Act) (w:World) (σ:bW),vd P v H f=some (z,(g,m,d),S)->qX (exec T .plain n lo) z st=some s0->dc A v [] C p D st a w σ->
  f.wpIn (FR none) 0 P (λe B w'=>e=out.tQ/\gW P g=true/\∃(q:World) (j t:bW) (R:List Deferred) (vs:List Value),tM C q R/\bT A q j s0.o/\Ext C p D q j s0.o/\bG A q j s0.o (m.map (eJ s0.env)) vs/\
   dc A v ({target:=.fn (.func g) vs.toArray,args:=#[]}::R) q j s0.o s2 B w' t) a w:=by
 intro f;induction f with
 |seq c l _ G=>
  intro z st a w σ k i h;cases c with
  |region W K N=>
   unfold vd at k;split at k
   ·rename_i x X _;split at k
    ·rename_i y;obtain⟨b,Y,O⟩:=ε.1 k;simp only[ι] at O;obtain⟨rfl,rfl,rfl⟩:=O;simp only[qX,γ] at i;subst i;refine wpIn_seq (YC X y.1 h λE vs V s=>?_);show l.wpIn _ _ _ _ E w;obtain⟨ms,U,Z⟩:=h.defers;refine wpIn_mono (Q none .plain zt rfl Ci _ b _ out s2 J v H l Y _ A w σ st.o E w σ trivial (ξ _) s) ?_;rintro e B w' ⟨rfl,t,L⟩;exact⟨rfl,y.2,w,σ,t,a.defers,vs,by simp_all,h.fz,h.ext,V,L⟩
    ·cases k
   ·split at k
    ·rename_i r B x b hr F;simp only[γ,ι] at k;obtain⟨rfl,rfl,rfl⟩:=k;simp only[qX] at i;split at i
     ·rename_i u M;refine wpIn_seq (wpIn_mono (Q none .plain zt rfl Ci lo r st .norm u M v H (.region W K _) (by grind[comp]) [] A C p D a w σ trivial I h) ?_);rintro e E q ⟨rfl,j,s⟩;exact G B u E q j F i s
     ·cases i
    ·cases k;|_=>simp[vd] at k
 |_=>
  intro z st a w σ k;simp[vd] at k
theorem YE {T:Tab} (hT:kF P T) {n:Nat} (ih:zr P T n) {f:FuncId} {fn:Func} {code:Code} {H:List RH} {ia ib:IR} {g:FuncId} {caps:List Operand} {d:Nat} {rs:List mZ}
  (hfn:P.funcs[f]?=some fn) (hcode:fn.body=some code) (hb:vd P fn.ntmps H code=some (ia,(g,caps,d),ib)) (hrs:q9 (sf P) fn.results.toList=some rs) (hnt:¬fn.ntmps<fn.params.size+fn.nfree)
  {args:List AV} {out Cj:Out} {s0 s2 s3:St} (hlen:args.length=fn.params.size+fn.nfree) (hout:out= .norm\/out= .ret) (h1:qX (exec T .plain n o.length) ia ⟨iw 0 args,o⟩=some s0) (h2:exec T .plain n s0.o.length ib ⟨(d,.ud)::s0.env,s0.o⟩=some (out,s2))
  {F:fy} (hF:T.fn g=some F) (hcl:(caps.map (eJ s0.env)).length=F.params) (hre:F.res=[]) (h3:exec T .plain n s2.o.length F.body ⟨iw 0 (caps.map (eJ s0.env)),s2.o⟩=some (Cj,s3)) (ahQ:Cj= .norm\/Cj= .ret)
  {r0 r:AV} (hr0:nQ ⟨s2.env,s3.o⟩ rs=some r0) {own:Bool} (hfi:finish own o.length r0 s3.o=some (r,o'))
  {vs:List Value} (hS:bT A w σ o) (hr:bG A w σ o args vs):
  CallsIn (FR none) 0 P f vs.toArray w λe w'=>∃u σ',e= .returned u/\bT A w' σ' o'/\bw A w' σ' o' r u/\Ext w σ o w' σ' o':=by
 have hvl:=bG.length _ _ hr;obtain⟨fg,Hg,hfg,hcg,hgg⟩:=hT.fn g F hF;obtain⟨cg,YF,YG,hpg,hrg⟩:∃cg,fg.body=some cg/\comp P fg.ntmps Hg cg=some F.body/\F.params<=fg.ntmps/\q9 (sf P) fg.results.toList=some []:=by
  unfold BR at hcg;split at hcg;·cases hcg
  ·rename_i cg ahR;split at hcg
   ·rename_i b rs' hb' ahS;split at hcg;·cases hcg
    ·rename_i ahT;injection hcg with hcg;subst hcg;simp only at h3 hre ⊢;subst hre;unfold FB at hb';split at hb';·simp_all
     ·obtain⟨x,_,rfl⟩:=ε.1 hb';cases n<;>simp[exec] at h3
   ·cases hcg
 refine callsIn_of_wp_marks (F:=FR none) hfn hcode trivial (wpIn_mono (YD ih (ξ _) h2 code ia _ _ w σ hb h1 (Gq hS hr (by omega))) ?_);rintro e a' w' ⟨rfl,hg,w1,σ1,σ',ds,cv,hM1,hS1,hE1,hcv,hs'⟩;have key:LeavesInM (FR none) 0 P fn a'.tmps (λe w'=>∃u σ',e= .returned u/\bT A w' σ' o'/\bw A w' σ' o' r u/\Ext w σ o w' σ' o') a'.defers .returning w':=by
  obtain⟨ms,hms,hM⟩:=hs'.defers;rw[hms];refine Cf ms w' hM hs'.fz λw2 q1 q3 q4=>?_;simp only[LeavesInM];refine⟨by simp,.inr ⟨λh=>by grind[FR,Fence.wide],.func g,cv.toArray,g,cv.toArray,rfl,by simp[invoke,Cc hg],λ_ _=>trivial,?_⟩⟩;have Ov:bG A w2 σ' s2.o (caps.map (eJ s0.env)) cv:=by
   have e1:Ext w1 σ1 s0.o w' σ' s2.o:=hs'.ext;grind[bG.ext]
  have ahU:=bG.length _ _ Ov;refine CallsDIn.mono (Yr (A:=A) hfg YF (R:=λe w3=>∃u σ3,e= .returned u/\bT A w3 σ3 s3.o/\Ext w2 σ' s2.o w3 σ3 s3.o) (wpIn_mono (ih none .plain zt rfl Ci _ F.body _ Cj s3 h3 fg.ntmps Hg cg YG [] A w2 σ' s2.o _ w2 σ' trivial (ξ _) (Gq q1 Ov (by omega))) ?_)) ?_
  ·rintro e a3 w3 ⟨rfl,σ3,hs3⟩;obtain⟨ms3,YH,hM3⟩:=hs3.defers;rw[γ1] at YH;refine⟨by grind[Out.tQ],w2,σ3,s3.o,by simp_all,hs3.fz,λw4 k1 k2 k3=>?_⟩;have hs4:dc A fg.ntmps [] w2 σ' s2.o s3 {a3 with defers:=[]} w4 σ3:=⟨k1,λs=>k3 _ _ (hs3.env s),hs3.size,⟨[],rfl,δG,by simp⟩,k2 hs3.ext⟩;obtain⟨u,hu,_⟩:=Gp hs4 hrg (r:=.bI []) rfl;exact⟨u,hu,u,σ3,rfl,k1,k2 hs3.ext⟩
  ·rintro e u' w3 ⟨rfl,u,σ3,rfl,p1,p2⟩;show LeavesInM (FR none) 0 P fn a'.tmps _ ds (settle .returning) w3;rw[show settle FrameMode.returning= .returning from rfl,<-γ1 ds];have e13:Ext w1 σ1 s0.o w3 σ3 s3.o:=(q3 hs'.ext).trans p2;refine Cf ds w3 (hM1.ext hS1 e13) p1 λw4 t1 t3 t4=>?_;simp only[LeavesInM,LeavesIn];have hs4:dc A fn.ntmps [] w σ o ⟨s2.env,s3.o⟩ {a' with defers:=[]} w4 σ3:=⟨t1,λs=>t4 _ _ ((q4 _ _ (hs'.env s)).ext p2),hs'.size,⟨[],rfl,δG,by simp⟩,t3 (hE1.trans e13)⟩;obtain⟨u,hu,oV⟩:=Gp hs4 hrs hr0;have hfin:=On hs4.fz hs4.ext oV hfi;simp_all
 rcases hout with rfl|rfl;·exact key
 ·exact key
theorem Ox {T:Tab} (N:kF P T) {n:Nat} (ih:zr P T n):pF P (qh T (exec T .plain n)):=by
 intro f e o m r I c;unfold qh at c;split at c
 ·rename_i x hK;injection c with c;subst c;exact N.K _ _ _ _ _ _ hK
 ·split at c;·cases c
  ·rename_i F J;obtain⟨fn,H,y,a,hg⟩:=N.fn f F J;split at c
   ·rename_i k;unfold BR at a;split at a;·cases a
    ·rename_i a0 j;split at a
     ·rename_i b rs i D;split at a;·cases a
      ·rename_i E;injection a with a;subst a;simp only at c k;have p:∀{t:AV} {u:St},finish m o.length t u.o=some (r,I)->m=false->I=[]:=λl ho=>by
        subst ho;unfold finish at l;grind
       unfold FB at i;split at i
       ·rename_i V S;injection i with i;subst i;have R:∀(x:Option (Out×St)),tB T (exec T .plain n) o.length V ⟨iw 0 e,o⟩=x->exec T .plain n o.length V ⟨iw 0 e,o⟩=x:=λx hx=>by
         unfold tB at hx;grind[YA]
        have a1:∀(h:Out) (u:St),(h= .norm\/h= .ret)->tB T (exec T .plain n) o.length V ⟨iw 0 e,o⟩=some (h,u)->∀t,nQ u rs=some t->finish m o.length t u.o=some (r,I)->
          gW P f=true/\kE P f e o r I/\(m=false->I=[]):=by
         intro h u G Q t s l;exact⟨hg,λA w σ vs L U=>(callsIn_wide (n:=0)).1 (Yz ih (md:=.plain) (B:=zt) rfl Ci y j S D E k G (R _ Q) s l trivial L U),p l⟩
        grind
       ·obtain⟨⟨ia,⟨g,q,d⟩,ib⟩,S,rfl⟩:=ε.1 i;simp only[tB] at c;cases W:qX (exec T .plain n o.length) ia ⟨iw 0 e,o⟩ with
        |none=>simp_all;|some v=>
        simp only[W] at c;cases h2:exec T .plain n v.o.length ib ⟨(d,.ud)::v.env,v.o⟩ with
        |none=>simp_all;|some x2=>
        obtain⟨h,Y⟩:=x2;simp only[h2] at c;cases Z:qY h with
        |false=>simp_all;|true=>
        simp only[Z,if_true] at c;unfold Fv at c;cases J:T.fn g with
        |none=>simp_all;|some O=>
        simp only[J] at c;by_cases M:(q.map (eJ v.env)).length=O.params/\O.res.isEmpty=true
        ·rw[if_pos M] at c;cases X:exec T .plain n Y.o.length O.body ⟨iw 0 (q.map (eJ v.env)),Y.o⟩ with
         |none=>simp_all;|some x3=>
         obtain⟨C,s3⟩:=x3;simp only[X] at c;cases z:qY C with
         |false=>simp_all;|true=>
         simp only[z,if_true] at c;split at c
         ·rename_i t s;exact⟨hg,λA w σ vs L U=>(callsIn_wide (n:=0)).1 (YE N ih y j S D E k (Ou Z) W h2 J M.1 (List.isEmpty_iff.1 M.2) X (Ou z) s c L U),p c⟩
         ·cases c
        simp_all
     ·cases a
   ·cases c
end
open Go.RowKit
section
variable {P:Program} {A:dN} {D:List Deferred} {w w':World} {σ σ':bW} {o o':Store}
theorem YI {dn:Option Nat} {Q:Exit->Act->World->Prop} {a:Act} {w:World} {c:Code} (h:c.wpIn (FR dn) 0 P (Exit.noGoto Q) a w):(Code.scope c).wpIn (FR dn) 0 P Q a w:=by
 intro b k n o p m;obtain⟨e,d,f,j,g⟩:=h b (.inScope c::k) n o p m;have s:step P (lone (b.atR a (.code (.scope c)::k)) n w)= .next (lone (b.atR a (.code c:: .inScope c::k)) n w):=step_lone_go (by simp[stepG,stepG.exec,Frame.atR]);have q:step P (lone (b.atR d (.inScope c::k)) n f)= .next (lone (b.atR d k) n f):=step_lone_go (by simp[stepG,stepG.exec,Frame.atR]);have i:=StepsIn.one (I:=Machine.fenced P (FR dn)) (fenced_calm (fr:=b.atR a (.code (.scope c)::k)) p m rfl) s;cases e with
 |normal=>exact⟨.normal,d,f,j,(StepsIn.trans i (StepsIn.trans g (.one (fenced_calm (fr:=b.atR d (.inScope c::k)) p m rfl) q)))⟩;|exit u=>exact⟨.exit u,d,f,j,.of_steps i ⟨λr t=>g.1 r (by grind[exitTo]),λm t=>by obtain⟨x,z,v⟩:=g.2 m (by grind[exitTo]);grind⟩⟩;|goto l=>exact j.elim;|ret=>exact⟨_,d,f,j,.of_steps i g⟩;|panic y=>exact⟨_,d,f,j,.of_steps i g⟩;|outgrown=>exact⟨_,d,f,j,.of_steps i g⟩
def zw (dn:Option Nat) (P:Program) (b:Code) (l:Nat) (Q:Exit->Act->World->Prop):Nat->Code->Act->World->Prop
 |0,_,_,_=>False
 |n+1,x,a,w=>x.wpIn (FR dn) 0 P (λe d c=>match e with
   | .goto f=>f=l/\zw dn P b l Q n b d c
   |e=>Q e d c) a w
theorem YJ {dn:Option Nat} {Q:Exit->Act->World->Prop} {a:Act} {w:World} {c i:Code} {l:Nat} (S:findLabel c l=some i) {n:Nat} (h:zw dn P i l Q n c a w):(Code.scope c).wpIn (FR dn) 0 P Q a w:=by
 intro b k p A y t;have E:gotoIn l (.inScope c::k)=some (.code i:: .inScope c::k):=by grind[gotoIn]
 have B:∀n x a w,zw dn P i l Q n x a w->∃e u v,Q e u v/\ArrivesIn (Machine.fenced P (FR dn)) P (lone (b.atR a (.code x:: .inScope c::k)) p w) b k p e u v:=by
  intro n;induction n with
  |zero=>intro x a w h;exact h.elim;|succ n J=>
   intro x a w h;obtain⟨e,d,g,m,f⟩:=h b (.inScope c::k) p A y t;have G:step P (lone (b.atR d (.inScope c::k)) p g)= .next (lone (b.atR d k) p g):=step_lone_go (by simp[stepG,stepG.exec,Frame.atR]);cases e with
   |normal=>exact⟨.normal,d,g,m,StepsIn.trans f (.one (fenced_calm (fr:=b.atR d (.inScope c::k)) y t rfl) G)⟩;|exit K=>exact⟨.exit K,d,g,m,λD C=>f.1 D (by grind[exitTo]),λt C=>by obtain⟨M,O,N⟩:=f.2 t (by grind[exitTo]);grind⟩;|goto L=>
    obtain⟨rfl,H⟩:=m;obtain⟨q,r,s,o,j⟩:=J i d g H;exact⟨q,r,s,o,.of_steps (f.1 _ E) j⟩;|ret=>exact⟨_,d,g,m,f⟩;|panic R=>exact⟨_,d,g,m,f⟩;|outgrown=>exact⟨_,d,g,m,f⟩
 have F:step P (lone (b.atR a (.code (.scope c)::k)) p w)= .next (lone (b.atR a (.code c:: .inScope c::k)) p w):=step_lone_go (by simp[stepG,stepG.exec,Frame.atR]);have z:=StepsIn.one (I:=Machine.fenced P (FR dn)) (fenced_calm (fr:=b.atR a (.code (.scope c)::k)) y t rfl) F;obtain⟨e,u,v,m,f⟩:=B n c a w h;exact⟨e,u,v,m,.of_steps z f⟩
theorem YK {b:Code} {l c:Nat} {H:List RH} {x:IR} (h:BP b=some l) (d:comp P c H b=some x):∃a,findLabel b l=some a/\comp P c H a=some x:=by
 unfold BP at h;grind[findLabel,comp]
theorem Oy {T:Tab} (hT:kF P T):∀n,zr P T n/\(∀(dn:Option Nat) (md:Md) (B:dN->World->bW->Store->Prop),vp P dn B md->Closed B->∀(lo:Nat) (b:IR) (st:St) (out:Out) (st':St),exec T md n lo (.loop b) st=some (out,st')->∀(q:Nat) (H:List RH) (f:Code),comp P q H f=some b->∀(D:List Deferred) (A:dN) (r:World) (d:bW) (m:Store) (a:Act) (w:World) (σ:bW),B A r d m->
   m.length<=lo->dc A q D r d m st a w σ->Code.roundsIn (FR dn) 0 P f (λe v w'=>e=out.tQ/\∃u,dc A q D r d m st' v w' u) n a w)/\∀(dn:Option Nat) (md:Md) (B:dN->World->bW->Store->Prop),vp P dn B md->Closed B->∀(lo l:Nat) (b:IR) (st:St) (out:Out) (st':St),exec T md n lo (.turns (some l) b) st=some (out,st')->∀(q:Nat) (H:List RH) (f s:Code),comp P q H f=some b->comp P q H s=some b->∀(D:List Deferred) (A:dN) (r:World) (d:bW) (m:Store) (a:Act) (w:World) (σ:bW),B A r d m->
   m.length<=lo->dc A q D r d m st a w σ->zw dn P s l (λe v w'=>e=out.tQ/\∃u,dc A q D r d m st' v w' u) n f a w
 |0=>⟨λdn md B _ _ lo c st out st' h=>by grind[exec],λdn md B _ _ lo b st out st' h=>by grind[exec],λdn md B _ _ lo l b st out st' h=>by grind[exec]⟩
 |n+1=>by
  obtain⟨I,a0,Z⟩:=Oy hT n;have M:∀(dn:Option Nat) (md:Md) (B:dN->World->bW->Store->Prop),vp P dn B md->Closed B->∀(lo:Nat) (b:IR) (st:St) (out:Out) (st':St),exec T md (n+1) lo (.loop b) st=some (out,st')->∀(q:Nat) (H:List RH) (f:Code),comp P q H f=some b->∀(D:List Deferred) (A:dN) (r:World) (d:bW) (m:Store) (a:Act) (w:World) (σ:bW),B A r d m->
    m.length<=lo->dc A q D r d m st a w σ->Code.roundsIn (FR dn) 0 P f (λe v w'=>e=out.tQ/\∃u,dc A q D r d m st' v w' u) (n+1) a w:=by
   intro dn md B C E lo b st out st' h q H f p D A r d m a w σ j i t;simp only[exec] at h;split at h
   ·rename_i F Q;have O:=I dn md B C E lo b st .norm F Q q H f p _ A r d m a w σ j i t;rw[roundsIn_succ];refine wpIn_mono O ?_;rintro e v w' ⟨rfl,u,g⟩;obtain⟨N,L⟩:=g.trim (k:=st.o.length) t.len;exact a0 dn md B C E lo b _ out st' h q H f p _ A r d m v w' N j i L
   ·rename_i K;have O:=I dn md B C E lo b st out st' h q H f p _ A r d m a w σ j i t;rw[roundsIn_succ];refine wpIn_mono O ?_;rintro e v w' ⟨rfl,g⟩;cases out with
    |norm=>simp_all;|exit S=>exact⟨rfl,g⟩;|ret=>exact⟨rfl,g⟩;|goto l=>exact⟨rfl,g⟩
  have R:∀(dn:Option Nat) (md:Md) (B:dN->World->bW->Store->Prop),vp P dn B md->Closed B->∀(lo l:Nat) (b:IR) (st:St) (out:Out) (st':St),exec T md (n+1) lo (.turns (some l) b) st=some (out,st')->∀(q:Nat) (H:List RH) (f s:Code),comp P q H f=some b->comp P q H s=some b->∀(D:List Deferred) (A:dN) (r:World) (d:bW) (m:Store) (a:Act) (w:World) (σ:bW),B A r d m->
    m.length<=lo->dc A q D r d m st a w σ->zw dn P s l (λe v w'=>e=out.tQ/\∃u,dc A q D r d m st' v w' u) (n+1) f a w:=by
   intro dn md B C E lo l b st out st' h q H f s p hr D A r d m a w σ j i t;simp only[exec] at h;split at h
   ·rename_i l' F Q;split at h
    ·rename_i U;injection U with U;subst U;refine wpIn_mono (I dn md B C E lo b st (.goto l) F Q q H f p _ A r d m a w σ j i t) ?_;rintro e v w' ⟨rfl,u,g⟩;obtain⟨N,L⟩:=g.trim (k:=st.o.length) t.len;exact⟨rfl,Z dn md B C E lo l b _ out st' h q H s s hr hr _ A r d m v w' N j i L⟩
    ·cases h
   ·rename_i K;refine wpIn_mono (I dn md B C E lo b st out st' h q H f p _ A r d m a w σ j i t) ?_;rintro e v w' ⟨rfl,g⟩;cases out with
    |norm=>exact⟨rfl,g⟩;|exit S=>exact⟨rfl,g⟩;|ret=>exact⟨rfl,g⟩;|goto l=>simp_all
  refine⟨λdn md B C E lo c st out st' h q H f p D A r d m a w σ j i t=>?_,M,R⟩;cases f with
  |skip=>
   simp only[comp,γ] at p;subst p;simp only[exec,γ,ι] at h;obtain⟨rfl,rfl⟩:=h;exact wpIn_skip ⟨rfl,σ,t⟩;|scope b=>
   simp only[comp] at p;obtain⟨V,J,rfl⟩:=ε.1 p;cases U:BP b with
   |some l=>
    grind[YK,YJ];|none=>
    rw[U] at h;simp only[exec] at h;refine YI ?_;split at h;·simp_all
    ·rename_i K;refine wpIn_mono (I dn md B C E lo V st out st' h q H b J _ A r d m a w σ j i t) ?_;rintro e v w' ⟨rfl,g⟩;cases out with
     |norm=>exact⟨rfl,g⟩;|exit S=>exact⟨rfl,g⟩;|ret=>exact⟨rfl,g⟩;|goto l=>simp_all
  |goto l=>
   simp only[comp,γ] at p;subst p;simp only[exec,γ,ι] at h;obtain⟨rfl,rfl⟩:=h;exact wpIn_goto ⟨rfl,σ,t⟩;|label l=>
   simp only[comp,γ] at p;subst p;simp only[exec,γ,ι] at h;obtain⟨rfl,rfl⟩:=h;exact wpIn_label ⟨rfl,σ,t⟩;|region S a8 a3=>
   simp only[comp] at p;obtain⟨k,l,a4,a1,a7,a2,rfl,hw⟩:=Yw (Ox hT I) C E (A:=A) (lo:=lo) p;simp only[exec] at h;split at h
   ·rename_i a5 h2;simp only[γ,ι] at h;obtain⟨rfl,rfl⟩:=h;exact hw h2 j i t
   ·cases h;|seq x y=>
   simp only[comp] at p;split at p
   ·rename_i V W J X;injection p with p;subst p;simp only[exec] at h;split at h
    ·rename_i F Q;refine wpIn_seq (wpIn_mono (I dn md B C E lo V st .norm F Q q H x J _ A r d m a w σ j i t) ?_);rintro e v w' ⟨rfl,u,g⟩;exact I dn md B C E lo W F out st' h q H y X _ A r d m v w' u j i g
    ·rename_i K;refine wpIn_seq (wpIn_mono (I dn md B C E lo V st out st' h q H x J _ A r d m a w σ j i t) ?_);rintro e v w' ⟨rfl,g⟩;cases out with
     |norm=>simp_all;|exit S=>exact⟨rfl,g⟩;|ret=>exact⟨rfl,g⟩;|goto l=>exact⟨rfl,g⟩
   ·cases p;|cond x y z=>
   simp only[comp] at p;split at p
   ·rename_i W z' X hz;injection p with p;subst p;by_cases hk:MV H x=true
    ·rw[if_pos hk] at h;simp only[exec] at h;have J:=t.ev x;split at h
     ·rename_i G;rw[G] at J;exact wpIn_cond_true (gv J) (I dn md B C E lo W _ out st' h q H y X _ A r d m a w σ j i t)
     ·rename_i G;rw[G] at J;exact wpIn_cond_false (gv J) (I dn md B C E lo z' _ out st' h q H z hz _ A r d m a w σ j i t)
     ·cases h
    rw[if_neg hk] at h;simp only[exec] at h;have J:=t.ev x;split at h
    ·rename_i G;rw[G] at J;exact wpIn_cond_true (gv J) (I dn md B C E lo W _ out st' h q H y X _ A r d m a w σ j i (t.drop x))
    ·rename_i G;rw[G] at J;exact wpIn_cond_false (gv J) (I dn md B C E lo z' _ out st' h q H z hz _ A r d m a w σ j i (t.drop x))
    ·cases h
   ·cases p;|block S b=>
   simp only[comp] at p;obtain⟨b',O,rfl⟩:=ε.1 p;simp only[exec] at h;split at h
   ·rename_i Y F Q;refine wpIn_block (wpIn_mono (I dn md B C E lo b' st (.exit Y) F Q q H b O _ A r d m a w σ j i t) ?_);rintro e v w' ⟨rfl,g⟩;simp only[Out.tQ,Exit.inBlock];grind
   ·rename_i K;refine wpIn_block (wpIn_mono (I dn md B C E lo b' st out st' h q H b O _ A r d m a w σ j i t) ?_);rintro e v w' ⟨rfl,g⟩;cases out with
    |norm=>exact⟨rfl,g⟩;|exit a6=>simp_all;|ret=>exact⟨rfl,g⟩;|goto l=>exact⟨rfl,g⟩
  |loop b=>
   simp only[comp] at p;obtain⟨b',O,rfl⟩:=ε.1 p;grind[wpIn_loop_rounds];|exit S=>
   simp only[comp,γ] at p;subst p;simp only[exec,γ,ι] at h;obtain⟨rfl,rfl⟩:=h;exact wpIn_exit ⟨rfl,σ,t⟩;|ret=>
   simp only[comp,γ] at p;subst p;simp only[exec,γ,ι] at h;obtain⟨rfl,rfl⟩:=h;exact wpIn_ret ⟨rfl,σ,t⟩;|_=>grind[comp]
theorem Gs {T:Tab} (a:kF P T) (n:Nat):pF P (qh T (exec T .plain n)):=Ox a (Oy a n).1
end
def Ev (T:Tab) (md:Nat->Md) (lo:Nat) (c:IR) (st:St) (r:Out×St):Prop:=∃N,∀m n,N<=m->N<=n->exec T (md m) n lo c st=some r
abbrev zx:Nat->Md:=λ_=> .plain
section
variable {T:Tab} {md:Nat->Md} {lo:Nat} {st st1 st':St} {r:Out×St} {a b:IR} {out:Out}
theorem Ev.mk (N:Nat) (h:∀m n,N<=m->N<=n->exec T (md m) (n+1) lo a st=some r):Ev T md lo a st r:=
 ⟨N+1,λm n c b=>by
  match n,b with
  |n+1,b=>grind⟩
theorem Ev.skip:Ev T md lo .skip st (.norm,st):=.mk 0 λ_ _ _ _=>by simp only[exec]
theorem Ev.ret:Ev T md lo .ret st (.ret,st):=.mk 0 λ_ _ _ _=>by simp only[exec]
theorem Ev.exit {id:Nat}:Ev T md lo (.exit id) st (.exit id,st):=.mk 0 λ_ _ _ _=>by simp only[exec]
theorem Ev.seq (h:Ev T md lo a st (.norm,st1)) (k:Ev T md lo b st1 r):Ev T md lo (.seq a b) st r:=by
 obtain⟨N,h⟩:=h;obtain⟨M,k⟩:=k;exact .mk (N+M) λm n c d=>by simp only[exec,h m n (by omega) (by omega),k m n (by omega) (by omega)]
theorem Ev.YL (h:Ev T md lo a st (out,st1)) (c:out≠ .norm):Ev T md lo (.seq a b) st (out,st1):=by
 obtain⟨N,h⟩:=h;exact .mk N λm n e d=>by
  simp_all[exec]
theorem Ev.YM {x:Operand} (d:eJ st.env x= .sc (.bool true)) (h:Ev T md lo a ⟨pB x st.env,st.o⟩ r):Ev T md lo (.cond x a b) st r:=by
 obtain⟨N,h⟩:=h;exact .mk N λm n c e=>by simp_all[exec]
theorem Ev.YN {x:Operand} (d:eJ st.env x= .sc (.bool false)) (h:Ev T md lo b ⟨pB x st.env,st.o⟩ r):Ev T md lo (.cond x a b) st r:=by
 obtain⟨N,h⟩:=h;exact .mk N λm n c e=>by simp_all[exec]
theorem Ev.oO {x:Operand} {q:Bool} (g:eJ st.env x= .sc (.bool q)) (e:q=true->Ev T md lo a st r) (d:q=false->Ev T md lo b st r):Ev T md lo (.oO x a b) st r:=by
 cases q with
 |true=>
  obtain⟨N,h⟩:=e rfl;exact .mk N λm n c f=>by simp_all[exec];|false=>
  obtain⟨N,h⟩:=d rfl;exact .mk N λm n c f=>by simp_all[exec]
def Out.inBlock (id:Nat):Out->Out
 | .exit a=>if a=id then .norm else .exit a
 |o=>o
theorem Ev.block {id:Nat} (h:Ev T md lo a st (out,st1)):Ev T md lo (.block id a) st (out.inBlock id,st1):=by
 obtain⟨N,h⟩:=h;exact .mk N λm n b c=>by
  simp only[exec,h m n b c];cases out<;>grind[exit,Out.inBlock]
theorem Ev.YP (h:Ev T md lo a st (.norm,st1)) (k:Ev T md lo (.loop a) (trim st.o.length st1) r):Ev T md lo (.loop a) st r:=by
 obtain⟨N,h⟩:=h;obtain⟨M,k⟩:=k;exact .mk (N+M) λm n b c=>by
  simp only[exec,h m n (by omega) (by omega)];grind
theorem Ev.YQ (h:Ev T md lo a st (out,st1)) (b:out≠ .norm):Ev T md lo (.loop a) st (out,st1):=by
 obtain⟨N,h⟩:=h;exact .mk N λm n d c=>by
  simp_all[exec]
theorem Ev.goto {l:Nat}:Ev T md lo (.goto l) st (.goto l,st):=.mk 0 λ_ _ _ _=>by simp only[exec]
theorem Ev.YR {l:Nat} (h:Ev T md lo a st (.goto l,st1)) (k:Ev T md lo (.turns (some l) a) (trim st.o.length st1) r):Ev T md lo (.turns (some l) a) st r:=by
 obtain⟨N,h⟩:=h;obtain⟨M,k⟩:=k;exact .mk (N+M) λm n b c=>by
  simp only[exec,h m n (by omega) (by omega),if_true];grind
theorem Ev.Oz {l:Option Nat} (h:Ev T md lo a st (out,st1)) (c:∀b,out≠ .goto b):Ev T md lo (.turns l a) st (out,st1):=by
 obtain⟨N,h⟩:=h;exact .mk N λm n e d=>by
  simp_all[exec]
theorem Ev.region {id k:Nat} {b:Bool} {f:List dC} {d:List (Nat×Nat)} {a:List Nat} {e c:List kA}
  (h:∃N,∀g m,N<=m->Fz (md m) b (qh T g) k f d (e.foldl (λs h=>j9 lo h s) st)=some st'):
  Ev T md lo (.region id b k f d a e c) st (.norm,c.foldl (λs h=>j9 lo h s) ⟨prune a st'.env,st'.o⟩):=by
 obtain⟨N,h⟩:=h;exact .mk N λm n i _=>by simp_all[exec]
theorem YT {P:Program} (i:kF P T) {f:FuncId} {F:fy} (l:T.fn f=some F) {args:List AV} {o:Store} {own:Bool} (g:T.K f args o own=none) (d:args.length=F.params)
  (h:Ev T zx o.length F.body ⟨iw 0 args,o⟩ (out,st')) (c:out= .norm\/out= .ret) {b v:AV} {o':Store} (k:nQ st' F.res=some b) (a:finish own o.length b st'.o=some (v,o')):
  gW P f=true/\kE P f args o v o'/\(own=false->o'=[]):=by
 obtain⟨N,h⟩:=h;refine Gs i N f args o own v o' ?_;unfold qh;rw[g];have h:=h N N (ξ _) (ξ _);have j:tB T (exec T .plain N) o.length F.body ⟨iw 0 args,o⟩=some (out,st'):=by
  unfold tB;split
  ·rename_i e;rw[e] at h;cases N<;>simp[exec] at h
  ·exact h
 grind
theorem YU {P:Program} (A:kF P T) {f:FuncId} {F:fy} (z:T.fn f=some F) {g:FuncId} {a:List Operand} {d:Nat} {w u:IR} (e:F.body= .tq g a d w u) {args:List AV} {o:Store} {own:Bool} (E:T.K f args o own=none) (k:args.length=F.params)
  {s0 s2 s3:St} {b:Out} {G:fy} (t:∃N,∀n,N<=n->qX (exec T .plain n o.length) w ⟨iw 0 args,o⟩=some s0) (s:Ev T zx s0.o.length u ⟨(d,.ud)::s0.env,s0.o⟩ (out,s2)) (l:qY out=true)
  (D:T.fn g=some G) (q:(a.map (eJ s0.env)).length=G.params) (p:G.res.isEmpty=true) (r:Ev T zx s2.o.length G.body ⟨iw 0 (a.map (eJ s0.env)),s2.o⟩ (b,s3)) (c:qY b=true)
  {x v:AV} {o':Store} (C:nQ ⟨s2.env,s3.o⟩ F.res=some x) (m:finish own o.length x s3.o=some (v,o')):
  gW P f=true/\kE P f args o v o'/\(own=false->o'=[]):=by
 obtain⟨h,t⟩:=t;obtain⟨j,s⟩:=s;obtain⟨i,r⟩:=r;refine Gs A (h+j+i) f args o own v o' ?_;unfold qh;rw[E];simp only[z,if_pos k,e,tB,t _ (show h<=h+j+i by omega)];have y:=s (h+j+i) (h+j+i) (by omega) (by omega);have B:=r (h+j+i) (h+j+i) (by omega) (by omega);simp only[y,l,if_true,Fv,D,if_pos (And.intro q p),B,c,C,m]
end
section
variable {call call':df}
def ng (call b:df):Prop:=∀f a o c r,call f a o c=some r->b f a o c=some r
theorem ng.qh (T:Tab) (b:Nat->IR->St->Option (Out×St)):ng T.K (qh T b):=by
 intro f a o c r h;grind[Go.Vi.qh]
theorem ng.gJ (h:ng call call') {f:FuncId} {args:List AV} {o:Store} {own:Bool} {r:AV×Store} (a:gJ call f args o own=some r):gJ call' f args o own=some r:=by
 unfold Go.Vi.gJ at a ⊢;split at a
 ·rename_i b;rw[if_pos b];unfold iM at a ⊢;simp only at a ⊢;split at a
  ·split at a
   ·rename_i e d c;rw[h _ _ _ _ _ c];exact a
   ·cases a
  ·cases a
 ·rename_i b;rw[if_neg b];split at a;·cases a
  ·split at a
   ·rename_i c;rw[h _ _ _ _ _ c];exact a
   ·cases a
theorem ng.qe (h:ng call call') {op:cG} {ρ:Operand->AV} {o:Store} {bC:Nat} {r:AV×Store} (hc:qe call op ρ o bC=some r):qe call' op ρ o bC=some r:=by
 cases op with
 |call f args own=>exact h.gJ hc;|jS f args own=>
  simp only[Go.Vi.qe,Ft,MP] at hc ⊢;split at hc;·exact h.gJ hc
  ·cases hc;|oN tab x args=>
  simp only[Go.Vi.qe,Ft,MQ] at hc ⊢;split at hc
  ·split at hc;·exact h.gJ hc
   ·cases hc
  ·cases hc;|_=>exact hc
theorem ng.iu (h:ng call call') {base:Nat} {i:dC} {st st':St} (a:iu call base i st=some st'):iu call' base i st=some st':=by
 unfold Go.Vi.iu at a ⊢;split at a;·cases a
 ·exact a
 ·split at a
  ·rename_i b;rw[h.qe b];exact a
  ·cases a
theorem ng.ez (h:ng call call') {b:cG} {ρ:Operand->AV} {o:Store} {bC:Nat} {r:AV×Store} (d:Go.Vi.qe call b ρ o bC=some r):Go.Vi.ez call' b ρ o bC=Go.Vi.ez call b ρ o bC:=by
 unfold Go.Vi.ez;split
 ·rename_i f a;have c:Go.Vi.gJ call f (a.map ρ) o true=some r:=d;have e:=h.gJ c;simp_all[Go.Vi.gJ]
 ·rfl
theorem ng.gh (h:ng call call') {base:Nat}:∀{l:List dC} {st st':St},gh call base l st=some st'->gh call' base l st=some st'/\mC call' base l st=mC call base l st
 |[],_,_,b=>⟨b,rfl⟩
 |i::l,st,st',b=>by
  simp only[Go.Vi.gh] at b ⊢;split at b
  ·rename_i g a;obtain⟨j,c⟩:=h.gh b;have f:=h.iu a;refine⟨by simp_all,?_⟩;simp only[mC,a,f,c];congr 1;split
   ·rename_i e;unfold Go.Vi.iu at a;rw[e] at a;simp only at a;split at a
    ·rename_i d;rw[h.ez d]
    ·cases a
   ·rfl
  ·cases b
theorem ng.pA (h:ng call call') {k:Nat} {b:List dC} {a:List (Nat×Nat)} {st st':St} (c:pA call k b a st=some st'):pA call' k b a st=some st':=by
 unfold Go.Vi.pA at c ⊢;simp only at c ⊢;split at c
 ·rename_i e d;obtain⟨f,g⟩:=h.gh d;simp_all
 ·cases c
end
def VW (T:Tab) (md:Nat->Md) (lo:Nat) (c:IR) (st:St) (Q:Out->St->Prop):Prop:=∃b a,Ev T md lo c st (b,a)/\Q b a
def RQ (x:Option St) (Q:St->Prop):Prop:=match x with|some a=>Q a|none=>False
section
variable {T:Tab} {md:Nat->Md} {lo:Nat} {st:St} {a b:IR} {Q Q':Out->St->Prop}
theorem VW.mono (h:VW T md lo a st Q) (d:∀o s,Q o s->Q' o s):VW T md lo a st Q':=by
 obtain⟨o,s,b,c⟩:=h;exact⟨o,s,b,d o s c⟩
theorem VW.skip (h:Q .norm st):VW T md lo .skip st Q:=⟨_,_,.skip,h⟩
theorem VW.ret (h:Q .ret st):VW T md lo .ret st Q:=⟨_,_,.ret,h⟩
theorem VW.exit {id:Nat} (h:Q (.exit id) st):VW T md lo (.exit id) st Q:=⟨_,_,.exit,h⟩
theorem VW.seq (h:VW T md lo a st λout s=>if out= .norm then VW T md lo b s Q else Q out s):VW T md lo (.seq a b) st Q:=by
 obtain⟨o,s,e,c⟩:=h;by_cases d:o= .norm
 ·subst d;rw[if_pos rfl] at c;obtain⟨i,j,g,f⟩:=c;exact⟨i,j,e.seq g,f⟩
 ·rw[if_neg d] at c;exact⟨o,s,e.YL d,c⟩
theorem VW.cond {x:Operand} {q:Bool} (e:eJ st.env x= .sc (.bool q)) (h:if q=true then VW T md lo a ⟨pB x st.env,st.o⟩ Q else VW T md lo b ⟨pB x st.env,st.o⟩ Q):VW T md lo (.cond x a b) st Q:=by
 cases q with
 |true=>obtain⟨o,s,c,d⟩:=(by simpa using h:VW T md lo a ⟨pB x st.env,st.o⟩ Q);exact⟨o,s,.YM e c,d⟩;|false=>obtain⟨o,s,c,d⟩:=(by simpa using h:VW T md lo b ⟨pB x st.env,st.o⟩ Q);exact⟨o,s,.YN e c,d⟩
theorem VW.oO {x:Operand} {q:Bool} (e:eJ st.env x= .sc (.bool q)) (h:if q=true then VW T md lo a st Q else VW T md lo b st Q):VW T md lo (.oO x a b) st Q:=by
 cases q with
 |true=>obtain⟨o,s,c,d⟩:=(by simpa using h:VW T md lo a st Q);exact⟨o,s,.oO e (λ_=>c) (λh=>by cases h),d⟩;|false=>obtain⟨o,s,c,d⟩:=(by simpa using h:VW T md lo b st Q);exact⟨o,s,.oO e (λh=>by cases h) (λ_=>c),d⟩
theorem VW.block {id:Nat} (h:VW T md lo a st λout s=>Q (out.inBlock id) s):VW T md lo (.block id a) st Q:=by
 obtain⟨o,s,b,c⟩:=h;exact⟨_,_,b.block,c⟩
theorem VW.region {id k:Nat} {d:Bool} {e:List dC} {c:List (Nat×Nat)} {b:List Nat} {f a:List kA}
  (h:RQ (pA T.K k e c (f.foldl (λs h=>j9 lo h s) st)) λst'=>Q .norm (a.foldl (λs h=>j9 lo h s) ⟨prune b st'.env,st'.o⟩)):
  VW T md lo (.region id d k e c b f a) st Q:=by
 unfold RQ at h;split at h
 ·rename_i st' g;refine⟨_,_,Ev.region ⟨0,λi m _=>?_⟩,h⟩;have:=(ng.qh T i).pA g;exact this
 simp_all
theorem VW.loop (h:VW T md lo a st λout s=>if out= .norm then VW T md lo (.loop a) (trim st.o.length s) Q else Q out s):VW T md lo (.loop a) st Q:=by
 obtain⟨o,s,d,b⟩:=h;by_cases c:o= .norm
 ·subst c;rw[if_pos rfl] at b;obtain⟨g,i,f,e⟩:=b;exact⟨g,i,d.YP f,e⟩
 ·rw[if_neg c] at b;exact⟨o,s,d.YQ c,b⟩
theorem VW.YV (I:Nat->St->Prop) (b:∀m s,I m s->VW T md lo a s λout s'=>if out= .norm then ∃c,c<m/\I c (trim s.o.length s') else Q out s'):
  ∀(m:Nat) (s:St),I m s->VW T md lo (.loop a) s Q:=by
 intro m;induction m using ζD with
 |_ m e=>
  intro s d;refine VW.loop ((b m s d).mono λo s' h=>?_);grind
theorem VW.goto {l:Nat} (h:Q (.goto l) st):VW T md lo (.goto l) st Q:=⟨_,_,.goto,h⟩
theorem VW.YW {l:Option Nat} (h:VW T md lo a st λout s=>(∀e,out≠ .goto e)/\Q out s):VW T md lo (.turns l a) st Q:=by
 obtain⟨o,s,b,c,d⟩:=h;exact⟨o,s,b.Oz c,d⟩
theorem VW.YX {l:Nat} (I:Nat->St->Prop) (b:∀m s,I m s->VW T md lo a s λout s'=>(out= .goto l/\∃c,c<m/\I c (trim s.o.length s'))\/((∀h,out≠ .goto h)/\Q out s')):
  ∀(m:Nat) (s:St),I m s->VW T md lo (.turns (some l) a) s Q:=by
 intro m;induction m using ζD with
 |_ m i=>
  intro s k;obtain⟨o,s',f,j⟩:=b m s k;rcases j with⟨rfl,c,d,e⟩|⟨d,e⟩
  ·obtain⟨p,q,n,g⟩:=i c d _ e;exact⟨p,q,f.YR n,g⟩
  ·exact⟨o,s',f.Oz d,e⟩
theorem Cm {P:Program} (k:kF P T) {f:FuncId} {F:fy} (g:T.fn f=some F) {args:List AV} {o:Store} {own:Bool} (j:T.K f args o own=none) (b:args.length=F.params) {v:AV} {o':Store}
  (h:VW T zx o.length F.body ⟨iw 0 args,o⟩ λout st'=>(out= .norm\/out= .ret)/\(nQ st' F.res).bind (λc=>finish own o.length c st'.o)=some (v,o')):
  gW P f=true/\kE P f args o v o'/\(own=false->o'=[]):=by
 obtain⟨out,st',e,i,d⟩:=h;obtain⟨c,l,a⟩:=Option.bind_eq_some_iff.1 d;grind[YT]
end
open Classical in
noncomputable def ans {α:Type} (enc:α->List AV) (dom:α->Prop) (spec:α->AV) (args:List AV):Option AV:=
 if h:∃a,args=enc a/\dom a then some (spec (Classical.choose h)) else none
theorem YY {e:Type} {enc:e->List AV} {d:e->Prop} {c:e->AV} (f:∀a b,enc a=enc b->a=b) {a:e} (g:d a):ans enc d c (enc a)=some (c a):=by
 have h:∃b,enc a=enc b/\d b:=⟨a,rfl,g⟩;unfold ans;grind
theorem YZ {d:Type} {enc:d->List AV} {c:d->Prop} {b:d->AV} {args:List AV} {v:AV} (h:ans enc c b args=some v):∃a,args=enc a/\c a/\v=b a:=by
 unfold ans at h;split at h<;>grind
structure bB where
 (a0 a1 a2 a3 a4 a5:Int)
 deriving DecidableEq
structure Off where
 bX:Int
 want:bB
 value:Int
 deriving DecidableEq
structure Need where
 OA:Int
 least:Int
 deriving DecidableEq
structure nT where
 bX:Int
 want:bB
 deriving DecidableEq
structure Sit where
 members:Int
 left:bB
 opn:bB
 deriving DecidableEq
def bB.zero:bB:=⟨0,0,0,0,0,0⟩
inductive bp where
 |i (k:IntKind)
 |b
 |ff
 |off
 |need
 |key
 |sit
 |bF (s:bp)
 |pair (s t:bp)
 deriving DecidableEq
@[reducible] def bp.T:bp->Type
 | .i _=>Int
 | .b=>Bool
 | .ff=>bB
 | .off=>Off
 | .need=>Need
 | .key=>nT
 | .sit=>Sit
 | .bF s=>List s.T
 | .pair s t=>s.T×t.T
def bp.dflt:(s:bp)->s.T
 | .i _=>(0:Int)
 | .b=>false
 | .ff=> .zero
 | .off=>⟨0,.zero,0⟩
 | .need=>⟨0,0⟩
 | .key=>⟨0,.zero⟩
 | .sit=>⟨0,.zero,.zero⟩
 | .bF _=>[]
 | .pair s t=>(s.dflt,t.dflt)
def bp.sz:bp->Nat
 | .i _=>1
 | .b=>1
 | .ff=>6
 | .off=>8
 | .need=>2
 | .key=>7
 | .sit=>13
 | .bF _=>1
 | .pair s t=>s.sz+t.sz
@[reducible] def bp.dec:(s:bp)->DecidableEq s.T
 | .i _=>inferInstanceAs (DecidableEq Int)
 | .b=>inferInstanceAs (DecidableEq Bool)
 | .ff=>inferInstanceAs (DecidableEq bB)
 | .off=>inferInstanceAs (DecidableEq Off)
 | .need=>inferInstanceAs (DecidableEq Need)
 | .key=>inferInstanceAs (DecidableEq nT)
 | .sit=>inferInstanceAs (DecidableEq Sit)
 | .bF s=>@instDecidableEqList _ s.dec
 | .pair s t=>@instDecidableEqProd _ _ s.dec t.dec
instance (s:bp):DecidableEq s.T:=s.dec
def bp.xl:bp->Bool
 | .i _| .b=>true
 |_=>false
def bp.flat:bp->Bool
 | .bF _=>false
 | .pair s t=>s.flat&&t.flat
 |_=>true
def iv (n:Int):Value:=.int .i64 n
def bB.vs (b:bB):List Value:=[iv b.a0,iv b.a1,iv b.a2,iv b.a3,iv b.a4,iv b.a5]
def dx:(s:bp)->s.T->List Value
 | .i k,n=>[.int k n]
 | .b,b=>[.bool b]
 | .ff,x=>[iv x.a0,iv x.a1,iv x.a2,iv x.a3,iv x.a4,iv x.a5]
 | .off,x=>[iv x.bX,iv x.want.a0,iv x.want.a1,iv x.want.a2,iv x.want.a3,iv x.want.a4,iv x.want.a5,iv x.value]
 | .need,x=>[iv x.OA,iv x.least]
 | .key,x=>[iv x.bX,iv x.want.a0,iv x.want.a1,iv x.want.a2,iv x.want.a3,iv x.want.a4,iv x.want.a5]
 | .sit,x=>[iv x.members,iv x.left.a0,iv x.left.a1,iv x.left.a2,iv x.left.a3,iv x.left.a4,iv x.left.a5,iv x.opn.a0,iv x.opn.a1,iv x.opn.a2,iv x.opn.a3,iv x.opn.a4,iv x.opn.a5]
 | .bF _,_=>[.bool false]
 | .pair s t,x=>dx s x.1++dx t x.2
def dO:(s:bp)->s.T->List AV
 | .bF s,l=>[.sl l.length (l.flatMap (dO s))]
 | .pair s t,x=>dO s x.1++dO t x.2
 | .i k,x=>(dx (.i k) x).map .sc
 | .b,x=>(dx .b x).map .sc
 | .ff,x=>(dx .ff x).map .sc
 | .off,x=>(dx .off x).map .sc
 | .need,x=>(dx .need x).map .sc
 | .key,x=>(dx .key x).map .sc
 | .sit,x=>(dx .sit x).map .sc
inductive SV where
 |ud
 |sc (v:Value)
 |il (k:IntKind) (n:Int)
 |si (k:IntKind) (n:Int)
 |bl (b:Bool)
 |sb (b:Bool)
 |agg (cs:List SV)
 |bI (cs:List SV)
 |row (s:bp) (l:List s.T)
 |ep (s:bp) (l:List s.T) (i off:Nat)
 |ptr (id off tot:Nat)
 |ap (id base sz len tot i:Nat)
 |rp (id i off n sz:Nat)
 |ow (id n sz:Nat)
 |os (id off len n sz:Nat)
 |oc (id off len n sz:Nat)
 |mp (id:Nat)
 |fn (f:Fn) (first captured:List SV)
 |ia (t:TypeId) (cs:List SV)
 |ite (c:Bool) (a b:SV)
inductive bq where
 |dead
 |cells (cs:List SV) (e:TypeId) (sz:Nat) (pu:Bool)
 |row (s:bp) (l:List s.T) (e:TypeId) (pu:Bool)
 |map (sk sv:bp) (ka:Bool) (es:List (sk.T×sv.T)) (kt:List Nat×Bool) (pu:Bool)
 |oW (s:bp) (l:List s.T) (e:TypeId) (t:List SV)
def cB (s:bp) (l:List s.T):List AV:=l.flatMap (dO s)
def pH (s:bp) (a:Bool) (x:s.T):Value:=if a then .agg (dx s x).toArray else(dx s x).headD (.bool false)
def nh (s:bp) (x:s.T):AV:=.sc ((dx s x).headD (.bool false))
mutual
def SV.g:SV->AV
 | .ud=> .ud
 | .sc v=> .sc v
 | .il k n=> .sc (.int k n)
 | .si k n=> .sc (.int k n)
 | .bl b=> .sc (.bool b)
 | .sb b=> .sc (.bool b)
 | .agg m=> .agg (gL m)
 | .bI m=> .bI (gL m)
 | .row s l=> .sl l.length (cB s l)
 | .ep s l i d=> .ep (cB s l) (i*s.sz+d)
 | .ptr h d o=> .ptr h d o
 | .ap h p e _ o i=> .ptr h (p+i*e) o
 | .rp h i d n e=> .ptr h (i*e+d) (n*e)
 | .ow h n e=> .os h 0 n (n*e)
 | .os h d j n e=> .os h (d*e) j (n*e)
 | .oc h d j n e=> .os h (d*e+(n*e+e)) j (n*e)
 | .mp h=> .mp h
 | .fn f a b=> .fn f (gL a) (gL b)
 | .ia t m=> .jl t (gL m)
 | .ite _ _ _=> .ud
def gL:List SV->List AV
 |[]=>[]
 |c::m=>c.g::gL m
end
theorem gj:∀(l:List SV),gL l=l.map SV.g
 |[]=>rfl
 |c::a=>by simp[gL,gj a]
def bq.g:bq->bR
 | .dead=> .dead
 | .cells c e i a=> .cells (gL c) e i a
 | .row s l e a=> .cells (cB s l) e s.sz a
 | .oW s l e t=> .cells (cB s l++gL t) e s.sz false
 | .map f b j h d a=> .map (h.map λp=>(pH f j p.1,nh b p.2)) d a
def encS:(s:bp)->s.T->List SV
 | .i k,n=>[.si k n]
 | .b,b=>[.sb b]
 | .ff,x=>[.si .i64 x.a0,.si .i64 x.a1,.si .i64 x.a2,.si .i64 x.a3,.si .i64 x.a4,.si .i64 x.a5]
 | .off,x=>[.si .i64 x.bX,.si .i64 x.want.a0,.si .i64 x.want.a1,.si .i64 x.want.a2,.si .i64 x.want.a3,.si .i64 x.want.a4,.si .i64 x.want.a5,.si .i64 x.value]
 | .need,x=>[.si .i64 x.OA,.si .i64 x.least]
 | .key,x=>[.si .i64 x.bX,.si .i64 x.want.a0,.si .i64 x.want.a1,.si .i64 x.want.a2,.si .i64 x.want.a3,.si .i64 x.want.a4,.si .i64 x.want.a5]
 | .sit,x=>[.si .i64 x.members,.si .i64 x.left.a0,.si .i64 x.left.a1,.si .i64 x.left.a2,.si .i64 x.left.a3,.si .i64 x.left.a4,.si .i64 x.left.a5,.si .i64 x.opn.a0,.si .i64 x.opn.a1,.si .i64 x.opn.a2,.si .i64 x.opn.a3,.si .i64 x.opn.a4,.si .i64 x.opn.a5]
 | .bF s,l=>[.row s l]
 | .pair s t,x=>encS s x.1++encS t x.2
def iG (s s':bp) (l:List s.T):Option (List s'.T):=if h:s=s' then some (h▸l) else none
def jG (s:bp):SV->Option (List s.T)
 | .row a l=>match iG a s l with
  |some l=>some l
  |none=>match l with
   |[]=>some []
   |_=>none
 |_=>none
def SV.qn:SV->SV
 | .sc (.slice none 0 0)=> .row (.i .i64) []
 |v=>v
def SV.int:IntKind->SV->Option Int
 |k,.si a n=>if a=k then some n else none
 |k,.il a n=>if a=k then some n else none
 |_,_=>none
def SV.boo:SV->Option Bool
 | .sb b=>some b
 | .bl b=>some b
 |_=>none
def ints:List SV->Option (List Int)
 |[]=>some []
 |c::a=>match c.int .i64,ints a with
  |some n,some l=>some (n::l)
  |_,_=>none
def jT:(s:bp)->List SV->Option s.T
 | .i k,[c]=>c.int k
 | .b,[c]=>c.boo
 | .ff,d=>match ints d with
  |some [f,e,l,h,g,j]=>some (⟨f,e,l,h,g,j⟩:bB)
  |_=>none
 | .off,d=>match ints d with
  |some [b,f,e,l,h,g,j,v]=>some (⟨b,⟨f,e,l,h,g,j⟩,v⟩:Off)
  |_=>none
 | .need,d=>match ints d with
  |some [a,b]=>some (⟨a,b⟩:Need)
  |_=>none
 | .key,d=>match ints d with
  |some [b,f,e,l,h,g,j]=>some (⟨b,⟨f,e,l,h,g,j⟩⟩:nT)
  |_=>none
 | .sit,d=>match ints d with
  |some [m,f,e,l,h,g,j,p,u,n,q,r,o]=>some (⟨m,⟨f,e,l,h,g,j⟩,⟨p,u,n,q,r,o⟩⟩:Sit)
  |_=>none
 | .bF s,[c]=>jG s c
 | .pair s t,d=>match jT s (d.take s.sz),jT t (d.drop s.sz) with
  |some x,some y=>some (x,y)
  |_,_=>none
 |_,_=>none
theorem Gt:(s:bp)->0<s.sz
 | .i _| .b| .ff| .off| .need| .key| .sit| .bF _=>by simp[bp.sz];| .pair s t=>by
  have:=Gt s;grind[bp.sz]
theorem tV:(s:bp)->(x:s.T)->(encS s x).map SV.g=dO s x
 | .bF s,l=>by grind[encS,dO,SV.g,cB];| .pair s t,x=>by simp only[encS,dO,γa,tV s x.1,tV t x.2];| .i _,x| .b,x| .ff,x| .off,x| .need,x| .key,x| .sit,x=>by simp[encS,dO,dx,SV.g,iv]
theorem Gu:(s:bp)->(x:s.T)->(dx s x).length=s.sz
 | .pair s t,x=>by simp only[dx,γf,Gu s x.1,Gu t x.2,bp.sz];| .bF _,x| .i _,x| .b,x| .ff,x| .off,x| .need,x| .key,x| .sit,x=>rfl
theorem lT:(s:bp)->(x:s.T)->(dO s x).length=s.sz
 | .pair s t,x=>by simp only[dO,γf,lT s x.1,lT t x.2,bp.sz];| .bF _,x| .i _,x| .b,x| .ff,x| .off,x| .need,x| .key,x| .sit,x=>rfl
theorem CB:(s:bp)->s.flat=true->(x:s.T)->dO s x=(dx s x).map .sc
 | .pair s t,h,x=>by
  simp only[bp.flat,θ] at h;simp only[dO,dx,γa,CB s h.1,CB t h.2];| .bF _,h,x=>by grind[bp.flat];| .i _,_,x| .b,_,x| .ff,_,x| .off,_,x| .need,_,x| .key,_,x| .sit,_,x=>rfl
theorem iN {k:IntKind} {c:SV} {n:Int} (h:c.int k=some n):c.g= .sc (.int k n):=by
 cases c<;>simp only[SV.int,reduceCtorEq] at h<;>grind[SV.int,reduceCtorEq,SV.g]
theorem vq {c:SV} {b:Bool} (h:c.boo=some b):c.g= .sc (.bool b):=by
 cases c<;>simp[SV.boo] at h<;>subst h<;>simp[SV.g]
theorem CC:∀{cs:List SV} {l:List Int},ints cs=some l->cs.map SV.g=l.map λn=> .sc (iv n)
 |[],l,h=>by grind[ints];|c::cs,l,h=>by
  simp only[ints] at h;split at h
  ·rename_i n d a b;simp at h;subst h;simp[iN a,CC b,iv]
  ·cases h
theorem mG {s s':bp} {l:List s.T} {a:List s'.T} (h:iG s s' l=some a):s=s'/\HEq l a:=by
 unfold iG at h;grind
theorem Y0 {s:bp} {v:SV} {l:List s.T} (h:jG s v=some l):v.g= .sl l.length (cB s l):=by
 cases v<;>simp only[jG,reduceCtorEq] at h;grind[mG,SV.g,cB]
theorem nU:{s:bp}->{cs:List SV}->{x:s.T}->(h:jT s cs=some x)->cs.map SV.g=dO s x
 | .i k,[c],_,h=>by grind[jT,dO,dx,iN];| .b,[c],_,h=>by grind[jT,dO,dx,vq];| .bF s,[c],_,h=>by grind[jT,Y0,dO,cB];| .pair s t,cs,_,h=>by
  simp only[jT] at h;split at h
  ·rename_i x y a d;simp only[γ] at h;subst h;have f:=nU a;have e:=nU d;simp only[dO,<-f,<-e];rw[<-γa,List.take_append_drop]
  ·cases h;| .ff,cs,_,h| .off,cs,_,h| .need,cs,_,h| .key,cs,_,h| .sit,cs,_,h=>by
  simp only[jT] at h;split at h
  ·rename_i a;simp at h;subst h;rw[CC a];simp[dO,dx]
  ·cases h
theorem Y1 (v:SV):v.qn.g=v.g.qn:=by
 unfold SV.qn;split;·simp[SV.g,AV.qn,cB]
 ·rename_i h;cases v<;>grind[SV.g,AV.qn,AV.sc.injEq]
theorem CG:(s:bp)->(x:s.T)->∀v∈dx s x,v.oneCell'=true
 | .pair s t,x=>by
  intro v a;simp only[dx] at a;rcases γk.1 a with h|h;·exact CG s _ v h
  ·exact CG t _ v h;| .bF _,x| .i _,x| .b,x| .ff,x| .off,x| .need,x| .key,x| .sit,x=>by simp[dx,iv,Value.oneCell']
def Plain (a:AV):Prop:=(∃v,a= .sc v/\v.oneCell'=true/\v≠ .slice none 0 0)\/∃n b,a= .sl n b/\dA b=true
theorem CH:∀{l:List AV},(∀a∈l,a.pure=true)->dA l=true
 |[],_=>by simp[dA];|a::l,h=>by simp[dA,h a (by simp),CH (l:=l) λb c=>h b (by simp[c])]
theorem Gv {k:Nat}:∀{l:List AV},(∀a∈l,a.bY k=true)->ey k l=true
 |[],_=>by simp[ey];|a::l,h=>by simp[ey,h a (by simp),Gv (l:=l) λb c=>h b (by simp[c])]
theorem Plain.pure {a:AV} (h:Plain a):a.pure=true:=by
 rcases h with⟨v,rfl,_⟩|⟨n,b,rfl,h⟩<;>grind[AV.pure]
theorem Plain.bY {a:AV} (h:Plain a) (k:Nat):a.bY k=true:=by
 rcases h with⟨v,rfl,_⟩|⟨n,b,rfl,h⟩<;>simp[AV.bY]
theorem Plain.one {a:AV} (h:Plain a):a.one=true:=by
 rcases h with⟨v,rfl,h,_⟩|⟨n,b,rfl,h⟩<;>grind[AV.one]
theorem zy:(s:bp)->(x:s.T)->∀a∈dO s x,Plain a
 | .pair s t,x=>by
  intro a c;simp only[dO] at c;rcases γk.1 c with h|h;·exact zy s _ a h
  ·exact zy t _ a h;| .bF s,l=>by
  intro a c;simp only[dO,List.mem_singleton] at c;subst c;refine .inr ⟨_,_,rfl,CH λb e=>?_⟩;obtain⟨y,_,f⟩:=List.mem_flatMap.1 e;exact(zy s y b f).pure;| .i _,x| .b,x| .ff,x| .off,x| .need,x| .key,x| .sit,x=>by
  intro a c;simp only[dO] at c;obtain⟨v,d,rfl⟩:=List.mem_map.1 c;refine .inl ⟨v,rfl,CG _ _ v d,?_⟩;rintro rfl;simp[dx,iv] at d
theorem ni {s:bp} {l:List s.T} {a:AV} (h:a∈cB s l):Plain a:=by
 grind[cB,zy]
theorem nV (s:bp) (l:List s.T):dA (cB s l)=true:=CH λa h=>(ni h).pure
theorem OB (k:Nat) (s:bp) (l:List s.T):ey k (cB s l)=true:=Gv λa h=>(ni h).bY k
theorem CJ (s:bp) (l:List s.T):eL (cB s l)=true:=by
 simp only[eL,φ];intro a h;exact(ni h).one
theorem eY (s:bp) (l:List s.T):(cB s l).length=l.length*s.sz:=by
 induction l<;>grind[cB,lT]
theorem OC (s:bp) (l a:List s.T):cB s (l++a)=cB s l++cB s a:=by simp[cB]
theorem Gw (s:bp):∀(l:List s.T) (i:Nat),(cB s l).drop (i*s.sz)=cB s (l.drop i)
 |l,0=>by simp;|[],i+1=>by simp[cB];|x::l,i+1=>by
  have h:=Gw s l i;simp only[cB,δX,List.drop_succ_cons] at h ⊢;rw[Nat.succ_mul,Nat.add_comm,List.drop_append,lT,ζv,h,List.drop_of_length_le (by grind[lT])];simp
theorem OD (s:bp):∀(l:List s.T) (i:Nat),(cB s l).take (i*s.sz)=cB s (l.take i)
 |l,0=>by simp[cB];|[],i+1=>by simp[cB];|x::l,i+1=>by
  have h:=OD s l i;simp only[cB,δX,List.take_succ_cons] at h ⊢;rw[Nat.succ_mul,Nat.add_comm,List.take_append,lT,ζv,h,List.take_of_length_le (by grind[lT])]
def bj {a:Type} (l:List a) (i:Nat) (d:a):a:=(l[i]?).getD d
theorem cY {a:Type} {l:List a} {i:Nat} {d:a} (h:i<l.length):bj l i d=l[i]:=by simp[bj,h]
theorem OE {s:bp} {l:List s.T} {i:Nat} (h:i<l.length):(cB s l).drop (i*s.sz)=dO s (bj l i s.dflt)++cB s (l.drop (i+1)):=by
 rw[Gw,List.drop_eq_getElem_cons h,cY h];grind[cB]
end Go.Vi
