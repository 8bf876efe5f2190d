/-
  The abstract interpreter: a region whose order is open.
  Conditions: none.
-/
import Derived.Test.YtjcmncmajmoiiaaGreatDY03
import Derived.RangeFuncOwn
import Derived.RangeFuncLeaves
import Derived.LoopNIn
import Derived.ControlIn
import Derived.LoopN
import Derived.Scope
import Derived.Tactics
set_option maxRecDepth 100000
set_option maxHeartbeats 4000000
set_option linter.all false
open Array renaming getElem?_eq_some_iff->γU,replicate->εj,getElem?_toList->δD,ext'->εf
open Bool renaming and_eq_true->ζ,false_eq_true->χ
open Go.Vi renaming prune->ζF
open List renaming not_mem_nil->γ5,mem_filter->γh,getElem?_set_ne->δL,getElem?_eq_getElem->ξ,getElem?_eq_none->ζx,getElem?_set->εp,map_congr_left->γ2,mem_map_of_mem->γ3,mem_append->Γ,ext_getElem?->δd,cons_append->γE,getD_eq_getElem?_getD->ε7,all_eq_true->Φ,getElem?_cons_succ->γP,map_cons->ι,nodup_cons->γC,mem_of_getElem?->γA,eq_nil_of_length_eq_zero->ψ,getElem?_eq_some_iff->θ,range->τ,pairwise_cons->γx,mem_cons_of_mem->δa,append_nil->γZ,map_append->γb,length_append->ν,flatMap_cons->δ4
open List.Pairwise renaming nil->δB
open Nat renaming le_refl->φ,lt_or_ge->δ8,strongRecOn->ζy,beq->δA,eq_of_beq_eq_true->εV,lt_of_lt_of_le->γu,add_sub_cancel_left->ζr
open Option renaming map_eq_some_iff->δ
open Option.some renaming injEq->γ
open Prod.mk renaming injEq->κ
namespace Go.Vi
section
variable {call:cV} {ρ kX:Operand->AV} {bB:Nat}
theorem Oe {a:cB} {o:Store} {j:Nat} (h:j∈wrt a ρ o bB):j∈dN a ρ o bB:=by
 cases a<;>simp only[wrt,dN,γ5] at h ⊢<;>try exact h
 all_goals grind
theorem X5 {a:cB} {o:Store} (h:a.cls=0\/a.cls=1):wrt a ρ o bB=[]:=by
 cases a<;>try (simp[cB.cls] at h;done)
 case call f c b=>cases b<;>simp[cB.cls] at h;rfl
 case jE f c b=>cases b<;>simp[cB.cls] at h;rfl
 all_goals rfl
theorem Gt {b:cB} {o:Store} (h:b.cls=0):dN b ρ o bB=[]:=by
 cases b<;>try (simp[cB.cls] at h;done)
 case call f c a=>cases a<;>simp[cB.cls] at h
 case jE f c a=>cases a<;>simp[cB.cls] at h
 all_goals rfl
theorem X6 (a:cB):a.cls=0\/a.cls=1\/a.cls=2\/a.cls=3:=by
 cases a<;>try (simp[cB.cls];done)
 case call f c b=>cases b<;>simp[cB.cls]
 case jE f c b=>cases b<;>simp[cB.cls]
def mI (a:cB) (W:List Nat) (n j:Nat):Prop:=j∈W\/(a.cls=3/\n<=j)
theorem Gu {a:cB} {o:Store} {j:Nat} (h:j∈ec call a ρ o bB):j∈wrt a ρ o bB:=by
 unfold ec at h;split at h
 ·split at h;·exact(γh.1 h).1
  ·simp at h
 ·exact h
theorem X7 {a:cB} {o:Store} {j:Nat} (h:j∈ec call a ρ o bB):j∈dN a ρ o bB:=Oe (Gu h)
theorem tO {a:cB} {o:Store} (h:a.cls=0\/a.cls=1):ec call a ρ o bB=[]:=by
 unfold ec;grind[cB.cls,X5]
theorem X8 {a:cB} {o:Store} (h:a.cls=2):ec call a ρ o bB=wrt a ρ o bB:=by
 unfold ec;grind[cB.cls]
open Classical in
theorem X9 {dp:cB} {o o':Store} {v:AV} (he:bJ call dp ρ o bB=some (v,o')):
  o.length<=o'.length/\(dp.cls≠3->o'.length=o.length)/\(∀j,¬mI dp (ec call dp ρ o bB) o.length j->o'[j]?=o[j]?)/\
  ∀o2:Store,(∀j∈dN dp ρ o bB,o2[j]?=o[j]?)->(dp.cls=3->o2.length=o.length)->
   ∃sC,bJ call dp ρ o2 bB=some (v,sC)/\dN dp ρ o2 bB=dN dp ρ o bB/\ec call dp ρ o2 bB=ec call dp ρ o bB/\∀j,mI dp (ec call dp ρ o bB) o.length j->sC[j]?=o'[j]?:=by
 rcases X6 dp with hc|hc|hc|hc
 ·have:=XT hc he;subst this;refine⟨φ _,λ_=>rfl,λ_ _=>rfl,λo2 _ _=>⟨o2,?_,by rw[Gt hc,Gt hc],by rw[tO (.inl hc),tO (.inl hc)],λj hj=>?_⟩⟩;·rw[N9 hc o' o2,he];rfl
  ·rw[mI,tO (.inl hc)] at hj;simp[hc] at hj
 ·have:=X0 hc he;subst this;refine⟨φ _,λ_=>rfl,λ_ _=>rfl,λo2 h _=>⟨o2,?_,(Gs (call:=call) hc h).2,by rw[tO (.inr hc),tO (.inr hc)],λj hj=>?_⟩⟩;·rw[(Gs hc h).1,he];rfl
  ·rw[mI,tO (.inr hc)] at hj;simp[hc] at hj
 ·simp only[X8 hc];obtain⟨id,x,hid,rfl,hk⟩:=X3 hc he;refine⟨by simp,λ_=>by simp,λj hj=>?_,λo2 h _=>?_⟩
  ·have:j≠id:=λhji=>hj (.inl (hji▸hid));rw[δL (Ne.symm this)]
  ·obtain⟨k1,k2,k3⟩:=hk o2 h;refine⟨_,k1,k2,k3,λj hj=>?_⟩;have hj:j∈wrt dp ρ o bB:=hj.resolve_right (by simp[hc]);have hjo:=h j (Oe hj);by_cases hji:id=j
   ·subst hji;have hlen:(id<o2.length)↔(id<o.length):=by
     rcases δ8 id o2.length with g1|g1<;>rcases δ8 id o.length with g2|g2;·simp[g1,g2]
     ·rw[ξ g1,ζx g2] at hjo;cases hjo
     ·rw[ξ g2,ζx g1] at hjo;cases hjo
     ·omega
    rw[εp,εp];simp only[if_true];by_cases h1:id<o.length;·rw[if_pos h1,if_pos (hlen.2 h1)]
    ·rw[if_neg h1,if_neg λh2=>h1 (hlen.1 h2)]
   ·rw[δL hji,δL hji];exact hjo
 ·have key:∀(f:FuncId) (args:List AV),iH call f args o=some (v,o')->ec call dp ρ o bB=cJ o fA args []->dN dp ρ o bB=cJ o fA args []->
    (∀o2:Store,bJ call dp ρ o2 bB=iH call f args o2/\dN dp ρ o2 bB=cJ o2 fA args []/\ec call dp ρ o2 bB=cJ o2 fA args [])->
    o.length<=o'.length/\(dp.cls≠3->o'.length=o.length)/\(∀j,¬mI dp (ec call dp ρ o bB) o.length j->o'[j]?=o[j]?)/\
    ∀o2:Store,(∀j∈dN dp ρ o bB,o2[j]?=o[j]?)->(dp.cls=3->o2.length=o.length)->
    ∃sC,bJ call dp ρ o2 bB=some (v,sC)/\dN dp ρ o2 bB=dN dp ρ o bB/\ec call dp ρ o2 bB=ec call dp ρ o bB/\∀j,mI dp (ec call dp ρ o bB) o.length j->sC[j]?=o'[j]?:=by
   intro f args hcall hw ht hg;obtain⟨c1,c2,c3⟩:=Oc hcall;refine⟨c1,λh=>absurd hc h,λj hj=>?_,λo2 h hl=>?_⟩
   ·simp only[mI,hc,true_and,not_or,Nat.not_le,hw] at hj;exact c2 j hj.2 hj.1
   ·rw[ht] at h;obtain⟨sC,d1,d2,d3⟩:=c3 o2 (hl hc) h;obtain⟨g1,g2,g3⟩:=hg o2;refine⟨sC,by rw[g1,d1],by rw[g2,d2,ht],by rw[g3,d2,hw],λj hj=>d3 j ?_⟩;simp only[mI,hc,true_and,hw] at hj;exact hj
  cases dp<;>try (simp[cB.cls] at hc;done)
  case call f args own=>
   cases own;·simp[cB.cls] at hc
   ·simp only[bJ,gx,if_true] at he;obtain⟨c1,c2,c3⟩:=Oc he;have hw:ec call (.call f args true) ρ o bB=(cJ o fA (args.map ρ) []).filter λj=>decide (o'[j]?≠o[j]?):=by simp only[ec,he]
    refine⟨c1,λh=>absurd hc h,λj hj=>?_,λo2 h hl=>?_⟩
    ·simp only[mI,hc,true_and,not_or,Nat.not_le,hw,γh,decide_eq_true_eq,not_and,Classical.not_not,ne_eq] at hj;by_cases hm:j∈cJ o fA (args.map ρ) [];·exact hj.1 hm
     ·exact c2 j hj.2 hm
    ·obtain⟨sC,d1,d2,d3⟩:=c3 o2 (hl hc) h;refine⟨sC,by simp only[bJ,gx,if_true,d1],d2,?_,λj hj=>?_⟩
     ·rw[hw];simp only[ec,d1,d2];refine List.filter_congr λj hj=>?_;rw[d3 j (.inl hj),h j hj]
     ·rw[mI,hw,γh] at hj;exact d3 j (hj.imp (λh=>h.1) λh=>h.2)
  case jE f args own=>
   cases own;·simp[cB.cls] at hc
   ·simp only[bJ,gx,if_true] at he;split at he
    ·rename_i g first captured hf;exact key g (first++args.map ρ++captured) he (by simp[ec,wrt,hf]) (by simp[dN,hf]) λo2=>⟨by simp[bJ,gx,hf],by simp[dN,hf],by simp[ec,wrt,hf]⟩
    ·cases he
theorem zm {l:List Operand} (h:∀x∈l,kX x=ρ x):l.map kX=l.map ρ:=γ2 h
theorem Ya {dp:cB} (h:∀x∈dp.iW,kX x=ρ x) (o:Store):bJ call dp kX o bB=bJ call dp ρ o bB/\dN dp kX o bB=dN dp ρ o bB/\ec call dp kX o bB=ec call dp ρ o bB:=by
 cases dp;case build z ps=>
  have:(ps.map λp=>(p.1,p.2.1,kX p.2.2))=ps.map λp=>(p.1,p.2.1,ρ p.2.2):=γ2 λp hp=>by rw[h p.2.2 (by simp only[cB.iW];exact γ3 (f:=λp:Nat×Nat×Operand=>p.2.2) hp)]
  simp only[bJ,dN,ec,wrt,this,and_self]
 case pG z len ps e sz=>
  have:(ps.map λp=>(p.1,sz,kX p.2))=ps.map λp=>(p.1,sz,ρ p.2):=γ2 λp hp=>by rw[h p.2 (by simp only[cB.iW];exact γ3 (f:=λp:Nat×Operand=>p.2) hp)]
  simp only[bJ,dN,ec,wrt,this,and_self]
 case tg z len ps e sz=>
  have:(ps.map λp=>(p.1,sz,kX p.2))=ps.map λp=>(p.1,sz,ρ p.2):=γ2 λp hp=>by rw[h p.2 (by simp only[cB.iW];exact γ3 (f:=λp:Nat×Operand=>p.2) hp)]
  simp only[bJ,dN,ec,wrt,this,and_self]
 case call f args own=>
  have:=zm h;simp only[cB.iW] at this;cases own<;>simp only[bJ,dN,ec,wrt,this,and_self]
 case jE f args own=>
  have h1:args.map kX=args.map ρ:=zm λx hx=>h x (by simp[cB.iW,hx]);have h2:=h f (by simp[cB.iW]);cases own<;>simp only[bJ,dN,ec,wrt,h1,h2,and_self]
 case oH tab x args=>
  have h1:args.map kX=args.map ρ:=zm λy hy=>h y (by simp[cB.iW,hy]);have h2:=h x (by simp[cB.iW]);simp only[bJ,dN,ec,wrt,h1,h2,and_self]
 case tj f a b=>
  have h1:a.map kX=a.map ρ:=zm λx hx=>h x (by simp[cB.iW,hx]);have h2:b.map kX=b.map ρ:=zm λx hx=>h x (by simp[cB.iW,hx]);simp only[bJ,dN,ec,wrt,h1,h2,and_self]
 case slice sz x lo hi=>
  have h1:lo.map kX=lo.map ρ:=by cases lo<;>simp[cB.iW] at h ⊢;exact h.2.1
  have h2:hi.map kX=hi.map ρ:=by cases hi<;>simp[cB.iW] at h ⊢;first|exact h.2.2|(cases lo<;>simp at h<;>simp[h])
  have h3:=h x (by simp[cB.iW]);simp only[bJ,dN,ec,wrt,h1,h2,h3,and_self]
 case uU x lo hi=>
  have h1:lo.map kX=lo.map ρ:=by cases lo<;>simp[cB.iW] at h ⊢;exact h.2.1
  have h2:hi.map kX=hi.map ρ:=by cases hi<;>simp[cB.iW] at h ⊢;first|exact h.2.2|(cases lo<;>simp at h<;>simp[h])
  have h3:=h x (by simp[cB.iW]);simp only[bJ,dN,ec,wrt,h1,h2,h3,and_self]
 case slice3 sz x lo hi mx=>
  have h1:lo.map kX=lo.map ρ:=by
   cases lo with
   |none=>rfl;|some a=>exact congrArg some (h a (by simp[cB.iW]))
  have h2:=h hi (by simp[cB.iW]);have h3:=h x (by simp[cB.iW]);have h4:=h mx (by simp[cB.iW]);simp only[bJ,dN,ec,wrt,h1,h2,h3,h4,and_self]
 all_goals
  simp only[cB.iW,List.mem_cons,γ5,or_false,forall_eq_or_imp,forall_eq] at h;simp[bJ,dN,ec,wrt,h]
end
section
variable {call:cV} {base:Nat}
noncomputable def entry (call:cV) (base:Nat) (i:dq) (st:St):List Nat×List Nat:=
 match mE st.env i.guard with
 |some true=>(dN i.op (eC st.env) st.o (base+i.bB),ec call i.op (eC st.env) st.o (base+i.bB))
 |_=>([],[])
theorem Yb {i:dq} {st:St} {j:Nat} (h:j∈(entry call base i st).2):j∈(entry call base i st).1:=by
 grind[entry,X7]
theorem Og {i:dq} {e a:jg} (h:∀s∈i.reads,dH a s=dH e s):(∀x∈i.op.iW,eC a x=eC e x)/\mE a i.guard=mE e i.guard:=by
 constructor
 ·intro x b;cases x with
  |tmp t=>
   refine h t ?_;simp only[dq.reads,Γ];left;exact List.mem_filterMap.2 ⟨.tmp t,b,rfl⟩;|_=>rfl
 ·unfold mE;grind[dq.reads]
theorem xl {i:dq} {st st':St} (a:gY call base i st=some st'):
  ∃v,(∀s,dH st'.env s=if i.dst=some s then v else dH st.env s)/\st.o.length<=st'.o.length/\(i.op.cls≠3->st'.o.length=st.o.length)/\
   (∀j,¬mI i.op (entry call base i st).2 st.o.length j->st'.o[j]?=st.o[j]?)/\
   ∀st2:St,(∀s∈i.reads,dH st2.env s=dH st.env s)->(∀j∈(entry call base i st).1,st2.o[j]?=st.o[j]?)->(i.op.cls=3->st2.o.length=st.o.length)->
    ∃b,gY call base i st2=some b/\(∀s,dH b.env s=if i.dst=some s then v else dH st2.env s)/\entry call base i st2=entry call base i st/\
     ∀j,mI i.op (entry call base i st).2 st.o.length j->b.o[j]?=st'.o[j]?:=by
 unfold gY at a;split at a;·cases a
 ·rename_i n;injection a with a;subst a;refine⟨.bH [],λs=>vm _ _ _ _,φ _,λ_=>rfl,λ_ _=>rfl,λst2 c _ k=>?_⟩;obtain⟨h,t⟩:=Og c;refine⟨⟨oG st2.env i.dst (.bH []),st2.o⟩,?_,λs=>vm _ _ _ _,?_,λj w=>?_⟩;all_goals simp_all[gY,entry,mI]
 ·rename_i n;split at a
  ·rename_i v y c;injection a with a;subst a;rw[za] at c;obtain⟨r,l,m,p⟩:=X9 c;have e:entry call base i st=(dN i.op (eC st.env) st.o (base+i.bB),ec call i.op (eC st.env) st.o (base+i.bB)):=by grind[entry]
   rw[e];refine⟨v,λs=>vm _ _ _ _,r,l,m,λst2 f d k=>?_⟩;obtain⟨h,t⟩:=Og f;obtain⟨g,z,x,B,q⟩:=p st2.o d k;obtain⟨C,A,u⟩:=Ya (call:=call) (bB:=base+i.bB) h st2.o;refine⟨⟨oG st2.env i.dst v,g⟩,?_,λs=>vm _ _ _ _,?_,q⟩<;>grind[oG,vm,gY,za,entry]
  ·cases a
def jY (a b:St):Prop:=(∀s,dH a.env s=dH b.env s)/\a.o=b.o
theorem jY.refl (a:St):jY a a:=⟨λ_=>rfl,rfl⟩
theorem jY.trans {a b c:St} (h:jY a b) (k:jY b c):jY a c:=⟨λs=>(h.1 s).trans (k.1 s),h.2.trans k.2⟩
theorem jY.symm {a b:St} (h:jY a b):jY b a:=⟨λs=>(h.1 s).symm,h.2.symm⟩
theorem jY.run {i:dq} {a b l:St} (h:jY a b) (e:gY call base i a=some l):∃k,gY call base i b=some k/\jY l k/\entry call base i b=entry call base i a:=by
 have j:eC b.env=eC a.env:=by
  funext x;cases x with
  |tmp t=>exact(h.1 t).symm;|_=>rfl
 have o:mE b.env i.guard=mE a.env i.guard:=by
  cases p:i.guard with
  |none=>rfl;|some g=>
   obtain⟨c,d⟩:=g;cases c with
   |none=>rfl;|some s=>simp only[mE];rw[h.1]
 have f:∀(v:AV) (s:Nat),dH (oG a.env i.dst v) s=dH (oG b.env i.dst v) s:=by
  intro v s;simp only[vm];by_cases m:i.dst=some s;·simp_all
  ·rw[if_neg m,if_neg m];exact h.1 s
 have n:entry call base i b=entry call base i a:=by unfold entry;rw[o,j,h.2]
 unfold gY at e ⊢;rw[o,j,<-h.2];split at e;·cases e
 ·injection e with e;subst e;exact⟨_,rfl,⟨f _,rfl⟩,n⟩
 ·split at e
  ·injection e with e;subst e;exact⟨_,rfl,⟨f _,rfl⟩,n⟩
  ·cases e
def zn (n0:Nat) (y:dq) (a:List Nat×List Nat) (x:dq) (b:List Nat×List Nat):Prop:=
 zd y x=true/\(∀j∈a.2,j∉b.1)/\(∀j∈b.2,j∉a.1)/\(y.op.cls=3->x.op.cls≠3/\∀j∈b.1,j<n0)/\(x.op.cls=3->∀j∈a.1,j<n0)
theorem Yc {y x:dq} (h:zd y x=true):(∀d,y.dst=some d->d∉x.reads)/\(∀d,x.dst=some d->d∉y.reads)/\∀d,y.dst=some d->x.dst≠some d:=by
 grind[zd,FP]
theorem swap {n0:Nat} {y x:dq} {st c s2:St} (k:gY call base y st=some c) (n:gY call base x c=some s2) (P:n0<=st.o.length) (D:zn n0 y (entry call base y st) x (entry call base x c)):
  ∃a b,gY call base x st=some a/\gY call base y a=some b/\jY s2 b/\entry call base x st=entry call base x c/\entry call base y a=entry call base y st:=by
 obtain⟨d,Z,O,H,Q⟩:=D;obtain⟨a1,K,U⟩:=Yc d;obtain⟨G,A,y2,S,C,F⟩:=xl k;obtain⟨L,q,V,T,X,l⟩:=xl n;obtain⟨a,h,u,f,p4⟩:=l st (λs i=>by
   grind) (λj m=>by
   rw[C j];rintro(z|⟨e,B⟩)<;>grind) (λe=>by
   omega);obtain⟨E,J,W,I,r,_⟩:=xl h;obtain⟨b,g,w,p,R⟩:=F a (λs i=>by
   grind) (λj m=>by
   rw[r j];rw[f];rintro(z|⟨e,B⟩)<;>grind) (λe=>by
   omega);obtain⟨t,b1,M,Y,N,_⟩:=xl g;refine⟨a,b,h,g,⟨λs=>?_,?_⟩,f.symm▸rfl,p⟩
 ·rw[q s,w s,u s,A s];grind
 ·apply δd;intro j;by_cases v:mI x.op (entry call base x c).2 c.o.length j;·
   grind[mI,Yb]
  grind[mI]
noncomputable def ents (call:cV) (base:Nat):List dq->St->List (List Nat×List Nat)
 |[],_=>[]
 |i::r,b=>entry call base i b::match gY call base i b with
  |some a=>ents call base r a
  |none=>[]
theorem jY.runs {l:List dq}:∀{a b d:St},jY a b->fV call base l a=some d->∃e,fV call base l b=some e/\jY d e/\ents call base l b=ents call base l a:=by
 induction l with
 |nil=>intro a b d h c;simp only[fV,γ] at c;subst c;exact⟨b,rfl,h,rfl⟩;|cons i l o=>
  intro a b d h c;simp only[fV] at c;split at c
  ·rename_i k f;obtain⟨j,m,g,n⟩:=h.run f;grind[fV,ents]
  ·cases c
theorem front {n0:Nat} {x:dq} {b:List dq}:∀(a:List dq) {st s:St},fV call base (a++x::b) st=some s->n0<=st.o.length->
  (∀(k:Nat) (y:dq) (p f:List Nat×List Nat),a[k]?=some y->(ents call base (a++x::b) st)[k]?=some p->(ents call base (a++x::b) st)[a.length]?=some f->zn n0 y p x f)->
  ∃g s',gY call base x st=some g/\fV call base (a++b) g=some s'/\jY s s'/\(ents call base (a++x::b) st)[a.length]?=some (entry call base x st)/\
   ents call base (a++b) g=(ents call base (a++x::b) st).eraseIdx a.length
 |[],st,s,d,_,_=>by
  grind[fV,jY.refl,ents];|y::a,st,s,d,n,m=>by
  simp only[γE,fV] at d;split at d
  ·rename_i l i;have c:ents call base (y::(a++x::b)) st=entry call base y st::ents call base (a++x::b) l:=by simp[ents,i]
   obtain⟨_,_,h,_⟩:=xl i;obtain⟨g,s',r,v,C,M,I⟩:=front a d (Nat.le_trans n h) λk z u f t K L=>m (k+1) z u f (by simpa using t) (by simp_all) (by simp_all);have e:zn n0 y (entry call base y st) x (entry call base x l):=m 0 y _ _ (by simp) (by simp[c]) (by simp_all);obtain⟨B,H,w,F,A,D,J⟩:=swap i r n e;obtain⟨j,G,q,E⟩:=A.runs v;refine⟨B,j,w,?_,C.trans q,?_,?_⟩<;>grind[fV,ents]
  ·cases d
end
theorem Yd {acc:List Nat} {l:List Edge} {m:Nat}:∀{s:Nat},(l.foldl (BL acc) s).testBit m=true->s.testBit m=true\/∃e∈l,Region.binds .any e=true/\(m=e.on\/(acc.getD e.on 0).testBit m=true):=by
 induction l with
 |nil=>simp_all;|cons e l b=>
  intro s h;simp only[List.foldl_cons] at h;rcases b h with a|⟨d,f,a,c⟩
  ·unfold BL at a;grind
  grind
def zo (acc:List Nat) (o:Oper):Nat:=o.after.toList.foldl (BL acc) 0
theorem Oh:∀(L:List Oper) (acc:List Nat),∃r,L.foldl (λacc o=>acc++[zo acc o]) acc=acc++r/\r.length=L.length/\
  ∀(k:Nat) (o:Oper),L[k]?=some o->r[k]?=some (zo (acc++r.take k) o)
 |[],acc=>⟨[],by simp,rfl,by simp⟩
 |o::L,acc=>by
  obtain⟨r,b,a,d⟩:=Oh L (acc++[zo acc o]);refine⟨zo acc o::r,by simp[b],by simp[a],λk e c=>?_⟩;cases k<;>simp_all
theorem Ye {a:Array Oper} {k m:Nat} {o:Oper} (p:a[k]?=some o) (h:((oN a).getD k 0).testBit m=true):
  ∃e∈o.after,Region.binds .any e=true/\(m=e.on\/((oN a).getD e.on 0).testBit m=true):=by
 obtain⟨r,j,n,g⟩:=Oh a.toList [];have c:oN a=r:=by
  grind[oN,zo]
 rw[c] at h ⊢;have d:=g k o (by simp_all);rw[ε7,d] at h;simp only[Option.getD_some,List.nil_append] at h;rcases Yd h with f|⟨e,l,i,b⟩;·simp at f
 ·refine⟨e,by simp_all,i,b.imp_right λb=>?_⟩;rw[ε7] at b ⊢;rw[List.getElem?_take] at b;grind
theorem Oi:∀(L:List Oper) (i:Nat),wM i L=true->∀(k:Nat) (o:Oper),L[k]?=some o->∀e∈o.after,Region.binds .any e=true->e.on<i+k
 |[],i,_,k,o,a,_,_,_=>by simp at a;|o::L,i,h,k,c,a,e,d,b=>by
  simp only[wM,ζ,Φ] at h;cases k with
  |zero=>
   grind;|succ k=>
   have:=Oi L (i+1) h.2 k c (by simp_all) e d b;omega
theorem Oj {c:List Nat}:∀{l:List dq},wQ c l=true->∀(p q:Nat) (y x:dq),p<q->l[p]?=some y->l[q]?=some x->
  (c.getD x.idx 0).testBit y.idx=true\/(zd y x=true/\(wL y x=true\/BI y x=true))
 |[],_,p,q,y,x,_,e,_=>by simp at e;|a::r,h,p,q,y,x,b,e,d=>by
  simp only[wQ,ζ,Φ] at h;match q,b with
  |q+1,b=>
   simp only[γP] at d;cases p with
   |zero=>
    grind;|succ p=>exact Oj h.2 p q y x (by omega) (by simp_all) d
theorem Ol {d:List Nat}:∀{l:List dq} (p q:Nat) (y x:dq),p<q->l[p]?=some y->l[q]?=some x->¬(d.getD x.idx 0).testBit y.idx=true->wL y x=false->(y.idx,x.idx)∈rB d l
 |[],p,q,y,x,_,c,_,_,_=>by simp at c;|a::r,p,q,y,x,b,c,e,g,f=>by
  simp only[rB,Γ];match q,b with
  |q+1,b=>
   simp only[γP] at e;cases p with
   |zero=>
    grind;|succ p=>exact .inr (Ol p q y x (by omega) (by simp_all) e g f)
section
variable {P:Program} {A:dK} {D:List Deferred} {call:cV} {base:Nat}
theorem Gv:∀{l:List dq} {st:St} {p:Nat} {x:dq} {t:List Nat×List Nat},l[p]?=some x->(ents call base l st)[p]?=some t->∃st',t=entry call base x st'
 |[],st,p,x,t,b,_=>by simp at b;|i::l,st,p,x,t,b,a=>by
  simp only[ents] at a;cases p with
  |zero=>grind;|succ p=>
   simp only[γP] at b a;split at a;·exact Gv b a
   ·simp at a
theorem Gw:∀{l:List dq} {st s:St} {p:Nat} {x:dq} {t:List Nat×List Nat},fV call base l st=some s->(l.map (·.idx)).Nodup->l[p]?=some x->(ents call base l st)[p]?=some t->qx (mG call base l st) x.idx=t
 |[],st,s,p,x,t,_,_,a,_=>by simp at a;|i::l,st,s,p,x,t,b,g,a,d=>by
  simp only[fV] at b;split at b
  ·rename_i j k;simp only[ι,γC] at g;have e:mG call base (i::l) st=(i.idx,entry call base i st)::mG call base l j:=by
    grind[mG,entry]
   rw[e];simp only[ents,k] at d;cases p with
   |zero=>grind[qx];|succ p=>
    simp only[γP] at a d;have c:i.idx≠x.idx:=λh=>g.1 (h▸γ3 (f:=λi:dq=>i.idx) (γA a));simp only[qx,beq_iff_eq,c,if_false];exact Gw b g.2 a d
  ·cases b
theorem Om {i:dq} {st:St} (h:i.op.cls=0):entry call base i st=([],[]):=by
 grind[entry,Gt,tO]
theorem On {i:dq} {st:St} (h:i.op.cls=1):(entry call base i st).2=[]:=by
 grind[entry,tO]
theorem Oo {a b:List Nat} (h:wK a b=true):∀j∈a,j∉b:=by
 intro j c d;have:=Φ.1 h j c;simp_all
theorem Yf {n0:Nat} {c:List Nat} {l:List dq} {st s:St} (z:fV call base l st=some s) (A:(l.map (·.idx)).Nodup) (r:wQ c l=true)
  (b:((rB c l).isEmpty||tt n0 (mG call base l st) (rB c l))=true) {p q:Nat} {y x:dq} {E D:List Nat×List Nat} (e:p<q) (i:l[p]?=some y) (j:l[q]?=some x)
  (d:(ents call base l st)[p]?=some E) (f:(ents call base l st)[q]?=some D):(c.getD x.idx 0).testBit y.idx=true\/zn n0 y E x D:=by
 rcases Oj r p q y x e i j with h|⟨g,I⟩;·exact .inl h
 by_cases u:(c.getD x.idx 0).testBit y.idx=true;·exact .inl u
 right;obtain⟨v,m⟩:=Gv i d;obtain⟨C,k⟩:=Gv j f;cases a:wL y x with
 |true=>
  unfold wL at a;simp only[Bool.or_eq_true,ζ,beq_iff_eq] at a;rcases a with(a|a)|⟨a,n⟩
  ·have:=Om (call:=call) (base:=base) (st:=v) a;rw[this] at m;subst m;exact⟨g,by simp,by simp,λh=>(by omega),by simp⟩
  ·have:=Om (call:=call) (base:=base) (st:=C) a;rw[this] at k;subst k;exact⟨g,by simp,by simp,λ_=>⟨by rw[a];decide,by simp⟩,λh=>(by omega)⟩
  ·have B:=On (call:=call) (base:=base) (st:=v) a;have w:=On (call:=call) (base:=base) (st:=C) n;rw[<-m] at B;rw[<-k] at w;exact⟨g,by simp[B],by simp[w],λh=>(by omega),λh=>(by omega)⟩;|false=>
  have M:BI y x=true:=I.resolve_left (by simp[a]);have J:=Ol p q y x e i j u a;have o:(rB c l).isEmpty=false:=by
   grind
  rw[o,Bool.false_or] at b;have t:=Φ.1 b _ J;simp only[Gw z A i d,Gw z A j f,ζ,Φ,decide_eq_true_eq] at t;obtain⟨⟨⟨F,K⟩,H⟩,G⟩:=t;refine⟨g,Oo F,Oo K,λL=>⟨λN=>?_,G⟩,λ_=>H⟩;grind[BI]
theorem cM.eq {e:Nat} {f:World} {b:bY} {d:Store} {st st':St} {a:Act} {w:World} {σ:bY} (h:cM A e D f b d st a w σ) (c:jY st st'):cM A e D f b d st' a w σ where
 fi:=c.2▸h.fi;env:=λs=>by rw[<-c.1 s,<-c.2];exact h.env s
 size:=h.size;defers:=h.defers;ext:=c.2▸h.ext
theorem cM.drew {e:Nat} {f:World} {b:bY} {d:Store} {st:St} {a:Act} {w:World} {σ:bY} (h:cM A e D f b d st a w σ):cM A e D f b d st a {w with drawn:=w.drawn+1} σ:=by
 have c:Ext w σ st.o {w with drawn:=w.drawn+1} σ st.o:=⟨φ _,λ_ _ h=>⟨rfl,h⟩,φ _,λ_ _ h=>⟨h,λ_ h=>⟨h,rfl⟩⟩,λ_ h=>⟨h,rfl⟩,rfl,rfl,rfl⟩;exact⟨⟨h.fi.len,h.fi.dist,h.fi.bnd,λi x g=>(h.fi.obj i x g).ext c rfl λ_ _ _=>rfl,h.fi.av,h.fi.jW⟩,λs=>(h.env s).ext c,h.size,h.defers,h.ext.trans c⟩
theorem Yg {c:Type} (b a:List c) (x:c):b++a=(b++x::a).eraseIdx b.length:=by
 grind
structure Gx (P:Program) (nt:Nat) (fl:List Nat) (ops:Array Oper) (call:cV) (base n0:Nat) (st2:St) (l:List dq) (listed:Array Bool) (st:St):Prop where
 run:∃s,fV call base l st=some s/\jY st2 s
 len:n0<=st.o.length
 rel:∀(p q:Nat) (y x:dq) (ty tx:List Nat×List Nat),p<q->l[p]?=some y->l[q]?=some x->(ents call base l st)[p]?=some ty->(ents call base l st)[q]?=some tx->((oN ops).getD x.idx 0).testBit y.idx=true\/zn n0 y ty x tx
 comp:∀x∈l,∃bB,rA P nt fl ops bB x.idx=some x
 nodup:(l.map (·.idx)).Nodup
 sz:listed.size=ops.size
 bK:∀k,k<ops.size->(listed.getD k true=false↔∃x∈l,x.idx=k)
 closed:∀k m,listed.getD k false=true->((oN ops).getD k 0).testBit m=true->listed.getD m false=true
theorem getD_lt {c:Array Bool} {k:Nat} (h:k<c.size) (a b:Bool):c.getD k a=c.getD k b:=by
 simp_all
theorem Yh {M:Nat} {fl:List Nat} {c:Array Oper} (K:pM P call) (a5:wM 0 c.toList=true) {n0:Nat} {st2:St} {w0:World} {L:bY} {o0:Store} {Q:Exit->Act->World->Prop}
  (hQ:∀Y w' F,cM A M D w0 L o0 st2 Y w' F->Q .normal Y w') {dh:Option Nat}:∀(h:Nat) (l:List dq) (b:Array Bool) (st:St) (a:Act) (w:World) (σ:bY),l.length<=h->
   Gx P M fl c call base n0 st2 l b st->cM A M D w0 L o0 st a w σ->wpAnyIn (FR dh) 0 P .any c Q h b a w:=by
 have C:∀(b:Array Bool) (st:St) (a:Act) (w:World) (σ:bY),Gx P M fl c call base n0 st2 [] b st->cM A M D w0 L o0 st a w σ->Q .normal a w:=by
  intro b st a w σ d O;obtain⟨s,n,h2⟩:=d.run;simp only[fV,γ] at n;subst n;exact hQ _ _ _ (O.eq h2.symm)
 have H:∀(l:List dq) (b:Array Bool) (st:St),Gx P M fl c call base n0 st2 l b st->∀(k:Nat),(∃x∈l,x.idx=k)->Region.ready .any c b≠[]:=by
  intro l b st d k;induction k using ζy with
  |_ k ih=>
   rintro⟨x,G,rfl⟩;obtain⟨V,X⟩:=d.comp x G;cases I:c[x.idx]? with
   |none=>grind[rA];|some o=>
    have j:x.idx<c.size:=(γU.1 I).1;by_cases i:∀e∈o.after,Region.binds .any e=true->b.getD e.on false=true
    ·intro u;have:x.idx∈Region.ready .any c b:=mem_ready.2 ⟨(d.bK _ j).2 ⟨x,G,rfl⟩,o,I,i⟩;simp_all
    ·simp only[Classical.not_forall] at i;obtain⟨e,he,hb,hn⟩:=i;have N:=Oi c.toList 0 a5 x.idx o (by simp_all) e he hb;simp only[Nat.zero_add] at N;refine ih e.on N ((d.bK e.on (by omega)).1 ?_);rw[getD_lt (by rw[d.sz];omega) true false];simp_all
 intro h;induction h with
 |zero=>
  intro l b st a w σ hl d O;have:l=[]:=ψ (by omega);subst this;refine⟨?_,C b st a w σ d O⟩;rw[List.eq_nil_iff_forall_not_mem];intro k j;obtain⟨h0,o,I,_⟩:=mem_ready.1 j;obtain⟨x,G,_⟩:=(d.bK k (γU.1 I).1).1 h0;simp at G;|succ h ih=>
  intro l b st a w σ hl d O;refine⟨λu=>?_,λk j=>?_⟩;·cases l with
   |nil=>grind;|cons x l=>exact absurd u (H _ b st d x.idx ⟨x,by simp,rfl⟩)
  ·obtain⟨h0,o,I,i⟩:=mem_ready.1 j;have a2:k<c.size:=(γU.1 I).1;obtain⟨x,G,rfl⟩:=(d.bK k a2).1 h0;obtain⟨f,g,rfl⟩:=List.append_of_mem G;obtain⟨s,R,S⟩:=d.run;have T:∀m,((oN c).getD x.idx 0).testBit m=true->b.getD m false=true:=by
    intro m hm;obtain⟨e,he,hb,n⟩:=Ye I hm;rcases n with rfl|n;·simp_all
    ·exact d.closed _ _ (i e he hb) n
   obtain⟨s1,s',f1,f2,f3,f4,f5⟩:=front (n0:=n0) f R d.len λp y W tx hp n h2=>by
    have a0:p<f.length:=(θ.1 hp).1;have J:(f++x::g)[p]?=some y:=by grind
    rcases d.rel p f.length y x W tx a0 J (by simp) n h2 with Z|Z
    ·exfalso;have h4:=T _ Z;obtain⟨V,X⟩:=d.comp y (γA J);cases U:c[y.idx]? with
     |none=>simp[rA,U] at X;|some oy=>
      have a6:y.idx<c.size:=(γU.1 U).1;have h5:=(d.bK _ a6).2 ⟨y,γA J,rfl⟩;grind
    ·exact Z
   obtain⟨V,X⟩:=d.comp x G;refine N7 K X f1 O λY w' F a4=>?_;have a8:=d.nodup;have a7:=Yg f g x;have v:∀(p:Nat) (y:dq),(f++g)[p]?=some y->(f++x::g)[if p<f.length then p else p+1]?=some y:=by
    grind
   have B:∀(p:Nat) (t:List Nat×List Nat),(ents call base (f++g) s1)[p]?=some t->(ents call base (f++x::g) st)[if p<f.length then p else p+1]?=some t:=by
    grind
   obtain⟨_,_,E,_⟩:=xl f1;refine ih (f++g) _ s1 Y w' F (by grind) ⟨⟨s',f2,S.trans f3⟩,Nat.le_trans d.len E,λp q y z W tz a9 hy hz a1 a3=>?_,λy hy=>d.comp y ?_,?_,by simp[d.sz],λk j=>?_,λk m j hm=>?_⟩ a4
   ·refine d.rel _ _ y z W tz ?_ (v p y hy) (v q z hz) (B p W a1) (B q tz a3);split<;>split<;>omega
   ·grind
   ·grind
   ·by_cases r:k=x.idx
    ·subst r;have n:(b.setIfInBounds x.idx true).getD x.idx true=true:=by simp
     grind
    ·rw[getD_set_ne true (Ne.symm r),d.bK k j];grind
   ·by_cases r:k=x.idx;·grind[getD_set_true]
    ·rw[getD_set_ne false (Ne.symm r)] at j;exact getD_set_true (d.closed k m j hm)
theorem Oq:∀{l:List Nat},nodupB l=true->l.Nodup
 |[],_=>List.nodup_nil
 |a::r,h=>by
  simp only[nodupB,ζ,Bool.not_eq_true',List.contains_eq_mem,decide_eq_false_iff_not] at h;exact γC.2 ⟨h.1,Oq h.2⟩
theorem Yi {b:Nat} {fl:List Nat} {a:Array Oper} {bB k:Nat} {x:dq} (h:rA P b fl a bB k=some x):x.idx=k/\k<a.size:=by
 unfold rA at h;split at h;·cases h
 ·rename_i o d;split at h
  ·obtain⟨c,_,rfl⟩:=δ.1 h;grind
  ·cases h
theorem Yj (g:pM P call) {s:Nat} {fl:List Nat} {d:Array Oper} {id k:Nat} {c:List Nat} {l:List dq} (S:u7 P s fl d 0 c=some (l,k)) (h:P.follows .mixedOrders=true)
  (C:c.length=d.size) (L:nodupB c=true) (M:wQ (oN d) l=true) (u:wM 0 d.toList=true) (r:(τ d.size).all c.contains=true)
  {b st2:St} (T:fV call b.o.length l ⟨b.env,b.o++fW k⟩=some st2)
  (G:((rB (oN d) l).isEmpty||tt (b.o++fW k).length (mG call b.o.length l ⟨b.env,b.o++fW k⟩) (rB (oN d) l))=true)
  {I:World} {n:bY} {F:Store} {a:Act} {w:World} {σ:bY} {Q:Exit->Act->World->Prop} (O:cM A s D I n F ⟨b.env,b.o++fW k⟩ a w σ) (K:∀B w' t,cM A s D I n F st2 B w' t->Q .normal B w') {dh:Option Nat}:(Code.region id d true).wpIn (FR dh) 0 P Q a w:=by
 obtain⟨Z,W⟩:=Gq S;have E:l.map (·.idx)=c:=by
  apply δd;intro j;rw[List.getElem?_map];cases f:l[j]? with
  |none=>
   simp_all;|some x=>
   have v:=(θ.1 f).1;have z:=ξ (l:=c) (i:=j) (by omega);obtain⟨X,V⟩:=W j x _ f z;rw[z];simp[(Yi V).1]
 have e:(l.map (·.idx)).Nodup:=by grind[Oq]
 refine wpIn_region_any h (Yh (fl:=fl) (base:=b.o.length) (n0:=(b.o++fW k).length) g u K d.size l _ ⟨b.env,b.o++fW k⟩ a _ σ (by omega) ⟨⟨st2,T,jY.refl _⟩,φ _,λp q y x ty tx R Y H N U=>?_,λx H=>?_,e,by simp,λj f=>?_,λj m f=>?_⟩ O.drew);·grind[Yf]
 ·obtain⟨j,f⟩:=List.getElem?_of_mem H;have v:=(θ.1 f).1;have z:=ξ (l:=c) (i:=j) (by omega);grind
 ·have J:(εj d.size false).getD j true=false:=by simp[f]
  rw[J];refine⟨λ_=>?_,λ_=>rfl⟩;have:=Φ.1 r j (List.mem_range.2 f);grind
 ·exfalso;rw[Array.getD_eq_getD_getElem?,Array.getElem?_replicate] at f;grind
end
section
variable {P:Program} {A:dK} {D:List Deferred} {w w':World} {σ σ':bY} {o o':Store}
theorem bU.fresh (i:bU A w σ o) (e:TypeId) (sz:Nat) (pu:Bool):∃a,bU A w a (o++[.cells [] e sz pu])/\Ext w σ o w a (o++[.cells [] e sz pu])/\a[o.length]?=some none:=by
 obtain⟨k,j⟩:=i.fW 1;have b:(o++Go.Vi.fW 1)[o.length]?=some .dead:=by simp[Go.Vi.fW]
 have c:(o++Go.Vi.fW 1).set o.length (.cells [] e sz pu)=o++[.cells [] e sz pu]:=by
  grind[Go.Vi.fW]
 have f:o.length<(σ++List.replicate 1 none).length:=by simp[i.len]
 obtain⟨d,g⟩:=k.upd (w':=w) (x':=.cells [] e sz pu) (s':=none) b (φ _) rfl rfl rfl (λ_ _ _=>rfl) (λ_ _ h=>by cases h) trivial (λl=>by
  simp only[dC];exact⟨λ_=>rfl,rfl,.inl ⟨by simp_all,trivial⟩⟩);rw[c] at d g;exact⟨_,d,j.trans g,by simp_all⟩
theorem Ot {n:Nat} {e:TypeId} {sz:Nat} {pu:Bool} (c:o[n]?=some (.cells [] e sz pu)) (a:σ[n]?=some none):bw A w σ o (.os n 0 0 0) (.slice none 0 0):=by
 simp only[bw];refine⟨⟨[],e,sz,pu,c,φ _⟩,none,0,rfl,φ _,λb _=>?_⟩;grind[ku]
theorem cM.Yk {t:Nat} {r:World} {g:bY} {p:Store} {st:St} {a:Act} (h:cM A t D r g p st a w σ) (id:Nat):∃i,cM A t D r g p (BF id st) a w i:=by
 unfold BF;split
 ·rename_i E e L k;have n:id<st.o.length:=(θ.1 k).1;have d:id<σ.length:=by rw[h.fi.len];exact n
  obtain⟨x,q⟩:=h.fi.upd (w':=w) (x':=.cells E e L false) (s':=σ[id]) k (φ _) rfl rfl rfl (λ_ _ _=>rfl)
   (λb c N=> .inl ⟨c,by simp_all⟩) ⟨_,e,false,rfl,by simp,λ_=>ξ d⟩ (λK=>by
    have f:=h.fi.obj id _ k;simp only[dC] at f ⊢;obtain⟨P,H,I⟩:=f;refine⟨λG=>(by cases G),H,?_⟩;rcases I with⟨O,R⟩|⟨b,l,m,Q,J,u,y,F,M⟩;·simp_all
    ·refine .inr ⟨b,l,m,?_,J,u,y,F,λj c C=>?_⟩;·simp_all
     ·obtain⟨v,z,B⟩:=M j c C;exact⟨v,z,B.ext K⟩);exact⟨_,x,λs=>(h.env s).ext q,h.size,h.defers,h.ext.trans q⟩
 grind
theorem cM.Yl {M:Nat} {P:World} {u:bY} {U:Store} {st:St} {a:Act} (h:cM A M D P u U st a w σ) (x:kq):∃C,cM A M D P u U (BG x st) a w C:=by
 obtain⟨f,I,z,V⟩:=h.fi.fresh x.e x.sz x.pu;have r:(st.o++[bQ.cells [] x.e x.sz x.pu])[st.o.length]?=some (.cells [] x.e x.sz x.pu):=by simp
 unfold BG;split
 ·split
  ·rename_i N;refine⟨f,I,λs=>?_,h.size,h.defers,h.ext.trans z⟩;simp only[dH];cases X:δA x.slot s with
   |true=>
    have:=εV X;subst this;have:=h.env x.slot;grind[gK,Ot];|false=>exact(h.env s).ext z
  ·split;·exact h.Yk _
   grind
  grind
 ·rename_i k _;split
  ·rename_i i d a1 N;split
   ·rename_i p e y pu ho;split
    ·rename_i R;split
     ·rename_i g;obtain⟨L,rfl⟩:=g;have a0:i<st.o.length:=(θ.1 ho).1;have l:i<f.length:=by grind
      have n:(st.o++[bQ.cells [] x.e x.sz x.pu])[i]?=some (.cells p e y false):=by grind
      have Z:d+k<p.length:=(θ.1 R).1;obtain⟨O,G⟩:=I.upd (w':=w) (x':=.cells (p.set (d+k) (.os st.o.length 0 0 0)) e y false) (s':=f[i]) n (φ _) rfl rfl rfl (λ_ _ _=>rfl)
       (λb c N=> .inl ⟨c,by simp_all⟩) ⟨_,e,false,rfl,by simp,λ_=>ξ l⟩ (λS=>by
        have t:=I.obj i _ n;simp only[dC] at t ⊢;obtain⟨q1,q2,q3⟩:=t;refine⟨λh=>(by cases h),?_,?_⟩
        ·refine nf.2 λc H=>?_;rcases List.mem_or_eq_of_mem_set H with T|T;·grind[nf]
         ·subst T;rfl
        ·rcases q3 with⟨_,h0⟩|⟨b,K,B,r1,W,r3,Y,r5,Q⟩;·simp_all
         ·refine .inr ⟨b,K,B,?_,W,r3,Y,by simp_all,λj c m=>?_⟩;·simp_all
          ·rw[εp] at m;split at m
           ·rename_i J;subst J;injection m with m;subst m;obtain⟨v,E,F⟩:=Q _ _ R;refine⟨v,E,?_⟩;rw[gK F];exact(Ot r V).ext S
           ·obtain⟨v,E,F⟩:=Q j c m;exact⟨v,E,F.ext S⟩);have q:(st.o++[bQ.cells [] x.e x.sz x.pu]).set i (.cells (p.set (d+k) (.os st.o.length 0 0 0)) e y false)=(st.o.set i (.cells (p.set (d+k) (.os st.o.length 0 0 0)) e y false))++[bQ.cells [] x.e x.sz x.pu]:=by
       simp_all
      rw[q] at O G;exact⟨_,O,λs=>((h.env s).ext z).ext G,h.size,h.defers,(h.ext.trans z).trans G⟩
     grind
    grind
   grind
  grind
theorem cM.Ym {t:Nat} {r:World} {f:bY} {p:Store} {st:St} {a:Act} (h:cM A t D r f p st a w σ) (id:Nat):∃i,cM A t D r f p (zb id st) a w i:=by
 unfold zb;split
 ·rename_i G e x k;split
  ·rename_i E;have n:id<st.o.length:=(θ.1 k).1;have d:id<σ.length:=by rw[h.fi.len];exact n
   obtain⟨y,q⟩:=h.fi.upd (w':=w) (x':=.cells G e x true) (s':=σ[id]) k (φ _) rfl rfl rfl (λ_ _ _=>rfl)
    (λb c N=> .inl ⟨c,by simp_all⟩) ⟨_,e,true,rfl,by simp,λ_=>ξ d⟩ (λH=>by
     have g:=h.fi.obj id _ k;simp only[dC] at g ⊢;obtain⟨P,F,K⟩:=g;refine⟨λ_=>E,F,?_⟩;rcases K with⟨O,R⟩|⟨b,l,m,Q,L,u,z,I,M⟩;·simp_all
     ·refine .inr ⟨b,l,m,?_,L,u,z,I,λj c B=>?_⟩;·simp_all
      ·obtain⟨v,C,J⟩:=M j c B;exact⟨v,C,J.ext H⟩);exact⟨_,y,λs=>(h.env s).ext q,h.size,h.defers,h.ext.trans q⟩
  grind
 grind
theorem cM.hint {f:Nat} {g:World} {b:bY} {e:Store} {st:St} {a:Act} {lo:Nat} (l:e.length<=lo) (h:cM A f D g b e st a w σ) (x:kq):∃d,cM A f D g b e (jV lo x st) a w d:=by
 unfold jV;split;·exact h.Yl x
 ·split
  ·rename_i o _ _ _ _;split
   ·rename_i p;have m:=Nat.le_of_ble_eq_true p;obtain⟨k,h⟩:=h.Ym o;unfold BH;simp only;split
    ·rename_i q t n j;have c:=NZ j;exact⟨_,h.fi.bT c,λs=>bw.bT h.fi c _ _ _ (NW n s) (h.env s),h.size,h.defers,h.ext.bT c λi r=>by
      grind⟩
    grind
   grind
  grind
theorem Ou {s:World} {f:bY} {h:Store} (j:bU A w σ o) (g:Ext s f h w σ o) {l r:AV} {u:Value} (y:bw A w σ o l u) {own:Bool} (a:finish own h.length l o=some (r,o')):
  ∃d,bU A w d o'/\bw A w d o' r u/\Ext s f h w d o':=by
 unfold finish at a;cases own with
 |true=>grind[XJ];|false=>
  simp only[χ,if_false] at a;split at a
  ·rename_i D;split at a
   ·rename_i C m;simp only[γ,κ] at a;obtain⟨rfl,rfl⟩:=a;have t:h=[]:=ψ D;subst t;refine⟨[],B5 w j.jW,Ge j (λb _ a=>a.2) 6 l C u m (λq _ b c p=>j.av q b c p) y,g.size,λb v B=>⟨(g.blk b v B).1,λ⟨i,c,z⟩=>by simp at z⟩,φ _,λq x k=>?_,λq k=>?_,g.os,g.tape,g.output⟩;·obtain⟨G,e,F,E,n,_⟩:=k;simp at n
    ·obtain⟨H,I,E,n⟩:=k;simp at n
   ·cases a
  ·cases a
end
open Go.RowKit
section
variable {A:dK} {w w':World} {σ:bY} {o:Store}
mutual
theorem bw.to (hc:∀(p:Addr) (v:Value),w.cell? p=some v->w'.cell? p=some v):∀(c:AV) (v:Value),bw A w σ o c v->bw A w' σ o c v
 | .ud,_,_=>by simp[bw];| .sc u,v,hr=>by simpa[bw] using hr;| .agg cs,v,hr=>by
  simp only[bw] at hr ⊢;obtain⟨vs,rfl,hl⟩:=hr;exact⟨vs,rfl,bD.to hc cs _ hl⟩;| .bH cs,v,hr=>by
  simp only[bw] at hr ⊢;obtain⟨vs,rfl,hl⟩:=hr;exact⟨vs,rfl,bD.to hc cs _ hl⟩;| .sl n cs,v,hr=>by
  simp only[bw] at hr ⊢;obtain⟨a,cap,rfl,hn,hq,hm⟩:=hr;exact⟨a,cap,rfl,hn,hq,dB.to hc cs a 0 hm⟩;| .ep cs off,v,hr=>by
  simp only[bw] at hr ⊢;obtain⟨a,rfl,hq,hm⟩:=hr;exact⟨a,rfl,hq,dB.to hc cs _ 0 hm⟩;| .ptr id off tot,v,hr=>by simpa only[bw] using hr;| .os id off len tot,v,hr=>by simpa only[bw] using hr;| .mp id,v,hr=>by simpa only[bw] using hr;| .fn f a b,v,hr=>by
  simp only[bw] at hr ⊢;obtain⟨a',b',rfl,ha,hb⟩:=hr;exact⟨a',b',rfl,bD.to hc a _ ha,bD.to hc b _ hb⟩;| .iV t cs,v,hr=>by
  simp only[bw] at hr ⊢;obtain⟨vs,rfl,hp,hl⟩:=hr;exact⟨vs,rfl,hp,bD.to hc cs _ hl⟩
theorem bD.to (hc:∀(p:Addr) (v:Value),w.cell? p=some v->w'.cell? p=some v):∀(cs:List AV) (vs:List Value),bD A w σ o cs vs->bD A w' σ o cs vs
 |[],_,h=>by simpa[bD] using h;|c::cs,vs,h=>by
  simp only[bD] at h ⊢;obtain⟨v,r,rfl,hv,hl⟩:=h;exact⟨v,r,rfl,bw.to hc c v hv,bD.to hc cs r hl⟩
theorem dB.to (hc:∀(p:Addr) (v:Value),w.cell? p=some v->w'.cell? p=some v):∀(cs:List AV) (a:Option Addr) (j:Nat),dB A w σ o cs a j->dB A w' σ o cs a j
 |[],_,_,_=>by simp[dB];|c::cs,a,j,h=>by
  simp only[dB] at h ⊢;obtain⟨⟨b,v,rfl,hf,hv,hr⟩,hl⟩:=h;exact⟨⟨b,v,rfl,hf,hc _ _ hv,bw.to hc c v hr⟩,dB.to hc cs _ (j+1) hl⟩
end
theorem bU.to (a:bU A w σ o) (t:∀(p:Addr) (v:Value),w.cell? p=some v->w'.cell? p=some v) (J:∀(i b c:Nat),σ[i]?=some (some (b,c))->w'.heap[b]?=w.heap[b]?)
  (d:w.heap.size<=w'.heap.size):bU A w' σ o:=by
 refine⟨a.len,a.dist,λi b c h=>γu (a.bnd i b c h) d,λi x F=>?_,a.av,λb h=>γu (a.jW b h) d⟩;have h:=a.obj i x F;cases x with
 |dead=>grind[dC];|cells N e K H=>
  simp only[dC] at h ⊢;refine⟨h.1,h.2.1,?_⟩;rcases h.2.2 with s|⟨b,n,g,k,u,y,l,D,C⟩;·exact .inl s
  ·refine .inr ⟨b,n,g,k,u,by grind,l,D,λj c q=>?_⟩;obtain⟨v,I,f⟩:=C j c q;exact⟨v,I,f.to t c v⟩;|map M L H=>
  simp only[dC] at h ⊢;obtain⟨s,r,b,c,E,G,k,u,y,l⟩:=h;refine⟨s,r,b,c,E,G,k,by grind,y,λj e q=>?_⟩;obtain⟨m,B,z,f⟩:=l j e q;exact⟨m,B,z,f.to t e.2 _⟩
theorem zp {r b:Nat} {y:Obj} (h:b≠r):(w.putObj r y).heap[b]?=w.heap[b]?:=by
 simp_all[World.putObj,Ne.symm]
theorem putObj_size {r:Nat} {y:Obj}:(w.putObj r y).heap.size=w.heap.size:=by simp_all
theorem Ov {r:Nat} {x y:Obj} (h:w.heap[r]?=some x) (b:x.isCells=false) (p:Addr) (v:Value) (a:w.cell? p=some v):(w.putObj r y).cell? p=some v:=by
 grind[cells_of_cell,World.cell?_of_block,zp]
theorem bU.tP (a:bU A w σ o) {r:Nat} {x y:Obj} (h:w.heap[r]?=some x) (d:x.isCells=false) (g:¬Own σ r):bU A (w.putObj r y) σ o:=
 a.to (Ov h d) (λi b c f=>zp λe=>g ⟨i,c,e▸f⟩) (by simp_all)
theorem bw.tP {c:AV} {v:Value} (a:bw A w σ o c v) {r:Nat} {x y:Obj} (h:w.heap[r]?=some x) (b:x.isCells=false):bw A (w.putObj r y) σ o c v:=
 a.to (Ov h b) c v
theorem Ext.tP {c:World} {a:bY} {d:Store} (h:Ext c a d w σ o) {r:Nat} {y:Obj} (g:c.heap.size<=r):Ext c a d (w.putObj r y) σ o where
 size:=by rw[putObj_size];exact h.size
 blk:=λb e f=>by
  obtain⟨i,j⟩:=h.blk b e f;grind[zp]
 len:=h.len;cur:=h.cur;isMap:=h.isMap;os:=h.os;tape:=h.tape;output:=h.output
theorem Ce {P:Program} {t:Func} {a:Array Value} {m:World} {D:List Deferred} {R:Ending->World->Prop}:∀(j:List Deferred) (w:World),tM m w j->bU A w σ o->
  (∀w',bU A w' σ o->(∀{c:bY} {q:Store},Ext m c q w σ o->Ext m c q w' σ o)->(∀s v,bw A w σ o s v->bw A w' σ o s v)->LeavesInM (FR none) 0 P t a R D .returning w')->
  LeavesInM (FR none) 0 P t a R (j++D) .returning w
 |[],w,_,f,k=>k w f (λh=>h) (λ_ _ h=>h)
 |d::j,w,g,f,k=>by
  obtain⟨r,x,n,i⟩:=g.2 d (by simp);have C:=f.Gp i (by simp) (by simp);simp only[γE,LeavesInM];refine⟨by simp,.inl ⟨r,w.putObj r (.deferred none),by rw[x],run_takeDeferred i,?_⟩⟩;refine Ce j _ ⟨(γx.1 g.1).2,λe p=>?_⟩ (f.tP i rfl C) λw' y z E=>k w' y (λh=>z (h.tP n)) (λs v h=>E s v (h.tP i rfl));obtain⟨B,l,b,u⟩:=g.2 e (δa _ p);refine⟨B,l,b,?_⟩;have:=(γx.1 g.1).1 e p;grind[zp]
theorem Gy {P:Program} {m:World}:∀(f:List Deferred) (w:World) (fr:Frame) (cs:List Frame),fr.mode= .returning->fr.defers=f->tM m w f->bU A w σ o->
  ∃w',StepsIn (Machine.fenced P (FR none)) P (lone fr cs w) (lone {fr with defers:=[]} cs w')/\bU A w' σ o/\(∀{a:bY} {u:Store},Ext m a u w σ o->Ext m a u w' σ o)/\∀s v,bw A w σ o s v->bw A w' σ o s v
 |[],w,fr,cs,_,k,_,l=>by
  refine⟨w,?_,l,λh=>h,λ_ _ h=>h⟩;have:fr={fr with defers:=[]}:=by rw[<-k]
  rw[<-this];exact StepsIn.refl _;|d::f,w,fr,cs,x,k,j,l=>by
  obtain⟨r,p,q,i⟩:=j.2 d (by simp);have C:=l.Gp i (by simp) (by simp);have b:fr.mode≠ .run:=by rw[x];simp
  have I:=step_collected (cs:=cs) b k (by rw[p]) (run_takeDeferred (P:=P) i);have H:(lone fr cs w).fenced P (FR none):=fenced_out (n:=0) trivial (by simp[FR,Fence.wide,Fence.room]) b k (λg J=>by grind[Target.leads]);obtain⟨w',E,z,F,D⟩:=Gy f (w.putObj r (.deferred none)) {fr with defers:=[]++f} cs x rfl ⟨(γx.1 j.1).2,λe y=>by
   obtain⟨G,t,c,B⟩:=j.2 e (δa _ y);refine⟨G,t,c,?_⟩;have:=(γx.1 j.1).1 e y;grind[zp]⟩ (l.tP i rfl C);exact⟨w',.head H I E,z,λh=>F (h.tP q),λs v h=>D s v (h.tP i rfl)⟩
theorem Yn {P:Program} {f:FuncId} {m:Func} {c:Code} {args:Array Value} {u:FrameMode} {w:World} {R:Ending->World->Prop}
  (E:P.funcs[f]?=some m) (S:m.body=some c)
  (h:c.wpIn (FR none) 0 P (λe a r=>(e= .normal\/e= .ret)/\∃(q:World) (g:bY) (l:Store),tM q r a.defers/\bU A r g l/\∀i,bU A i g l->(∀{n:bY} {I:Store},Ext q n I r g l->Ext q n I i g l)->(∀s v,bw A r g l s v->bw A i g l s v)->
   ∃v,(results m a.tmps).run P i= .ok v i/\R (.returned v) i) {tmps:=args++εj (m.ntmps - args.size) undef,defers:=[]} w):
  CallsDIn (FR none) 0 P f args u w λe L w'=>L=u/\R e w':=by
 refine⟨trivial,λd z Q J=>?_⟩;let b:Frame:={(default:Frame) with fn:=f,kind:=.deferred,roundOf:=none};have k:Frame.enter P f args .deferred=
   b.atR {tmps:=args++εj (m.ntmps - args.size) undef,defers:=[]} [.code c]:=by
  grind[Frame.enter,Frame.atR]
 have F:({d with mode:=u}:Frame)=d:=by subst Q;rfl
 obtain⟨e,p,w',O,j⟩:=h b [] (d::z) rfl trivial J;rw[<-k] at j;obtain⟨N,q,g,l,H,K,G⟩:=O;rcases N with rfl|rfl
 ·obtain⟨i,C,t,y,B⟩:=Gy (P:=P) p.defers w' {b.atR p [] with mode:=.returning} (d::z) rfl rfl H K;obtain⟨v,D,x⟩:=G i t y B;exact⟨.returned v,u,i,_,⟨rfl,x⟩,(by rw[F];exact StepsIn.trans (StepsIn.trans j (.one (fenced_calm (fr:=b.atR p []) trivial J rfl) (stepR_end rfl))) C),rfl,rfl,rfl,rfl,m,E,D⟩
 ·obtain⟨o,M⟩:=j.1 rfl;obtain⟨i,C,t,y,B⟩:=Gy (P:=P) p.defers w' {b.atR p o with mode:=.returning} (d::z) rfl rfl H K;obtain⟨v,D,x⟩:=G i t y B;exact⟨.returned v,u,i,_,⟨rfl,x⟩,(by rw[F];exact StepsIn.trans M C),rfl,rfl,rfl,rfl,m,E,D⟩
end
open Go.RowKit
def Out.tQ:Out->Exit
 | .norm=> .normal
 | .exit a=> .exit a
 | .ret=> .ret
 | .goto l=> .goto l
section
variable {P:Program} {A:dK} {D:List Deferred} {w w':World} {σ σ':bY} {o o':Store}
theorem Yo (a:List Nat) (env:jg) (s:Nat):dH (prune a env) s=dH env s\/dH (prune a env) s= .ud:=by
 unfold prune;induction a with
 |nil=>right;rfl;|cons x a b=>
  simp only[ι,dH];cases c:δA x s<;>simp_all
theorem Yp (t:Nat) (env:jg) (s:Nat):dH (rm t env) s=dH env s\/dH (rm t env) s= .ud:=by
 induction env with
 |nil=>left;rfl;|cons p env c=>
  simp only[rm];cases a:δA p.1 t with
  |true=>
   simp only[cond_true];by_cases d:p.1=s
   ·have e:=εV a;right;have:∀env:jg,dH (rm t env) t= .ud:=by
     intro env;induction env with
     |nil=>rfl;|cons q env c=>
      simp only[rm];cases b:δA q.1 t with
      |true=>simp_all;|false=>simp_all[dH]
    simp_all
   ·have:dH (p::env) s=dH env s:=by
     simp only[dH];have:δA p.1 s=false:=by
      cases h:δA p.1 s<;>simp_all
     rw[this];rfl
    simp_all;|false=>
   simp only[cond_false,dH];grind
theorem cM.drop {d:Nat} {e:World} {b:bY} {c:Store} {st:St} {a:Act} (h:cM A d D e b c st a w σ) (x:Operand):cM A d D e b c ⟨pJ x st.env,st.o⟩ a w σ where
 fi:=h.fi;env:=λs=>by
  unfold pJ;split
  ·rename_i t;rcases Yp t st.env s with f|f;·simp only[f];exact h.env s
   grind[bw]
  ·exact h.env s
 size:=h.size;defers:=h.defers;ext:=h.ext
theorem cM.prune {e:Nat} {f:World} {c:bY} {d:Store} {st:St} {a:Act} (h:cM A e D f c d st a w σ) (b:List Nat):cM A e D f c d ⟨ζF b st.env,st.o⟩ a w σ where
 fi:=h.fi;env:=λs=>by
  rcases Yo b st.env s with g|g;·simp only[g];exact h.env s
  grind[bw]
 size:=h.size;defers:=h.defers;ext:=h.ext
theorem Yq {env:jg} {s:Nat}:dH env s= .ud\/∃p∈env,p.2=dH env s:=by
 induction env<;>grind[dH]
theorem cM.trim {g:Nat} {f:World} {b:bY} {d:Store} {st:St} {a:Act} (h:cM A g D f b d st a w σ) {k:Nat} (i:d.length<=k):∃c,cM A g D f b d (Go.Vi.trim k st) a w c:=by
 unfold Go.Vi.trim;split;·grind
 ·split
  ·rename_i e;simp only[ζ,Φ] at e;refine⟨σ.take k,⟨h.fi.take e.2,λs=>?_,h.size,h.defers,h.ext.take i⟩⟩;grind[Yq,env,bw,bw.take]
  grind
theorem cM.fW {e:Nat} {g:World} {b:bY} {d:Store} {st:St} {a:Act} (h:cM A e D g b d st a w σ) (n:Nat):∃c,cM A e D g b d ⟨st.env,st.o++Go.Vi.fW n⟩ a w c:=by
 obtain⟨i,f⟩:=h.fi.fW n;exact⟨_,i,λs=>(h.env s).ext f,h.size,h.defers,h.ext.trans f⟩
theorem cM.rh {e:Nat} {f:World} {c:bY} {d:Store} {st:St} {a:Act} (h:cM A e D f c d st a w σ) {k:Nat} (g:d.length<=k):∃b,cM A e D f c d ⟨st.env,Go.Vi.rh k st.o⟩ a w b:=by
 obtain⟨b,l,j,i⟩:=XF h.fi k;exact⟨b,l,λs=>j _ _ (h.env s),h.size,h.defers,i _ _ _ g h.ext⟩
theorem cM.len {d:Nat} {e:World} {b:bY} {c:Store} {st:St} {a:Act} (h:cM A d D e b c st a w σ):c.length<=st.o.length:=h.ext.len
theorem cM.hints {nt:Nat} {w0:World} {lQ:bY} {o0:Store} {lo:Nat} (hlo:o0.length<=lo) (l:List kq):∀{st:St} {a:Act} {σ:bY},cM A nt D w0 lQ o0 st a w σ->∃σ',cM A nt D w0 lQ o0 (l.foldl (λs h=>jV lo h s) st) a w σ':=by
 induction l with
 |nil=>intro st a σ h;exact⟨σ,h⟩;|cons x l ih=>
  intro st a σ h;obtain⟨σ1,h1⟩:=cM.hint hlo h x;exact ih h1
theorem Yr {dh:Option Nat} {call:cV} (hcall:pM P call) {lo nt:Nat} {H:List RH} {id:Nat} {ops:Array Oper} {draw:Bool} {c:IR} (hc:wR P nt H id ops draw=some c):
  ∃k l kr live pre post,c= .region id draw k l kr live pre post/\∀{st st':St},pI call k l kr (pre.foldl (λs h=>jV lo h s) st)=some st'->∀{w0:World} {lQ:bY} {o0:Store} {a:Act} {w:World} {σ:bY},o0.length<=lo->cM A nt D w0 lQ o0 st a w σ->
   (Code.region id ops draw).wpIn (FR dh) 0 P (λe a' w'=>e= .normal/\∃σ',cM A nt D w0 lQ o0 (post.foldl (λs h=>jV lo h s) ⟨ζF live st'.env,st'.o⟩) a' w' σ') a w:=by
 unfold wR at hc;split at hc;·cases hc
 ·rename_i h hh;have fin:∀(k:Nat) (l:List dq) (kr:List (Nat×Nat)),(∀{st1 st2:St},fV call st1.o.length l ⟨st1.env,st1.o++fW k⟩=some st2->(kr.isEmpty||tt (st1.o++fW k).length (mG call st1.o.length l ⟨st1.env,st1.o++fW k⟩) kr)=true->
     ∀{w0:World} {lQ:bY} {o0:Store} {a:Act} {w:World} {σ:bY} {Q:Exit->Act->World->Prop},cM A nt D w0 lQ o0 ⟨st1.env,st1.o++fW k⟩ a w σ->(∀a' w' σ',cM A nt D w0 lQ o0 st2 a' w' σ'->Q .normal a' w')->(Code.region id ops draw).wpIn (FR dh) 0 P Q a w)->
    ∀{st st':St},pI call k l kr (h.pre.foldl (λs h=>jV lo h s) st)=some st'->∀{w0:World} {lQ:bY} {o0:Store} {a:Act} {w:World} {σ:bY},o0.length<=lo->cM A nt D w0 lQ o0 st a w σ->
     (Code.region id ops draw).wpIn (FR dh) 0 P (λe a' w'=>e= .normal/\∃σ',cM A nt D w0 lQ o0 (h.post.foldl (λs h=>jV lo h s) ⟨ζF h.live st'.env,st'.o⟩) a' w' σ') a w:=by
   intro k l kr hrun st st' hr w0 lQ o0 a w σ hlo hs;obtain⟨σ1,hs1⟩:=cM.hints hlo h.pre hs;generalize agD:h.pre.foldl (λs h=>jV lo h s) st=st1 at hr hs1;unfold pI at hr;simp only at hr;split at hr
   ·rename_i st2 h2;split at hr
    ·rename_i Gz;injection hr with hr;obtain⟨σ2,hs2⟩:=hs1.fW k;refine hrun h2 Gz hs2 λa' w' σ' h3=>⟨rfl,?_⟩;have h4:∃Ox,cM A nt D w0 lQ o0 st' a' w' Ox:=by
      subst hr;by_cases hk:k=0;·simp only[hk,if_true];exact⟨σ',h3⟩
      ·simp only[hk,if_false];exact h3.rh hs1.len
     obtain⟨Ox,h4⟩:=h4;exact cM.hints hlo h.post (h4.prune h.live)
    ·cases hr
   ·cases hr
  cases draw with
  |false=>
   simp only[χ,if_false] at hc;obtain⟨⟨l,k⟩,hl,rfl⟩:=δ.1 hc;refine⟨k,l,[],h.live,h.pre,h.post,rfl,fin k l [] λ{st1 st2} h2 _ w0 lQ o0 a w σ Q hs hQ=>?_⟩;obtain⟨g1,g2⟩:=Gq hl;exact wpIn_region (N8 hcall l (τ ops.size) g1 g2 _ _ a w σ h2 hs hQ);|true=>
   simp only[if_true] at hc;generalize (if h.perm.isEmpty=true then τ ops.size else h.perm)=perm at hc;split at hc
   ·rename_i l k hl;split at hc
    ·rename_i hcond;injection hc with hc;refine⟨k,l,rB (oN ops) l,h.live,h.pre,h.post,hc.symm,fin k l _ λ{st1 st2} h2 Gz w0 lQ o0 a w σ Q hs hQ=>?_⟩;simp only[ζ,beq_iff_eq] at hcond;exact Yj hcall hl hcond.1.1.1.1.1 hcond.1.1.1.1.2 hcond.1.1.1.2 hcond.1.1.2 hcond.1.2 hcond.2 h2 Gz hs hQ
    ·cases hc
   ·cases hc
def vn (_:Program) (dh:Option Nat) (_:dK->World->bY->Store->Prop):Md->Prop
 | .plain=>dh=none
def Closed (B:dK->World->bY->Store->Prop):Prop:=∀A w c o b a d,B A w c o->Ext w c o b a d->B A b a d
theorem Ys {call:cV} (m:pM P call) {dh:Option Nat} {B:dK->World->bY->Store->Prop} {md:Md} (G:vn P dh B md) (F:Closed B) {lo r:Nat} {H:List RH} {id:Nat} {p:Array Oper} {d:Bool} {c:IR} (y:wR P r H id p d=some c):
  ∃k l j f g b,c= .region id d k l j f g b/\∀{st st':St},FO md d call k l j (g.foldl (λs h=>jV lo h s) st)=some st'->∀{q:World} {i:bY} {n:Store} {a:Act} {w:World} {σ:bY},B A q i n->n.length<=lo->cM A r D q i n st a w σ->
   (Code.region id p d).wpIn (FR dh) 0 P (λe x w'=>e= .normal/\∃u,cM A r D q i n (b.foldl (λs h=>jV lo h s) ⟨ζF f st'.env,st'.o⟩) x w' u) a w:=by
 obtain⟨k,l,j,f,g,b,v,E⟩:=Yr (dh:=dh) m (A:=A) (lo:=lo) y;refine⟨k,l,j,f,g,b,v,?_⟩;intro st st' z q i n a w σ _ t C;exact E z t C
structure ky (P:Program) (T:Tab):Prop where
 fn:∀f F,T.fn f=some F->∃fn H,P.funcs[f]?=some fn/\BP P H fn=some F/\gJ P f=true
 K:∀f args o own r o',T.K f args o own=some (r,o')->gJ P f=true/\lv P f args o r o'/\(own=false->o'=[])
def zq (P:Program) (T:Tab) (n:Nat):Prop:=
 ∀(g:Option Nat) (m:Md) (B:dK->World->bY->Store->Prop),vn P g B m->Closed B->
 ∀(o:Nat) (c:IR) (p:St) (h:Out) (f:St),exec T m n o c p=some (h,f)->∀(j:Nat) (H:List RH) (b:Code),comp P j H b=some c->∀(D:List Deferred) (A:dK) (l:World) (d:bY) (i:Store) (a:Act) (w:World) (q:bY),B A l d i->i.length<=o->cM A j D l d i p a w q->
  b.wpIn (FR g) 0 P (λe s r=>e=h.tQ/\∃k,cM A j D l d i f s r k) a w
def zr:dK->World->bY->Store->Prop:=λ_ _ _ _=>True
theorem Cf:Closed zr:=λ_ _ _ _ _ _ _ _ _=>trivial
theorem Oy:∀(k:Nat) (args:List AV) (s:Nat),dH (gZ k args) s=if k<=s then(args[s - k]?).getD .ud else .ud
 |k,[],s=>by simp[gZ,dH];|k,v::b,s=>by
  simp only[gZ,dH];by_cases h:k=s;·subst h;simp
  ·have a:δA k s=false:=by
    cases a:δA k s<;>simp_all
   simp only[a,cond_false];rw[Oy (k+1) b s];grind
def zt (a:Array Value):ResultVar->Sem Value
 | .tmp t=>pure (a.getD t undef)
 | .cell x t=>do loadVar t (<-asAddr (a.getD x undef))
theorem Yt (b:Func) (a:Array Value):results b a=(do let vs <-b.results.mapM (zt a);pure (if h:vs.size=1 then vs[0] else .tuple vs)):=by
 unfold results;congr 1
theorem Yu {m:Nat} {i:World} {e:bY} {l:Store} {st:St} {a:Act} (h:cM A m D i e l st a w σ) {f:ResultVar} {g:nc} (d:sA P f=some g) {r:AV} (c:ri st g=some r):
  ∃u,(zt a.tmps f).run P w= .ok u w/\bw A w σ st.o r u:=by
 cases f with
 |tmp t=>
  simp only[sA,γ] at d;subst d;simp only[ri,γ] at c;subst c;exact⟨_,rfl,h.env t⟩;|cell x t=>
  simp only[sA,δ] at d;obtain⟨n,j,rfl⟩:=d;simp only[ri] at c;split at c
  ·rename_i y s k;obtain⟨p,z,b⟩:=(h.env x).Nk h.fi k;obtain⟨u,v,q⟩:=Nl (P:=P) j b c;grind[zt,asAddr]
  ·cases c
theorem GF {K:Nat} {Q:World} {t:bY} {N:Store} {st:St} {a:Act} (h:cM A K D Q t N st a w σ) {m:Func} {H:List nc} (O:ry (sA P) m.results.toList=some H) {r:AV} (j:nT st H=some r):
  ∃u,(results m a.tmps).run P w= .ok u w/\bw A w σ st.o r u:=by
 obtain⟨n,S⟩:=FZ O;unfold nT at j;have z:∀(c:List ResultVar) (b:List nc) (g:List AV),c.length=b.length->(∀(i:Nat) (x:ResultVar) (y:nc),c[i]?=some x->b[i]?=some y->sA P x=some y)->b.mapM (ri st)=some g->
   ∃d:List Value,(c.mapM (zt a.tmps)).run P w= .ok d w/\bD A w σ st.o g d:=by
  intro c;induction c with
  |nil=>
   intro b g l _ f;have:b=[]:=ψ (by simp_all);simp_all[bD];|cons x c R=>
   intro b g l G f;match b,l with
   |y::b,l=>
    rw[List.mapM_cons] at f;cases s:ri st y with
    |none=>simp[s] at f;|some v=>
     cases e:b.mapM (ri st) with
     |none=>simp_all;|some C=>
      simp[s,e] at f;subst f;obtain⟨u,U,M⟩:=Yu h (G 0 x y (by simp) (by simp)) s;obtain⟨d,B,E⟩:=R b C (by grind) (λi p q J T=>G (i+1) p q (by simpa using J) (by simpa using T)) e;refine⟨u::d,?_,by grind[bD]⟩;simp_all
 have F:∀d:List Value,(m.results.toList.mapM (zt a.tmps)).run P w= .ok d w->
   (results m a.tmps).run P w= .ok (if h:d.length=1 then d[0]'(by omega) else .tuple d.toArray) w:=by
  grind[Yt,Array.mapM_eq_mapM_toList,Sem.run_bind,Sem.run_map,Result.andThen_ok,Sem.run_pure]
 split at j;·grind[bD]
 ·rename_i g I f;injection j with j;subst j;obtain⟨d,B,l⟩:=z _ _ _ n S f;have k:=bD.length _ _ l;have L:¬d.length=1:=by
   intro n;match g,k.trans n with
   |[v],_=>simp_all
  grind[bw]
 ·cases j
theorem GG {a:Nat} {args:List AV} {vs:List Value} (d:bU A w σ o) (b:bD A w σ o args vs) (j:args.length<=a):cM A a [] w σ o ⟨gZ 0 args,o⟩ {tmps:=vs.toArray++εj (a - vs.toArray.size) undef,defers:=[]} w σ:=by
 have i:=bD.length _ _ b;refine⟨d,λs=>?_,?_,⟨[],rfl,δB,by simp⟩,Ext.refl _ _ _⟩
 ·simp only[Oy,Nat.zero_le,if_true,Nat.sub_zero];cases h:args[s]? with
  |none=>simp[bw];|some c=>
   obtain⟨v,e,g⟩:=bD.get _ _ b s c h;have f:s<vs.length:=(θ.1 e).1;have:(vs.toArray++εj (a - vs.toArray.size) undef).getD s undef=v:=by
    simp_all[Array.getElem?_append_left]
   simp_all
 ·simp;omega
theorem Yv {T:Tab} {n:Nat} (W:zq P T n) {md:Md} {B:dK->World->bY->Store->Prop} (N:vn P none B md) (L:Closed B) {f:FuncId} {c:Func} {g:Code} {H:List RH} {b:IR} {E:List nc}
  (t:P.funcs[f]?=some c) (i:c.body=some g) (X:comp P c.ntmps H g=some b) (y:ry (sA P) c.results.toList=some E) (Q:¬c.ntmps<c.params.size+c.nfree)
  {args:List AV} {out:Out} {st:St} (C:args.length=c.params.size+c.nfree) (j:out= .norm\/out= .ret) (m:exec T md n o.length b ⟨gZ 0 args,o⟩=some (out,st)) {G r:AV} (z:nT st E=some G) {own:Bool} (q:finish own o.length G st.o=some (r,o'))
  {vs:List Value} (x:B A w σ o) (J:bU A w σ o) (I:bD A w σ o args vs):
  CallsIn (FR none) 0 P f vs.toArray w λe w'=>∃u a,e= .returned u/\bU A w' a o'/\bw A w' a o' r u/\Ext w σ o w' a o':=by
 have M:=bD.length _ _ I;refine callsIn_of_wp_marks (F:=FR none) t i trivial (wpIn_mono (W none md B N L _ b _ out st m c.ntmps H g X [] A w σ o {tmps:=vs.toArray++εj (c.ntmps - vs.toArray.size) undef,defers:=[]} w σ x (φ _) (GG J I (by omega))) ?_)
 ·rintro e p w' ⟨rfl,a,d⟩;have k:LeavesInM (FR none) 0 P c p.tmps (λe w'=>∃u a,e= .returned u/\bU A w' a o'/\bw A w' a o' r u/\Ext w σ o w' a o') p.defers .returning w':=by
   obtain⟨K,v,U⟩:=d.defers;rw[v];refine Ce K w' U d.fi λS R V O=>?_;simp only[LeavesInM,LeavesIn];have h:cM A c.ntmps [] w σ o st {p with defers:=[]} S a:=⟨R,λs=>O _ _ (d.env s),d.size,⟨[],rfl,δB,by simp⟩,V d.ext⟩;obtain⟨u,Y,l⟩:=GF h y z;have D:=Ou h.fi h.ext l q;simp_all
  rcases j with rfl|rfl;·exact k
  ·exact k
theorem Oz {out:Out} (h:rk out=true):out= .norm\/out= .ret:=by
 grind[rk]
theorem Yw {P:Program} {j:Nat} {H:List RH} {g:FuncId} {e:List Operand} {d:Nat} {a b:IR} (c:Code):comp P j H c≠some (.tn g e d a b):=by
 intro h;cases c with
 |region k i f=>
  simp only[comp] at h;unfold wR at h;split at h;·cases h
  ·split at h;·grind
   simp_all;|seq x y=>grind[comp];|cond c x y=>
  grind[comp];|_=>simp[comp] at h
theorem Yx {f:Array Oper} {g:FuncId} {e:List Operand} {d:Nat} (h:BO f=some (g,e,d)):∃i j a b c,f.toList=[i,j]/\i.dst=some d/\i.op= .makeFunc (.func g) a b/\i.guard=none/\j.op= .defer c/\j.dst=none/\j.guard=none/\c.callee= .value (.tmp d)/\a.toList=[]/\c.args.toList=[]/\b.toList=e:=by
 grind[BO]
theorem Yy {n:Nat} {id:Nat} {e:Array Oper} {g:FuncId} {f:List Operand} {d:Nat} (H:BO e=some (g,f,d)) (p:d<n) {st:St} {a:Act} {F:World} {l:bY} {G:Store} (h:cM A n D F l G st a w σ) {Q:Exit->Act->World->Prop}
  (I:∀(r:Act) (vs:List Value),bD A w σ st.o (f.map (eC st.env)) vs->cM A n ({target:=.fn (.func g) vs.toArray,args:=#[]}::a.defers) w σ st.o ⟨(d,.ud)::st.env,st.o⟩ r w σ->Q .normal r w):
  (Code.region id e false).wpIn (FR none) 0 P Q a w:=by
 obtain⟨k,u,x,b,c,t,q,U,X,S,J,V,R,N,T,rfl⟩:=Yx H;have L:e[0]?=some k:=by rw[<-δD,t];rfl
 have z:e[1]?=some u:=by rw[<-δD,t];rfl
 have B:e.size=2:=by grind[Array.length_toList]
 have W:x=#[]:=εf (by omega);have O:c.args=#[]:=εf (by omega);refine wpIn_region ?_;rw[B];show wpOpsIn (FR none) 0 P e Q [0,1] a w;rw[wpOpsIn_cons];unfold wpOpIn;simp only[L];rw[if_pos (by grind[Region.wanted])];unfold Oper.wpIn;rw[show(FR none).round=none from rfl,Oper.semAt_none];refine⟨λ_ _=>trivial,?_⟩;have E:(execOp a.eval k).run P w= .ok (.value (.func (.func g) #[] (b.map a.eval))) w:=by
  simp_all[execOp,Instr.makeFunc]
 rw[E,Oper.uponIn_value,wpOpsIn_cons];have C:d<a.tmps.size:=by rw[h.size];exact p
 have m:(a.put k.dst (.func (.func g) #[] (b.map a.eval))).eval (.tmp d)= .func (.func g) #[] (b.map a.eval):=by
  simp_all[Act.put,Act.eval]
 generalize i:a.put k.dst (.func (.func g) #[] (b.map a.eval))=K at m;unfold wpOpIn;simp only[z];rw[if_pos (by grind[Region.wanted])];unfold Oper.wpIn;rw[show(FR none).round=none from rfl,Oper.semAt_none];refine⟨λ_ _=>trivial,?_⟩;have y:(execOp K.eval u).run P w= .ok (.defer {target:=.fn (.func g) (b.map a.eval),args:=#[]}) w:=by
  simp_all[execOp,resolve,Deferred.ofValue]
 rw[y,Oper.uponIn_defer,J];show Q .normal _ w;have j:bD A w σ st.o (b.toList.map (eC st.env)) (b.toList.map a.eval):=vf (λx=>h.ev x) b.toList;refine I _ (b.toList.map a.eval) j ⟨h.fi,λs=>?_,?_,⟨[],?_,δB,by simp⟩,Ext.refl _ _ _⟩
 ·subst i;by_cases M:d=s;·simp_all[dH,bw]
  ·have v:δA d s=false:=by
    cases v:δA d s<;>simp_all
   simp only[dH,v,cond_false];have:=h.env s;simp_all[Act.put]
 ·subst i;simp[q,Act.put,h.size]
 ·subst i;simp[q,Act.put];grind
theorem Yz {T:Tab} {n:Nat} (Q:zq P T n) {v:Nat} {H:List RH} {lo:Nat} {C:World} {p:bY} {D:Store} (I:D.length<=lo) {g:FuncId} {m:List Operand} {d:Nat} {S:IR} {s0 s2:St} {out:Out}
  (J:exec T .plain n s0.o.length S ⟨(d,.ud)::s0.env,s0.o⟩=some (out,s2)):∀(f:Code) (z:IR) (st:St) (a:Act) (w:World) (σ:bY),u9 P v H f=some (z,(g,m,d),S)->rj (exec T .plain n lo) z st=some s0->cM A v [] C p D st a w σ->
  f.wpIn (FR none) 0 P (λe B w'=>e=out.tQ/\gJ P g=true/\∃(q:World) (j t:bY) (R:List Deferred) (vs:List Value),tM C q R/\bU A q j s0.o/\Ext C p D q j s0.o/\bD A q j s0.o (m.map (eC s0.env)) vs/\
   cM A v ({target:=.fn (.func g) vs.toArray,args:=#[]}::R) q j s0.o s2 B w' t) a w:=by
 intro f;induction f with
 |seq c l _ G=>
  intro z st a w σ k i h;cases c with
  |region W K N=>
   unfold u9 at k;split at k
   ·rename_i x X _;split at k
    ·rename_i y;obtain⟨b,Y,O⟩:=δ.1 k;simp only[κ] at O;obtain⟨rfl,rfl,rfl⟩:=O;simp only[rj,γ] at i;subst i;refine wpIn_seq (Yy X y.1 h λE vs V s=>?_);show l.wpIn _ _ _ _ E w;obtain⟨ms,U,Z⟩:=h.defers;refine wpIn_mono (Q none .plain zr rfl Cf _ b _ out s2 J v H l Y _ A w σ st.o E w σ trivial (φ _) s) ?_;rintro e B w' ⟨rfl,t,L⟩;exact⟨rfl,y.2,w,σ,t,a.defers,vs,by simp_all,h.fi,h.ext,V,L⟩
    ·cases k
   ·split at k
    ·rename_i r B x b hr F;simp only[γ,κ] at k;obtain⟨rfl,rfl,rfl⟩:=k;simp only[rj] at i;split at i
     ·rename_i u M;refine wpIn_seq (wpIn_mono (Q none .plain zr rfl Cf lo r st .norm u M v H (.region W K _) (by grind[comp]) [] A C p D a w σ trivial I h) ?_);rintro e E q ⟨rfl,j,s⟩;exact G B u E q j F i s
     ·cases i
    ·cases k;|_=>simp[u9] at k
 |_=>
  intro z st a w σ k;simp[u9] at k
theorem YA {T:Tab} (hT:ky P T) {n:Nat} (ih:zq P T n) {f:FuncId} {fn:Func} {code:Code} {H:List RH} {ia ib:IR} {g:FuncId} {caps:List Operand} {d:Nat} {rs:List nc}
  (hfn:P.funcs[f]?=some fn) (hcode:fn.body=some code) (hb:u9 P fn.ntmps H code=some (ia,(g,caps,d),ib)) (hrs:ry (sA P) fn.results.toList=some rs) (hnt:¬fn.ntmps<fn.params.size+fn.nfree)
  {args:List AV} {out Ci:Out} {s0 s2 s3:St} (hlen:args.length=fn.params.size+fn.nfree) (hout:out= .norm\/out= .ret) (h1:rj (exec T .plain n o.length) ia ⟨gZ 0 args,o⟩=some s0) (h2:exec T .plain n s0.o.length ib ⟨(d,.ud)::s0.env,s0.o⟩=some (out,s2))
  {F:fh} (hF:T.fn g=some F) (hcl:(caps.map (eC s0.env)).length=F.params) (hre:F.res=[]) (h3:exec T .plain n s2.o.length F.body ⟨gZ 0 (caps.map (eC s0.env)),s2.o⟩=some (Ci,s3)) (agE:Ci= .norm\/Ci= .ret)
  {r0 r:AV} (hr0:nT ⟨s2.env,s3.o⟩ rs=some r0) {own:Bool} (hfi:finish own o.length r0 s3.o=some (r,o'))
  {vs:List Value} (hS:bU A w σ o) (hr:bD A w σ o args vs):
  CallsIn (FR none) 0 P f vs.toArray w λe w'=>∃u σ',e= .returned u/\bU A w' σ' o'/\bw A w' σ' o' r u/\Ext w σ o w' σ' o':=by
 have hvl:=bD.length _ _ hr;obtain⟨fg,Hg,hfg,hcg,hgg⟩:=hT.fn g F hF;obtain⟨cg,YB,YC,hpg,hrg⟩:∃cg,fg.body=some cg/\comp P fg.ntmps Hg cg=some F.body/\F.params<=fg.ntmps/\ry (sA P) fg.results.toList=some []:=by
  unfold BP at hcg;split at hcg;·cases hcg
  ·rename_i cg agF;split at hcg
   ·rename_i b rs' hb' agG;split at hcg;·cases hcg
    ·rename_i agH;injection hcg with hcg;subst hcg;simp only at h3 hre ⊢;subst hre;unfold FQ at hb';split at hb';·simp_all
     ·obtain⟨x,_,rfl⟩:=δ.1 hb';cases n<;>simp[exec] at h3
   ·cases hcg
 refine callsIn_of_wp_marks (F:=FR none) hfn hcode trivial (wpIn_mono (Yz ih (φ _) h2 code ia _ _ w σ hb h1 (GG hS hr (by omega))) ?_);rintro e a' w' ⟨rfl,hg,w1,σ1,σ',ds,cv,hM1,hS1,hE1,hcv,hs'⟩;have key:LeavesInM (FR none) 0 P fn a'.tmps (λe w'=>∃u σ',e= .returned u/\bU A w' σ' o'/\bw A w' σ' o' r u/\Ext w σ o w' σ' o') a'.defers .returning w':=by
  obtain⟨ms,hms,hM⟩:=hs'.defers;rw[hms];refine Ce ms w' hM hs'.fi λw2 q1 q3 q4=>?_;simp only[LeavesInM];refine⟨by simp,.inr ⟨λh=>by grind[FR,Fence.wide],.func g,cv.toArray,g,cv.toArray,rfl,by simp[invoke,Cb hg],λ_ _=>trivial,?_⟩⟩;have OA:bD A w2 σ' s2.o (caps.map (eC s0.env)) cv:=by
   have e1:Ext w1 σ1 s0.o w' σ' s2.o:=hs'.ext;grind[bD.ext]
  have agI:=bD.length _ _ OA;refine CallsDIn.mono (Yn (A:=A) hfg YB (R:=λe w3=>∃u σ3,e= .returned u/\bU A w3 σ3 s3.o/\Ext w2 σ' s2.o w3 σ3 s3.o) (wpIn_mono (ih none .plain zr rfl Cf _ F.body _ Ci s3 h3 fg.ntmps Hg cg YC [] A w2 σ' s2.o _ w2 σ' trivial (φ _) (GG q1 OA (by omega))) ?_)) ?_
  ·rintro e a3 w3 ⟨rfl,σ3,hs3⟩;obtain⟨ms3,YD,hM3⟩:=hs3.defers;rw[γZ] at YD;refine⟨by grind[Out.tQ],w2,σ3,s3.o,by simp_all,hs3.fi,λw4 k1 k2 k3=>?_⟩;have hs4:cM A fg.ntmps [] w2 σ' s2.o s3 {a3 with defers:=[]} w4 σ3:=⟨k1,λs=>k3 _ _ (hs3.env s),hs3.size,⟨[],rfl,δB,by simp⟩,k2 hs3.ext⟩;obtain⟨u,hu,_⟩:=GF hs4 hrg (r:=.bH []) rfl;exact⟨u,hu,u,σ3,rfl,k1,k2 hs3.ext⟩
  ·rintro e u' w3 ⟨rfl,u,σ3,rfl,p1,p2⟩;show LeavesInM (FR none) 0 P fn a'.tmps _ ds (settle .returning) w3;rw[show settle FrameMode.returning= .returning from rfl,<-γZ ds];have e13:Ext w1 σ1 s0.o w3 σ3 s3.o:=(q3 hs'.ext).trans p2;refine Ce ds w3 (hM1.ext hS1 e13) p1 λw4 t1 t3 t4=>?_;simp only[LeavesInM,LeavesIn];have hs4:cM A fn.ntmps [] w σ o ⟨s2.env,s3.o⟩ {a' with defers:=[]} w4 σ3:=⟨t1,λs=>t4 _ _ ((q4 _ _ (hs'.env s)).ext p2),hs'.size,⟨[],rfl,δB,by simp⟩,t3 (hE1.trans e13)⟩;obtain⟨u,hu,oP⟩:=GF hs4 hrs hr0;have hfin:=Ou hs4.fi hs4.ext oP hfi;simp_all
 rcases hout with rfl|rfl;·exact key
 ·exact key
theorem OB {T:Tab} (N:ky P T) {n:Nat} (ih:zq P T n):pM P (qA T (exec T .plain n)):=by
 intro f e o m r I c;unfold qA at c;split at c
 ·rename_i x hK;injection c with c;subst c;exact N.K _ _ _ _ _ _ hK
 ·split at c;·cases c
  ·rename_i F J;obtain⟨fn,H,y,a,hg⟩:=N.fn f F J;split at c
   ·rename_i k;unfold BP at a;split at a;·cases a
    ·rename_i a0 j;split at a
     ·rename_i b rs i D;split at a;·cases a
      ·rename_i E;injection a with a;subst a;simp only at c k;have p:∀{t:AV} {u:St},finish m o.length t u.o=some (r,I)->m=false->I=[]:=λl ho=>by
        subst ho;unfold finish at l;grind
       unfold FQ at i;split at i
       ·rename_i V S;injection i with i;subst i;have R:∀(x:Option (Out×St)),tu T (exec T .plain n) o.length V ⟨gZ 0 e,o⟩=x->exec T .plain n o.length V ⟨gZ 0 e,o⟩=x:=λx hx=>by
         unfold tu at hx;grind[Yw]
        have a1:∀(h:Out) (u:St),(h= .norm\/h= .ret)->tu T (exec T .plain n) o.length V ⟨gZ 0 e,o⟩=some (h,u)->∀t,nT u rs=some t->finish m o.length t u.o=some (r,I)->
          gJ P f=true/\lv P f e o r I/\(m=false->I=[]):=by
         intro h u G Q t s l;exact⟨hg,λA w σ vs L U=>(callsIn_wide (n:=0)).1 (Yv ih (md:=.plain) (B:=zr) rfl Cf y j S D E k G (R _ Q) s l trivial L U),p l⟩
        grind
       ·obtain⟨⟨ia,⟨g,q,d⟩,ib⟩,S,rfl⟩:=δ.1 i;simp only[tu] at c;cases W:rj (exec T .plain n o.length) ia ⟨gZ 0 e,o⟩ with
        |none=>simp_all;|some v=>
        simp only[W] at c;cases h2:exec T .plain n v.o.length ib ⟨(d,.ud)::v.env,v.o⟩ with
        |none=>simp_all;|some x2=>
        obtain⟨h,Y⟩:=x2;simp only[h2] at c;cases Z:rk h with
        |false=>simp_all;|true=>
        simp only[Z,if_true] at c;unfold FN at c;cases J:T.fn g with
        |none=>simp_all;|some O=>
        simp only[J] at c;by_cases M:(q.map (eC v.env)).length=O.params/\O.res.isEmpty=true
        ·rw[if_pos M] at c;cases X:exec T .plain n Y.o.length O.body ⟨gZ 0 (q.map (eC v.env)),Y.o⟩ with
         |none=>simp_all;|some x3=>
         obtain⟨C,s3⟩:=x3;simp only[X] at c;cases z:rk C with
         |false=>simp_all;|true=>
         simp only[z,if_true] at c;split at c
         ·rename_i t s;exact⟨hg,λA w σ vs L U=>(callsIn_wide (n:=0)).1 (YA N ih y j S D E k (Oz Z) W h2 J M.1 (List.isEmpty_iff.1 M.2) X (Oz z) s c L U),p c⟩
         ·cases c
        simp_all
     ·cases a
   ·cases c
end
open Go.RowKit
section
variable {P:Program} {A:dK} {D:List Deferred} {w w':World} {σ σ':bY} {o o':Store}
theorem YE {dh:Option Nat} {Q:Exit->Act->World->Prop} {a:Act} {w:World} {c:Code} (h:c.wpIn (FR dh) 0 P (Exit.noGoto Q) a w):(Code.scope c).wpIn (FR dh) 0 P Q a w:=by
 intro b k n o p m;obtain⟨e,d,f,j,g⟩:=h b (.inScope c::k) n o p m;have s:step P (lone (b.atR a (.code (.scope c)::k)) n w)= .next (lone (b.atR a (.code c:: .inScope c::k)) n w):=step_lone_go (by simp[stepG,stepG.exec,Frame.atR]);have q:step P (lone (b.atR d (.inScope c::k)) n f)= .next (lone (b.atR d k) n f):=step_lone_go (by simp[stepG,stepG.exec,Frame.atR]);have i:=StepsIn.one (I:=Machine.fenced P (FR dh)) (fenced_calm (fr:=b.atR a (.code (.scope c)::k)) p m rfl) s;cases e with
 |normal=>exact⟨.normal,d,f,j,(StepsIn.trans i (StepsIn.trans g (.one (fenced_calm (fr:=b.atR d (.inScope c::k)) p m rfl) q)))⟩;|exit u=>exact⟨.exit u,d,f,j,.of_steps i ⟨λr t=>g.1 r (by grind[exitTo]),λm t=>by obtain⟨x,z,v⟩:=g.2 m (by grind[exitTo]);grind⟩⟩;|goto l=>exact j.elim;|ret=>exact⟨_,d,f,j,.of_steps i g⟩;|panic y=>exact⟨_,d,f,j,.of_steps i g⟩;|outgrown=>exact⟨_,d,f,j,.of_steps i g⟩
def zu (dh:Option Nat) (P:Program) (b:Code) (l:Nat) (Q:Exit->Act->World->Prop):Nat->Code->Act->World->Prop
 |0,_,_,_=>False
 |n+1,x,a,w=>x.wpIn (FR dh) 0 P (λe d c=>match e with
   | .goto f=>f=l/\zu dh P b l Q n b d c
   |e=>Q e d c) a w
theorem YF {dh:Option Nat} {Q:Exit->Act->World->Prop} {a:Act} {w:World} {c i:Code} {l:Nat} (S:findLabel c l=some i) {n:Nat} (h:zu dh P i l Q n c a w):(Code.scope c).wpIn (FR dh) 0 P Q a w:=by
 intro b k p A y t;have E:gotoIn l (.inScope c::k)=some (.code i:: .inScope c::k):=by grind[gotoIn]
 have B:∀n x a w,zu dh P i l Q n x a w->∃e u v,Q e u v/\ArrivesIn (Machine.fenced P (FR dh)) P (lone (b.atR a (.code x:: .inScope c::k)) p w) b k p e u v:=by
  intro n;induction n with
  |zero=>intro x a w h;exact h.elim;|succ n J=>
   intro x a w h;obtain⟨e,d,g,m,f⟩:=h b (.inScope c::k) p A y t;have G:step P (lone (b.atR d (.inScope c::k)) p g)= .next (lone (b.atR d k) p g):=step_lone_go (by simp[stepG,stepG.exec,Frame.atR]);cases e with
   |normal=>exact⟨.normal,d,g,m,StepsIn.trans f (.one (fenced_calm (fr:=b.atR d (.inScope c::k)) y t rfl) G)⟩;|exit K=>exact⟨.exit K,d,g,m,λD C=>f.1 D (by grind[exitTo]),λt C=>by obtain⟨M,O,N⟩:=f.2 t (by grind[exitTo]);grind⟩;|goto L=>
    obtain⟨rfl,H⟩:=m;obtain⟨q,r,s,o,j⟩:=J i d g H;exact⟨q,r,s,o,.of_steps (f.1 _ E) j⟩;|ret=>exact⟨_,d,g,m,f⟩;|panic R=>exact⟨_,d,g,m,f⟩;|outgrown=>exact⟨_,d,g,m,f⟩
 have F:step P (lone (b.atR a (.code (.scope c)::k)) p w)= .next (lone (b.atR a (.code c:: .inScope c::k)) p w):=step_lone_go (by simp[stepG,stepG.exec,Frame.atR]);have z:=StepsIn.one (I:=Machine.fenced P (FR dh)) (fenced_calm (fr:=b.atR a (.code (.scope c)::k)) y t rfl) F;obtain⟨e,u,v,m,f⟩:=B n c a w h;exact⟨e,u,v,m,.of_steps z f⟩
theorem YG {b:Code} {l c:Nat} {H:List RH} {x:IR} (h:BN b=some l) (d:comp P c H b=some x):∃a,findLabel b l=some a/\comp P c H a=some x:=by
 unfold BN at h;grind[findLabel,comp]
theorem OC {T:Tab} (hT:ky P T):∀n,zq P T n/\(∀(dh:Option Nat) (md:Md) (B:dK->World->bY->Store->Prop),vn P dh B md->Closed B->∀(lo:Nat) (b:IR) (st:St) (out:Out) (st':St),exec T md n lo (.loop b) st=some (out,st')->∀(q:Nat) (H:List RH) (f:Code),comp P q H f=some b->∀(D:List Deferred) (A:dK) (r:World) (d:bY) (m:Store) (a:Act) (w:World) (σ:bY),B A r d m->
   m.length<=lo->cM A q D r d m st a w σ->Code.roundsIn (FR dh) 0 P f (λe v w'=>e=out.tQ/\∃u,cM A q D r d m st' v w' u) n a w)/\∀(dh:Option Nat) (md:Md) (B:dK->World->bY->Store->Prop),vn P dh B md->Closed B->∀(lo l:Nat) (b:IR) (st:St) (out:Out) (st':St),exec T md n lo (.turns (some l) b) st=some (out,st')->∀(q:Nat) (H:List RH) (f s:Code),comp P q H f=some b->comp P q H s=some b->∀(D:List Deferred) (A:dK) (r:World) (d:bY) (m:Store) (a:Act) (w:World) (σ:bY),B A r d m->
   m.length<=lo->cM A q D r d m st a w σ->zu dh P s l (λe v w'=>e=out.tQ/\∃u,cM A q D r d m st' v w' u) n f a w
 |0=>⟨λdh md B _ _ lo c st out st' h=>by grind[exec],λdh md B _ _ lo b st out st' h=>by grind[exec],λdh md B _ _ lo l b st out st' h=>by grind[exec]⟩
 |n+1=>by
  obtain⟨I,a0,Z⟩:=OC hT n;have M:∀(dh:Option Nat) (md:Md) (B:dK->World->bY->Store->Prop),vn P dh B md->Closed B->∀(lo:Nat) (b:IR) (st:St) (out:Out) (st':St),exec T md (n+1) lo (.loop b) st=some (out,st')->∀(q:Nat) (H:List RH) (f:Code),comp P q H f=some b->∀(D:List Deferred) (A:dK) (r:World) (d:bY) (m:Store) (a:Act) (w:World) (σ:bY),B A r d m->
    m.length<=lo->cM A q D r d m st a w σ->Code.roundsIn (FR dh) 0 P f (λe v w'=>e=out.tQ/\∃u,cM A q D r d m st' v w' u) (n+1) a w:=by
   intro dh md B C E lo b st out st' h q H f p D A r d m a w σ j i t;simp only[exec] at h;split at h
   ·rename_i F Q;have O:=I dh md B C E lo b st .norm F Q q H f p _ A r d m a w σ j i t;rw[roundsIn_succ];refine wpIn_mono O ?_;rintro e v w' ⟨rfl,u,g⟩;obtain⟨N,L⟩:=g.trim (k:=st.o.length) t.len;exact a0 dh md B C E lo b _ out st' h q H f p _ A r d m v w' N j i L
   ·rename_i K;have O:=I dh md B C E lo b st out st' h q H f p _ A r d m a w σ j i t;rw[roundsIn_succ];refine wpIn_mono O ?_;rintro e v w' ⟨rfl,g⟩;cases out with
    |norm=>simp_all;|exit S=>exact⟨rfl,g⟩;|ret=>exact⟨rfl,g⟩;|goto l=>exact⟨rfl,g⟩
  have R:∀(dh:Option Nat) (md:Md) (B:dK->World->bY->Store->Prop),vn P dh B md->Closed B->∀(lo l:Nat) (b:IR) (st:St) (out:Out) (st':St),exec T md (n+1) lo (.turns (some l) b) st=some (out,st')->∀(q:Nat) (H:List RH) (f s:Code),comp P q H f=some b->comp P q H s=some b->∀(D:List Deferred) (A:dK) (r:World) (d:bY) (m:Store) (a:Act) (w:World) (σ:bY),B A r d m->
    m.length<=lo->cM A q D r d m st a w σ->zu dh P s l (λe v w'=>e=out.tQ/\∃u,cM A q D r d m st' v w' u) (n+1) f a w:=by
   intro dh md B C E lo l b st out st' h q H f s p hr D A r d m a w σ j i t;simp only[exec] at h;split at h
   ·rename_i l' F Q;split at h
    ·rename_i U;injection U with U;subst U;refine wpIn_mono (I dh md B C E lo b st (.goto l) F Q q H f p _ A r d m a w σ j i t) ?_;rintro e v w' ⟨rfl,u,g⟩;obtain⟨N,L⟩:=g.trim (k:=st.o.length) t.len;exact⟨rfl,Z dh md B C E lo l b _ out st' h q H s s hr hr _ A r d m v w' N j i L⟩
    ·cases h
   ·rename_i K;refine wpIn_mono (I dh md B C E lo b st out st' h q H f p _ A r d m a w σ j i t) ?_;rintro e v w' ⟨rfl,g⟩;cases out with
    |norm=>exact⟨rfl,g⟩;|exit S=>exact⟨rfl,g⟩;|ret=>exact⟨rfl,g⟩;|goto l=>simp_all
  refine⟨λdh md B C E lo c st out st' h q H f p D A r d m a w σ j i t=>?_,M,R⟩;cases f with
  |skip=>
   simp only[comp,γ] at p;subst p;simp only[exec,γ,κ] at h;obtain⟨rfl,rfl⟩:=h;exact wpIn_skip ⟨rfl,σ,t⟩;|scope b=>
   simp only[comp] at p;obtain⟨V,J,rfl⟩:=δ.1 p;cases U:BN b with
   |some l=>
    grind[YG,YF];|none=>
    rw[U] at h;simp only[exec] at h;refine YE ?_;split at h;·simp_all
    ·rename_i K;refine wpIn_mono (I dh md B C E lo V st out st' h q H b J _ A r d m a w σ j i t) ?_;rintro e v w' ⟨rfl,g⟩;cases out with
     |norm=>exact⟨rfl,g⟩;|exit S=>exact⟨rfl,g⟩;|ret=>exact⟨rfl,g⟩;|goto l=>simp_all
  |goto l=>
   simp only[comp,γ] at p;subst p;simp only[exec,γ,κ] at h;obtain⟨rfl,rfl⟩:=h;exact wpIn_goto ⟨rfl,σ,t⟩;|label l=>
   simp only[comp,γ] at p;subst p;simp only[exec,γ,κ] at h;obtain⟨rfl,rfl⟩:=h;exact wpIn_label ⟨rfl,σ,t⟩;|region S a8 a3=>
   simp only[comp] at p;obtain⟨k,l,a4,a1,a7,a2,rfl,hw⟩:=Ys (OB hT I) C E (A:=A) (lo:=lo) p;simp only[exec] at h;split at h
   ·rename_i a5 h2;simp only[γ,κ] at h;obtain⟨rfl,rfl⟩:=h;exact hw h2 j i t
   ·cases h;|seq x y=>
   simp only[comp] at p;split at p
   ·rename_i V W J X;injection p with p;subst p;simp only[exec] at h;split at h
    ·rename_i F Q;refine wpIn_seq (wpIn_mono (I dh md B C E lo V st .norm F Q q H x J _ A r d m a w σ j i t) ?_);rintro e v w' ⟨rfl,u,g⟩;exact I dh md B C E lo W F out st' h q H y X _ A r d m v w' u j i g
    ·rename_i K;refine wpIn_seq (wpIn_mono (I dh md B C E lo V st out st' h q H x J _ A r d m a w σ j i t) ?_);rintro e v w' ⟨rfl,g⟩;cases out with
     |norm=>simp_all;|exit S=>exact⟨rfl,g⟩;|ret=>exact⟨rfl,g⟩;|goto l=>exact⟨rfl,g⟩
   ·cases p;|cond x y z=>
   simp only[comp] at p;split at p
   ·rename_i W z' X hz;injection p with p;subst p;by_cases hk:M9 H x=true
    ·rw[if_pos hk] at h;simp only[exec] at h;have J:=t.ev x;split at h
     ·rename_i G;rw[G] at J;exact wpIn_cond_true (gK J) (I dh md B C E lo W _ out st' h q H y X _ A r d m a w σ j i t)
     ·rename_i G;rw[G] at J;exact wpIn_cond_false (gK J) (I dh md B C E lo z' _ out st' h q H z hz _ A r d m a w σ j i t)
     ·cases h
    rw[if_neg hk] at h;simp only[exec] at h;have J:=t.ev x;split at h
    ·rename_i G;rw[G] at J;exact wpIn_cond_true (gK J) (I dh md B C E lo W _ out st' h q H y X _ A r d m a w σ j i (t.drop x))
    ·rename_i G;rw[G] at J;exact wpIn_cond_false (gK J) (I dh md B C E lo z' _ out st' h q H z hz _ A r d m a w σ j i (t.drop x))
    ·cases h
   ·cases p;|block S b=>
   simp only[comp] at p;obtain⟨b',O,rfl⟩:=δ.1 p;simp only[exec] at h;split at h
   ·rename_i Y F Q;refine wpIn_block (wpIn_mono (I dh md B C E lo b' st (.exit Y) F Q q H b O _ A r d m a w σ j i t) ?_);rintro e v w' ⟨rfl,g⟩;simp only[Out.tQ,Exit.inBlock];grind
   ·rename_i K;refine wpIn_block (wpIn_mono (I dh md B C E lo b' st out st' h q H b O _ A r d m a w σ j i t) ?_);rintro e v w' ⟨rfl,g⟩;cases out with
    |norm=>exact⟨rfl,g⟩;|exit a6=>simp_all;|ret=>exact⟨rfl,g⟩;|goto l=>exact⟨rfl,g⟩
  |loop b=>
   simp only[comp] at p;obtain⟨b',O,rfl⟩:=δ.1 p;grind[wpIn_loop_rounds];|exit S=>
   simp only[comp,γ] at p;subst p;simp only[exec,γ,κ] at h;obtain⟨rfl,rfl⟩:=h;exact wpIn_exit ⟨rfl,σ,t⟩;|ret=>
   simp only[comp,γ] at p;subst p;simp only[exec,γ,κ] at h;obtain⟨rfl,rfl⟩:=h;exact wpIn_ret ⟨rfl,σ,t⟩;|_=>grind[comp]
theorem OD {T:Tab} (a:ky P T) (n:Nat):pM P (qA T (exec T .plain n)):=OB a (OC a n).1
end
def Ev (T:Tab) (md:Nat->Md) (lo:Nat) (c:IR) (st:St) (r:Out×St):Prop:=∃N,∀m n,N<=m->N<=n->exec T (md m) n lo c st=some r
abbrev zw:Nat->Md:=λ_=> .plain
section
variable {T:Tab} {md:Nat->Md} {lo:Nat} {st st1 st':St} {r:Out×St} {a b:IR} {out:Out}
theorem Ev.mk (N:Nat) (h:∀m n,N<=m->N<=n->exec T (md m) (n+1) lo a st=some r):Ev T md lo a st r:=
 ⟨N+1,λm n c b=>by
  match n,b with
  |n+1,b=>grind⟩
theorem Ev.skip:Ev T md lo .skip st (.norm,st):=.mk 0 λ_ _ _ _=>by simp only[exec]
theorem Ev.ret:Ev T md lo .ret st (.ret,st):=.mk 0 λ_ _ _ _=>by simp only[exec]
theorem Ev.exit {id:Nat}:Ev T md lo (.exit id) st (.exit id,st):=.mk 0 λ_ _ _ _=>by simp only[exec]
theorem Ev.seq (h:Ev T md lo a st (.norm,st1)) (k:Ev T md lo b st1 r):Ev T md lo (.seq a b) st r:=by
 obtain⟨N,h⟩:=h;obtain⟨M,k⟩:=k;exact .mk (N+M) λm n c d=>by simp only[exec,h m n (by omega) (by omega),k m n (by omega) (by omega)]
theorem Ev.YH (h:Ev T md lo a st (out,st1)) (c:out≠ .norm):Ev T md lo (.seq a b) st (out,st1):=by
 obtain⟨N,h⟩:=h;exact .mk N λm n e d=>by
  simp_all[exec]
theorem Ev.YI {x:Operand} (d:eC st.env x= .sc (.bool true)) (h:Ev T md lo a ⟨pJ x st.env,st.o⟩ r):Ev T md lo (.cond x a b) st r:=by
 obtain⟨N,h⟩:=h;exact .mk N λm n c e=>by simp_all[exec]
theorem Ev.YJ {x:Operand} (d:eC st.env x= .sc (.bool false)) (h:Ev T md lo b ⟨pJ x st.env,st.o⟩ r):Ev T md lo (.cond x a b) st r:=by
 obtain⟨N,h⟩:=h;exact .mk N λm n c e=>by simp_all[exec]
theorem Ev.oJ {x:Operand} {q:Bool} (g:eC st.env x= .sc (.bool q)) (e:q=true->Ev T md lo a st r) (d:q=false->Ev T md lo b st r):Ev T md lo (.oJ x a b) st r:=by
 cases q with
 |true=>
  obtain⟨N,h⟩:=e rfl;exact .mk N λm n c f=>by simp_all[exec];|false=>
  obtain⟨N,h⟩:=d rfl;exact .mk N λm n c f=>by simp_all[exec]
def Out.inBlock (id:Nat):Out->Out
 | .exit a=>if a=id then .norm else .exit a
 |o=>o
theorem Ev.block {id:Nat} (h:Ev T md lo a st (out,st1)):Ev T md lo (.block id a) st (out.inBlock id,st1):=by
 obtain⟨N,h⟩:=h;exact .mk N λm n b c=>by
  simp only[exec,h m n b c];cases out<;>grind[exit,Out.inBlock]
theorem Ev.YK (h:Ev T md lo a st (.norm,st1)) (k:Ev T md lo (.loop a) (trim st.o.length st1) r):Ev T md lo (.loop a) st r:=by
 obtain⟨N,h⟩:=h;obtain⟨M,k⟩:=k;exact .mk (N+M) λm n b c=>by
  simp only[exec,h m n (by omega) (by omega)];grind
theorem Ev.YL (h:Ev T md lo a st (out,st1)) (b:out≠ .norm):Ev T md lo (.loop a) st (out,st1):=by
 obtain⟨N,h⟩:=h;exact .mk N λm n d c=>by
  simp_all[exec]
theorem Ev.goto {l:Nat}:Ev T md lo (.goto l) st (.goto l,st):=.mk 0 λ_ _ _ _=>by simp only[exec]
theorem Ev.YM {l:Nat} (h:Ev T md lo a st (.goto l,st1)) (k:Ev T md lo (.turns (some l) a) (trim st.o.length st1) r):Ev T md lo (.turns (some l) a) st r:=by
 obtain⟨N,h⟩:=h;obtain⟨M,k⟩:=k;exact .mk (N+M) λm n b c=>by
  simp only[exec,h m n (by omega) (by omega),if_true];grind
theorem Ev.OE {l:Option Nat} (h:Ev T md lo a st (out,st1)) (c:∀b,out≠ .goto b):Ev T md lo (.turns l a) st (out,st1):=by
 obtain⟨N,h⟩:=h;exact .mk N λm n e d=>by
  simp_all[exec]
theorem Ev.region {id k:Nat} {b:Bool} {f:List dq} {d:List (Nat×Nat)} {a:List Nat} {e c:List kq}
  (h:∃N,∀g m,N<=m->FO (md m) b (qA T g) k f d (e.foldl (λs h=>jV lo h s) st)=some st'):
  Ev T md lo (.region id b k f d a e c) st (.norm,c.foldl (λs h=>jV lo h s) ⟨prune a st'.env,st'.o⟩):=by
 obtain⟨N,h⟩:=h;exact .mk N λm n i _=>by simp_all[exec]
theorem YN {P:Program} (i:ky P T) {f:FuncId} {F:fh} (l:T.fn f=some F) {args:List AV} {o:Store} {own:Bool} (g:T.K f args o own=none) (d:args.length=F.params)
  (h:Ev T zw o.length F.body ⟨gZ 0 args,o⟩ (out,st')) (c:out= .norm\/out= .ret) {b v:AV} {o':Store} (k:nT st' F.res=some b) (a:finish own o.length b st'.o=some (v,o')):
  gJ P f=true/\lv P f args o v o'/\(own=false->o'=[]):=by
 obtain⟨N,h⟩:=h;refine OD i N f args o own v o' ?_;unfold qA;rw[g];have h:=h N N (φ _) (φ _);have j:tu T (exec T .plain N) o.length F.body ⟨gZ 0 args,o⟩=some (out,st'):=by
  unfold tu;split
  ·rename_i e;rw[e] at h;cases N<;>simp[exec] at h
  ·exact h
 grind
theorem YP {P:Program} (A:ky P T) {f:FuncId} {F:fh} (z:T.fn f=some F) {g:FuncId} {a:List Operand} {d:Nat} {w u:IR} (e:F.body= .tn g a d w u) {args:List AV} {o:Store} {own:Bool} (E:T.K f args o own=none) (k:args.length=F.params)
  {s0 s2 s3:St} {b:Out} {G:fh} (t:∃N,∀n,N<=n->rj (exec T .plain n o.length) w ⟨gZ 0 args,o⟩=some s0) (s:Ev T zw s0.o.length u ⟨(d,.ud)::s0.env,s0.o⟩ (out,s2)) (l:rk out=true)
  (D:T.fn g=some G) (q:(a.map (eC s0.env)).length=G.params) (p:G.res.isEmpty=true) (r:Ev T zw s2.o.length G.body ⟨gZ 0 (a.map (eC s0.env)),s2.o⟩ (b,s3)) (c:rk b=true)
  {x v:AV} {o':Store} (C:nT ⟨s2.env,s3.o⟩ F.res=some x) (m:finish own o.length x s3.o=some (v,o')):
  gJ P f=true/\lv P f args o v o'/\(own=false->o'=[]):=by
 obtain⟨h,t⟩:=t;obtain⟨j,s⟩:=s;obtain⟨i,r⟩:=r;refine OD A (h+j+i) f args o own v o' ?_;unfold qA;rw[E];simp only[z,if_pos k,e,tu,t _ (show h<=h+j+i by omega)];have y:=s (h+j+i) (h+j+i) (by omega) (by omega);have B:=r (h+j+i) (h+j+i) (by omega) (by omega);simp only[y,l,if_true,FN,D,if_pos (And.intro q p),B,c,C,m]
end
section
variable {call call':cV}
def nh (call b:cV):Prop:=∀f a o c r,call f a o c=some r->b f a o c=some r
theorem nh.qA (T:Tab) (b:Nat->IR->St->Option (Out×St)):nh T.K (qA T b):=by
 intro f a o c r h;grind[Go.Vi.qA]
theorem nh.gx (h:nh call call') {f:FuncId} {args:List AV} {o:Store} {own:Bool} {r:AV×Store} (a:gx call f args o own=some r):gx call' f args o own=some r:=by
 unfold Go.Vi.gx at a ⊢;split at a
 ·rename_i b;rw[if_pos b];unfold iH at a ⊢;simp only at a ⊢;split at a
  ·split at a
   ·rename_i e d c;rw[h _ _ _ _ _ c];exact a
   ·cases a
  ·cases a
 ·rename_i b;rw[if_neg b];split at a;·cases a
  ·split at a
   ·rename_i c;rw[h _ _ _ _ _ c];exact a
   ·cases a
theorem nh.qw (h:nh call call') {op:cB} {ρ:Operand->AV} {o:Store} {bB:Nat} {r:AV×Store} (hc:qw call op ρ o bB=some r):qw call' op ρ o bB=some r:=by
 cases op with
 |call f args own=>exact h.gx hc;|jE f args own=>
  simp only[Go.Vi.qw,FM,M4] at hc ⊢;split at hc;·exact h.gx hc
  ·cases hc;|oH tab x args=>
  simp only[Go.Vi.qw,FM,M5] at hc ⊢;split at hc
  ·split at hc;·exact h.gx hc
   ·cases hc
  ·cases hc;|_=>exact hc
theorem nh.gY (h:nh call call') {base:Nat} {i:dq} {st st':St} (a:gY call base i st=some st'):gY call' base i st=some st':=by
 unfold Go.Vi.gY at a ⊢;split at a;·cases a
 ·exact a
 ·split at a
  ·rename_i b;rw[h.qw b];exact a
  ·cases a
theorem nh.ec (h:nh call call') {b:cB} {ρ:Operand->AV} {o:Store} {bB:Nat} {r:AV×Store} (d:Go.Vi.qw call b ρ o bB=some r):Go.Vi.ec call' b ρ o bB=Go.Vi.ec call b ρ o bB:=by
 unfold Go.Vi.ec;split
 ·rename_i f a;have c:Go.Vi.gx call f (a.map ρ) o true=some r:=d;have e:=h.gx c;simp_all[Go.Vi.gx]
 ·rfl
theorem nh.fV (h:nh call call') {base:Nat}:∀{l:List dq} {st st':St},fV call base l st=some st'->fV call' base l st=some st'/\mG call' base l st=mG call base l st
 |[],_,_,b=>⟨b,rfl⟩
 |i::l,st,st',b=>by
  simp only[Go.Vi.fV] at b ⊢;split at b
  ·rename_i g a;obtain⟨j,c⟩:=h.fV b;have f:=h.gY a;refine⟨by simp_all,?_⟩;simp only[mG,a,f,c];congr 1;split
   ·rename_i e;unfold Go.Vi.gY at a;rw[e] at a;simp only at a;split at a
    ·rename_i d;rw[h.ec d]
    ·cases a
   ·rfl
  ·cases b
theorem nh.pI (h:nh call call') {k:Nat} {b:List dq} {a:List (Nat×Nat)} {st st':St} (c:pI call k b a st=some st'):pI call' k b a st=some st':=by
 unfold Go.Vi.pI at c ⊢;simp only at c ⊢;split at c
 ·rename_i e d;obtain⟨f,g⟩:=h.fV d;simp_all
 ·cases c
end
def VW (T:Tab) (md:Nat->Md) (lo:Nat) (c:IR) (st:St) (Q:Out->St->Prop):Prop:=∃b a,Ev T md lo c st (b,a)/\Q b a
def RQ (x:Option St) (Q:St->Prop):Prop:=match x with|some a=>Q a|none=>False
section
variable {T:Tab} {md:Nat->Md} {lo:Nat} {st:St} {a b:IR} {Q Q':Out->St->Prop}
theorem VW.mono (h:VW T md lo a st Q) (d:∀o s,Q o s->Q' o s):VW T md lo a st Q':=by
 obtain⟨o,s,b,c⟩:=h;exact⟨o,s,b,d o s c⟩
theorem VW.skip (h:Q .norm st):VW T md lo .skip st Q:=⟨_,_,.skip,h⟩
theorem VW.ret (h:Q .ret st):VW T md lo .ret st Q:=⟨_,_,.ret,h⟩
theorem VW.exit {id:Nat} (h:Q (.exit id) st):VW T md lo (.exit id) st Q:=⟨_,_,.exit,h⟩
theorem VW.seq (h:VW T md lo a st λout s=>if out= .norm then VW T md lo b s Q else Q out s):VW T md lo (.seq a b) st Q:=by
 obtain⟨o,s,e,c⟩:=h;by_cases d:o= .norm
 ·subst d;rw[if_pos rfl] at c;obtain⟨i,j,g,f⟩:=c;exact⟨i,j,e.seq g,f⟩
 ·rw[if_neg d] at c;exact⟨o,s,e.YH d,c⟩
theorem VW.cond {x:Operand} {q:Bool} (e:eC st.env x= .sc (.bool q)) (h:if q=true then VW T md lo a ⟨pJ x st.env,st.o⟩ Q else VW T md lo b ⟨pJ x st.env,st.o⟩ Q):VW T md lo (.cond x a b) st Q:=by
 cases q with
 |true=>obtain⟨o,s,c,d⟩:=(by simpa using h:VW T md lo a ⟨pJ x st.env,st.o⟩ Q);exact⟨o,s,.YI e c,d⟩;|false=>obtain⟨o,s,c,d⟩:=(by simpa using h:VW T md lo b ⟨pJ x st.env,st.o⟩ Q);exact⟨o,s,.YJ e c,d⟩
theorem VW.oJ {x:Operand} {q:Bool} (e:eC st.env x= .sc (.bool q)) (h:if q=true then VW T md lo a st Q else VW T md lo b st Q):VW T md lo (.oJ x a b) st Q:=by
 cases q with
 |true=>obtain⟨o,s,c,d⟩:=(by simpa using h:VW T md lo a st Q);exact⟨o,s,.oJ e (λ_=>c) (λh=>by cases h),d⟩;|false=>obtain⟨o,s,c,d⟩:=(by simpa using h:VW T md lo b st Q);exact⟨o,s,.oJ e (λh=>by cases h) (λ_=>c),d⟩
theorem VW.block {id:Nat} (h:VW T md lo a st λout s=>Q (out.inBlock id) s):VW T md lo (.block id a) st Q:=by
 obtain⟨o,s,b,c⟩:=h;exact⟨_,_,b.block,c⟩
theorem VW.region {id k:Nat} {d:Bool} {e:List dq} {c:List (Nat×Nat)} {b:List Nat} {f a:List kq}
  (h:RQ (pI T.K k e c (f.foldl (λs h=>jV lo h s) st)) λst'=>Q .norm (a.foldl (λs h=>jV lo h s) ⟨prune b st'.env,st'.o⟩)):
  VW T md lo (.region id d k e c b f a) st Q:=by
 unfold RQ at h;split at h
 ·rename_i st' g;refine⟨_,_,Ev.region ⟨0,λi m _=>?_⟩,h⟩;have:=(nh.qA T i).pI g;exact this
 simp_all
theorem VW.loop (h:VW T md lo a st λout s=>if out= .norm then VW T md lo (.loop a) (trim st.o.length s) Q else Q out s):VW T md lo (.loop a) st Q:=by
 obtain⟨o,s,d,b⟩:=h;by_cases c:o= .norm
 ·subst c;rw[if_pos rfl] at b;obtain⟨g,i,f,e⟩:=b;exact⟨g,i,d.YK f,e⟩
 ·rw[if_neg c] at b;exact⟨o,s,d.YL c,b⟩
theorem VW.YQ (I:Nat->St->Prop) (b:∀m s,I m s->VW T md lo a s λout s'=>if out= .norm then ∃c,c<m/\I c (trim s.o.length s') else Q out s'):
  ∀(m:Nat) (s:St),I m s->VW T md lo (.loop a) s Q:=by
 intro m;induction m using ζy with
 |_ m e=>
  intro s d;refine VW.loop ((b m s d).mono λo s' h=>?_);grind
theorem VW.goto {l:Nat} (h:Q (.goto l) st):VW T md lo (.goto l) st Q:=⟨_,_,.goto,h⟩
theorem VW.YR {l:Option Nat} (h:VW T md lo a st λout s=>(∀e,out≠ .goto e)/\Q out s):VW T md lo (.turns l a) st Q:=by
 obtain⟨o,s,b,c,d⟩:=h;exact⟨o,s,b.OE c,d⟩
theorem VW.YT {l:Nat} (I:Nat->St->Prop) (b:∀m s,I m s->VW T md lo a s λout s'=>(out= .goto l/\∃c,c<m/\I c (trim s.o.length s'))\/((∀h,out≠ .goto h)/\Q out s')):
  ∀(m:Nat) (s:St),I m s->VW T md lo (.turns (some l) a) s Q:=by
 intro m;induction m using ζy with
 |_ m i=>
  intro s k;obtain⟨o,s',f,j⟩:=b m s k;rcases j with⟨rfl,c,d,e⟩|⟨d,e⟩
  ·obtain⟨p,q,n,g⟩:=i c d _ e;exact⟨p,q,f.YM n,g⟩
  ·exact⟨o,s',f.OE d,e⟩
theorem Cj {P:Program} (k:ky P T) {f:FuncId} {F:fh} (g:T.fn f=some F) {args:List AV} {o:Store} {own:Bool} (j:T.K f args o own=none) (b:args.length=F.params) {v:AV} {o':Store}
  (h:VW T zw o.length F.body ⟨gZ 0 args,o⟩ λout st'=>(out= .norm\/out= .ret)/\(nT st' F.res).bind (λc=>finish own o.length c st'.o)=some (v,o')):
  gJ P f=true/\lv P f args o v o'/\(own=false->o'=[]):=by
 obtain⟨out,st',e,i,d⟩:=h;obtain⟨c,l,a⟩:=Option.bind_eq_some_iff.1 d;grind[YN]
end
open Classical in
noncomputable def ans {α:Type} (enc:α->List AV) (dom:α->Prop) (spec:α->AV) (args:List AV):Option AV:=
 if h:∃a,args=enc a/\dom a then some (spec (Classical.choose h)) else none
theorem YU {e:Type} {enc:e->List AV} {d:e->Prop} {c:e->AV} (f:∀a b,enc a=enc b->a=b) {a:e} (g:d a):ans enc d c (enc a)=some (c a):=by
 have h:∃b,enc a=enc b/\d b:=⟨a,rfl,g⟩;unfold ans;grind
theorem YV {d:Type} {enc:d->List AV} {c:d->Prop} {b:d->AV} {args:List AV} {v:AV} (h:ans enc c b args=some v):∃a,args=enc a/\c a/\v=b a:=by
 unfold ans at h;split at h<;>grind
structure bz where
 (a0 a1 a2 a3 a4 a5:Int)
 deriving DecidableEq
structure Off where
 bE:Int
 want:bz
 value:Int
 deriving DecidableEq
structure Need where
 OG:Int
 least:Int
 deriving DecidableEq
structure ni where
 bE:Int
 want:bz
 deriving DecidableEq
structure Sit where
 members:Int
 left:bz
 opn:bz
 deriving DecidableEq
def bz.zero:bz:=⟨0,0,0,0,0,0⟩
inductive bn where
 |i (k:IntKind)
 |b
 |eD
 |off
 |need
 |key
 |sit
 |bK (s:bn)
 |pair (s t:bn)
 deriving DecidableEq
@[reducible] def bn.T:bn->Type
 | .i _=>Int
 | .b=>Bool
 | .eD=>bz
 | .off=>Off
 | .need=>Need
 | .key=>ni
 | .sit=>Sit
 | .bK s=>List s.T
 | .pair s t=>s.T×t.T
def bn.dflt:(s:bn)->s.T
 | .i _=>(0:Int)
 | .b=>false
 | .eD=> .zero
 | .off=>⟨0,.zero,0⟩
 | .need=>⟨0,0⟩
 | .key=>⟨0,.zero⟩
 | .sit=>⟨0,.zero,.zero⟩
 | .bK _=>[]
 | .pair s t=>(s.dflt,t.dflt)
def bn.sz:bn->Nat
 | .i _=>1
 | .b=>1
 | .eD=>6
 | .off=>8
 | .need=>2
 | .key=>7
 | .sit=>13
 | .bK _=>1
 | .pair s t=>s.sz+t.sz
@[reducible] def bn.dec:(s:bn)->DecidableEq s.T
 | .i _=>inferInstanceAs (DecidableEq Int)
 | .b=>inferInstanceAs (DecidableEq Bool)
 | .eD=>inferInstanceAs (DecidableEq bz)
 | .off=>inferInstanceAs (DecidableEq Off)
 | .need=>inferInstanceAs (DecidableEq Need)
 | .key=>inferInstanceAs (DecidableEq ni)
 | .sit=>inferInstanceAs (DecidableEq Sit)
 | .bK s=>@instDecidableEqList _ s.dec
 | .pair s t=>@instDecidableEqProd _ _ s.dec t.dec
instance (s:bn):DecidableEq s.T:=s.dec
def bn.xm:bn->Bool
 | .i _| .b=>true
 |_=>false
def bn.flat:bn->Bool
 | .bK _=>false
 | .pair s t=>s.flat&&t.flat
 |_=>true
def iv (n:Int):Value:=.int .i64 n
def bz.vs (b:bz):List Value:=[iv b.a0,iv b.a1,iv b.a2,iv b.a3,iv b.a4,iv b.a5]
def dI:(s:bn)->s.T->List Value
 | .i k,n=>[.int k n]
 | .b,b=>[.bool b]
 | .eD,x=>[iv x.a0,iv x.a1,iv x.a2,iv x.a3,iv x.a4,iv x.a5]
 | .off,x=>[iv x.bE,iv x.want.a0,iv x.want.a1,iv x.want.a2,iv x.want.a3,iv x.want.a4,iv x.want.a5,iv x.value]
 | .need,x=>[iv x.OG,iv x.least]
 | .key,x=>[iv x.bE,iv x.want.a0,iv x.want.a1,iv x.want.a2,iv x.want.a3,iv x.want.a4,iv x.want.a5]
 | .sit,x=>[iv x.members,iv x.left.a0,iv x.left.a1,iv x.left.a2,iv x.left.a3,iv x.left.a4,iv x.left.a5,iv x.opn.a0,iv x.opn.a1,iv x.opn.a2,iv x.opn.a3,iv x.opn.a4,iv x.opn.a5]
 | .bK _,_=>[.bool false]
 | .pair s t,x=>dI s x.1++dI t x.2
def dM:(s:bn)->s.T->List AV
 | .bK s,l=>[.sl l.length (l.flatMap (dM s))]
 | .pair s t,x=>dM s x.1++dM t x.2
 | .i k,x=>(dI (.i k) x).map .sc
 | .b,x=>(dI .b x).map .sc
 | .eD,x=>(dI .eD x).map .sc
 | .off,x=>(dI .off x).map .sc
 | .need,x=>(dI .need x).map .sc
 | .key,x=>(dI .key x).map .sc
 | .sit,x=>(dI .sit x).map .sc
inductive SV where
 |ud
 |sc (v:Value)
 |il (k:IntKind) (n:Int)
 |si (k:IntKind) (n:Int)
 |bl (b:Bool)
 |sb (b:Bool)
 |agg (cs:List SV)
 |bH (cs:List SV)
 |row (s:bn) (l:List s.T)
 |ep (s:bn) (l:List s.T) (i off:Nat)
 |ptr (id off tot:Nat)
 |ap (id base sz len tot i:Nat)
 |rp (id i off n sz:Nat)
 |ow (id n sz:Nat)
 |os (id off len n sz:Nat)
 |oc (id off len n sz:Nat)
 |mp (id:Nat)
 |fn (f:Fn) (first captured:List SV)
 |ia (t:TypeId) (cs:List SV)
 |ite (c:Bool) (a b:SV)
inductive bq where
 |dead
 |cells (cs:List SV) (e:TypeId) (sz:Nat) (pu:Bool)
 |row (s:bn) (l:List s.T) (e:TypeId) (pu:Bool)
 |map (sk sv:bn) (ka:Bool) (es:List (sk.T×sv.T)) (kt:List Nat×Bool) (pu:Bool)
 |oQ (s:bn) (l:List s.T) (e:TypeId) (t:List SV)
def cE (s:bn) (l:List s.T):List AV:=l.flatMap (dM s)
def oR (s:bn) (a:Bool) (x:s.T):Value:=if a then .agg (dI s x).toArray else(dI s x).headD (.bool false)
def mJ (s:bn) (x:s.T):AV:=.sc ((dI s x).headD (.bool false))
mutual
def SV.g:SV->AV
 | .ud=> .ud
 | .sc v=> .sc v
 | .il k n=> .sc (.int k n)
 | .si k n=> .sc (.int k n)
 | .bl b=> .sc (.bool b)
 | .sb b=> .sc (.bool b)
 | .agg cs=> .agg (gL cs)
 | .bH cs=> .bH (gL cs)
 | .row s l=> .sl l.length (cE s l)
 | .ep s l i off=> .ep (cE s l) (i*s.sz+off)
 | .ptr id off tot=> .ptr id off tot
 | .ap id base sz _ tot i=> .ptr id (base+i*sz) tot
 | .rp id i off n sz=> .ptr id (i*sz+off) (n*sz)
 | .ow id n sz=> .os id 0 n (n*sz)
 | .os id off len n sz=> .os id (off*sz) len (n*sz)
 | .oc id off len n sz=> .os id (off*sz+(n*sz+sz)) len (n*sz)
 | .mp id=> .mp id
 | .fn f a b=> .fn f (gL a) (gL b)
 | .ia t cs=> .iV t (gL cs)
 | .ite _ _ _=> .ud
def gL:List SV->List AV
 |[]=>[]
 |c::cs=>c.g::gL cs
end
theorem fY:∀(l:List SV),gL l=l.map SV.g
 |[]=>rfl
 |c::a=>by simp[gL,fY a]
def bq.g:bq->bQ
 | .dead=> .dead
 | .cells c e i a=> .cells (gL c) e i a
 | .row s l e a=> .cells (cE s l) e s.sz a
 | .oQ s l e t=> .cells (cE s l++gL t) e s.sz false
 | .map f b j h d a=> .map (h.map λp=>(oR f j p.1,mJ b p.2)) d a
def encS:(s:bn)->s.T->List SV
 | .i k,n=>[.si k n]
 | .b,b=>[.sb b]
 | .eD,x=>[.si .i64 x.a0,.si .i64 x.a1,.si .i64 x.a2,.si .i64 x.a3,.si .i64 x.a4,.si .i64 x.a5]
 | .off,x=>[.si .i64 x.bE,.si .i64 x.want.a0,.si .i64 x.want.a1,.si .i64 x.want.a2,.si .i64 x.want.a3,.si .i64 x.want.a4,.si .i64 x.want.a5,.si .i64 x.value]
 | .need,x=>[.si .i64 x.OG,.si .i64 x.least]
 | .key,x=>[.si .i64 x.bE,.si .i64 x.want.a0,.si .i64 x.want.a1,.si .i64 x.want.a2,.si .i64 x.want.a3,.si .i64 x.want.a4,.si .i64 x.want.a5]
 | .sit,x=>[.si .i64 x.members,.si .i64 x.left.a0,.si .i64 x.left.a1,.si .i64 x.left.a2,.si .i64 x.left.a3,.si .i64 x.left.a4,.si .i64 x.left.a5,.si .i64 x.opn.a0,.si .i64 x.opn.a1,.si .i64 x.opn.a2,.si .i64 x.opn.a3,.si .i64 x.opn.a4,.si .i64 x.opn.a5]
 | .bK s,l=>[.row s l]
 | .pair s t,x=>encS s x.1++encS t x.2
def iI (s s':bn) (l:List s.T):Option (List s'.T):=if h:s=s' then some (h▸l) else none
def fZ (s:bn):SV->Option (List s.T)
 | .row a l=>match iI a s l with
  |some l=>some l
  |none=>match l with
   |[]=>some []
   |_=>none
 |_=>none
def SV.qn:SV->SV
 | .sc (.slice none 0 0)=> .row (.i .i64) []
 |v=>v
def SV.int:IntKind->SV->Option Int
 |k,.si a n=>if a=k then some n else none
 |k,.il a n=>if a=k then some n else none
 |_,_=>none
def SV.boo:SV->Option Bool
 | .sb b=>some b
 | .bl b=>some b
 |_=>none
def ints:List SV->Option (List Int)
 |[]=>some []
 |c::a=>match c.int .i64,ints a with
  |some n,some l=>some (n::l)
  |_,_=>none
def jF:(s:bn)->List SV->Option s.T
 | .i k,[c]=>c.int k
 | .b,[c]=>c.boo
 | .eD,d=>match ints d with
  |some [f,e,l,h,g,j]=>some (⟨f,e,l,h,g,j⟩:bz)
  |_=>none
 | .off,d=>match ints d with
  |some [b,f,e,l,h,g,j,v]=>some (⟨b,⟨f,e,l,h,g,j⟩,v⟩:Off)
  |_=>none
 | .need,d=>match ints d with
  |some [a,b]=>some (⟨a,b⟩:Need)
  |_=>none
 | .key,d=>match ints d with
  |some [b,f,e,l,h,g,j]=>some (⟨b,⟨f,e,l,h,g,j⟩⟩:ni)
  |_=>none
 | .sit,d=>match ints d with
  |some [m,f,e,l,h,g,j,p,u,n,q,r,o]=>some (⟨m,⟨f,e,l,h,g,j⟩,⟨p,u,n,q,r,o⟩⟩:Sit)
  |_=>none
 | .bK s,[c]=>fZ s c
 | .pair s t,d=>match jF s (d.take s.sz),jF t (d.drop s.sz) with
  |some x,some y=>some (x,y)
  |_,_=>none
 |_,_=>none
theorem GH:(s:bn)->0<s.sz
 | .i _| .b| .eD| .off| .need| .key| .sit| .bK _=>by simp[bn.sz];| .pair s t=>by
  have:=GH s;grind[bn.sz]
theorem tV:(s:bn)->(x:s.T)->(encS s x).map SV.g=dM s x
 | .bK s,l=>by grind[encS,dM,SV.g,cE];| .pair s t,x=>by simp only[encS,dM,γb,tV s x.1,tV t x.2];| .i _,x| .b,x| .eD,x| .off,x| .need,x| .key,x| .sit,x=>by simp[encS,dM,dI,SV.g,iv]
theorem GI:(s:bn)->(x:s.T)->(dI s x).length=s.sz
 | .pair s t,x=>by simp only[dI,ν,GI s x.1,GI t x.2,bn.sz];| .bK _,x| .i _,x| .b,x| .eD,x| .off,x| .need,x| .key,x| .sit,x=>rfl
theorem lR:(s:bn)->(x:s.T)->(dM s x).length=s.sz
 | .pair s t,x=>by simp only[dM,ν,lR s x.1,lR t x.2,bn.sz];| .bK _,x| .i _,x| .b,x| .eD,x| .off,x| .need,x| .key,x| .sit,x=>rfl
theorem Cm:(s:bn)->s.flat=true->(x:s.T)->dM s x=(dI s x).map .sc
 | .pair s t,h,x=>by
  simp only[bn.flat,ζ] at h;simp only[dM,dI,γb,Cm s h.1,Cm t h.2];| .bK _,h,x=>by grind[bn.flat];| .i _,_,x| .b,_,x| .eD,_,x| .off,_,x| .need,_,x| .key,_,x| .sit,_,x=>rfl
theorem gP {k:IntKind} {c:SV} {n:Int} (h:c.int k=some n):c.g= .sc (.int k n):=by
 cases c<;>simp only[SV.int,reduceCtorEq] at h<;>grind[SV.int,reduceCtorEq,SV.g]
theorem vo {c:SV} {b:Bool} (h:c.boo=some b):c.g= .sc (.bool b):=by
 cases c<;>simp[SV.boo] at h<;>subst h<;>simp[SV.g]
theorem CB:∀{cs:List SV} {l:List Int},ints cs=some l->cs.map SV.g=l.map λn=> .sc (iv n)
 |[],l,h=>by grind[ints];|c::cs,l,h=>by
  simp only[ints] at h;split at h
  ·rename_i n d a b;simp at h;subst h;simp[gP a,CB b,iv]
  ·cases h
theorem nj {s s':bn} {l:List s.T} {a:List s'.T} (h:iI s s' l=some a):s=s'/\HEq l a:=by
 unfold iI at h;grind
theorem YW {s:bn} {v:SV} {l:List s.T} (h:fZ s v=some l):v.g= .sl l.length (cE s l):=by
 cases v<;>simp only[fZ,reduceCtorEq] at h;grind[nj,SV.g,cE]
theorem nV:{s:bn}->{cs:List SV}->{x:s.T}->(h:jF s cs=some x)->cs.map SV.g=dM s x
 | .i k,[c],_,h=>by grind[jF,dM,dI,gP];| .b,[c],_,h=>by grind[jF,dM,dI,vo];| .bK s,[c],_,h=>by grind[jF,YW,dM,cE];| .pair s t,cs,_,h=>by
  simp only[jF] at h;split at h
  ·rename_i x y a d;simp only[γ] at h;subst h;have f:=nV a;have e:=nV d;simp only[dM,<-f,<-e];rw[<-γb,List.take_append_drop]
  ·cases h;| .eD,cs,_,h| .off,cs,_,h| .need,cs,_,h| .key,cs,_,h| .sit,cs,_,h=>by
  simp only[jF] at h;split at h
  ·rename_i a;simp at h;subst h;rw[CB a];simp[dM,dI]
  ·cases h
theorem YX (v:SV):v.qn.g=v.g.qn:=by
 unfold SV.qn;split;·simp[SV.g,AV.qn,cE]
 ·rename_i h;cases v<;>grind[SV.g,AV.qn,AV.sc.injEq]
theorem CC:(s:bn)->(x:s.T)->∀v∈dI s x,v.oneCell'=true
 | .pair s t,x=>by
  intro v a;simp only[dI] at a;rcases Γ.1 a with h|h;·exact CC s _ v h
  ·exact CC t _ v h;| .bK _,x| .i _,x| .b,x| .eD,x| .off,x| .need,x| .key,x| .sit,x=>by simp[dI,iv,Value.oneCell']
def Plain (a:AV):Prop:=(∃v,a= .sc v/\v.oneCell'=true/\v≠ .slice none 0 0)\/∃n b,a= .sl n b/\dx b=true
theorem CG:∀{l:List AV},(∀a∈l,a.pure=true)->dx l=true
 |[],_=>by simp[dx];|a::l,h=>by simp[dx,h a (by simp),CG (l:=l) λb c=>h b (by simp[c])]
theorem GK {k:Nat}:∀{l:List AV},(∀a∈l,a.bZ k=true)->dZ k l=true
 |[],_=>by simp[dZ];|a::l,h=>by simp[dZ,h a (by simp),GK (l:=l) λb c=>h b (by simp[c])]
theorem Plain.pure {a:AV} (h:Plain a):a.pure=true:=by
 rcases h with⟨v,rfl,_⟩|⟨n,b,rfl,h⟩<;>grind[AV.pure]
theorem Plain.bZ {a:AV} (h:Plain a) (k:Nat):a.bZ k=true:=by
 rcases h with⟨v,rfl,_⟩|⟨n,b,rfl,h⟩<;>simp[AV.bZ]
theorem Plain.one {a:AV} (h:Plain a):a.one=true:=by
 rcases h with⟨v,rfl,h,_⟩|⟨n,b,rfl,h⟩<;>grind[AV.one]
theorem zx:(s:bn)->(x:s.T)->∀a∈dM s x,Plain a
 | .pair s t,x=>by
  intro a c;simp only[dM] at c;rcases Γ.1 c with h|h;·exact zx s _ a h
  ·exact zx t _ a h;| .bK s,l=>by
  intro a c;simp only[dM,List.mem_singleton] at c;subst c;refine .inr ⟨_,_,rfl,CG λb e=>?_⟩;obtain⟨y,_,f⟩:=List.mem_flatMap.1 e;exact(zx s y b f).pure;| .i _,x| .b,x| .eD,x| .off,x| .need,x| .key,x| .sit,x=>by
  intro a c;simp only[dM] at c;obtain⟨v,d,rfl⟩:=List.mem_map.1 c;refine .inl ⟨v,rfl,CC _ _ v d,?_⟩;rintro rfl;simp[dI,iv] at d
theorem nk {s:bn} {l:List s.T} {a:AV} (h:a∈cE s l):Plain a:=by
 grind[cE,zx]
theorem qG (s:bn) (l:List s.T):dx (cE s l)=true:=CG λa h=>(nk h).pure
theorem OH (k:Nat) (s:bn) (l:List s.T):dZ k (cE s l)=true:=GK λa h=>(nk h).bZ k
theorem CH (s:bn) (l:List s.T):eF (cE s l)=true:=by
 simp only[eF,Φ];intro a h;exact(nk h).one
theorem fj (s:bn) (l:List s.T):(cE s l).length=l.length*s.sz:=by
 induction l<;>grind[cE,lR]
theorem OI (s:bn) (l a:List s.T):cE s (l++a)=cE s l++cE s a:=by simp[cE]
theorem GL (s:bn):∀(l:List s.T) (i:Nat),(cE s l).drop (i*s.sz)=cE s (l.drop i)
 |l,0=>by simp;|[],i+1=>by simp[cE];|x::l,i+1=>by
  have h:=GL s l i;simp only[cE,δ4,List.drop_succ_cons] at h ⊢;rw[Nat.succ_mul,Nat.add_comm,List.drop_append,lR,ζr,h,List.drop_of_length_le (by grind[lR])];simp
theorem OJ (s:bn):∀(l:List s.T) (i:Nat),(cE s l).take (i*s.sz)=cE s (l.take i)
 |l,0=>by simp[cE];|[],i+1=>by simp[cE];|x::l,i+1=>by
  have h:=OJ s l i;simp only[cE,δ4,List.take_succ_cons] at h ⊢;rw[Nat.succ_mul,Nat.add_comm,List.take_append,lR,ζr,h,List.take_of_length_le (by grind[lR])]
def bj {a:Type} (l:List a) (i:Nat) (d:a):a:=(l[i]?).getD d
theorem cQ {a:Type} {l:List a} {i:Nat} {d:a} (h:i<l.length):bj l i d=l[i]:=by simp[bj,h]
theorem YY {s:bn} {l:List s.T} {i:Nat} (h:i<l.length):(cE s l).drop (i*s.sz)=dM s (bj l i s.dflt)++cE s (l.drop (i+1)):=by
 rw[GL,List.drop_eq_getElem_cons h,cQ h];grind[cE]
end Go.Vi
