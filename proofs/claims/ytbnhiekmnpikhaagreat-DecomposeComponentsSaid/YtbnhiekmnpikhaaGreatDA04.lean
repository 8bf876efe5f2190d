/-
  The abstract interpreter: a region whose order is open.
  Conditions: none.
-/
import Derived.Test.YtbnhiekmnpikhaaGreatDA03
import Derived.RangeFuncOwn
import Derived.RangeFuncLeaves
import Derived.LoopNIn
import Derived.ControlIn
import Derived.LoopN
import Derived.Scope
import Derived.Tactics
set_option maxRecDepth 100000
set_option maxHeartbeats 4000000
set_option linter.all false
open Array renaming getElem?_eq_some_iff->γz,replicate->εc,getElem?_toList->γV,ext'->εl
open Bool renaming and_eq_true->θ,false_eq_true->χ
open Go.Vi renaming prune->ζS
open List renaming not_mem_nil->δA,mem_filter->γt,getElem?_set_ne->δq,getElem?_eq_getElem->μ,getElem?_eq_none->ζG,getElem?_set->εm,map_congr_left->γY,mem_append->γk,ext_getElem?->γ9,cons_append->γH,getD_eq_getElem?_getD->ζa,all_eq_true->φ,getElem?_cons_succ->γL,map_cons->π,nodup_cons->γW,mem_of_getElem?->γd,eq_nil_of_length_eq_zero->τ,getElem?_eq_some_iff->ζ,range->ω,pairwise_cons->γB,mem_cons_of_mem->γy,append_nil->γ1,map_append->γa,length_append->γi,flatMap_cons->δZ
open List.Pairwise renaming nil->δH
open Nat renaming le_refl->ν,lt_or_ge->ζg,le_trans->δS,strongRecOn->ζH,beq->δs,eq_of_beq_eq_true->εV,lt_of_lt_of_le->γh,add_sub_cancel_left->ζz
open Option renaming map_eq_some_iff->ε
open Option.some renaming injEq->γ
open Prod.mk renaming injEq->ι
namespace Go.Vi
section
variable {call:dh} {ρ mH:Operand->AV} {bB:Nat}
theorem Ou {a:cJ} {o:Store} {j:Nat} (h:j∈wrt a ρ o bB):j∈dR a ρ o bB:=by
 cases a<;>simp only[wrt,dR,δA] at h ⊢<;>try exact h
 all_goals grind
theorem Yr {a:cJ} {o:Store} (h:a.cls=0\/a.cls=1):wrt a ρ o bB=[]:=by
 cases a<;>try (simp[cJ.cls] at h;done)
 case call f c b=>cases b<;>simp[cJ.cls] at h;rfl
 case jU f c b=>cases b<;>simp[cJ.cls] at h;rfl
 all_goals rfl
theorem Gs {b:cJ} {o:Store} (h:b.cls=0):dR b ρ o bB=[]:=by
 cases b<;>try (simp[cJ.cls] at h;done)
 case call f c a=>cases a<;>simp[cJ.cls] at h
 case jU f c a=>cases a<;>simp[cJ.cls] at h
 all_goals rfl
theorem Ys (a:cJ):a.cls=0\/a.cls=1\/a.cls=2\/a.cls=3:=by
 cases a<;>try (simp[cJ.cls];done)
 case call f c b=>cases b<;>simp[cJ.cls]
 case jU f c b=>cases b<;>simp[cJ.cls]
def mI (a:cJ) (W:List Nat) (n j:Nat):Prop:=j∈W\/(a.cls=3/\n<=j)
theorem Gt {a:cJ} {o:Store} {j:Nat} (h:j∈ew call a ρ o bB):j∈wrt a ρ o bB:=by
 unfold ew at h;split at h
 ·split at h;·exact(γt.1 h).1
  ·simp at h
 ·exact h
theorem Yt {a:cJ} {o:Store} {j:Nat} (h:j∈ew call a ρ o bB):j∈dR a ρ o bB:=Ou (Gt h)
theorem t7 {a:cJ} {o:Store} (h:a.cls=0\/a.cls=1):ew call a ρ o bB=[]:=by
 unfold ew;grind[cJ.cls,Yr]
theorem Yu {a:cJ} {o:Store} (h:a.cls=2):ew call a ρ o bB=wrt a ρ o bB:=by
 unfold ew;grind[cJ.cls]
open Classical in
theorem Yv {eM:cJ} {o o':Store} {v:AV} (he:bK call eM ρ o bB=some (v,o')):
  o.length<=o'.length/\(eM.cls≠3->o'.length=o.length)/\(∀j,¬mI eM (ew call eM ρ o bB) o.length j->o'[j]?=o[j]?)/\
  ∀o2:Store,(∀j∈dR eM ρ o bB,o2[j]?=o[j]?)->(eM.cls=3->o2.length=o.length)->
   ∃sE,bK call eM ρ o2 bB=some (v,sE)/\dR eM ρ o2 bB=dR eM ρ o bB/\ew call eM ρ o2 bB=ew call eM ρ o bB/\∀j,mI eM (ew call eM ρ o bB) o.length j->sE[j]?=o'[j]?:=by
 rcases Ys eM with hc|hc|hc|hc
 ·have:=Yh hc he;subst this;refine⟨ν _,λ_=>rfl,λ_ _=>rfl,λo2 _ _=>⟨o2,?_,by rw[Gs hc,Gs hc],by rw[t7 (.inl hc),t7 (.inl hc)],λj hj=>?_⟩⟩;·rw[On hc o' o2,he];rfl
  ·rw[mI,t7 (.inl hc)] at hj;simp[hc] at hj
 ·have:=Yo hc he;subst this;refine⟨ν _,λ_=>rfl,λ_ _=>rfl,λo2 h _=>⟨o2,?_,(Gq (call:=call) hc h).2,by rw[t7 (.inr hc),t7 (.inr hc)],λj hj=>?_⟩⟩;·rw[(Gq hc h).1,he];rfl
  ·rw[mI,t7 (.inr hc)] at hj;simp[hc] at hj
 ·simp only[Yu hc];obtain⟨id,x,hid,rfl,hk⟩:=Yp hc he;refine⟨by simp,λ_=>by simp,λj hj=>?_,λo2 h _=>?_⟩
  ·have:j≠id:=λhji=>hj (.inl (hji▸hid));rw[δq (Ne.symm this)]
  ·obtain⟨k1,k2,k3⟩:=hk o2 h;refine⟨_,k1,k2,k3,λj hj=>?_⟩;have hj:j∈wrt eM ρ o bB:=hj.resolve_right (by simp[hc]);have hjo:=h j (Ou hj);by_cases hji:id=j
   ·subst hji;have hlen:(id<o2.length)↔(id<o.length):=by
     rcases ζg id o2.length with g1|g1<;>rcases ζg id o.length with g2|g2;·simp[g1,g2]
     ·rw[μ g1,ζG g2] at hjo;cases hjo
     ·rw[μ g2,ζG g1] at hjo;cases hjo
     ·omega
    rw[εm,εm];simp only[if_true];by_cases h1:id<o.length;·rw[if_pos h1,if_pos (hlen.2 h1)]
    ·rw[if_neg h1,if_neg λh2=>h1 (hlen.1 h2)]
   ·rw[δq hji,δq hji];exact hjo
 ·have key:∀(f:FuncId) (args:List AV),iO call f args o=some (v,o')->ew call eM ρ o bB=cT o fO args []->dR eM ρ o bB=cT o fO args []->
    (∀o2:Store,bK call eM ρ o2 bB=iO call f args o2/\dR eM ρ o2 bB=cT o2 fO args []/\ew call eM ρ o2 bB=cT o2 fO args [])->
    o.length<=o'.length/\(eM.cls≠3->o'.length=o.length)/\(∀j,¬mI eM (ew call eM ρ o bB) o.length j->o'[j]?=o[j]?)/\
    ∀o2:Store,(∀j∈dR eM ρ o bB,o2[j]?=o[j]?)->(eM.cls=3->o2.length=o.length)->
    ∃sE,bK call eM ρ o2 bB=some (v,sE)/\dR eM ρ o2 bB=dR eM ρ o bB/\ew call eM ρ o2 bB=ew call eM ρ o bB/\∀j,mI eM (ew call eM ρ o bB) o.length j->sE[j]?=o'[j]?:=by
   intro f args hcall hw ht hg;obtain⟨c1,c2,c3⟩:=Ot hcall;refine⟨c1,λh=>absurd hc h,λj hj=>?_,λo2 h hl=>?_⟩
   ·simp only[mI,hc,true_and,not_or,Nat.not_le,hw] at hj;exact c2 j hj.2 hj.1
   ·rw[ht] at h;obtain⟨sE,d1,d2,d3⟩:=c3 o2 (hl hc) h;obtain⟨g1,g2,g3⟩:=hg o2;refine⟨sE,by rw[g1,d1],by rw[g2,d2,ht],by rw[g3,d2,hw],λj hj=>d3 j ?_⟩;simp only[mI,hc,true_and,hw] at hj;exact hj
  cases eM<;>try (simp[cJ.cls] at hc;done)
  case call f args own=>
   cases own;·simp[cJ.cls] at hc
   ·simp only[bK,gK,if_true] at he;obtain⟨c1,c2,c3⟩:=Ot he;have hw:ew call (.call f args true) ρ o bB=(cT o fO (args.map ρ) []).filter λj=>decide (o'[j]?≠o[j]?):=by simp only[ew,he]
    refine⟨c1,λh=>absurd hc h,λj hj=>?_,λo2 h hl=>?_⟩
    ·simp only[mI,hc,true_and,not_or,Nat.not_le,hw,γt,decide_eq_true_eq,not_and,Classical.not_not,ne_eq] at hj;by_cases hm:j∈cT o fO (args.map ρ) [];·exact hj.1 hm
     ·exact c2 j hj.2 hm
    ·obtain⟨sE,d1,d2,d3⟩:=c3 o2 (hl hc) h;refine⟨sE,by simp only[bK,gK,if_true,d1],d2,?_,λj hj=>?_⟩
     ·rw[hw];simp only[ew,d1,d2];refine List.filter_congr λj hj=>?_;rw[d3 j (.inl hj),h j hj]
     ·rw[mI,hw,γt] at hj;exact d3 j (hj.imp (λh=>h.1) λh=>h.2)
  case jU f args own=>
   cases own;·simp[cJ.cls] at hc
   ·simp only[bK,gK,if_true] at he;split at he
    ·rename_i g first captured hf;exact key g (first++args.map ρ++captured) he (by simp[ew,wrt,hf]) (by simp[dR,hf]) λo2=>⟨by simp[bK,gK,hf],by simp[dR,hf],by simp[ew,wrt,hf]⟩
    ·cases he
theorem Gu {l:List Operand} (h:∀x∈l,mH x=ρ x):l.map mH=l.map ρ:=γY h
theorem Yw {c:cJ} (h:∀x∈c.kD,mH x=ρ x) (o:Store):bK call c mH o bB=bK call c ρ o bB/\dR c mH o bB=dR c ρ o bB/\ew call c mH o bB=ew call c ρ o bB:=by
 cases c;case build z i=>
  have:(i.map λp=>(p.1,p.2.1,mH p.2.2))=i.map λp=>(p.1,p.2.1,ρ p.2.2):=γY λp r=>by grind[cJ.kD]
  simp only[bK,dR,ew,wrt,this,and_self]
 case pF z n i e l=>
  have:(i.map λp=>(p.1,l,mH p.2))=i.map λp=>(p.1,l,ρ p.2):=γY λp r=>by grind[cJ.kD]
  simp only[bK,dR,ew,wrt,this,and_self]
 case tH z n i e l=>
  have:(i.map λp=>(p.1,l,mH p.2))=i.map λp=>(p.1,l,ρ p.2):=γY λp r=>by grind[cJ.kD]
  simp only[bK,dR,ew,wrt,this,and_self]
 case call f d k=>
  have:=Gu h;simp only[cJ.kD] at this;cases k<;>simp only[bK,dR,ew,wrt,this,and_self]
 case jU f d k=>
  have m:d.map mH=d.map ρ:=Gu λx u=>h x (by grind[cJ.kD]);have q:=h f (by simp[cJ.kD]);cases k<;>simp only[bK,dR,ew,wrt,m,q,and_self]
 case oV s x d=>
  simp_all[Gu,cJ.kD,bK,dR,ew,wrt]
 case tK f a b=>
  simp_all[cJ.kD,bK,dR,ew,wrt]
 case slice l x g j=>
  have m:g.map mH=g.map ρ:=by cases g<;>simp[cJ.kD] at h ⊢;exact h.2.1
  have q:j.map mH=j.map ρ:=by cases j<;>simp[cJ.kD] at h ⊢;simp_all
  simp_all[cJ.kD,bK,dR,ew,wrt]
 case vf x g j=>
  have m:g.map mH=g.map ρ:=by cases g<;>simp[cJ.kD] at h ⊢;exact h.2.1
  have q:j.map mH=j.map ρ:=by cases j<;>simp[cJ.kD] at h ⊢;simp_all
  simp_all[cJ.kD,bK,dR,ew,wrt]
 case slice3 l x g j t=>
  have m:g.map mH=g.map ρ:=by
   cases g with
   |none=>rfl;|some a=>simp_all[cJ.kD]
  simp_all[cJ.kD,bK,dR,ew,wrt]
 all_goals
  simp only[cJ.kD,List.mem_cons,δA,or_false,forall_eq_or_imp,forall_eq] at h;simp[bK,dR,ew,wrt,h]
end
section
variable {call:dh} {base:Nat}
noncomputable def entry (call:dh) (base:Nat) (i:dC) (st:St):List Nat×List Nat:=
 match mE st.env i.guard with
 |some true=>(dR i.op (eG st.env) st.o (base+i.bB),ew call i.op (eG st.env) st.o (base+i.bB))
 |_=>([],[])
theorem Yx {i:dC} {st:St} {j:Nat} (h:j∈(entry call base i st).2):j∈(entry call base i st).1:=by
 grind[entry,Yt]
theorem Ov {i:dC} {e a:jF} (h:∀s∈i.reads,dK a s=dK e s):(∀x∈i.op.kD,eG a x=eG e x)/\mE a i.guard=mE e i.guard:=by
 constructor
 ·intro x b;cases x with
  |tmp t=>
   refine h t ?_;simp only[dC.reads,γk];left;exact List.mem_filterMap.2 ⟨.tmp t,b,rfl⟩;|_=>rfl
 ·unfold mE;grind[dC.reads]
theorem xy {i:dC} {st st':St} (a:iw call base i st=some st'):
  ∃v,(∀s,dK st'.env s=if i.dst=some s then v else dK st.env s)/\st.o.length<=st'.o.length/\(i.op.cls≠3->st'.o.length=st.o.length)/\
   (∀j,¬mI i.op (entry call base i st).2 st.o.length j->st'.o[j]?=st.o[j]?)/\
   ∀st2:St,(∀s∈i.reads,dK st2.env s=dK st.env s)->(∀j∈(entry call base i st).1,st2.o[j]?=st.o[j]?)->(i.op.cls=3->st2.o.length=st.o.length)->
    ∃b,iw call base i st2=some b/\(∀s,dK b.env s=if i.dst=some s then v else dK st2.env s)/\entry call base i st2=entry call base i st/\
     ∀j,mI i.op (entry call base i st).2 st.o.length j->b.o[j]?=st'.o[j]?:=by
 unfold iw at a;split at a;·cases a
 ·rename_i n;injection a with a;subst a;refine⟨.bI [],λs=>vA _ _ _ _,ν _,λ_=>rfl,λ_ _=>rfl,λst2 c _ k=>?_⟩;obtain⟨h,t⟩:=Ov c;refine⟨⟨oU st2.env i.dst (.bI []),st2.o⟩,?_,λs=>vA _ _ _ _,?_,λj w=>?_⟩;all_goals simp_all[iw,entry,mI]
 ·rename_i n;split at a
  ·rename_i v y c;injection a with a;subst a;rw[zl] at c;obtain⟨r,l,m,p⟩:=Yv c;have e:entry call base i st=(dR i.op (eG st.env) st.o (base+i.bB),ew call i.op (eG st.env) st.o (base+i.bB)):=by grind[entry]
   rw[e];refine⟨v,λs=>vA _ _ _ _,r,l,m,λst2 f d k=>?_⟩;obtain⟨h,t⟩:=Ov f;obtain⟨g,z,x,B,q⟩:=p st2.o d k;obtain⟨C,A,u⟩:=Yw (call:=call) (bB:=base+i.bB) h st2.o;refine⟨⟨oU st2.env i.dst v,g⟩,?_,λs=>vA _ _ _ _,?_,q⟩<;>grind[oU,vA,iw,zl,entry]
  ·cases a
def ki (a b:St):Prop:=(∀s,dK a.env s=dK b.env s)/\a.o=b.o
theorem ki.refl (a:St):ki a a:=⟨λ_=>rfl,rfl⟩
theorem ki.trans {a b c:St} (h:ki a b) (k:ki b c):ki a c:=⟨λs=>(h.1 s).trans (k.1 s),h.2.trans k.2⟩
theorem ki.symm {a b:St} (h:ki a b):ki b a:=⟨λs=>(h.1 s).symm,h.2.symm⟩
theorem ki.run {i:dC} {a b l:St} (h:ki a b) (e:iw call base i a=some l):∃k,iw call base i b=some k/\ki l k/\entry call base i b=entry call base i a:=by
 have j:eG b.env=eG a.env:=by
  funext x;cases x with
  |tmp t=>exact(h.1 t).symm;|_=>rfl
 have o:mE b.env i.guard=mE a.env i.guard:=by
  cases p:i.guard with
  |none=>rfl;|some g=>
   obtain⟨c,d⟩:=g;cases c with
   |none=>rfl;|some s=>simp only[mE];rw[h.1]
 have f:∀(v:AV) (s:Nat),dK (oU a.env i.dst v) s=dK (oU b.env i.dst v) s:=by
  intro v s;simp only[vA];by_cases m:i.dst=some s;·simp_all
  ·rw[if_neg m,if_neg m];exact h.1 s
 have n:entry call base i b=entry call base i a:=by unfold entry;rw[o,j,h.2]
 unfold iw at e ⊢;rw[o,j,<-h.2];split at e;·cases e
 ·injection e with e;subst e;exact⟨_,rfl,⟨f _,rfl⟩,n⟩
 ·split at e
  ·injection e with e;subst e;exact⟨_,rfl,⟨f _,rfl⟩,n⟩
  ·cases e
def zE (n0:Nat) (y:dC) (a:List Nat×List Nat) (x:dC) (b:List Nat×List Nat):Prop:=
 zo y x=true/\(∀j∈a.2,j∉b.1)/\(∀j∈b.2,j∉a.1)/\(y.op.cls=3->x.op.cls≠3/\∀j∈b.1,j<n0)/\(x.op.cls=3->∀j∈a.1,j<n0)
theorem Yy {y x:dC} (h:zo y x=true):(∀d,y.dst=some d->d∉x.reads)/\(∀d,x.dst=some d->d∉y.reads)/\∀d,y.dst=some d->x.dst≠some d:=by
 grind[zo,FO]
theorem swap {n0:Nat} {y x:dC} {st c s2:St} (k:iw call base y st=some c) (n:iw call base x c=some s2) (P:n0<=st.o.length) (D:zE n0 y (entry call base y st) x (entry call base x c)):
  ∃a b,iw call base x st=some a/\iw call base y a=some b/\ki s2 b/\entry call base x st=entry call base x c/\entry call base y a=entry call base y st:=by
 obtain⟨d,Z,O,H,Q⟩:=D;obtain⟨a1,K,U⟩:=Yy d;obtain⟨G,A,y2,S,C,F⟩:=xy k;obtain⟨L,q,V,T,X,l⟩:=xy n;obtain⟨a,h,u,f,p4⟩:=l st (λs i=>by
   grind) (λj m=>by
   rw[C j];rintro(z|⟨e,B⟩)<;>grind) (λe=>by
   omega);obtain⟨E,J,W,I,r,_⟩:=xy h;obtain⟨b,g,w,p,R⟩:=F a (λs i=>by
   grind) (λj m=>by
   rw[r j];rw[f];rintro(z|⟨e,B⟩)<;>grind) (λe=>by
   omega);obtain⟨t,b1,M,Y,N,_⟩:=xy g;refine⟨a,b,h,g,⟨λs=>?_,?_⟩,f.symm▸rfl,p⟩
 ·rw[q s,w s,u s,A s];grind
 ·apply γ9;intro j;by_cases v:mI x.op (entry call base x c).2 c.o.length j;·
   grind[mI,Yx]
  grind[mI]
noncomputable def ents (call:dh) (base:Nat):List dC->St->List (List Nat×List Nat)
 |[],_=>[]
 |i::r,b=>entry call base i b::match iw call base i b with
  |some a=>ents call base r a
  |none=>[]
theorem ki.runs {l:List dC}:∀{a b d:St},ki a b->gi call base l a=some d->∃e,gi call base l b=some e/\ki d e/\ents call base l b=ents call base l a:=by
 induction l with
 |nil=>intro a b d h c;simp only[gi,γ] at c;subst c;exact⟨b,rfl,h,rfl⟩;|cons i l o=>
  intro a b d h c;simp only[gi] at c;split at c
  ·rename_i k f;obtain⟨j,m,g,n⟩:=h.run f;grind[gi,ents]
  ·cases c
theorem front {n0:Nat} {x:dC} {b:List dC}:∀(a:List dC) {st s:St},gi call base (a++x::b) st=some s->n0<=st.o.length->
  (∀(k:Nat) (y:dC) (p f:List Nat×List Nat),a[k]?=some y->(ents call base (a++x::b) st)[k]?=some p->(ents call base (a++x::b) st)[a.length]?=some f->zE n0 y p x f)->
  ∃g s',iw call base x st=some g/\gi call base (a++b) g=some s'/\ki s s'/\(ents call base (a++x::b) st)[a.length]?=some (entry call base x st)/\
   ents call base (a++b) g=(ents call base (a++x::b) st).eraseIdx a.length
 |[],st,s,d,_,_=>by
  grind[gi,ki.refl,ents];|y::a,st,s,d,n,m=>by
  simp only[γH,gi] at d;split at d
  ·rename_i l i;have c:ents call base (y::(a++x::b)) st=entry call base y st::ents call base (a++x::b) l:=by simp[ents,i]
   obtain⟨_,_,h,_⟩:=xy i;obtain⟨g,s',r,v,C,M,I⟩:=front a d (δS n h) λk z u f t K L=>m (k+1) z u f (by simpa using t) (by simp_all) (by simp_all);have e:zE n0 y (entry call base y st) x (entry call base x l):=m 0 y _ _ (by simp) (by simp[c]) (by simp_all);obtain⟨B,H,w,F,A,D,J⟩:=swap i r n e;obtain⟨j,G,q,E⟩:=A.runs v;refine⟨B,j,w,?_,C.trans q,?_,?_⟩<;>grind[gi,ents]
  ·cases d
end
theorem Yz {acc:List Nat} {l:List Edge} {m:Nat}:∀{s:Nat},(l.foldl (B0 acc) s).testBit m=true->s.testBit m=true\/∃e∈l,Region.binds .any e=true/\(m=e.on\/(acc.getD e.on 0).testBit m=true):=by
 induction l with
 |nil=>simp_all;|cons e l b=>
  intro s h;simp only[List.foldl_cons] at h;rcases b h with a|⟨d,f,a,c⟩
  ·unfold B0 at a;grind
  grind
def zF (acc:List Nat) (o:Oper):Nat:=o.after.toList.foldl (B0 acc) 0
theorem Ox:∀(L:List Oper) (acc:List Nat),∃r,L.foldl (λacc o=>acc++[zF acc o]) acc=acc++r/\r.length=L.length/\
  ∀(k:Nat) (o:Oper),L[k]?=some o->r[k]?=some (zF (acc++r.take k) o)
 |[],acc=>⟨[],by simp,rfl,by simp⟩
 |o::L,acc=>by
  obtain⟨r,b,a,d⟩:=Ox L (acc++[zF acc o]);refine⟨zF acc o::r,by simp[b],by simp[a],λk e c=>?_⟩;cases k<;>simp_all
theorem YA {a:Array Oper} {k m:Nat} {o:Oper} (p:a[k]?=some o) (h:((o6 a).getD k 0).testBit m=true):
  ∃e∈o.after,Region.binds .any e=true/\(m=e.on\/((o6 a).getD e.on 0).testBit m=true):=by
 obtain⟨r,j,n,g⟩:=Ox a.toList [];have c:o6 a=r:=by
  grind[o6,zF]
 rw[c] at h ⊢;have d:=g k o (by simp_all);rw[ζa,d] at h;simp only[Option.getD_some,List.nil_append] at h;rcases Yz h with f|⟨e,l,i,b⟩;·simp at f
 ·refine⟨e,by simp_all,i,b.imp_right λb=>?_⟩;rw[ζa] at b ⊢;rw[List.getElem?_take] at b;grind
theorem Oy:∀(L:List Oper) (i:Nat),wY i L=true->∀(k:Nat) (o:Oper),L[k]?=some o->∀e∈o.after,Region.binds .any e=true->e.on<i+k
 |[],i,_,k,o,a,_,_,_=>by simp at a;|o::L,i,h,k,c,a,e,d,b=>by
  simp only[wY,θ,φ] at h;cases k with
  |zero=>
   grind;|succ k=>
   have:=Oy L (i+1) h.2 k c (by simp_all) e d b;omega
theorem Oz {c:List Nat}:∀{l:List dC},w9 c l=true->∀(p q:Nat) (y x:dC),p<q->l[p]?=some y->l[q]?=some x->
  (c.getD x.idx 0).testBit y.idx=true\/(zo y x=true/\(wX y x=true\/BX y x=true))
 |[],_,p,q,y,x,_,e,_=>by simp at e;|a::r,h,p,q,y,x,b,e,d=>by
  simp only[w9,θ,φ] at h;match q,b with
  |q+1,b=>
   simp only[γL] at d;cases p with
   |zero=>
    grind;|succ p=>exact Oz h.2 p q y x (by omega) (by simp_all) d
theorem OA {d:List Nat}:∀{l:List dC} (p q:Nat) (y x:dC),p<q->l[p]?=some y->l[q]?=some x->¬(d.getD x.idx 0).testBit y.idx=true->wX y x=false->(y.idx,x.idx)∈rq d l
 |[],p,q,y,x,_,c,_,_,_=>by simp at c;|a::r,p,q,y,x,b,c,e,g,f=>by
  simp only[rq,γk];match q,b with
  |q+1,b=>
   simp only[γL] at e;cases p with
   |zero=>
    grind;|succ p=>exact .inr (OA p q y x (by omega) (by simp_all) e g f)
section
variable {P:Program} {A:dM} {D:List Deferred} {call:dh} {base:Nat}
theorem Gv:∀{l:List dC} {st:St} {p:Nat} {x:dC} {t:List Nat×List Nat},l[p]?=some x->(ents call base l st)[p]?=some t->∃st',t=entry call base x st'
 |[],st,p,x,t,b,_=>by simp at b;|i::l,st,p,x,t,b,a=>by
  simp only[ents] at a;cases p with
  |zero=>grind;|succ p=>
   simp only[γL] at b a;split at a;·exact Gv b a
   ·simp at a
theorem Gw:∀{l:List dC} {st s:St} {p:Nat} {x:dC} {t:List Nat×List Nat},gi call base l st=some s->(l.map (·.idx)).Nodup->l[p]?=some x->(ents call base l st)[p]?=some t->qo (mG call base l st) x.idx=t
 |[],st,s,p,x,t,_,_,a,_=>by simp at a;|i::l,st,s,p,x,t,b,g,a,d=>by
  simp only[gi] at b;split at b
  ·rename_i j k;simp only[π,γW] at g;have e:mG call base (i::l) st=(i.idx,entry call base i st)::mG call base l j:=by
    grind[mG,entry]
   rw[e];simp only[ents,k] at d;cases p with
   |zero=>grind[qo];|succ p=>
    simp only[γL] at a d;have c:i.idx≠x.idx:=λh=>g.1 (h▸List.mem_map_of_mem (f:=λi:dC=>i.idx) (γd a));simp only[qo,beq_iff_eq,c,if_false];exact Gw b g.2 a d
  ·cases b
theorem OB {i:dC} {st:St} (h:i.op.cls=0):entry call base i st=([],[]):=by
 grind[entry,Gs,t7]
theorem OC {i:dC} {st:St} (h:i.op.cls=1):(entry call base i st).2=[]:=by
 grind[entry,t7]
theorem OD {a b:List Nat} (h:wW a b=true):∀j∈a,j∉b:=by
 intro j c d;have:=φ.1 h j c;simp_all
theorem YB {n0:Nat} {c:List Nat} {l:List dC} {st s:St} (z:gi call base l st=some s) (A:(l.map (·.idx)).Nodup) (r:w9 c l=true)
  (b:((rq c l).isEmpty||tN n0 (mG call base l st) (rq c l))=true) {p q:Nat} {y x:dC} {E D:List Nat×List Nat} (e:p<q) (i:l[p]?=some y) (j:l[q]?=some x)
  (d:(ents call base l st)[p]?=some E) (f:(ents call base l st)[q]?=some D):(c.getD x.idx 0).testBit y.idx=true\/zE n0 y E x D:=by
 rcases Oz r p q y x e i j with h|⟨g,I⟩;·exact .inl h
 by_cases u:(c.getD x.idx 0).testBit y.idx=true;·exact .inl u
 right;obtain⟨v,m⟩:=Gv i d;obtain⟨C,k⟩:=Gv j f;cases a:wX y x with
 |true=>
  unfold wX at a;simp only[Bool.or_eq_true,θ,beq_iff_eq] at a;rcases a with(a|a)|⟨a,n⟩
  ·have:=OB (call:=call) (base:=base) (st:=v) a;rw[this] at m;subst m;exact⟨g,by simp,by simp,λh=>(by omega),by simp⟩
  ·have:=OB (call:=call) (base:=base) (st:=C) a;rw[this] at k;subst k;exact⟨g,by simp,by simp,λ_=>⟨by rw[a];decide,by simp⟩,λh=>(by omega)⟩
  ·have B:=OC (call:=call) (base:=base) (st:=v) a;have w:=OC (call:=call) (base:=base) (st:=C) n;rw[<-m] at B;rw[<-k] at w;exact⟨g,by simp[B],by simp[w],λh=>(by omega),λh=>(by omega)⟩;|false=>
  have M:BX y x=true:=I.resolve_left (by simp[a]);have J:=OA p q y x e i j u a;have o:(rq c l).isEmpty=false:=by
   grind
  rw[o,Bool.false_or] at b;have t:=φ.1 b _ J;simp only[Gw z A i d,Gw z A j f,θ,φ,decide_eq_true_eq] at t;obtain⟨⟨⟨F,K⟩,H⟩,G⟩:=t;refine⟨g,OD F,OD K,λL=>⟨λN=>?_,G⟩,λ_=>H⟩;grind[BX]
theorem de.eq {e:Nat} {f:World} {b:bX} {d:Store} {st st':St} {a:Act} {w:World} {σ:bX} (h:de A e D f b d st a w σ) (c:ki st st'):de A e D f b d st' a w σ where
 fA:=c.2▸h.fA;env:=λs=>by rw[<-c.1 s,<-c.2];exact h.env s
 size:=h.size;defers:=h.defers;ext:=c.2▸h.ext
theorem de.drew {e:Nat} {f:World} {b:bX} {d:Store} {st:St} {a:Act} {w:World} {σ:bX} (h:de A e D f b d st a w σ):de A e D f b d st a {w with drawn:=w.drawn+1} σ:=by
 have c:Ext w σ st.o {w with drawn:=w.drawn+1} σ st.o:=⟨ν _,λ_ _ h=>⟨rfl,h⟩,ν _,λ_ _ h=>⟨h,λ_ h=>⟨h,rfl⟩⟩,λ_ h=>⟨h,rfl⟩,rfl,rfl,rfl⟩;exact⟨⟨h.fA.len,h.fA.dist,h.fA.bnd,λi x g=>(h.fA.obj i x g).ext c rfl λ_ _ _=>rfl,h.fA.av,h.fA.jH⟩,λs=>(h.env s).ext c,h.size,h.defers,h.ext.trans c⟩
theorem YC {c:Type} (b a:List c) (x:c):b++a=(b++x::a).eraseIdx b.length:=by
 grind
structure Gx (P:Program) (nt:Nat) (fl:List Nat) (ops:Array Oper) (call:dh) (base n0:Nat) (st2:St) (l:List dC) (listed:Array Bool) (st:St):Prop where
 run:∃s,gi call base l st=some s/\ki st2 s
 len:n0<=st.o.length
 rel:∀(p q:Nat) (y x:dC) (ty tx:List Nat×List Nat),p<q->l[p]?=some y->l[q]?=some x->(ents call base l st)[p]?=some ty->(ents call base l st)[q]?=some tx->((o6 ops).getD x.idx 0).testBit y.idx=true\/zE n0 y ty x tx
 comp:∀x∈l,∃bB,rm P nt fl ops bB x.idx=some x
 nodup:(l.map (·.idx)).Nodup
 sz:listed.size=ops.size
 bD:∀k,k<ops.size->(listed.getD k true=false↔∃x∈l,x.idx=k)
 closed:∀k m,listed.getD k false=true->((o6 ops).getD k 0).testBit m=true->listed.getD m false=true
theorem getD_lt {c:Array Bool} {k:Nat} (h:k<c.size) (a b:Bool):c.getD k a=c.getD k b:=by
 simp_all
theorem YD {M:Nat} {fl:List Nat} {c:Array Oper} (K:pM P call) (a5:wY 0 c.toList=true) {n0:Nat} {st2:St} {w0:World} {L:bX} {o0:Store} {Q:Exit->Act->World->Prop}
  (hQ:∀Y w' F,de A M D w0 L o0 st2 Y w' F->Q .normal Y w') {dn:Option Nat}:∀(h:Nat) (l:List dC) (b:Array Bool) (st:St) (a:Act) (w:World) (σ:bX),l.length<=h->
   Gx P M fl c call base n0 st2 l b st->de A M D w0 L o0 st a w σ->wpAnyIn (FR dn) 0 P .any c Q h b a w:=by
 have C:∀(b:Array Bool) (st:St) (a:Act) (w:World) (σ:bX),Gx P M fl c call base n0 st2 [] b st->de A M D w0 L o0 st a w σ->Q .normal a w:=by
  intro b st a w σ d O;obtain⟨s,n,h2⟩:=d.run;simp only[gi,γ] at n;subst n;exact hQ _ _ _ (O.eq h2.symm)
 have H:∀(l:List dC) (b:Array Bool) (st:St),Gx P M fl c call base n0 st2 l b st->∀(k:Nat),(∃x∈l,x.idx=k)->Region.ready .any c b≠[]:=by
  intro l b st d k;induction k using ζH with
  |_ k ih=>
   rintro⟨x,G,rfl⟩;obtain⟨V,X⟩:=d.comp x G;cases I:c[x.idx]? with
   |none=>grind[rm];|some o=>
    have j:x.idx<c.size:=(γz.1 I).1;by_cases i:∀e∈o.after,Region.binds .any e=true->b.getD e.on false=true
    ·intro u;have:x.idx∈Region.ready .any c b:=mem_ready.2 ⟨(d.bD _ j).2 ⟨x,G,rfl⟩,o,I,i⟩;simp_all
    ·simp only[Classical.not_forall] at i;obtain⟨e,he,hb,hn⟩:=i;have N:=Oy c.toList 0 a5 x.idx o (by simp_all) e he hb;simp only[Nat.zero_add] at N;refine ih e.on N ((d.bD e.on (by omega)).1 ?_);rw[getD_lt (by rw[d.sz];omega) true false];simp_all
 intro h;induction h with
 |zero=>
  intro l b st a w σ hl d O;have:l=[]:=τ (by omega);subst this;refine⟨?_,C b st a w σ d O⟩;rw[List.eq_nil_iff_forall_not_mem];intro k j;obtain⟨h0,o,I,_⟩:=mem_ready.1 j;obtain⟨x,G,_⟩:=(d.bD k (γz.1 I).1).1 h0;simp at G;|succ h ih=>
  intro l b st a w σ hl d O;refine⟨λu=>?_,λk j=>?_⟩;·cases l with
   |nil=>grind;|cons x l=>exact absurd u (H _ b st d x.idx ⟨x,by simp,rfl⟩)
  ·obtain⟨h0,o,I,i⟩:=mem_ready.1 j;have a2:k<c.size:=(γz.1 I).1;obtain⟨x,G,rfl⟩:=(d.bD k a2).1 h0;obtain⟨f,g,rfl⟩:=List.append_of_mem G;obtain⟨s,R,S⟩:=d.run;have T:∀m,((o6 c).getD x.idx 0).testBit m=true->b.getD m false=true:=by
    intro m hm;obtain⟨e,he,hb,n⟩:=YA I hm;rcases n with rfl|n;·simp_all
    ·exact d.closed _ _ (i e he hb) n
   obtain⟨s1,s',f1,f2,f3,f4,f5⟩:=front (n0:=n0) f R d.len λp y W tx hp n h2=>by
    have a0:p<f.length:=(ζ.1 hp).1;have J:(f++x::g)[p]?=some y:=by grind
    rcases d.rel p f.length y x W tx a0 J (by simp) n h2 with Z|Z
    ·exfalso;have h4:=T _ Z;obtain⟨V,X⟩:=d.comp y (γd J);cases U:c[y.idx]? with
     |none=>simp[rm,U] at X;|some oy=>
      have a6:y.idx<c.size:=(γz.1 U).1;have h5:=(d.bD _ a6).2 ⟨y,γd J,rfl⟩;grind
    ·exact Z
   obtain⟨V,X⟩:=d.comp x G;refine Ol K X f1 O λY w' F a4=>?_;have a8:=d.nodup;have a7:=YC f g x;have v:∀(p:Nat) (y:dC),(f++g)[p]?=some y->(f++x::g)[if p<f.length then p else p+1]?=some y:=by
    grind
   have B:∀(p:Nat) (t:List Nat×List Nat),(ents call base (f++g) s1)[p]?=some t->(ents call base (f++x::g) st)[if p<f.length then p else p+1]?=some t:=by
    grind
   obtain⟨_,_,E,_⟩:=xy f1;refine ih (f++g) _ s1 Y w' F (by grind) ⟨⟨s',f2,S.trans f3⟩,δS d.len E,λp q y z W tz a9 hy hz a1 a3=>?_,λy hy=>d.comp y ?_,?_,by simp[d.sz],λk j=>?_,λk m j hm=>?_⟩ a4
   ·refine d.rel _ _ y z W tz ?_ (v p y hy) (v q z hz) (B p W a1) (B q tz a3);split<;>split<;>omega
   ·grind
   ·grind
   ·by_cases r:k=x.idx
    ·subst r;have n:(b.setIfInBounds x.idx true).getD x.idx true=true:=by simp
     grind
    ·rw[getD_set_ne true (Ne.symm r),d.bD k j];grind
   ·by_cases r:k=x.idx;·grind[getD_set_true]
    ·rw[getD_set_ne false (Ne.symm r)] at j;exact getD_set_true (d.closed k m j hm)
theorem OE:∀{l:List Nat},nodupB l=true->l.Nodup
 |[],_=>List.nodup_nil
 |a::r,h=>by
  simp only[nodupB,θ,Bool.not_eq_true',List.contains_eq_mem,decide_eq_false_iff_not] at h;exact γW.2 ⟨h.1,OE h.2⟩
theorem YE {b:Nat} {fl:List Nat} {a:Array Oper} {bB k:Nat} {x:dC} (h:rm P b fl a bB k=some x):x.idx=k/\k<a.size:=by
 unfold rm at h;split at h;·cases h
 ·rename_i o d;split at h
  ·obtain⟨c,_,rfl⟩:=ε.1 h;grind
  ·cases h
theorem YF (g:pM P call) {s:Nat} {fl:List Nat} {d:Array Oper} {id k:Nat} {c:List Nat} {l:List dC} (S:vl P s fl d 0 c=some (l,k)) (h:P.follows .mixedOrders=true)
  (C:c.length=d.size) (L:nodupB c=true) (M:w9 (o6 d) l=true) (u:wY 0 d.toList=true) (r:(ω d.size).all c.contains=true)
  {b st2:St} (T:gi call b.o.length l ⟨b.env,b.o++gj k⟩=some st2)
  (G:((rq (o6 d) l).isEmpty||tN (b.o++gj k).length (mG call b.o.length l ⟨b.env,b.o++gj k⟩) (rq (o6 d) l))=true)
  {I:World} {n:bX} {F:Store} {a:Act} {w:World} {σ:bX} {Q:Exit->Act->World->Prop} (O:de A s D I n F ⟨b.env,b.o++gj k⟩ a w σ) (K:∀B w' t,de A s D I n F st2 B w' t->Q .normal B w') {dn:Option Nat}:(Code.region id d true).wpIn (FR dn) 0 P Q a w:=by
 obtain⟨Z,W⟩:=Gp S;have E:l.map (·.idx)=c:=by
  apply γ9;intro j;rw[List.getElem?_map];cases f:l[j]? with
  |none=>
   simp_all;|some x=>
   have v:=(ζ.1 f).1;have z:=μ (l:=c) (i:=j) (by omega);obtain⟨X,V⟩:=W j x _ f z;rw[z];simp[(YE V).1]
 have e:(l.map (·.idx)).Nodup:=by grind[OE]
 refine wpIn_region_any h (YD (fl:=fl) (base:=b.o.length) (n0:=(b.o++gj k).length) g u K d.size l _ ⟨b.env,b.o++gj k⟩ a _ σ (by omega) ⟨⟨st2,T,ki.refl _⟩,ν _,λp q y x ty tx R Y H N U=>?_,λx H=>?_,e,by simp,λj f=>?_,λj m f=>?_⟩ O.drew);·grind[YB]
 ·obtain⟨j,f⟩:=List.getElem?_of_mem H;have v:=(ζ.1 f).1;have z:=μ (l:=c) (i:=j) (by omega);grind
 ·have J:(εc d.size false).getD j true=false:=by simp[f]
  rw[J];refine⟨λ_=>?_,λ_=>rfl⟩;have:=φ.1 r j (List.mem_range.2 f);grind
 ·exfalso;rw[Array.getD_eq_getD_getElem?,Array.getElem?_replicate] at f;grind
end
section
variable {P:Program} {A:dM} {D:List Deferred} {w w':World} {σ σ':bX} {o o':Store}
theorem bU.fresh (i:bU A w σ o) (e:TypeId) (sz:Nat) (pu:Bool):∃a,bU A w a (o++[.cells [] e sz pu])/\Ext w σ o w a (o++[.cells [] e sz pu])/\a[o.length]?=some none:=by
 obtain⟨k,j⟩:=i.gj 1;have b:(o++Go.Vi.gj 1)[o.length]?=some .dead:=by simp[Go.Vi.gj]
 have c:(o++Go.Vi.gj 1).set o.length (.cells [] e sz pu)=o++[.cells [] e sz pu]:=by
  grind[Go.Vi.gj]
 have f:o.length<(σ++List.replicate 1 none).length:=by simp[i.len]
 obtain⟨d,g⟩:=k.upd (w':=w) (x':=.cells [] e sz pu) (s':=none) b (ν _) rfl rfl rfl (λ_ _ _=>rfl) (λ_ _ h=>by cases h) trivial (λl=>by
  simp only[dE];exact⟨λ_=>rfl,rfl,.inl ⟨by simp_all,trivial⟩⟩);rw[c] at d g;exact⟨_,d,j.trans g,by simp_all⟩
theorem OG {n:Nat} {e:TypeId} {sz:Nat} {pu:Bool} (c:o[n]?=some (.cells [] e sz pu)) (a:σ[n]?=some none):bw A w σ o (.os n 0 0 0) (.slice none 0 0):=by
 simp only[bw];refine⟨⟨[],e,sz,pu,c,ν _⟩,none,0,rfl,ν _,λb _=>?_⟩;grind[kE]
theorem de.YG {t:Nat} {r:World} {g:bX} {p:Store} {st:St} {a:Act} (h:de A t D r g p st a w σ) (id:Nat):∃i,de A t D r g p (BU id st) a w i:=by
 unfold BU;split
 ·rename_i E e L k;have n:id<st.o.length:=(ζ.1 k).1;have d:id<σ.length:=by rw[h.fA.len];exact n
  obtain⟨x,q⟩:=h.fA.upd (w':=w) (x':=.cells E e L false) (s':=σ[id]) k (ν _) rfl rfl rfl (λ_ _ _=>rfl)
   (λb c N=> .inl ⟨c,by simp_all⟩) ⟨_,e,false,rfl,by simp,λ_=>μ d⟩ (λK=>by
    have f:=h.fA.obj id _ k;simp only[dE] at f ⊢;obtain⟨P,H,I⟩:=f;refine⟨λG=>(by cases G),H,?_⟩;rcases I with⟨O,R⟩|⟨b,l,m,Q,J,u,y,F,M⟩;·simp_all
    ·refine .inr ⟨b,l,m,?_,J,u,y,F,λj c C=>?_⟩;·simp_all
     ·obtain⟨v,z,B⟩:=M j c C;exact⟨v,z,B.ext K⟩);exact⟨_,x,λs=>(h.env s).ext q,h.size,h.defers,h.ext.trans q⟩
 grind
theorem de.YH {M:Nat} {P:World} {u:bX} {U:Store} {st:St} {a:Act} (h:de A M D P u U st a w σ) (x:kB):∃C,de A M D P u U (BV x st) a w C:=by
 obtain⟨f,I,z,V⟩:=h.fA.fresh x.e x.sz x.pu;have r:(st.o++[bR.cells [] x.e x.sz x.pu])[st.o.length]?=some (.cells [] x.e x.sz x.pu):=by simp
 unfold BV;split
 ·split
  ·rename_i N;refine⟨f,I,λs=>?_,h.size,h.defers,h.ext.trans z⟩;simp only[dK];cases X:δs x.slot s with
   |true=>
    have:=εV X;subst this;have:=h.env x.slot;grind[gA,OG];|false=>exact(h.env s).ext z
  ·split;·exact h.YG _
   grind
  grind
 ·rename_i k _;split
  ·rename_i i d a1 N;split
   ·rename_i p e y pu ho;split
    ·rename_i R;split
     ·rename_i g;obtain⟨L,rfl⟩:=g;have a0:i<st.o.length:=(ζ.1 ho).1;have l:i<f.length:=by grind
      have n:(st.o++[bR.cells [] x.e x.sz x.pu])[i]?=some (.cells p e y false):=by grind
      have Z:d+k<p.length:=(ζ.1 R).1;obtain⟨O,G⟩:=I.upd (w':=w) (x':=.cells (p.set (d+k) (.os st.o.length 0 0 0)) e y false) (s':=f[i]) n (ν _) rfl rfl rfl (λ_ _ _=>rfl)
       (λb c N=> .inl ⟨c,by simp_all⟩) ⟨_,e,false,rfl,by simp,λ_=>μ l⟩ (λS=>by
        have t:=I.obj i _ n;simp only[dE] at t ⊢;obtain⟨q1,q2,q3⟩:=t;refine⟨λh=>(by cases h),?_,?_⟩
        ·refine nh.2 λc H=>?_;rcases List.mem_or_eq_of_mem_set H with T|T;·grind[nh]
         ·subst T;rfl
        ·rcases q3 with⟨_,h0⟩|⟨b,K,B,r1,W,r3,Y,r5,Q⟩;·simp_all
         ·refine .inr ⟨b,K,B,?_,W,r3,Y,by simp_all,λj c m=>?_⟩;·simp_all
          ·rw[εm] at m;split at m
           ·rename_i J;subst J;injection m with m;subst m;obtain⟨v,E,F⟩:=Q _ _ R;refine⟨v,E,?_⟩;rw[gA F];exact(OG r V).ext S
           ·obtain⟨v,E,F⟩:=Q j c m;exact⟨v,E,F.ext S⟩);have q:(st.o++[bR.cells [] x.e x.sz x.pu]).set i (.cells (p.set (d+k) (.os st.o.length 0 0 0)) e y false)=(st.o.set i (.cells (p.set (d+k) (.os st.o.length 0 0 0)) e y false))++[bR.cells [] x.e x.sz x.pu]:=by
       simp_all
      rw[q] at O G;exact⟨_,O,λs=>((h.env s).ext z).ext G,h.size,h.defers,(h.ext.trans z).trans G⟩
     grind
    grind
   grind
  grind
theorem de.YI {t:Nat} {r:World} {f:bX} {p:Store} {st:St} {a:Act} (h:de A t D r f p st a w σ) (id:Nat):∃i,de A t D r f p (zm id st) a w i:=by
 unfold zm;split
 ·rename_i G e x k;split
  ·rename_i E;have n:id<st.o.length:=(ζ.1 k).1;have d:id<σ.length:=by rw[h.fA.len];exact n
   obtain⟨y,q⟩:=h.fA.upd (w':=w) (x':=.cells G e x true) (s':=σ[id]) k (ν _) rfl rfl rfl (λ_ _ _=>rfl)
    (λb c N=> .inl ⟨c,by simp_all⟩) ⟨_,e,true,rfl,by simp,λ_=>μ d⟩ (λH=>by
     have g:=h.fA.obj id _ k;simp only[dE] at g ⊢;obtain⟨P,F,K⟩:=g;refine⟨λ_=>E,F,?_⟩;rcases K with⟨O,R⟩|⟨b,l,m,Q,L,u,z,I,M⟩;·simp_all
     ·refine .inr ⟨b,l,m,?_,L,u,z,I,λj c B=>?_⟩;·simp_all
      ·obtain⟨v,C,J⟩:=M j c B;exact⟨v,C,J.ext H⟩);exact⟨_,y,λs=>(h.env s).ext q,h.size,h.defers,h.ext.trans q⟩
  grind
 grind
theorem de.hint {f:Nat} {g:World} {b:bX} {e:Store} {st:St} {a:Act} {lo:Nat} (l:e.length<=lo) (h:de A f D g b e st a w σ) (x:kB):∃d,de A f D g b e (kg lo x st) a w d:=by
 unfold kg;split;·exact h.YH x
 ·split
  ·rename_i o _ _ _ _;split
   ·rename_i p;have m:=Nat.le_of_ble_eq_true p;obtain⟨k,h⟩:=h.YI o;unfold BW;simp only;split
    ·rename_i q t n j;have c:=Oc j;exact⟨_,h.fA.bV c,λs=>bw.bV h.fA c _ _ _ (Oa n s) (h.env s),h.size,h.defers,h.ext.bV c λi r=>by
      grind⟩
    grind
   grind
  grind
theorem OH {s:World} {f:bX} {h:Store} (j:bU A w σ o) (g:Ext s f h w σ o) {l r:AV} {u:Value} (y:bw A w σ o l u) {own:Bool} (a:finish own h.length l o=some (r,o')):
  ∃d,bU A w d o'/\bw A w d o' r u/\Ext s f h w d o':=by
 unfold finish at a;cases own with
 |true=>grind[X7];|false=>
  simp only[χ,if_false] at a;split at a
  ·rename_i D;split at a
   ·rename_i C m;simp only[γ,ι] at a;obtain⟨rfl,rfl⟩:=a;have t:h=[]:=τ D;subst t;refine⟨[],zA w j.jH,F9 j (λb _ a=>a.2) 6 l C u m (λq _ b c p=>j.av q b c p) y,g.size,λb v B=>⟨(g.blk b v B).1,λ⟨i,c,z⟩=>by simp at z⟩,ν _,λq x k=>?_,λq k=>?_,g.os,g.tape,g.output⟩;·obtain⟨G,e,F,E,n,_⟩:=k;simp at n
    ·obtain⟨H,I,E,n⟩:=k;simp at n
   ·cases a
  ·cases a
end
open Go.RowKit
section
variable {A:dM} {w w':World} {σ:bX} {o:Store}
mutual
theorem bw.to (g:∀(p:Addr) (v:Value),w.cell? p=some v->w'.cell? p=some v):∀(c:AV) (v:Value),bw A w σ o c v->bw A w' σ o c v
 | .ud,_,_=>by simp[bw];| .sc u,v,d=>by grind[bw];| .agg e,v,d=>by
  simp only[bw] at d ⊢;obtain⟨k,rfl,i⟩:=d;exact⟨k,rfl,bG.to g e _ i⟩;| .bI e,v,d=>by
  simp only[bw] at d ⊢;obtain⟨k,rfl,i⟩:=d;exact⟨k,rfl,bG.to g e _ i⟩;| .sl n e,v,d=>by
  simp only[bw] at d ⊢;obtain⟨a,q,rfl,G,x,y⟩:=d;exact⟨a,q,rfl,G,x,dr.to g e a 0 y⟩;| .ep e l,v,d=>by
  simp only[bw] at d ⊢;obtain⟨a,rfl,x,y⟩:=d;exact⟨a,rfl,x,dr.to g e _ 0 y⟩;| .ptr z l m,v,d=>by grind[bw];| .os z l H m,v,d=>by grind[bw];| .mp z,v,d=>by grind[bw];| .fn f a b,v,d=>by
  simp only[bw] at d ⊢;obtain⟨E,F,rfl,C,I⟩:=d;exact⟨E,F,rfl,bG.to g a _ C,bG.to g b _ I⟩;| .jo t e,v,d=>by
  simp only[bw] at d ⊢;obtain⟨k,rfl,B,i⟩:=d;exact⟨k,rfl,B,bG.to g e _ i⟩
theorem bG.to (g:∀(p:Addr) (v:Value),w.cell? p=some v->w'.cell? p=some v):∀(e:List AV) (k:List Value),bG A w σ o e k->bG A w' σ o e k
 |[],_,h=>by grind[bG];|c::e,k,h=>by
  simp only[bG] at h ⊢;obtain⟨v,r,rfl,s,i⟩:=h;exact⟨v,r,rfl,bw.to g c v s,bG.to g e r i⟩
theorem dr.to (g:∀(p:Addr) (v:Value),w.cell? p=some v->w'.cell? p=some v):∀(e:List AV) (a:Option Addr) (j:Nat),dr A w σ o e a j->dr A w' σ o e a j
 |[],_,_,_=>by simp[dr];|c::e,a,j,h=>by
  simp only[dr] at h ⊢;obtain⟨⟨b,v,rfl,D,s,d⟩,i⟩:=h;exact⟨⟨b,v,rfl,D,g _ _ s,bw.to g c v d⟩,dr.to g e _ (j+1) i⟩
end
theorem bU.to (a:bU A w σ o) (t:∀(p:Addr) (v:Value),w.cell? p=some v->w'.cell? p=some v) (J:∀(i b c:Nat),σ[i]?=some (some (b,c))->w'.heap[b]?=w.heap[b]?)
  (d:w.heap.size<=w'.heap.size):bU A w' σ o:=by
 refine⟨a.len,a.dist,λi b c h=>γh (a.bnd i b c h) d,λi x F=>?_,a.av,λb h=>γh (a.jH b h) d⟩;have h:=a.obj i x F;cases x with
 |dead=>grind[dE];|cells N e K H=>
  simp only[dE] at h ⊢;refine⟨h.1,h.2.1,?_⟩;rcases h.2.2 with s|⟨b,n,g,k,u,y,l,D,C⟩;·exact .inl s
  ·refine .inr ⟨b,n,g,k,u,by grind,l,D,λj c q=>?_⟩;obtain⟨v,I,f⟩:=C j c q;exact⟨v,I,f.to t c v⟩;|map M L H=>
  simp only[dE] at h ⊢;obtain⟨s,r,b,c,E,G,k,u,y,l⟩:=h;refine⟨s,r,b,c,E,G,k,by grind,y,λj e q=>?_⟩;obtain⟨m,B,z,f⟩:=l j e q;exact⟨m,B,z,f.to t e.2 _⟩
theorem zG {r b:Nat} {y:Obj} (h:b≠r):(w.putObj r y).heap[b]?=w.heap[b]?:=by
 simp_all[World.putObj,Ne.symm]
theorem putObj_size {r:Nat} {y:Obj}:(w.putObj r y).heap.size=w.heap.size:=by simp_all
theorem OI {r:Nat} {x y:Obj} (h:w.heap[r]?=some x) (b:x.isCells=false) (p:Addr) (v:Value) (a:w.cell? p=some v):(w.putObj r y).cell? p=some v:=by
 grind[cells_of_cell,World.cell?_of_block,zG]
theorem bU.t8 (a:bU A w σ o) {r:Nat} {x y:Obj} (h:w.heap[r]?=some x) (d:x.isCells=false) (g:¬Own σ r):bU A (w.putObj r y) σ o:=
 a.to (OI h d) (λi b c f=>zG λe=>g ⟨i,c,e▸f⟩) (by simp_all)
theorem bw.t8 {c:AV} {v:Value} (a:bw A w σ o c v) {r:Nat} {x y:Obj} (h:w.heap[r]?=some x) (b:x.isCells=false):bw A (w.putObj r y) σ o c v:=
 a.to (OI h b) c v
theorem Ext.t8 {c:World} {a:bX} {d:Store} (h:Ext c a d w σ o) {r:Nat} {y:Obj} (g:c.heap.size<=r):Ext c a d (w.putObj r y) σ o where
 size:=by rw[putObj_size];exact h.size
 blk:=λb e f=>by
  obtain⟨i,j⟩:=h.blk b e f;grind[zG]
 len:=h.len;cur:=h.cur;isMap:=h.isMap;os:=h.os;tape:=h.tape;output:=h.output
theorem CP {P:Program} {t:Func} {a:Array Value} {m:World} {D:List Deferred} {R:Ending->World->Prop}:∀(j:List Deferred) (w:World),tZ m w j->bU A w σ o->
  (∀w',bU A w' σ o->(∀{c:bX} {q:Store},Ext m c q w σ o->Ext m c q w' σ o)->(∀s v,bw A w σ o s v->bw A w' σ o s v)->LeavesInM (FR none) 0 P t a R D .returning w')->
  LeavesInM (FR none) 0 P t a R (j++D) .returning w
 |[],w,_,f,k=>k w f (λh=>h) (λ_ _ h=>h)
 |d::j,w,g,f,k=>by
  obtain⟨r,x,n,i⟩:=g.2 d (by simp);have C:=f.Gn i (by simp) (by simp);simp only[γH,LeavesInM];refine⟨by simp,.inl ⟨r,w.putObj r (.deferred none),by rw[x],run_takeDeferred i,?_⟩⟩;refine CP j _ ⟨(γB.1 g.1).2,λe p=>?_⟩ (f.t8 i rfl C) λw' y z E=>k w' y (λh=>z (h.t8 n)) (λs v h=>E s v (h.t8 i rfl));obtain⟨B,l,b,u⟩:=g.2 e (γy _ p);refine⟨B,l,b,?_⟩;have:=(γB.1 g.1).1 e p;grind[zG]
theorem Gy {P:Program} {m:World}:∀(f:List Deferred) (w:World) (fr:Frame) (cs:List Frame),fr.mode= .returning->fr.defers=f->tZ m w f->bU A w σ o->
  ∃w',StepsIn (Machine.fenced P (FR none)) P (lone fr cs w) (lone {fr with defers:=[]} cs w')/\bU A w' σ o/\(∀{a:bX} {u:Store},Ext m a u w σ o->Ext m a u w' σ o)/\∀s v,bw A w σ o s v->bw A w' σ o s v
 |[],w,fr,cs,_,k,_,l=>by
  refine⟨w,?_,l,λh=>h,λ_ _ h=>h⟩;have:fr={fr with defers:=[]}:=by rw[<-k]
  rw[<-this];exact StepsIn.refl _;|d::f,w,fr,cs,x,k,j,l=>by
  obtain⟨r,p,q,i⟩:=j.2 d (by simp);have C:=l.Gn i (by simp) (by simp);have b:fr.mode≠ .run:=by rw[x];simp
  have I:=step_collected (cs:=cs) b k (by rw[p]) (run_takeDeferred (P:=P) i);have H:(lone fr cs w).fenced P (FR none):=fenced_out (n:=0) trivial (by simp[FR,Fence.wide,Fence.room]) b k (λg J=>by grind[Target.leads]);obtain⟨w',E,z,F,D⟩:=Gy f (w.putObj r (.deferred none)) {fr with defers:=[]++f} cs x rfl ⟨(γB.1 j.1).2,λe y=>by
   obtain⟨G,t,c,B⟩:=j.2 e (γy _ y);refine⟨G,t,c,?_⟩;have:=(γB.1 j.1).1 e y;grind[zG]⟩ (l.t8 i rfl C);exact⟨w',.head H I E,z,λh=>F (h.t8 q),λs v h=>D s v (h.t8 i rfl)⟩
theorem YJ {P:Program} {f:FuncId} {m:Func} {c:Code} {args:Array Value} {u:FrameMode} {w:World} {R:Ending->World->Prop}
  (E:P.funcs[f]?=some m) (S:m.body=some c)
  (h:c.wpIn (FR none) 0 P (λe a r=>(e= .normal\/e= .ret)/\∃(q:World) (g:bX) (l:Store),tZ q r a.defers/\bU A r g l/\∀i,bU A i g l->(∀{n:bX} {I:Store},Ext q n I r g l->Ext q n I i g l)->(∀s v,bw A r g l s v->bw A i g l s v)->
   ∃v,(results m a.tmps).run P i= .ok v i/\R (.returned v) i) {tmps:=args++εc (m.ntmps - args.size) undef,defers:=[]} w):
  CallsDIn (FR none) 0 P f args u w λe L w'=>L=u/\R e w':=by
 refine⟨trivial,λd z Q J=>?_⟩;let b:Frame:={(default:Frame) with fn:=f,kind:=.deferred,roundOf:=none};have k:Frame.enter P f args .deferred=
   b.atR {tmps:=args++εc (m.ntmps - args.size) undef,defers:=[]} [.code c]:=by
  grind[Frame.enter,Frame.atR]
 have F:({d with mode:=u}:Frame)=d:=by subst Q;rfl
 obtain⟨e,p,w',O,j⟩:=h b [] (d::z) rfl trivial J;rw[<-k] at j;obtain⟨N,q,g,l,H,K,G⟩:=O;rcases N with rfl|rfl
 ·obtain⟨i,C,t,y,B⟩:=Gy (P:=P) p.defers w' {b.atR p [] with mode:=.returning} (d::z) rfl rfl H K;obtain⟨v,D,x⟩:=G i t y B;exact⟨.returned v,u,i,_,⟨rfl,x⟩,(by rw[F];exact StepsIn.trans (StepsIn.trans j (.one (fenced_calm (fr:=b.atR p []) trivial J rfl) (stepR_end rfl))) C),rfl,rfl,rfl,rfl,m,E,D⟩
 ·obtain⟨o,M⟩:=j.1 rfl;obtain⟨i,C,t,y,B⟩:=Gy (P:=P) p.defers w' {b.atR p o with mode:=.returning} (d::z) rfl rfl H K;obtain⟨v,D,x⟩:=G i t y B;exact⟨.returned v,u,i,_,⟨rfl,x⟩,(by rw[F];exact StepsIn.trans M C),rfl,rfl,rfl,rfl,m,E,D⟩
end
open Go.RowKit
def Out.ua:Out->Exit
 | .norm=> .normal
 | .exit a=> .exit a
 | .ret=> .ret
 | .goto l=> .goto l
section
variable {P:Program} {A:dM} {D:List Deferred} {w w':World} {σ σ':bX} {o o':Store}
theorem YK (a:List Nat) (env:jF) (s:Nat):dK (prune a env) s=dK env s\/dK (prune a env) s= .ud:=by
 unfold prune;induction a with
 |nil=>right;rfl;|cons x a b=>
  simp only[π,dK];cases c:δs x s<;>simp_all
theorem YL (t:Nat) (env:jF) (s:Nat):dK (rj t env) s=dK env s\/dK (rj t env) s= .ud:=by
 induction env with
 |nil=>left;rfl;|cons p env c=>
  simp only[rj];cases a:δs p.1 t with
  |true=>
   simp only[cond_true];by_cases d:p.1=s
   ·have e:=εV a;right;have:∀env:jF,dK (rj t env) t= .ud:=by
     intro env;induction env with
     |nil=>rfl;|cons q env c=>
      simp only[rj];cases b:δs q.1 t with
      |true=>simp_all;|false=>simp_all[dK]
    simp_all
   ·have:dK (p::env) s=dK env s:=by
     simp only[dK];have:δs p.1 s=false:=by
      cases h:δs p.1 s<;>simp_all
     rw[this];rfl
    simp_all;|false=>
   simp only[cond_false,dK];grind
theorem de.drop {d:Nat} {e:World} {b:bX} {c:Store} {st:St} {a:Act} (h:de A d D e b c st a w σ) (x:Operand):de A d D e b c ⟨pI x st.env,st.o⟩ a w σ where
 fA:=h.fA;env:=λs=>by
  unfold pI;split
  ·rename_i t;rcases YL t st.env s with f|f;·simp only[f];exact h.env s
   grind[bw]
  ·exact h.env s
 size:=h.size;defers:=h.defers;ext:=h.ext
theorem de.prune {e:Nat} {f:World} {c:bX} {d:Store} {st:St} {a:Act} (h:de A e D f c d st a w σ) (b:List Nat):de A e D f c d ⟨ζS b st.env,st.o⟩ a w σ where
 fA:=h.fA;env:=λs=>by
  rcases YK b st.env s with g|g;·simp only[g];exact h.env s
  grind[bw]
 size:=h.size;defers:=h.defers;ext:=h.ext
theorem YM {env:jF} {s:Nat}:dK env s= .ud\/∃p∈env,p.2=dK env s:=by
 induction env<;>grind[dK]
theorem de.trim {g:Nat} {f:World} {b:bX} {d:Store} {st:St} {a:Act} (h:de A g D f b d st a w σ) {k:Nat} (i:d.length<=k):∃c,de A g D f b d (Go.Vi.trim k st) a w c:=by
 unfold Go.Vi.trim;split;·grind
 ·split
  ·rename_i e;simp only[θ,φ] at e;refine⟨σ.take k,⟨h.fA.take e.2,λs=>?_,h.size,h.defers,h.ext.take i⟩⟩;grind[YM,env,bw,bw.take]
  grind
theorem de.gj {e:Nat} {g:World} {b:bX} {d:Store} {st:St} {a:Act} (h:de A e D g b d st a w σ) (n:Nat):∃c,de A e D g b d ⟨st.env,st.o++Go.Vi.gj n⟩ a w c:=by
 obtain⟨i,f⟩:=h.fA.gj n;exact⟨_,i,λs=>(h.env s).ext f,h.size,h.defers,h.ext.trans f⟩
theorem de.rc {e:Nat} {f:World} {c:bX} {d:Store} {st:St} {a:Act} (h:de A e D f c d st a w σ) {k:Nat} (g:d.length<=k):∃b,de A e D f c d ⟨st.env,Go.Vi.rc k st.o⟩ a w b:=by
 obtain⟨b,l,j,i⟩:=X4 h.fA k;exact⟨b,l,λs=>j _ _ (h.env s),h.size,h.defers,i _ _ _ g h.ext⟩
theorem de.len {d:Nat} {e:World} {b:bX} {c:Store} {st:St} {a:Act} (h:de A d D e b c st a w σ):c.length<=st.o.length:=h.ext.len
theorem de.hints {nt:Nat} {w0:World} {lT:bX} {o0:Store} {lo:Nat} (hlo:o0.length<=lo) (l:List kB):∀{st:St} {a:Act} {σ:bX},de A nt D w0 lT o0 st a w σ->∃σ',de A nt D w0 lT o0 (l.foldl (λs h=>kg lo h s) st) a w σ':=by
 induction l with
 |nil=>intro st a σ h;exact⟨σ,h⟩;|cons x l ih=>
  intro st a σ h;obtain⟨σ1,h1⟩:=de.hint hlo h x;exact ih h1
theorem YN {dn:Option Nat} {call:dh} (hcall:pM P call) {lo nt:Nat} {H:List RH} {id:Nat} {ops:Array Oper} {draw:Bool} {c:IR} (hc:xd P nt H id ops draw=some c):
  ∃k l kC live pre post,c= .region id draw k l kC live pre post/\∀{st st':St},pH call k l kC (pre.foldl (λs h=>kg lo h s) st)=some st'->∀{w0:World} {lT:bX} {o0:Store} {a:Act} {w:World} {σ:bX},o0.length<=lo->de A nt D w0 lT o0 st a w σ->
   (Code.region id ops draw).wpIn (FR dn) 0 P (λe a' w'=>e= .normal/\∃σ',de A nt D w0 lT o0 (post.foldl (λs h=>kg lo h s) ⟨ζS live st'.env,st'.o⟩) a' w' σ') a w:=by
 unfold xd at hc;split at hc;·cases hc
 ·rename_i h hh;have fin:∀(k:Nat) (l:List dC) (kC:List (Nat×Nat)),(∀{st1 st2:St},gi call st1.o.length l ⟨st1.env,st1.o++gj k⟩=some st2->(kC.isEmpty||tN (st1.o++gj k).length (mG call st1.o.length l ⟨st1.env,st1.o++gj k⟩) kC)=true->
     ∀{w0:World} {lT:bX} {o0:Store} {a:Act} {w:World} {σ:bX} {Q:Exit->Act->World->Prop},de A nt D w0 lT o0 ⟨st1.env,st1.o++gj k⟩ a w σ->(∀a' w' σ',de A nt D w0 lT o0 st2 a' w' σ'->Q .normal a' w')->(Code.region id ops draw).wpIn (FR dn) 0 P Q a w)->
    ∀{st st':St},pH call k l kC (h.pre.foldl (λs h=>kg lo h s) st)=some st'->∀{w0:World} {lT:bX} {o0:Store} {a:Act} {w:World} {σ:bX},o0.length<=lo->de A nt D w0 lT o0 st a w σ->
     (Code.region id ops draw).wpIn (FR dn) 0 P (λe a' w'=>e= .normal/\∃σ',de A nt D w0 lT o0 (h.post.foldl (λs h=>kg lo h s) ⟨ζS h.live st'.env,st'.o⟩) a' w' σ') a w:=by
   intro k l kC hrun st st' hr w0 lT o0 a w σ hlo hs;obtain⟨σ1,hs1⟩:=de.hints hlo h.pre hs;generalize aii:h.pre.foldl (λs h=>kg lo h s) st=st1 at hr hs1;unfold pH at hr;simp only at hr;split at hr
   ·rename_i st2 h2;split at hr
    ·rename_i Gz;injection hr with hr;obtain⟨σ2,hs2⟩:=hs1.gj k;refine hrun h2 Gz hs2 λa' w' σ' h3=>⟨rfl,?_⟩;have h4:∃OJ,de A nt D w0 lT o0 st' a' w' OJ:=by
      subst hr;by_cases hk:k=0;·simp only[hk,if_true];exact⟨σ',h3⟩
      ·simp only[hk,if_false];exact h3.rc hs1.len
     obtain⟨OJ,h4⟩:=h4;exact de.hints hlo h.post (h4.prune h.live)
    ·cases hr
   ·cases hr
  cases draw with
  |false=>
   simp only[χ,if_false] at hc;obtain⟨⟨l,k⟩,hl,rfl⟩:=ε.1 hc;refine⟨k,l,[],h.live,h.pre,h.post,rfl,fin k l [] λ{st1 st2} h2 _ w0 lT o0 a w σ Q hs hQ=>?_⟩;obtain⟨g1,g2⟩:=Gp hl;exact wpIn_region (Om hcall l (ω ops.size) g1 g2 _ _ a w σ h2 hs hQ);|true=>
   simp only[if_true] at hc;generalize (if h.perm.isEmpty=true then ω ops.size else h.perm)=perm at hc;split at hc
   ·rename_i l k hl;split at hc
    ·rename_i hcond;injection hc with hc;refine⟨k,l,rq (o6 ops) l,h.live,h.pre,h.post,hc.symm,fin k l _ λ{st1 st2} h2 Gz w0 lT o0 a w σ Q hs hQ=>?_⟩;simp only[θ,beq_iff_eq] at hcond;exact YF hcall hl hcond.1.1.1.1.1 hcond.1.1.1.1.2 hcond.1.1.1.2 hcond.1.1.2 hcond.1.2 hcond.2 h2 Gz hs hQ
    ·cases hc
   ·cases hc
def vB (_:Program) (dn:Option Nat) (_:dM->World->bX->Store->Prop):Md->Prop
 | .plain=>dn=none
def Closed (B:dM->World->bX->Store->Prop):Prop:=∀A w c o b a d,B A w c o->Ext w c o b a d->B A b a d
theorem YP {call:dh} (m:pM P call) {dn:Option Nat} {B:dM->World->bX->Store->Prop} {md:Md} (G:vB P dn B md) (F:Closed B) {lo r:Nat} {H:List RH} {id:Nat} {p:Array Oper} {d:Bool} {c:IR} (y:xd P r H id p d=some c):
  ∃k l j f g b,c= .region id d k l j f g b/\∀{st st':St},FN md d call k l j (g.foldl (λs h=>kg lo h s) st)=some st'->∀{q:World} {i:bX} {n:Store} {a:Act} {w:World} {σ:bX},B A q i n->n.length<=lo->de A r D q i n st a w σ->
   (Code.region id p d).wpIn (FR dn) 0 P (λe x w'=>e= .normal/\∃u,de A r D q i n (b.foldl (λs h=>kg lo h s) ⟨ζS f st'.env,st'.o⟩) x w' u) a w:=by
 obtain⟨k,l,j,f,g,b,v,E⟩:=YN (dn:=dn) m (A:=A) (lo:=lo) y;refine⟨k,l,j,f,g,b,v,?_⟩;intro st st' z q i n a w σ _ t C;exact E z t C
structure kG (P:Program) (T:Tab):Prop where
 fn:∀f F,T.fn f=some F->∃fn H,P.funcs[f]?=some fn/\B7 P H fn=some F/\gX P f=true
 K:∀f args o own r o',T.K f args o own=some (r,o')->gX P f=true/\kF P f args o r o'/\(own=false->o'=[])
def zH (P:Program) (T:Tab) (n:Nat):Prop:=
 ∀(g:Option Nat) (m:Md) (B:dM->World->bX->Store->Prop),vB P g B m->Closed B->
 ∀(o:Nat) (c:IR) (p:St) (h:Out) (f:St),exec T m n o c p=some (h,f)->∀(j:Nat) (H:List RH) (b:Code),comp P j H b=some c->∀(D:List Deferred) (A:dM) (l:World) (d:bX) (i:Store) (a:Act) (w:World) (q:bX),B A l d i->i.length<=o->de A j D l d i p a w q->
  b.wpIn (FR g) 0 P (λe s r=>e=h.ua/\∃k,de A j D l d i f s r k) a w
def zI:dM->World->bX->Store->Prop:=λ_ _ _ _=>True
theorem CQ:Closed zI:=λ_ _ _ _ _ _ _ _ _=>trivial
theorem OL:∀(k:Nat) (args:List AV) (s:Nat),dK (ix k args) s=if k<=s then(args[s - k]?).getD .ud else .ud
 |k,[],s=>by simp[ix,dK];|k,v::b,s=>by
  simp only[ix,dK];by_cases h:k=s;·subst h;simp
  ·have a:δs k s=false:=by
    cases a:δs k s<;>simp_all
   simp only[a,cond_false];rw[OL (k+1) b s];grind
def zJ (a:Array Value):ResultVar->Sem Value
 | .tmp t=>pure (a.getD t undef)
 | .cell x t=>do loadVar t (<-asAddr (a.getD x undef))
theorem YQ (b:Func) (a:Array Value):results b a=(do let vs <-b.results.mapM (zJ a);pure (if h:vs.size=1 then vs[0] else .tuple vs)):=by
 unfold results;congr 1
theorem YR {m:Nat} {i:World} {e:bX} {l:Store} {st:St} {a:Act} (h:de A m D i e l st a w σ) {f:ResultVar} {g:ng} (d:sC P f=some g) {r:AV} (c:rf st g=some r):
  ∃u,(zJ a.tmps f).run P w= .ok u w/\bw A w σ st.o r u:=by
 cases f with
 |tmp t=>
  simp only[sC,γ] at d;subst d;simp only[rf,γ] at c;subst c;exact⟨_,rfl,h.env t⟩;|cell x t=>
  simp only[sC,ε] at d;obtain⟨n,j,rfl⟩:=d;simp only[rf] at c;split at c
  ·rename_i y s k;obtain⟨p,z,b⟩:=(h.env x).Ns h.fA k;obtain⟨u,v,q⟩:=Nu (P:=P) j b c;grind[zJ,asAddr]
  ·cases c
theorem GF {K:Nat} {Q:World} {t:bX} {N:Store} {st:St} {a:Act} (h:de A K D Q t N st a w σ) {m:Func} {H:List ng} (O:rl (sC P) m.results.toList=some H) {r:AV} (j:nV st H=some r):
  ∃u,(results m a.tmps).run P w= .ok u w/\bw A w σ st.o r u:=by
 obtain⟨n,S⟩:=FY O;unfold nV at j;have z:∀(c:List ResultVar) (b:List ng) (g:List AV),c.length=b.length->(∀(i:Nat) (x:ResultVar) (y:ng),c[i]?=some x->b[i]?=some y->sC P x=some y)->b.mapM (rf st)=some g->
   ∃d:List Value,(c.mapM (zJ a.tmps)).run P w= .ok d w/\bG A w σ st.o g d:=by
  intro c;induction c with
  |nil=>
   intro b g l _ f;have:b=[]:=τ (by simp_all);simp_all[bG];|cons x c R=>
   intro b g l G f;match b,l with
   |y::b,l=>
    rw[List.mapM_cons] at f;cases s:rf st y with
    |none=>simp[s] at f;|some v=>
     cases e:b.mapM (rf st) with
     |none=>simp_all;|some C=>
      simp[s,e] at f;subst f;obtain⟨u,U,M⟩:=YR h (G 0 x y (by simp) (by simp)) s;obtain⟨d,B,E⟩:=R b C (by grind) (λi p q J T=>G (i+1) p q (by simpa using J) (by simpa using T)) e;refine⟨u::d,?_,by grind[bG]⟩;simp_all
 have F:∀d:List Value,(m.results.toList.mapM (zJ a.tmps)).run P w= .ok d w->
   (results m a.tmps).run P w= .ok (if h:d.length=1 then d[0]'(by omega) else .tuple d.toArray) w:=by
  grind[YQ,Array.mapM_eq_mapM_toList,Sem.run_bind,Sem.run_map,Result.andThen_ok,Sem.run_pure]
 split at j;·grind[bG]
 ·rename_i g I f;injection j with j;subst j;obtain⟨d,B,l⟩:=z _ _ _ n S f;have k:=bG.length _ _ l;have L:¬d.length=1:=by
   intro n;match g,k.trans n with
   |[v],_=>simp_all
  grind[bw]
 ·cases j
theorem GG {a:Nat} {args:List AV} {vs:List Value} (d:bU A w σ o) (b:bG A w σ o args vs) (j:args.length<=a):de A a [] w σ o ⟨ix 0 args,o⟩ {tmps:=vs.toArray++εc (a - vs.toArray.size) undef,defers:=[]} w σ:=by
 have i:=bG.length _ _ b;refine⟨d,λs=>?_,?_,⟨[],rfl,δH,by simp⟩,Ext.refl _ _ _⟩
 ·simp only[OL,Nat.zero_le,if_true,Nat.sub_zero];cases h:args[s]? with
  |none=>simp[bw];|some c=>
   obtain⟨v,e,g⟩:=bG.get _ _ b s c h;have f:s<vs.length:=(ζ.1 e).1;have:(vs.toArray++εc (a - vs.toArray.size) undef).getD s undef=v:=by
    simp_all[Array.getElem?_append_left]
   simp_all
 ·simp;omega
theorem YT {T:Tab} {n:Nat} (W:zH P T n) {md:Md} {B:dM->World->bX->Store->Prop} (N:vB P none B md) (L:Closed B) {f:FuncId} {c:Func} {g:Code} {H:List RH} {b:IR} {E:List ng}
  (t:P.funcs[f]?=some c) (i:c.body=some g) (X:comp P c.ntmps H g=some b) (y:rl (sC P) c.results.toList=some E) (Q:¬c.ntmps<c.params.size+c.nfree)
  {args:List AV} {out:Out} {st:St} (C:args.length=c.params.size+c.nfree) (j:out= .norm\/out= .ret) (m:exec T md n o.length b ⟨ix 0 args,o⟩=some (out,st)) {G r:AV} (z:nV st E=some G) {own:Bool} (q:finish own o.length G st.o=some (r,o'))
  {vs:List Value} (x:B A w σ o) (J:bU A w σ o) (I:bG A w σ o args vs):
  CallsIn (FR none) 0 P f vs.toArray w λe w'=>∃u a,e= .returned u/\bU A w' a o'/\bw A w' a o' r u/\Ext w σ o w' a o':=by
 have M:=bG.length _ _ I;refine callsIn_of_wp_marks (F:=FR none) t i trivial (wpIn_mono (W none md B N L _ b _ out st m c.ntmps H g X [] A w σ o {tmps:=vs.toArray++εc (c.ntmps - vs.toArray.size) undef,defers:=[]} w σ x (ν _) (GG J I (by omega))) ?_)
 ·rintro e p w' ⟨rfl,a,d⟩;have k:LeavesInM (FR none) 0 P c p.tmps (λe w'=>∃u a,e= .returned u/\bU A w' a o'/\bw A w' a o' r u/\Ext w σ o w' a o') p.defers .returning w':=by
   obtain⟨K,v,U⟩:=d.defers;rw[v];refine CP K w' U d.fA λS R V O=>?_;simp only[LeavesInM,LeavesIn];have h:de A c.ntmps [] w σ o st {p with defers:=[]} S a:=⟨R,λs=>O _ _ (d.env s),d.size,⟨[],rfl,δH,by simp⟩,V d.ext⟩;obtain⟨u,Y,l⟩:=GF h y z;have D:=OH h.fA h.ext l q;simp_all
  rcases j with rfl|rfl;·exact k
  ·exact k
theorem OM {out:Out} (h:ri out=true):out= .norm\/out= .ret:=by
 grind[ri]
theorem YU {P:Program} {j:Nat} {H:List RH} {g:FuncId} {e:List Operand} {d:Nat} {a b:IR} (c:Code):comp P j H c≠some (.tL g e d a b):=by
 intro h;cases c with
 |region k i f=>
  simp only[comp] at h;unfold xd at h;split at h;·cases h
  ·split at h;·grind
   simp_all;|seq x y=>grind[comp];|cond c x y=>
  grind[comp];|_=>simp[comp] at h
theorem YV {f:Array Oper} {g:FuncId} {e:List Operand} {d:Nat} (h:B6 f=some (g,e,d)):∃i j a b c,f.toList=[i,j]/\i.dst=some d/\i.op= .makeFunc (.func g) a b/\i.guard=none/\j.op= .defer c/\j.dst=none/\j.guard=none/\c.callee= .value (.tmp d)/\a.toList=[]/\c.args.toList=[]/\b.toList=e:=by
 grind[B6]
theorem YW {n:Nat} {id:Nat} {e:Array Oper} {g:FuncId} {f:List Operand} {d:Nat} (H:B6 e=some (g,f,d)) (p:d<n) {st:St} {a:Act} {F:World} {l:bX} {G:Store} (h:de A n D F l G st a w σ) {Q:Exit->Act->World->Prop}
  (I:∀(r:Act) (vs:List Value),bG A w σ st.o (f.map (eG st.env)) vs->de A n ({target:=.fn (.func g) vs.toArray,args:=#[]}::a.defers) w σ st.o ⟨(d,.ud)::st.env,st.o⟩ r w σ->Q .normal r w):
  (Code.region id e false).wpIn (FR none) 0 P Q a w:=by
 obtain⟨k,u,x,b,c,t,q,U,X,S,J,V,R,N,T,rfl⟩:=YV H;have L:e[0]?=some k:=by rw[<-γV,t];rfl
 have z:e[1]?=some u:=by rw[<-γV,t];rfl
 have B:e.size=2:=by grind[Array.length_toList]
 have W:x=#[]:=εl (by omega);have O:c.args=#[]:=εl (by omega);refine wpIn_region ?_;rw[B];show wpOpsIn (FR none) 0 P e Q [0,1] a w;rw[wpOpsIn_cons];unfold wpOpIn;simp only[L];rw[if_pos (by grind[Region.wanted])];unfold Oper.wpIn;rw[show(FR none).round=none from rfl,Oper.semAt_none];refine⟨λ_ _=>trivial,?_⟩;have E:(execOp a.eval k).run P w= .ok (.value (.func (.func g) #[] (b.map a.eval))) w:=by
  simp_all[execOp,Instr.makeFunc]
 rw[E,Oper.uponIn_value,wpOpsIn_cons];have C:d<a.tmps.size:=by rw[h.size];exact p
 have m:(a.put k.dst (.func (.func g) #[] (b.map a.eval))).eval (.tmp d)= .func (.func g) #[] (b.map a.eval):=by
  simp_all[Act.put,Act.eval]
 generalize i:a.put k.dst (.func (.func g) #[] (b.map a.eval))=K at m;unfold wpOpIn;simp only[z];rw[if_pos (by grind[Region.wanted])];unfold Oper.wpIn;rw[show(FR none).round=none from rfl,Oper.semAt_none];refine⟨λ_ _=>trivial,?_⟩;have y:(execOp K.eval u).run P w= .ok (.defer {target:=.fn (.func g) (b.map a.eval),args:=#[]}) w:=by
  simp_all[execOp,resolve,Deferred.ofValue]
 rw[y,Oper.uponIn_defer,J];show Q .normal _ w;have j:bG A w σ st.o (b.toList.map (eG st.env)) (b.toList.map a.eval):=vq (λx=>h.ev x) b.toList;refine I _ (b.toList.map a.eval) j ⟨h.fA,λs=>?_,?_,⟨[],?_,δH,by simp⟩,Ext.refl _ _ _⟩
 ·subst i;by_cases M:d=s;·simp_all[dK,bw]
  ·have v:δs d s=false:=by
    cases v:δs d s<;>simp_all
   simp only[dK,v,cond_false];have:=h.env s;simp_all[Act.put]
 ·subst i;simp[q,Act.put,h.size]
 ·subst i;simp[q,Act.put];grind
theorem YX {T:Tab} {n:Nat} (Q:zH P T n) {v:Nat} {H:List RH} {lo:Nat} {C:World} {p:bX} {D:Store} (I:D.length<=lo) {g:FuncId} {m:List Operand} {d:Nat} {S:IR} {s0 s2:St} {out:Out}
  (J:exec T .plain n s0.o.length S ⟨(d,.ud)::s0.env,s0.o⟩=some (out,s2)):∀(f:Code) (z:IR) (st:St) (a:Act) (w:World) (σ:bX),vm P v H f=some (z,(g,m,d),S)->rh (exec T .plain n lo) z st=some s0->de A v [] C p D st a w σ->
  f.wpIn (FR none) 0 P (λe B w'=>e=out.ua/\gX P g=true/\∃(q:World) (j t:bX) (R:List Deferred) (vs:List Value),tZ C q R/\bU A q j s0.o/\Ext C p D q j s0.o/\bG A q j s0.o (m.map (eG s0.env)) vs/\
   de A v ({target:=.fn (.func g) vs.toArray,args:=#[]}::R) q j s0.o s2 B w' t) a w:=by
 intro f;induction f with
 |seq c l _ G=>
  intro z st a w σ k i h;cases c with
  |region W K N=>
   unfold vm at k;split at k
   ·rename_i x X _;split at k
    ·rename_i y;obtain⟨b,Y,O⟩:=ε.1 k;simp only[ι] at O;obtain⟨rfl,rfl,rfl⟩:=O;simp only[rh,γ] at i;subst i;refine wpIn_seq (YW X y.1 h λE vs V s=>?_);show l.wpIn _ _ _ _ E w;obtain⟨ms,U,Z⟩:=h.defers;refine wpIn_mono (Q none .plain zI rfl CQ _ b _ out s2 J v H l Y _ A w σ st.o E w σ trivial (ν _) s) ?_;rintro e B w' ⟨rfl,t,L⟩;exact⟨rfl,y.2,w,σ,t,a.defers,vs,by simp_all,h.fA,h.ext,V,L⟩
    ·cases k
   ·split at k
    ·rename_i r B x b hr F;simp only[γ,ι] at k;obtain⟨rfl,rfl,rfl⟩:=k;simp only[rh] at i;split at i
     ·rename_i u M;refine wpIn_seq (wpIn_mono (Q none .plain zI rfl CQ lo r st .norm u M v H (.region W K _) (by grind[comp]) [] A C p D a w σ trivial I h) ?_);rintro e E q ⟨rfl,j,s⟩;exact G B u E q j F i s
     ·cases i
    ·cases k;|_=>simp[vm] at k
 |_=>
  intro z st a w σ k;simp[vm] at k
theorem YY {T:Tab} (hT:kG P T) {n:Nat} (ih:zH P T n) {f:FuncId} {fn:Func} {code:Code} {H:List RH} {ia ib:IR} {g:FuncId} {caps:List Operand} {d:Nat} {rs:List ng}
  (hfn:P.funcs[f]?=some fn) (hcode:fn.body=some code) (hb:vm P fn.ntmps H code=some (ia,(g,caps,d),ib)) (hrs:rl (sC P) fn.results.toList=some rs) (hnt:¬fn.ntmps<fn.params.size+fn.nfree)
  {args:List AV} {out CS:Out} {s0 s2 s3:St} (hlen:args.length=fn.params.size+fn.nfree) (hout:out= .norm\/out= .ret) (h1:rh (exec T .plain n o.length) ia ⟨ix 0 args,o⟩=some s0) (h2:exec T .plain n s0.o.length ib ⟨(d,.ud)::s0.env,s0.o⟩=some (out,s2))
  {F:fz} (hF:T.fn g=some F) (hcl:(caps.map (eG s0.env)).length=F.params) (hre:F.res=[]) (h3:exec T .plain n s2.o.length F.body ⟨ix 0 (caps.map (eG s0.env)),s2.o⟩=some (CS,s3)) (aij:CS= .norm\/CS= .ret)
  {r0 r:AV} (hr0:nV ⟨s2.env,s3.o⟩ rs=some r0) {own:Bool} (hfi:finish own o.length r0 s3.o=some (r,o'))
  {vs:List Value} (hS:bU A w σ o) (hr:bG A w σ o args vs):
  CallsIn (FR none) 0 P f vs.toArray w λe w'=>∃u σ',e= .returned u/\bU A w' σ' o'/\bw A w' σ' o' r u/\Ext w σ o w' σ' o':=by
 have hvl:=bG.length _ _ hr;obtain⟨fg,Hg,hfg,hcg,hgg⟩:=hT.fn g F hF;obtain⟨cg,YZ,Y0,hpg,hrg⟩:∃cg,fg.body=some cg/\comp P fg.ntmps Hg cg=some F.body/\F.params<=fg.ntmps/\rl (sC P) fg.results.toList=some []:=by
  unfold B7 at hcg;split at hcg;·cases hcg
  ·rename_i cg aik;split at hcg
   ·rename_i b rs' hb' ail;split at hcg;·cases hcg
    ·rename_i ain;injection hcg with hcg;subst hcg;simp only at h3 hre ⊢;subst hre;unfold FP at hb';split at hb';·simp_all
     ·obtain⟨x,_,rfl⟩:=ε.1 hb';cases n<;>simp[exec] at h3
   ·cases hcg
 refine callsIn_of_wp_marks (F:=FR none) hfn hcode trivial (wpIn_mono (YX ih (ν _) h2 code ia _ _ w σ hb h1 (GG hS hr (by omega))) ?_);rintro e a' w' ⟨rfl,hg,w1,σ1,σ',ds,cv,hM1,hS1,hE1,hcv,hs'⟩;have key:LeavesInM (FR none) 0 P fn a'.tmps (λe w'=>∃u σ',e= .returned u/\bU A w' σ' o'/\bw A w' σ' o' r u/\Ext w σ o w' σ' o') a'.defers .returning w':=by
  obtain⟨ms,hms,hM⟩:=hs'.defers;rw[hms];refine CP ms w' hM hs'.fA λw2 q1 q3 q4=>?_;simp only[LeavesInM];refine⟨by simp,.inr ⟨λh=>by grind[FR,Fence.wide],.func g,cv.toArray,g,cv.toArray,rfl,by simp[invoke,CL hg],λ_ _=>trivial,?_⟩⟩;have OO:bG A w2 σ' s2.o (caps.map (eG s0.env)) cv:=by
   have e1:Ext w1 σ1 s0.o w' σ' s2.o:=hs'.ext;grind[bG.ext]
  have aio:=bG.length _ _ OO;refine CallsDIn.mono (YJ (A:=A) hfg YZ (R:=λe w3=>∃u σ3,e= .returned u/\bU A w3 σ3 s3.o/\Ext w2 σ' s2.o w3 σ3 s3.o) (wpIn_mono (ih none .plain zI rfl CQ _ F.body _ CS s3 h3 fg.ntmps Hg cg Y0 [] A w2 σ' s2.o _ w2 σ' trivial (ν _) (GG q1 OO (by omega))) ?_)) ?_
  ·rintro e a3 w3 ⟨rfl,σ3,hs3⟩;obtain⟨ms3,Y1,hM3⟩:=hs3.defers;rw[γ1] at Y1;refine⟨by grind[Out.ua],w2,σ3,s3.o,by simp_all,hs3.fA,λw4 k1 k2 k3=>?_⟩;have hs4:de A fg.ntmps [] w2 σ' s2.o s3 {a3 with defers:=[]} w4 σ3:=⟨k1,λs=>k3 _ _ (hs3.env s),hs3.size,⟨[],rfl,δH,by simp⟩,k2 hs3.ext⟩;obtain⟨u,hu,_⟩:=GF hs4 hrg (r:=.bI []) rfl;exact⟨u,hu,u,σ3,rfl,k1,k2 hs3.ext⟩
  ·rintro e u' w3 ⟨rfl,u,σ3,rfl,p1,p2⟩;show LeavesInM (FR none) 0 P fn a'.tmps _ ds (settle .returning) w3;rw[show settle FrameMode.returning= .returning from rfl,<-γ1 ds];have e13:Ext w1 σ1 s0.o w3 σ3 s3.o:=(q3 hs'.ext).trans p2;refine CP ds w3 (hM1.ext hS1 e13) p1 λw4 t1 t3 t4=>?_;simp only[LeavesInM,LeavesIn];have hs4:de A fn.ntmps [] w σ o ⟨s2.env,s3.o⟩ {a' with defers:=[]} w4 σ3:=⟨t1,λs=>t4 _ _ ((q4 _ _ (hs'.env s)).ext p2),hs'.size,⟨[],rfl,δH,by simp⟩,t3 (hE1.trans e13)⟩;obtain⟨u,hu,o7⟩:=GF hs4 hrs hr0;have hfin:=OH hs4.fA hs4.ext o7 hfi;simp_all
 rcases hout with rfl|rfl;·exact key
 ·exact key
theorem OP {T:Tab} (N:kG P T) {n:Nat} (ih:zH P T n):pM P (qs T (exec T .plain n)):=by
 intro f e o m r I c;unfold qs at c;split at c
 ·rename_i x hK;injection c with c;subst c;exact N.K _ _ _ _ _ _ hK
 ·split at c;·cases c
  ·rename_i F J;obtain⟨fn,H,y,a,hg⟩:=N.fn f F J;split at c
   ·rename_i k;unfold B7 at a;split at a;·cases a
    ·rename_i a0 j;split at a
     ·rename_i b rs i D;split at a;·cases a
      ·rename_i E;injection a with a;subst a;simp only at c k;have p:∀{t:AV} {u:St},finish m o.length t u.o=some (r,I)->m=false->I=[]:=λl ho=>by
        subst ho;unfold finish at l;grind
       unfold FP at i;split at i
       ·rename_i V S;injection i with i;subst i;have R:∀(x:Option (Out×St)),tO T (exec T .plain n) o.length V ⟨ix 0 e,o⟩=x->exec T .plain n o.length V ⟨ix 0 e,o⟩=x:=λx hx=>by
         unfold tO at hx;grind[YU]
        have a1:∀(h:Out) (u:St),(h= .norm\/h= .ret)->tO T (exec T .plain n) o.length V ⟨ix 0 e,o⟩=some (h,u)->∀t,nV u rs=some t->finish m o.length t u.o=some (r,I)->
          gX P f=true/\kF P f e o r I/\(m=false->I=[]):=by
         intro h u G Q t s l;exact⟨hg,λA w σ vs L U=>(callsIn_wide (n:=0)).1 (YT ih (md:=.plain) (B:=zI) rfl CQ y j S D E k G (R _ Q) s l trivial L U),p l⟩
        grind
       ·obtain⟨⟨ia,⟨g,q,d⟩,ib⟩,S,rfl⟩:=ε.1 i;simp only[tO] at c;cases W:rh (exec T .plain n o.length) ia ⟨ix 0 e,o⟩ with
        |none=>simp_all;|some v=>
        simp only[W] at c;cases h2:exec T .plain n v.o.length ib ⟨(d,.ud)::v.env,v.o⟩ with
        |none=>simp_all;|some x2=>
        obtain⟨h,Y⟩:=x2;simp only[h2] at c;cases Z:ri h with
        |false=>simp_all;|true=>
        simp only[Z,if_true] at c;unfold FM at c;cases J:T.fn g with
        |none=>simp_all;|some O=>
        simp only[J] at c;by_cases M:(q.map (eG v.env)).length=O.params/\O.res.isEmpty=true
        ·rw[if_pos M] at c;cases X:exec T .plain n Y.o.length O.body ⟨ix 0 (q.map (eG v.env)),Y.o⟩ with
         |none=>simp_all;|some x3=>
         obtain⟨C,s3⟩:=x3;simp only[X] at c;cases z:ri C with
         |false=>simp_all;|true=>
         simp only[z,if_true] at c;split at c
         ·rename_i t s;exact⟨hg,λA w σ vs L U=>(callsIn_wide (n:=0)).1 (YY N ih y j S D E k (OM Z) W h2 J M.1 (List.isEmpty_iff.1 M.2) X (OM z) s c L U),p c⟩
         ·cases c
        simp_all
     ·cases a
   ·cases c
end
open Go.RowKit
section
variable {P:Program} {A:dM} {D:List Deferred} {w w':World} {σ σ':bX} {o o':Store}
theorem Y2 {dn:Option Nat} {Q:Exit->Act->World->Prop} {a:Act} {w:World} {c:Code} (h:c.wpIn (FR dn) 0 P (Exit.noGoto Q) a w):(Code.scope c).wpIn (FR dn) 0 P Q a w:=by
 intro b k n o p m;obtain⟨e,d,f,j,g⟩:=h b (.inScope c::k) n o p m;have s:step P (lone (b.atR a (.code (.scope c)::k)) n w)= .next (lone (b.atR a (.code c:: .inScope c::k)) n w):=step_lone_go (by simp[stepG,stepG.exec,Frame.atR]);have q:step P (lone (b.atR d (.inScope c::k)) n f)= .next (lone (b.atR d k) n f):=step_lone_go (by simp[stepG,stepG.exec,Frame.atR]);have i:=StepsIn.one (I:=Machine.fenced P (FR dn)) (fenced_calm (fr:=b.atR a (.code (.scope c)::k)) p m rfl) s;cases e with
 |normal=>exact⟨.normal,d,f,j,(StepsIn.trans i (StepsIn.trans g (.one (fenced_calm (fr:=b.atR d (.inScope c::k)) p m rfl) q)))⟩;|exit u=>exact⟨.exit u,d,f,j,.of_steps i ⟨λr t=>g.1 r (by grind[exitTo]),λm t=>by obtain⟨x,z,v⟩:=g.2 m (by grind[exitTo]);grind⟩⟩;|goto l=>exact j.elim;|ret=>exact⟨_,d,f,j,.of_steps i g⟩;|panic y=>exact⟨_,d,f,j,.of_steps i g⟩;|outgrown=>exact⟨_,d,f,j,.of_steps i g⟩
def zK (dn:Option Nat) (P:Program) (b:Code) (l:Nat) (Q:Exit->Act->World->Prop):Nat->Code->Act->World->Prop
 |0,_,_,_=>False
 |n+1,x,a,w=>x.wpIn (FR dn) 0 P (λe d c=>match e with
   | .goto f=>f=l/\zK dn P b l Q n b d c
   |e=>Q e d c) a w
theorem Y3 {dn:Option Nat} {Q:Exit->Act->World->Prop} {a:Act} {w:World} {c i:Code} {l:Nat} (S:findLabel c l=some i) {n:Nat} (h:zK dn P i l Q n c a w):(Code.scope c).wpIn (FR dn) 0 P Q a w:=by
 intro b k p A y t;have E:gotoIn l (.inScope c::k)=some (.code i:: .inScope c::k):=by grind[gotoIn]
 have B:∀n x a w,zK dn P i l Q n x a w->∃e u v,Q e u v/\ArrivesIn (Machine.fenced P (FR dn)) P (lone (b.atR a (.code x:: .inScope c::k)) p w) b k p e u v:=by
  intro n;induction n with
  |zero=>intro x a w h;exact h.elim;|succ n J=>
   intro x a w h;obtain⟨e,d,g,m,f⟩:=h b (.inScope c::k) p A y t;have G:step P (lone (b.atR d (.inScope c::k)) p g)= .next (lone (b.atR d k) p g):=step_lone_go (by simp[stepG,stepG.exec,Frame.atR]);cases e with
   |normal=>exact⟨.normal,d,g,m,StepsIn.trans f (.one (fenced_calm (fr:=b.atR d (.inScope c::k)) y t rfl) G)⟩;|exit K=>exact⟨.exit K,d,g,m,λD C=>f.1 D (by grind[exitTo]),λt C=>by obtain⟨M,O,N⟩:=f.2 t (by grind[exitTo]);grind⟩;|goto L=>
    obtain⟨rfl,H⟩:=m;obtain⟨q,r,s,o,j⟩:=J i d g H;exact⟨q,r,s,o,.of_steps (f.1 _ E) j⟩;|ret=>exact⟨_,d,g,m,f⟩;|panic R=>exact⟨_,d,g,m,f⟩;|outgrown=>exact⟨_,d,g,m,f⟩
 have F:step P (lone (b.atR a (.code (.scope c)::k)) p w)= .next (lone (b.atR a (.code c:: .inScope c::k)) p w):=step_lone_go (by simp[stepG,stepG.exec,Frame.atR]);have z:=StepsIn.one (I:=Machine.fenced P (FR dn)) (fenced_calm (fr:=b.atR a (.code (.scope c)::k)) y t rfl) F;obtain⟨e,u,v,m,f⟩:=B n c a w h;exact⟨e,u,v,m,.of_steps z f⟩
theorem Y4 {b:Code} {l c:Nat} {H:List RH} {x:IR} (h:B5 b=some l) (d:comp P c H b=some x):∃a,findLabel b l=some a/\comp P c H a=some x:=by
 unfold B5 at h;grind[findLabel,comp]
theorem OQ {T:Tab} (hT:kG P T):∀n,zH P T n/\(∀(dn:Option Nat) (md:Md) (B:dM->World->bX->Store->Prop),vB P dn B md->Closed B->∀(lo:Nat) (b:IR) (st:St) (out:Out) (st':St),exec T md n lo (.loop b) st=some (out,st')->∀(q:Nat) (H:List RH) (f:Code),comp P q H f=some b->∀(D:List Deferred) (A:dM) (r:World) (d:bX) (m:Store) (a:Act) (w:World) (σ:bX),B A r d m->
   m.length<=lo->de A q D r d m st a w σ->Code.roundsIn (FR dn) 0 P f (λe v w'=>e=out.ua/\∃u,de A q D r d m st' v w' u) n a w)/\∀(dn:Option Nat) (md:Md) (B:dM->World->bX->Store->Prop),vB P dn B md->Closed B->∀(lo l:Nat) (b:IR) (st:St) (out:Out) (st':St),exec T md n lo (.turns (some l) b) st=some (out,st')->∀(q:Nat) (H:List RH) (f s:Code),comp P q H f=some b->comp P q H s=some b->∀(D:List Deferred) (A:dM) (r:World) (d:bX) (m:Store) (a:Act) (w:World) (σ:bX),B A r d m->
   m.length<=lo->de A q D r d m st a w σ->zK dn P s l (λe v w'=>e=out.ua/\∃u,de A q D r d m st' v w' u) n f a w
 |0=>⟨λdn md B _ _ lo c st out st' h=>by grind[exec],λdn md B _ _ lo b st out st' h=>by grind[exec],λdn md B _ _ lo l b st out st' h=>by grind[exec]⟩
 |n+1=>by
  obtain⟨I,a0,Z⟩:=OQ hT n;have M:∀(dn:Option Nat) (md:Md) (B:dM->World->bX->Store->Prop),vB P dn B md->Closed B->∀(lo:Nat) (b:IR) (st:St) (out:Out) (st':St),exec T md (n+1) lo (.loop b) st=some (out,st')->∀(q:Nat) (H:List RH) (f:Code),comp P q H f=some b->∀(D:List Deferred) (A:dM) (r:World) (d:bX) (m:Store) (a:Act) (w:World) (σ:bX),B A r d m->
    m.length<=lo->de A q D r d m st a w σ->Code.roundsIn (FR dn) 0 P f (λe v w'=>e=out.ua/\∃u,de A q D r d m st' v w' u) (n+1) a w:=by
   intro dn md B C E lo b st out st' h q H f p D A r d m a w σ j i t;simp only[exec] at h;split at h
   ·rename_i F Q;have O:=I dn md B C E lo b st .norm F Q q H f p _ A r d m a w σ j i t;rw[roundsIn_succ];refine wpIn_mono O ?_;rintro e v w' ⟨rfl,u,g⟩;obtain⟨N,L⟩:=g.trim (k:=st.o.length) t.len;exact a0 dn md B C E lo b _ out st' h q H f p _ A r d m v w' N j i L
   ·rename_i K;have O:=I dn md B C E lo b st out st' h q H f p _ A r d m a w σ j i t;rw[roundsIn_succ];refine wpIn_mono O ?_;rintro e v w' ⟨rfl,g⟩;cases out with
    |norm=>simp_all;|exit S=>exact⟨rfl,g⟩;|ret=>exact⟨rfl,g⟩;|goto l=>exact⟨rfl,g⟩
  have R:∀(dn:Option Nat) (md:Md) (B:dM->World->bX->Store->Prop),vB P dn B md->Closed B->∀(lo l:Nat) (b:IR) (st:St) (out:Out) (st':St),exec T md (n+1) lo (.turns (some l) b) st=some (out,st')->∀(q:Nat) (H:List RH) (f s:Code),comp P q H f=some b->comp P q H s=some b->∀(D:List Deferred) (A:dM) (r:World) (d:bX) (m:Store) (a:Act) (w:World) (σ:bX),B A r d m->
    m.length<=lo->de A q D r d m st a w σ->zK dn P s l (λe v w'=>e=out.ua/\∃u,de A q D r d m st' v w' u) (n+1) f a w:=by
   intro dn md B C E lo l b st out st' h q H f s p hr D A r d m a w σ j i t;simp only[exec] at h;split at h
   ·rename_i l' F Q;split at h
    ·rename_i U;injection U with U;subst U;refine wpIn_mono (I dn md B C E lo b st (.goto l) F Q q H f p _ A r d m a w σ j i t) ?_;rintro e v w' ⟨rfl,u,g⟩;obtain⟨N,L⟩:=g.trim (k:=st.o.length) t.len;exact⟨rfl,Z dn md B C E lo l b _ out st' h q H s s hr hr _ A r d m v w' N j i L⟩
    ·cases h
   ·rename_i K;refine wpIn_mono (I dn md B C E lo b st out st' h q H f p _ A r d m a w σ j i t) ?_;rintro e v w' ⟨rfl,g⟩;cases out with
    |norm=>exact⟨rfl,g⟩;|exit S=>exact⟨rfl,g⟩;|ret=>exact⟨rfl,g⟩;|goto l=>simp_all
  refine⟨λdn md B C E lo c st out st' h q H f p D A r d m a w σ j i t=>?_,M,R⟩;cases f with
  |skip=>
   simp only[comp,γ] at p;subst p;simp only[exec,γ,ι] at h;obtain⟨rfl,rfl⟩:=h;exact wpIn_skip ⟨rfl,σ,t⟩;|scope b=>
   simp only[comp] at p;obtain⟨V,J,rfl⟩:=ε.1 p;cases U:B5 b with
   |some l=>
    grind[Y4,Y3];|none=>
    rw[U] at h;simp only[exec] at h;refine Y2 ?_;split at h;·simp_all
    ·rename_i K;refine wpIn_mono (I dn md B C E lo V st out st' h q H b J _ A r d m a w σ j i t) ?_;rintro e v w' ⟨rfl,g⟩;cases out with
     |norm=>exact⟨rfl,g⟩;|exit S=>exact⟨rfl,g⟩;|ret=>exact⟨rfl,g⟩;|goto l=>simp_all
  |goto l=>
   simp only[comp,γ] at p;subst p;simp only[exec,γ,ι] at h;obtain⟨rfl,rfl⟩:=h;exact wpIn_goto ⟨rfl,σ,t⟩;|label l=>
   simp only[comp,γ] at p;subst p;simp only[exec,γ,ι] at h;obtain⟨rfl,rfl⟩:=h;exact wpIn_label ⟨rfl,σ,t⟩;|region S a8 a3=>
   simp only[comp] at p;obtain⟨k,l,a4,a1,a7,a2,rfl,hw⟩:=YP (OP hT I) C E (A:=A) (lo:=lo) p;simp only[exec] at h;split at h
   ·rename_i a5 h2;simp only[γ,ι] at h;obtain⟨rfl,rfl⟩:=h;exact hw h2 j i t
   ·cases h;|seq x y=>
   simp only[comp] at p;split at p
   ·rename_i V W J X;injection p with p;subst p;simp only[exec] at h;split at h
    ·rename_i F Q;refine wpIn_seq (wpIn_mono (I dn md B C E lo V st .norm F Q q H x J _ A r d m a w σ j i t) ?_);rintro e v w' ⟨rfl,u,g⟩;exact I dn md B C E lo W F out st' h q H y X _ A r d m v w' u j i g
    ·rename_i K;refine wpIn_seq (wpIn_mono (I dn md B C E lo V st out st' h q H x J _ A r d m a w σ j i t) ?_);rintro e v w' ⟨rfl,g⟩;cases out with
     |norm=>simp_all;|exit S=>exact⟨rfl,g⟩;|ret=>exact⟨rfl,g⟩;|goto l=>exact⟨rfl,g⟩
   ·cases p;|cond x y z=>
   simp only[comp] at p;split at p
   ·rename_i W z' X hz;injection p with p;subst p;by_cases hk:Nj H x=true
    ·rw[if_pos hk] at h;simp only[exec] at h;have J:=t.ev x;split at h
     ·rename_i G;rw[G] at J;exact wpIn_cond_true (gA J) (I dn md B C E lo W _ out st' h q H y X _ A r d m a w σ j i t)
     ·rename_i G;rw[G] at J;exact wpIn_cond_false (gA J) (I dn md B C E lo z' _ out st' h q H z hz _ A r d m a w σ j i t)
     ·cases h
    rw[if_neg hk] at h;simp only[exec] at h;have J:=t.ev x;split at h
    ·rename_i G;rw[G] at J;exact wpIn_cond_true (gA J) (I dn md B C E lo W _ out st' h q H y X _ A r d m a w σ j i (t.drop x))
    ·rename_i G;rw[G] at J;exact wpIn_cond_false (gA J) (I dn md B C E lo z' _ out st' h q H z hz _ A r d m a w σ j i (t.drop x))
    ·cases h
   ·cases p;|block S b=>
   simp only[comp] at p;obtain⟨b',O,rfl⟩:=ε.1 p;simp only[exec] at h;split at h
   ·rename_i Y F Q;refine wpIn_block (wpIn_mono (I dn md B C E lo b' st (.exit Y) F Q q H b O _ A r d m a w σ j i t) ?_);rintro e v w' ⟨rfl,g⟩;simp only[Out.ua,Exit.inBlock];grind
   ·rename_i K;refine wpIn_block (wpIn_mono (I dn md B C E lo b' st out st' h q H b O _ A r d m a w σ j i t) ?_);rintro e v w' ⟨rfl,g⟩;cases out with
    |norm=>exact⟨rfl,g⟩;|exit a6=>simp_all;|ret=>exact⟨rfl,g⟩;|goto l=>exact⟨rfl,g⟩
  |loop b=>
   simp only[comp] at p;obtain⟨b',O,rfl⟩:=ε.1 p;grind[wpIn_loop_rounds];|exit S=>
   simp only[comp,γ] at p;subst p;simp only[exec,γ,ι] at h;obtain⟨rfl,rfl⟩:=h;exact wpIn_exit ⟨rfl,σ,t⟩;|ret=>
   simp only[comp,γ] at p;subst p;simp only[exec,γ,ι] at h;obtain⟨rfl,rfl⟩:=h;exact wpIn_ret ⟨rfl,σ,t⟩;|_=>grind[comp]
theorem GH {T:Tab} (a:kG P T) (n:Nat):pM P (qs T (exec T .plain n)):=OP a (OQ a n).1
end
def Ev (T:Tab) (md:Nat->Md) (lo:Nat) (c:IR) (st:St) (r:Out×St):Prop:=∃N,∀m n,N<=m->N<=n->exec T (md m) n lo c st=some r
abbrev zL:Nat->Md:=λ_=> .plain
section
variable {T:Tab} {md:Nat->Md} {lo:Nat} {st st1 st':St} {r:Out×St} {a b:IR} {out:Out}
theorem Ev.mk (N:Nat) (h:∀m n,N<=m->N<=n->exec T (md m) (n+1) lo a st=some r):Ev T md lo a st r:=
 ⟨N+1,λm n c b=>by
  match n,b with
  |n+1,b=>grind⟩
theorem Ev.skip:Ev T md lo .skip st (.norm,st):=.mk 0 λ_ _ _ _=>by simp only[exec]
theorem Ev.ret:Ev T md lo .ret st (.ret,st):=.mk 0 λ_ _ _ _=>by simp only[exec]
theorem Ev.exit {id:Nat}:Ev T md lo (.exit id) st (.exit id,st):=.mk 0 λ_ _ _ _=>by simp only[exec]
theorem Ev.seq (h:Ev T md lo a st (.norm,st1)) (k:Ev T md lo b st1 r):Ev T md lo (.seq a b) st r:=by
 obtain⟨N,h⟩:=h;obtain⟨M,k⟩:=k;exact .mk (N+M) λm n c d=>by simp only[exec,h m n (by omega) (by omega),k m n (by omega) (by omega)]
theorem Ev.Y5 (h:Ev T md lo a st (out,st1)) (c:out≠ .norm):Ev T md lo (.seq a b) st (out,st1):=by
 obtain⟨N,h⟩:=h;exact .mk N λm n e d=>by
  simp_all[exec]
theorem Ev.Y6 {x:Operand} (d:eG st.env x= .sc (.bool true)) (h:Ev T md lo a ⟨pI x st.env,st.o⟩ r):Ev T md lo (.cond x a b) st r:=by
 obtain⟨N,h⟩:=h;exact .mk N λm n c e=>by simp_all[exec]
theorem Ev.Y7 {x:Operand} (d:eG st.env x= .sc (.bool false)) (h:Ev T md lo b ⟨pI x st.env,st.o⟩ r):Ev T md lo (.cond x a b) st r:=by
 obtain⟨N,h⟩:=h;exact .mk N λm n c e=>by simp_all[exec]
theorem Ev.oW {x:Operand} {q:Bool} (g:eG st.env x= .sc (.bool q)) (e:q=true->Ev T md lo a st r) (d:q=false->Ev T md lo b st r):Ev T md lo (.oW x a b) st r:=by
 cases q with
 |true=>
  obtain⟨N,h⟩:=e rfl;exact .mk N λm n c f=>by simp_all[exec];|false=>
  obtain⟨N,h⟩:=d rfl;exact .mk N λm n c f=>by simp_all[exec]
def Out.inBlock (id:Nat):Out->Out
 | .exit a=>if a=id then .norm else .exit a
 |o=>o
theorem Ev.block {id:Nat} (h:Ev T md lo a st (out,st1)):Ev T md lo (.block id a) st (out.inBlock id,st1):=by
 obtain⟨N,h⟩:=h;exact .mk N λm n b c=>by
  simp only[exec,h m n b c];cases out<;>grind[exit,Out.inBlock]
theorem Ev.Y8 (h:Ev T md lo a st (.norm,st1)) (k:Ev T md lo (.loop a) (trim st.o.length st1) r):Ev T md lo (.loop a) st r:=by
 obtain⟨N,h⟩:=h;obtain⟨M,k⟩:=k;exact .mk (N+M) λm n b c=>by
  simp only[exec,h m n (by omega) (by omega)];grind
theorem Ev.Y9 (h:Ev T md lo a st (out,st1)) (b:out≠ .norm):Ev T md lo (.loop a) st (out,st1):=by
 obtain⟨N,h⟩:=h;exact .mk N λm n d c=>by
  simp_all[exec]
theorem Ev.goto {l:Nat}:Ev T md lo (.goto l) st (.goto l,st):=.mk 0 λ_ _ _ _=>by simp only[exec]
theorem Ev.Za {l:Nat} (h:Ev T md lo a st (.goto l,st1)) (k:Ev T md lo (.turns (some l) a) (trim st.o.length st1) r):Ev T md lo (.turns (some l) a) st r:=by
 obtain⟨N,h⟩:=h;obtain⟨M,k⟩:=k;exact .mk (N+M) λm n b c=>by
  simp only[exec,h m n (by omega) (by omega),if_true];grind
theorem Ev.OS {l:Option Nat} (h:Ev T md lo a st (out,st1)) (c:∀b,out≠ .goto b):Ev T md lo (.turns l a) st (out,st1):=by
 obtain⟨N,h⟩:=h;exact .mk N λm n e d=>by
  simp_all[exec]
theorem Ev.region {id k:Nat} {b:Bool} {f:List dC} {d:List (Nat×Nat)} {a:List Nat} {e c:List kB}
  (h:∃N,∀g m,N<=m->FN (md m) b (qs T g) k f d (e.foldl (λs h=>kg lo h s) st)=some st'):
  Ev T md lo (.region id b k f d a e c) st (.norm,c.foldl (λs h=>kg lo h s) ⟨prune a st'.env,st'.o⟩):=by
 obtain⟨N,h⟩:=h;exact .mk N λm n i _=>by simp_all[exec]
theorem Zb {P:Program} (i:kG P T) {f:FuncId} {F:fz} (l:T.fn f=some F) {args:List AV} {o:Store} {own:Bool} (g:T.K f args o own=none) (d:args.length=F.params)
  (h:Ev T zL o.length F.body ⟨ix 0 args,o⟩ (out,st')) (c:out= .norm\/out= .ret) {b v:AV} {o':Store} (k:nV st' F.res=some b) (a:finish own o.length b st'.o=some (v,o')):
  gX P f=true/\kF P f args o v o'/\(own=false->o'=[]):=by
 obtain⟨N,h⟩:=h;refine GH i N f args o own v o' ?_;unfold qs;rw[g];have h:=h N N (ν _) (ν _);have j:tO T (exec T .plain N) o.length F.body ⟨ix 0 args,o⟩=some (out,st'):=by
  unfold tO;split
  ·rename_i e;rw[e] at h;cases N<;>simp[exec] at h
  ·exact h
 grind
theorem Zc {P:Program} (A:kG P T) {f:FuncId} {F:fz} (z:T.fn f=some F) {g:FuncId} {a:List Operand} {d:Nat} {w u:IR} (e:F.body= .tL g a d w u) {args:List AV} {o:Store} {own:Bool} (E:T.K f args o own=none) (k:args.length=F.params)
  {s0 s2 s3:St} {b:Out} {G:fz} (t:∃N,∀n,N<=n->rh (exec T .plain n o.length) w ⟨ix 0 args,o⟩=some s0) (s:Ev T zL s0.o.length u ⟨(d,.ud)::s0.env,s0.o⟩ (out,s2)) (l:ri out=true)
  (D:T.fn g=some G) (q:(a.map (eG s0.env)).length=G.params) (p:G.res.isEmpty=true) (r:Ev T zL s2.o.length G.body ⟨ix 0 (a.map (eG s0.env)),s2.o⟩ (b,s3)) (c:ri b=true)
  {x v:AV} {o':Store} (C:nV ⟨s2.env,s3.o⟩ F.res=some x) (m:finish own o.length x s3.o=some (v,o')):
  gX P f=true/\kF P f args o v o'/\(own=false->o'=[]):=by
 obtain⟨h,t⟩:=t;obtain⟨j,s⟩:=s;obtain⟨i,r⟩:=r;refine GH A (h+j+i) f args o own v o' ?_;unfold qs;rw[E];simp only[z,if_pos k,e,tO,t _ (show h<=h+j+i by omega)];have y:=s (h+j+i) (h+j+i) (by omega) (by omega);have B:=r (h+j+i) (h+j+i) (by omega) (by omega);simp only[y,l,if_true,FM,D,if_pos (And.intro q p),B,c,C,m]
end
section
variable {call call':dh}
def nj (call b:dh):Prop:=∀f a o c r,call f a o c=some r->b f a o c=some r
theorem nj.qs (T:Tab) (b:Nat->IR->St->Option (Out×St)):nj T.K (qs T b):=by
 intro f a o c r h;grind[Go.Vi.qs]
theorem nj.gK (h:nj call call') {f:FuncId} {args:List AV} {o:Store} {own:Bool} {r:AV×Store} (a:gK call f args o own=some r):gK call' f args o own=some r:=by
 unfold Go.Vi.gK at a ⊢;split at a
 ·rename_i b;rw[if_pos b];unfold iO at a ⊢;simp only at a ⊢;split at a
  ·split at a
   ·rename_i e d c;rw[h _ _ _ _ _ c];exact a
   ·cases a
  ·cases a
 ·rename_i b;rw[if_neg b];split at a;·cases a
  ·split at a
   ·rename_i c;rw[h _ _ _ _ _ c];exact a
   ·cases a
theorem nj.qm (h:nj call call') {op:cJ} {ρ:Operand->AV} {o:Store} {bB:Nat} {r:AV×Store} (hc:qm call op ρ o bB=some r):qm call' op ρ o bB=some r:=by
 cases op with
 |call f args own=>exact h.gK hc;|jU f args own=>
  simp only[Go.Vi.qm,FK,Na] at hc ⊢;split at hc;·exact h.gK hc
  ·cases hc;|oV tab x args=>
  simp only[Go.Vi.qm,FK,Nb] at hc ⊢;split at hc
  ·split at hc;·exact h.gK hc
   ·cases hc
  ·cases hc;|_=>exact hc
theorem nj.iw (h:nj call call') {base:Nat} {i:dC} {st st':St} (a:iw call base i st=some st'):iw call' base i st=some st':=by
 unfold Go.Vi.iw at a ⊢;split at a;·cases a
 ·exact a
 ·split at a
  ·rename_i b;rw[h.qm b];exact a
  ·cases a
theorem nj.ew (h:nj call call') {b:cJ} {ρ:Operand->AV} {o:Store} {bB:Nat} {r:AV×Store} (d:Go.Vi.qm call b ρ o bB=some r):Go.Vi.ew call' b ρ o bB=Go.Vi.ew call b ρ o bB:=by
 unfold Go.Vi.ew;split
 ·rename_i f a;have c:Go.Vi.gK call f (a.map ρ) o true=some r:=d;have e:=h.gK c;simp_all[Go.Vi.gK]
 ·rfl
theorem nj.gi (h:nj call call') {base:Nat}:∀{l:List dC} {st st':St},gi call base l st=some st'->gi call' base l st=some st'/\mG call' base l st=mG call base l st
 |[],_,_,b=>⟨b,rfl⟩
 |i::l,st,st',b=>by
  simp only[Go.Vi.gi] at b ⊢;split at b
  ·rename_i g a;obtain⟨j,c⟩:=h.gi b;have f:=h.iw a;refine⟨by simp_all,?_⟩;simp only[mG,a,f,c];congr 1;split
   ·rename_i e;unfold Go.Vi.iw at a;rw[e] at a;simp only at a;split at a
    ·rename_i d;rw[h.ew d]
    ·cases a
   ·rfl
  ·cases b
theorem nj.pH (h:nj call call') {k:Nat} {b:List dC} {a:List (Nat×Nat)} {st st':St} (c:pH call k b a st=some st'):pH call' k b a st=some st':=by
 unfold Go.Vi.pH at c ⊢;simp only at c ⊢;split at c
 ·rename_i e d;obtain⟨f,g⟩:=h.gi d;simp_all
 ·cases c
end
def VW (T:Tab) (md:Nat->Md) (lo:Nat) (c:IR) (st:St) (Q:Out->St->Prop):Prop:=∃b a,Ev T md lo c st (b,a)/\Q b a
def RQ (x:Option St) (Q:St->Prop):Prop:=match x with|some a=>Q a|none=>False
section
variable {T:Tab} {md:Nat->Md} {lo:Nat} {st:St} {a b:IR} {Q Q':Out->St->Prop}
theorem VW.mono (h:VW T md lo a st Q) (d:∀o s,Q o s->Q' o s):VW T md lo a st Q':=by
 obtain⟨o,s,b,c⟩:=h;exact⟨o,s,b,d o s c⟩
theorem VW.skip (h:Q .norm st):VW T md lo .skip st Q:=⟨_,_,.skip,h⟩
theorem VW.ret (h:Q .ret st):VW T md lo .ret st Q:=⟨_,_,.ret,h⟩
theorem VW.exit {id:Nat} (h:Q (.exit id) st):VW T md lo (.exit id) st Q:=⟨_,_,.exit,h⟩
theorem VW.seq (h:VW T md lo a st λout s=>if out= .norm then VW T md lo b s Q else Q out s):VW T md lo (.seq a b) st Q:=by
 obtain⟨o,s,e,c⟩:=h;by_cases d:o= .norm
 ·subst d;rw[if_pos rfl] at c;obtain⟨i,j,g,f⟩:=c;exact⟨i,j,e.seq g,f⟩
 ·rw[if_neg d] at c;exact⟨o,s,e.Y5 d,c⟩
theorem VW.cond {x:Operand} {q:Bool} (e:eG st.env x= .sc (.bool q)) (h:if q=true then VW T md lo a ⟨pI x st.env,st.o⟩ Q else VW T md lo b ⟨pI x st.env,st.o⟩ Q):VW T md lo (.cond x a b) st Q:=by
 cases q with
 |true=>obtain⟨o,s,c,d⟩:=(by simpa using h:VW T md lo a ⟨pI x st.env,st.o⟩ Q);exact⟨o,s,.Y6 e c,d⟩;|false=>obtain⟨o,s,c,d⟩:=(by simpa using h:VW T md lo b ⟨pI x st.env,st.o⟩ Q);exact⟨o,s,.Y7 e c,d⟩
theorem VW.oW {x:Operand} {q:Bool} (e:eG st.env x= .sc (.bool q)) (h:if q=true then VW T md lo a st Q else VW T md lo b st Q):VW T md lo (.oW x a b) st Q:=by
 cases q with
 |true=>obtain⟨o,s,c,d⟩:=(by simpa using h:VW T md lo a st Q);exact⟨o,s,.oW e (λ_=>c) (λh=>by cases h),d⟩;|false=>obtain⟨o,s,c,d⟩:=(by simpa using h:VW T md lo b st Q);exact⟨o,s,.oW e (λh=>by cases h) (λ_=>c),d⟩
theorem VW.block {id:Nat} (h:VW T md lo a st λout s=>Q (out.inBlock id) s):VW T md lo (.block id a) st Q:=by
 obtain⟨o,s,b,c⟩:=h;exact⟨_,_,b.block,c⟩
theorem VW.region {id k:Nat} {d:Bool} {e:List dC} {c:List (Nat×Nat)} {b:List Nat} {f a:List kB}
  (h:RQ (pH T.K k e c (f.foldl (λs h=>kg lo h s) st)) λst'=>Q .norm (a.foldl (λs h=>kg lo h s) ⟨prune b st'.env,st'.o⟩)):
  VW T md lo (.region id d k e c b f a) st Q:=by
 unfold RQ at h;split at h
 ·rename_i st' g;refine⟨_,_,Ev.region ⟨0,λi m _=>?_⟩,h⟩;have:=(nj.qs T i).pH g;exact this
 simp_all
theorem VW.loop (h:VW T md lo a st λout s=>if out= .norm then VW T md lo (.loop a) (trim st.o.length s) Q else Q out s):VW T md lo (.loop a) st Q:=by
 obtain⟨o,s,d,b⟩:=h;by_cases c:o= .norm
 ·subst c;rw[if_pos rfl] at b;obtain⟨g,i,f,e⟩:=b;exact⟨g,i,d.Y8 f,e⟩
 ·rw[if_neg c] at b;exact⟨o,s,d.Y9 c,b⟩
theorem VW.Zd (I:Nat->St->Prop) (b:∀m s,I m s->VW T md lo a s λout s'=>if out= .norm then ∃c,c<m/\I c (trim s.o.length s') else Q out s'):
  ∀(m:Nat) (s:St),I m s->VW T md lo (.loop a) s Q:=by
 intro m;induction m using ζH with
 |_ m e=>
  intro s d;refine VW.loop ((b m s d).mono λo s' h=>?_);grind
theorem VW.goto {l:Nat} (h:Q (.goto l) st):VW T md lo (.goto l) st Q:=⟨_,_,.goto,h⟩
theorem VW.Ze {l:Option Nat} (h:VW T md lo a st λout s=>(∀e,out≠ .goto e)/\Q out s):VW T md lo (.turns l a) st Q:=by
 obtain⟨o,s,b,c,d⟩:=h;exact⟨o,s,b.OS c,d⟩
theorem VW.Zf {l:Nat} (I:Nat->St->Prop) (b:∀m s,I m s->VW T md lo a s λout s'=>(out= .goto l/\∃c,c<m/\I c (trim s.o.length s'))\/((∀h,out≠ .goto h)/\Q out s')):
  ∀(m:Nat) (s:St),I m s->VW T md lo (.turns (some l) a) s Q:=by
 intro m;induction m using ζH with
 |_ m i=>
  intro s k;obtain⟨o,s',f,j⟩:=b m s k;rcases j with⟨rfl,c,d,e⟩|⟨d,e⟩
  ·obtain⟨p,q,n,g⟩:=i c d _ e;exact⟨p,q,f.Za n,g⟩
  ·exact⟨o,s',f.OS d,e⟩
theorem CU {P:Program} (k:kG P T) {f:FuncId} {F:fz} (g:T.fn f=some F) {args:List AV} {o:Store} {own:Bool} (j:T.K f args o own=none) (b:args.length=F.params) {v:AV} {o':Store}
  (h:VW T zL o.length F.body ⟨ix 0 args,o⟩ λout st'=>(out= .norm\/out= .ret)/\(nV st' F.res).bind (λc=>finish own o.length c st'.o)=some (v,o')):
  gX P f=true/\kF P f args o v o'/\(own=false->o'=[]):=by
 obtain⟨out,st',e,i,d⟩:=h;obtain⟨c,l,a⟩:=Option.bind_eq_some_iff.1 d;grind[Zb]
end
open Classical in
noncomputable def ans {α:Type} (enc:α->List AV) (dom:α->Prop) (spec:α->AV) (args:List AV):Option AV:=
 if h:∃a,args=enc a/\dom a then some (spec (Classical.choose h)) else none
theorem Zg {e:Type} {enc:e->List AV} {d:e->Prop} {c:e->AV} (f:∀a b,enc a=enc b->a=b) {a:e} (g:d a):ans enc d c (enc a)=some (c a):=by
 have h:∃b,enc a=enc b/\d b:=⟨a,rfl,g⟩;unfold ans;grind
theorem Zh {d:Type} {enc:d->List AV} {c:d->Prop} {b:d->AV} {args:List AV} {v:AV} (h:ans enc c b args=some v):∃a,args=enc a/\c a/\v=b a:=by
 unfold ans at h;split at h<;>grind
structure bC where
 (a0 a1 a2 a3 a4 a5:Int)
 deriving DecidableEq
structure Off where
 bT:Int
 want:bC
 value:Int
 deriving DecidableEq
structure Need where
 OT:Int
 least:Int
 deriving DecidableEq
structure nX where
 bT:Int
 want:bC
 deriving DecidableEq
structure Sit where
 members:Int
 left:bC
 opn:bC
 deriving DecidableEq
def bC.zero:bC:=⟨0,0,0,0,0,0⟩
inductive bp where
 |i (k:IntKind)
 |b
 |ff
 |off
 |need
 |key
 |sit
 |bD (s:bp)
 |pair (s t:bp)
 deriving DecidableEq
@[reducible] def bp.T:bp->Type
 | .i _=>Int
 | .b=>Bool
 | .ff=>bC
 | .off=>Off
 | .need=>Need
 | .key=>nX
 | .sit=>Sit
 | .bD s=>List s.T
 | .pair s t=>s.T×t.T
def bp.dflt:(s:bp)->s.T
 | .i _=>(0:Int)
 | .b=>false
 | .ff=> .zero
 | .off=>⟨0,.zero,0⟩
 | .need=>⟨0,0⟩
 | .key=>⟨0,.zero⟩
 | .sit=>⟨0,.zero,.zero⟩
 | .bD _=>[]
 | .pair s t=>(s.dflt,t.dflt)
def bp.sz:bp->Nat
 | .i _=>1
 | .b=>1
 | .ff=>6
 | .off=>8
 | .need=>2
 | .key=>7
 | .sit=>13
 | .bD _=>1
 | .pair s t=>s.sz+t.sz
@[reducible] def bp.dec:(s:bp)->DecidableEq s.T
 | .i _=>inferInstanceAs (DecidableEq Int)
 | .b=>inferInstanceAs (DecidableEq Bool)
 | .ff=>inferInstanceAs (DecidableEq bC)
 | .off=>inferInstanceAs (DecidableEq Off)
 | .need=>inferInstanceAs (DecidableEq Need)
 | .key=>inferInstanceAs (DecidableEq nX)
 | .sit=>inferInstanceAs (DecidableEq Sit)
 | .bD s=>@instDecidableEqList _ s.dec
 | .pair s t=>@instDecidableEqProd _ _ s.dec t.dec
instance (s:bp):DecidableEq s.T:=s.dec
def bp.xA:bp->Bool
 | .i _| .b=>true
 |_=>false
def bp.flat:bp->Bool
 | .bD _=>false
 | .pair s t=>s.flat&&t.flat
 |_=>true
def iv (n:Int):Value:=.int .i64 n
def bC.vs (b:bC):List Value:=[iv b.a0,iv b.a1,iv b.a2,iv b.a3,iv b.a4,iv b.a5]
def dy:(s:bp)->s.T->List Value
 | .i k,n=>[.int k n]
 | .b,b=>[.bool b]
 | .ff,x=>[iv x.a0,iv x.a1,iv x.a2,iv x.a3,iv x.a4,iv x.a5]
 | .off,x=>[iv x.bT,iv x.want.a0,iv x.want.a1,iv x.want.a2,iv x.want.a3,iv x.want.a4,iv x.want.a5,iv x.value]
 | .need,x=>[iv x.OT,iv x.least]
 | .key,x=>[iv x.bT,iv x.want.a0,iv x.want.a1,iv x.want.a2,iv x.want.a3,iv x.want.a4,iv x.want.a5]
 | .sit,x=>[iv x.members,iv x.left.a0,iv x.left.a1,iv x.left.a2,iv x.left.a3,iv x.left.a4,iv x.left.a5,iv x.opn.a0,iv x.opn.a1,iv x.opn.a2,iv x.opn.a3,iv x.opn.a4,iv x.opn.a5]
 | .bD _,_=>[.bool false]
 | .pair s t,x=>dy s x.1++dy t x.2
def dP:(s:bp)->s.T->List AV
 | .bD s,l=>[.sl l.length (l.flatMap (dP s))]
 | .pair s t,x=>dP s x.1++dP t x.2
 | .i k,x=>(dy (.i k) x).map .sc
 | .b,x=>(dy .b x).map .sc
 | .ff,x=>(dy .ff x).map .sc
 | .off,x=>(dy .off x).map .sc
 | .need,x=>(dy .need x).map .sc
 | .key,x=>(dy .key x).map .sc
 | .sit,x=>(dy .sit x).map .sc
inductive SV where
 |ud
 |sc (v:Value)
 |il (k:IntKind) (n:Int)
 |si (k:IntKind) (n:Int)
 |bl (b:Bool)
 |sb (b:Bool)
 |agg (cs:List SV)
 |bI (cs:List SV)
 |row (s:bp) (l:List s.T)
 |ep (s:bp) (l:List s.T) (i off:Nat)
 |ptr (id off tot:Nat)
 |ap (id base sz len tot i:Nat)
 |rp (id i off n sz:Nat)
 |ow (id n sz:Nat)
 |os (id off len n sz:Nat)
 |oc (id off len n sz:Nat)
 |mp (id:Nat)
 |fn (f:Fn) (first captured:List SV)
 |ia (t:TypeId) (cs:List SV)
 |ite (c:Bool) (a b:SV)
inductive bq where
 |dead
 |cells (cs:List SV) (e:TypeId) (sz:Nat) (pu:Bool)
 |row (s:bp) (l:List s.T) (e:TypeId) (pu:Bool)
 |map (sk sv:bp) (ka:Bool) (es:List (sk.T×sv.T)) (kt:List Nat×Bool) (pu:Bool)
 |o8 (s:bp) (l:List s.T) (e:TypeId) (t:List SV)
def cF (s:bp) (l:List s.T):List AV:=l.flatMap (dP s)
def pO (s:bp) (a:Bool) (x:s.T):Value:=if a then .agg (dy s x).toArray else(dy s x).headD (.bool false)
def nn (s:bp) (x:s.T):AV:=.sc ((dy s x).headD (.bool false))
mutual
def SV.g:SV->AV
 | .ud=> .ud
 | .sc v=> .sc v
 | .il k n=> .sc (.int k n)
 | .si k n=> .sc (.int k n)
 | .bl b=> .sc (.bool b)
 | .sb b=> .sc (.bool b)
 | .agg m=> .agg (gL m)
 | .bI m=> .bI (gL m)
 | .row s l=> .sl l.length (cF s l)
 | .ep s l i d=> .ep (cF s l) (i*s.sz+d)
 | .ptr h d o=> .ptr h d o
 | .ap h p e _ o i=> .ptr h (p+i*e) o
 | .rp h i d n e=> .ptr h (i*e+d) (n*e)
 | .ow h n e=> .os h 0 n (n*e)
 | .os h d j n e=> .os h (d*e) j (n*e)
 | .oc h d j n e=> .os h (d*e+(n*e+e)) j (n*e)
 | .mp h=> .mp h
 | .fn f a b=> .fn f (gL a) (gL b)
 | .ia t m=> .jo t (gL m)
 | .ite _ _ _=> .ud
def gL:List SV->List AV
 |[]=>[]
 |c::m=>c.g::gL m
end
theorem gk:∀(l:List SV),gL l=l.map SV.g
 |[]=>rfl
 |c::a=>by simp[gL,gk a]
def bq.g:bq->bR
 | .dead=> .dead
 | .cells c e i a=> .cells (gL c) e i a
 | .row s l e a=> .cells (cF s l) e s.sz a
 | .o8 s l e t=> .cells (cF s l++gL t) e s.sz false
 | .map f b j h d a=> .map (h.map λp=>(pO f j p.1,nn b p.2)) d a
def encS:(s:bp)->s.T->List SV
 | .i k,n=>[.si k n]
 | .b,b=>[.sb b]
 | .ff,x=>[.si .i64 x.a0,.si .i64 x.a1,.si .i64 x.a2,.si .i64 x.a3,.si .i64 x.a4,.si .i64 x.a5]
 | .off,x=>[.si .i64 x.bT,.si .i64 x.want.a0,.si .i64 x.want.a1,.si .i64 x.want.a2,.si .i64 x.want.a3,.si .i64 x.want.a4,.si .i64 x.want.a5,.si .i64 x.value]
 | .need,x=>[.si .i64 x.OT,.si .i64 x.least]
 | .key,x=>[.si .i64 x.bT,.si .i64 x.want.a0,.si .i64 x.want.a1,.si .i64 x.want.a2,.si .i64 x.want.a3,.si .i64 x.want.a4,.si .i64 x.want.a5]
 | .sit,x=>[.si .i64 x.members,.si .i64 x.left.a0,.si .i64 x.left.a1,.si .i64 x.left.a2,.si .i64 x.left.a3,.si .i64 x.left.a4,.si .i64 x.left.a5,.si .i64 x.opn.a0,.si .i64 x.opn.a1,.si .i64 x.opn.a2,.si .i64 x.opn.a3,.si .i64 x.opn.a4,.si .i64 x.opn.a5]
 | .bD s,l=>[.row s l]
 | .pair s t,x=>encS s x.1++encS t x.2
def iH (s s':bp) (l:List s.T):Option (List s'.T):=if h:s=s' then some (h▸l) else none
def jJ (s:bp):SV->Option (List s.T)
 | .row a l=>match iH a s l with
  |some l=>some l
  |none=>match l with
   |[]=>some []
   |_=>none
 |_=>none
def SV.qn:SV->SV
 | .sc (.slice none 0 0)=> .row (.i .i64) []
 |v=>v
def SV.int:IntKind->SV->Option Int
 |k,.si a n=>if a=k then some n else none
 |k,.il a n=>if a=k then some n else none
 |_,_=>none
def SV.boo:SV->Option Bool
 | .sb b=>some b
 | .bl b=>some b
 |_=>none
def ints:List SV->Option (List Int)
 |[]=>some []
 |c::a=>match c.int .i64,ints a with
  |some n,some l=>some (n::l)
  |_,_=>none
def jW:(s:bp)->List SV->Option s.T
 | .i k,[c]=>c.int k
 | .b,[c]=>c.boo
 | .ff,d=>match ints d with
  |some [f,e,l,h,g,j]=>some (⟨f,e,l,h,g,j⟩:bC)
  |_=>none
 | .off,d=>match ints d with
  |some [b,f,e,l,h,g,j,v]=>some (⟨b,⟨f,e,l,h,g,j⟩,v⟩:Off)
  |_=>none
 | .need,d=>match ints d with
  |some [a,b]=>some (⟨a,b⟩:Need)
  |_=>none
 | .key,d=>match ints d with
  |some [b,f,e,l,h,g,j]=>some (⟨b,⟨f,e,l,h,g,j⟩⟩:nX)
  |_=>none
 | .sit,d=>match ints d with
  |some [m,f,e,l,h,g,j,p,u,n,q,r,o]=>some (⟨m,⟨f,e,l,h,g,j⟩,⟨p,u,n,q,r,o⟩⟩:Sit)
  |_=>none
 | .bD s,[c]=>jJ s c
 | .pair s t,d=>match jW s (d.take s.sz),jW t (d.drop s.sz) with
  |some x,some y=>some (x,y)
  |_,_=>none
 |_,_=>none
theorem GI:(s:bp)->0<s.sz
 | .i _| .b| .ff| .off| .need| .key| .sit| .bD _=>by simp[bp.sz];| .pair s t=>by
  have:=GI s;grind[bp.sz]
theorem ub:(s:bp)->(x:s.T)->(encS s x).map SV.g=dP s x
 | .bD s,l=>by grind[encS,dP,SV.g,cF];| .pair s t,x=>by simp only[encS,dP,γa,ub s x.1,ub t x.2];| .i _,x| .b,x| .ff,x| .off,x| .need,x| .key,x| .sit,x=>by simp[encS,dP,dy,SV.g,iv]
theorem GK:(s:bp)->(x:s.T)->(dy s x).length=s.sz
 | .pair s t,x=>by simp only[dy,γi,GK s x.1,GK t x.2,bp.sz];| .bD _,x| .i _,x| .b,x| .ff,x| .off,x| .need,x| .key,x| .sit,x=>rfl
theorem lU:(s:bp)->(x:s.T)->(dP s x).length=s.sz
 | .pair s t,x=>by simp only[dP,γi,lU s x.1,lU t x.2,bp.sz];| .bD _,x| .i _,x| .b,x| .ff,x| .off,x| .need,x| .key,x| .sit,x=>rfl
theorem CV:(s:bp)->s.flat=true->(x:s.T)->dP s x=(dy s x).map .sc
 | .pair s t,h,x=>by
  simp only[bp.flat,θ] at h;simp only[dP,dy,γa,CV s h.1,CV t h.2];| .bD _,h,x=>by grind[bp.flat];| .i _,_,x| .b,_,x| .ff,_,x| .off,_,x| .need,_,x| .key,_,x| .sit,_,x=>rfl
theorem iP {k:IntKind} {c:SV} {n:Int} (h:c.int k=some n):c.g= .sc (.int k n):=by
 cases c<;>simp only[SV.int,reduceCtorEq] at h<;>grind[SV.int,reduceCtorEq,SV.g]
theorem vC {c:SV} {b:Bool} (h:c.boo=some b):c.g= .sc (.bool b):=by
 cases c<;>simp[SV.boo] at h<;>subst h<;>simp[SV.g]
theorem CW:∀{cs:List SV} {l:List Int},ints cs=some l->cs.map SV.g=l.map λn=> .sc (iv n)
 |[],l,h=>by grind[ints];|c::cs,l,h=>by
  simp only[ints] at h;split at h
  ·rename_i n d a b;simp at h;subst h;simp[iP a,CW b,iv]
  ·cases h
theorem mJ {s s':bp} {l:List s.T} {a:List s'.T} (h:iH s s' l=some a):s=s'/\HEq l a:=by
 unfold iH at h;grind
theorem Zi {s:bp} {v:SV} {l:List s.T} (h:jJ s v=some l):v.g= .sl l.length (cF s l):=by
 cases v<;>simp only[jJ,reduceCtorEq] at h;grind[mJ,SV.g,cF]
theorem nY:{s:bp}->{cs:List SV}->{x:s.T}->(h:jW s cs=some x)->cs.map SV.g=dP s x
 | .i k,[c],_,h=>by grind[jW,dP,dy,iP];| .b,[c],_,h=>by grind[jW,dP,dy,vC];| .bD s,[c],_,h=>by grind[jW,Zi,dP,cF];| .pair s t,cs,_,h=>by
  simp only[jW] at h;split at h
  ·rename_i x y a d;simp only[γ] at h;subst h;have f:=nY a;have e:=nY d;simp only[dP,<-f,<-e];rw[<-γa,List.take_append_drop]
  ·cases h;| .ff,cs,_,h| .off,cs,_,h| .need,cs,_,h| .key,cs,_,h| .sit,cs,_,h=>by
  simp only[jW] at h;split at h
  ·rename_i a;simp at h;subst h;rw[CW a];simp[dP,dy]
  ·cases h
theorem Zj (v:SV):v.qn.g=v.g.qn:=by
 unfold SV.qn;split;·simp[SV.g,AV.qn,cF]
 ·rename_i h;cases v<;>grind[SV.g,AV.qn,AV.sc.injEq]
theorem CX:(s:bp)->(x:s.T)->∀v∈dy s x,v.oneCell'=true
 | .pair s t,x=>by
  intro v a;simp only[dy] at a;rcases γk.1 a with h|h;·exact CX s _ v h
  ·exact CX t _ v h;| .bD _,x| .i _,x| .b,x| .ff,x| .off,x| .need,x| .key,x| .sit,x=>by simp[dy,iv,Value.oneCell']
def Plain (a:AV):Prop:=(∃v,a= .sc v/\v.oneCell'=true/\v≠ .slice none 0 0)\/∃n b,a= .sl n b/\dB b=true
theorem CY:∀{l:List AV},(∀a∈l,a.pure=true)->dB l=true
 |[],_=>by simp[dB];|a::l,h=>by simp[dB,h a (by simp),CY (l:=l) λb c=>h b (by simp[c])]
theorem GL {k:Nat}:∀{l:List AV},(∀a∈l,a.bY k=true)->eu k l=true
 |[],_=>by simp[eu];|a::l,h=>by simp[eu,h a (by simp),GL (l:=l) λb c=>h b (by simp[c])]
theorem Plain.pure {a:AV} (h:Plain a):a.pure=true:=by
 rcases h with⟨v,rfl,_⟩|⟨n,b,rfl,h⟩<;>grind[AV.pure]
theorem Plain.bY {a:AV} (h:Plain a) (k:Nat):a.bY k=true:=by
 rcases h with⟨v,rfl,_⟩|⟨n,b,rfl,h⟩<;>simp[AV.bY]
theorem Plain.one {a:AV} (h:Plain a):a.one=true:=by
 rcases h with⟨v,rfl,h,_⟩|⟨n,b,rfl,h⟩<;>grind[AV.one]
theorem zM:(s:bp)->(x:s.T)->∀a∈dP s x,Plain a
 | .pair s t,x=>by
  intro a c;simp only[dP] at c;rcases γk.1 c with h|h;·exact zM s _ a h
  ·exact zM t _ a h;| .bD s,l=>by
  intro a c;simp only[dP,List.mem_singleton] at c;subst c;refine .inr ⟨_,_,rfl,CY λb e=>?_⟩;obtain⟨y,_,f⟩:=List.mem_flatMap.1 e;exact(zM s y b f).pure;| .i _,x| .b,x| .ff,x| .off,x| .need,x| .key,x| .sit,x=>by
  intro a c;simp only[dP] at c;obtain⟨v,d,rfl⟩:=List.mem_map.1 c;refine .inl ⟨v,rfl,CX _ _ v d,?_⟩;rintro rfl;simp[dy,iv] at d
theorem np {s:bp} {l:List s.T} {a:AV} (h:a∈cF s l):Plain a:=by
 grind[cF,zM]
theorem o9 (s:bp) (l:List s.T):dB (cF s l)=true:=CY λa h=>(np h).pure
theorem OU (k:Nat) (s:bp) (l:List s.T):eu k (cF s l)=true:=GL λa h=>(np h).bY k
theorem CZ (s:bp) (l:List s.T):eK (cF s l)=true:=by
 simp only[eK,φ];intro a h;exact(np h).one
theorem eY (s:bp) (l:List s.T):(cF s l).length=l.length*s.sz:=by
 induction l<;>grind[cF,lU]
theorem OV (s:bp) (l a:List s.T):cF s (l++a)=cF s l++cF s a:=by simp[cF]
theorem GM (s:bp):∀(l:List s.T) (i:Nat),(cF s l).drop (i*s.sz)=cF s (l.drop i)
 |l,0=>by simp;|[],i+1=>by simp[cF];|x::l,i+1=>by
  have h:=GM s l i;simp only[cF,δZ,List.drop_succ_cons] at h ⊢;rw[Nat.succ_mul,Nat.add_comm,List.drop_append,lU,ζz,h,List.drop_of_length_le (by grind[lU])];simp
theorem OW (s:bp):∀(l:List s.T) (i:Nat),(cF s l).take (i*s.sz)=cF s (l.take i)
 |l,0=>by simp[cF];|[],i+1=>by simp[cF];|x::l,i+1=>by
  have h:=OW s l i;simp only[cF,δZ,List.take_succ_cons] at h ⊢;rw[Nat.succ_mul,Nat.add_comm,List.take_append,lU,ζz,h,List.take_of_length_le (by grind[lU])]
def bj {a:Type} (l:List a) (i:Nat) (d:a):a:=(l[i]?).getD d
theorem cV {a:Type} {l:List a} {i:Nat} {d:a} (h:i<l.length):bj l i d=l[i]:=by simp[bj,h]
theorem OX {s:bp} {l:List s.T} {i:Nat} (h:i<l.length):(cF s l).drop (i*s.sz)=dP s (bj l i s.dflt)++cF s (l.drop (i+1)):=by
 rw[GM,List.drop_eq_getElem_cons h,cV h];grind[cF]
end Go.Vi
