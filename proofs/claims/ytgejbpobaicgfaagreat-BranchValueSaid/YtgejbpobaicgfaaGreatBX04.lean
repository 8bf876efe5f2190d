/-
  The abstract interpreter: a region whose order is open.
  Conditions: none.
-/
import Derived.Test.YtgejbpobaicgfaaGreatBX03
import Derived.RangeFuncOwn
import Derived.RangeFuncLeaves
import Derived.LoopNIn
import Derived.ControlIn
import Derived.LoopN
import Derived.Scope
import Derived.Tactics
set_option maxRecDepth 100000
set_option maxHeartbeats 4000000
set_option linter.all false
open Array renaming getElem?_eq_some_iff->γR,replicate->εf,getElem?_toList->δv,ext'->εB
open BitVec renaming ofInt->γq
open Bool renaming and_eq_true->μ,false_eq_true->Γ
open Go.Vi renaming prune->ζI
open List renaming getD_eq_getElem?_getD->ε7,all_eq_true->γf,getElem?_cons_succ->γn,mem_append->γt,map_cons->ψ,nodup_cons->δx,mem_of_getElem?->γw,eq_nil_of_length_eq_zero->π,getElem?_eq_some_iff->ζ,range->Φ,getElem?_eq_getElem->ι,replicate->δ,pairwise_cons->γH,mem_cons_of_mem->εX,append_nil->δN,map_append->γj,length_append->θ,flatMap_cons->δ3
open List.Pairwise renaming nil->δM
open Nat renaming le_refl->Θ,strongRecOn->ζB,beq->δD,eq_of_beq_eq_true->ζC,lt_of_lt_of_le->γo,add_sub_cancel_left->εG
open Option renaming map_eq_some_iff->ε
open Option.some renaming injEq->γ
open Prod.mk renaming injEq->κ
noncomputable section
namespace Go.Vi
theorem aAR {acc:List Nat} {l:List Edge} {m:Nat}:∀{s:Nat},(l.foldl (akF acc) s).testBit m=true->s.testBit m=true\/∃e∈l,Region.binds .any e=true/\(m=e.on\/(acc.getD e.on 0).testBit m=true):=by
 induction l with
 |nil=>simp_all
 |cons e l b=>
  intro s h;simp only[List.foldl_cons] at h
  rcases b h with a|⟨d,f,a,c⟩
  ·unfold akF at a
   grind
  grind
def aiQ (acc:List Nat) (o:Oper):Nat:=o.after.toList.foldl (akF acc) 0
theorem atB:∀(L:List Oper) (acc:List Nat),∃r,L.foldl (λacc o=>acc++[aiQ acc o]) acc=acc++r/\r.length=L.length/\
  ∀(k:Nat) (o:Oper),L[k]?=some o->r[k]?=some (aiQ (acc++r.take k) o)
 |[],acc=>⟨[],by simp,rfl,by simp⟩
 |o::L,acc=>by
  obtain⟨r,b,a,d⟩:=atB L (acc++[aiQ acc o])
  refine⟨aiQ acc o::r,by simp[b],by simp[a],λk e c=>?_⟩
  cases k<;>simp_all
theorem aAS {a:Array Oper} {k m:Nat} {o:Oper} (p:a[k]?=some o) (h:((abS a).getD k 0).testBit m=true):
  ∃e∈o.after,Region.binds .any e=true/\(m=e.on\/((abS a).getD e.on 0).testBit m=true):=by
 obtain⟨r,j,n,g⟩:=atB a.toList []
 have c:abS a=r:=by
  grind[abS,aiQ]
 rw[c] at h ⊢
 have d:=g k o (by simp_all)
 rw[ε7,d] at h;simp only[Option.getD_some,List.nil_append] at h
 rcases aAR h with f|⟨e,l,i,b⟩
 ·simp at f
 ·refine⟨e,by simp_all,i,b.imp_right λb=>?_⟩
  rw[ε7] at b ⊢;rw[List.getElem?_take] at b
  grind
theorem atC:∀(L:List Oper) (i:Nat),agW i L=true->∀(k:Nat) (o:Oper),L[k]?=some o->∀e∈o.after,Region.binds .any e=true->e.on<i+k
 |[],i,_,k,o,a,_,_,_=>by simp at a
 |o::L,i,h,k,c,a,e,d,b=>by
  simp only[agW,μ,γf] at h
  cases k with
  |zero=>
   grind
  |succ k=>
   have:=atC L (i+1) h.2 k c (by simp_all) e d b
   omega
theorem atD {c:List Nat}:∀{l:List oQ},agY c l=true->∀(p q:Nat) (y x:oQ),p<q->l[p]?=some y->l[q]?=some x->
  (c.getD x.idx 0).testBit y.idx=true\/(aiH y x=true/\(agV y x=true\/akD y x=true))
 |[],_,p,q,y,x,_,e,_=>by simp at e
 |a::r,h,p,q,y,x,b,e,d=>by
  simp only[agY,μ,γf] at h
  match q,b with
  |q+1,b=>
   simp only[γn] at d
   cases p with
   |zero=>
    grind
   |succ p=>exact atD h.2 p q y x (by omega) (by simp_all) d
theorem atE {d:List Nat}:∀{l:List oQ} (p q:Nat) (y x:oQ),p<q->l[p]?=some y->l[q]?=some x->¬(d.getD x.idx 0).testBit y.idx=true->agV y x=false->(y.idx,x.idx)∈adu d l
 |[],p,q,y,x,_,c,_,_,_=>by simp at c
 |a::r,p,q,y,x,b,c,e,g,f=>by
  simp only[adu,γt]
  match q,b with
  |q+1,b=>
   simp only[γn] at e
   cases p with
   |zero=>
    grind
   |succ p=>exact .inr (atE p q y x (by omega) (by simp_all) e g f)
section
variable {P:Program} {A:qM} {D:List Deferred} {call:nD} {base:Nat}
theorem an4:∀{l:List oQ} {st:St} {p:Nat} {x:oQ} {t:List Nat×List Nat},l[p]?=some x->(ents call base l st)[p]?=some t->∃st',t=entry call base x st'
 |[],st,p,x,t,b,_=>by simp at b
 |i::l,st,p,x,t,b,a=>by
  simp only[ents] at a
  cases p with
  |zero=>grind
  |succ p=>
   simp only[γn] at b a;split at a
   ·exact an4 b a
   ·simp at a
theorem an5:∀{l:List oQ} {st s:St} {p:Nat} {x:oQ} {t:List Nat×List Nat},BJ call base l st=some s->(l.map (·.idx)).Nodup->l[p]?=some x->(ents call base l st)[p]?=some t->acO (aax call base l st) x.idx=t
 |[],st,s,p,x,t,_,_,a,_=>by simp at a
 |i::l,st,s,p,x,t,b,g,a,d=>by
  simp only[BJ] at b;split at b
  ·rename_i j k
   simp only[ψ,δx] at g
   have e:aax call base (i::l) st=(i.idx,entry call base i st)::aax call base l j:=by
    grind[aax,entry]
   rw[e];simp only[ents,k] at d
   cases p with
   |zero=>grind[acO]
   |succ p=>
    simp only[γn] at a d
    have c:i.idx≠x.idx:=λh=>g.1 (h▸List.mem_map_of_mem (f:=λi:oQ=>i.idx) (γw a))
    simp only[acO,beq_iff_eq,c,if_false]
    exact an5 b g.2 a d
  ·cases b
theorem atF {i:oQ} {st:St} (h:i.op.cls=0):entry call base i st=([],[]):=by
 grind[entry,an2,aeS]
theorem atG {i:oQ} {st:St} (h:i.op.cls=1):(entry call base i st).2=[]:=by
 grind[entry,aeS]
theorem atH {a b:List Nat} (h:agU a b=true):∀j∈a,j∉b:=by
 intro j c d
 have:=γf.1 h j c
 simp_all
theorem aAT {n0:Nat} {c:List Nat} {l:List oQ} {st s:St} (z:BJ call base l st=some s) (A:(l.map (·.idx)).Nodup) (r:agY c l=true)
  (b:((adu c l).isEmpty||aeI n0 (aax call base l st) (adu c l))=true) {p q:Nat} {y x:oQ} {E D:List Nat×List Nat} (e:p<q) (i:l[p]?=some y) (j:l[q]?=some x)
  (d:(ents call base l st)[p]?=some E) (f:(ents call base l st)[q]?=some D):(c.getD x.idx 0).testBit y.idx=true\/aiP n0 y E x D:=by
 rcases atD r p q y x e i j with h|⟨g,I⟩
 ·exact .inl h
 by_cases u:(c.getD x.idx 0).testBit y.idx=true
 ·exact .inl u
 right
 obtain⟨v,m⟩:=an4 i d
 obtain⟨C,k⟩:=an4 j f
 cases a:agV y x with
 |true=>
  unfold agV at a;simp only[Bool.or_eq_true,μ,beq_iff_eq] at a
  rcases a with(a|a)|⟨a,n⟩
  ·have:=atF (call:=call) (base:=base) (st:=v) a
   rw[this] at m;subst m
   exact⟨g,by simp,by simp,λh=>(by omega),by simp⟩
  ·have:=atF (call:=call) (base:=base) (st:=C) a
   rw[this] at k;subst k
   exact⟨g,by simp,by simp,λ_=>⟨by rw[a];decide,by simp⟩,λh=>(by omega)⟩
  ·have B:=atG (call:=call) (base:=base) (st:=v) a
   have w:=atG (call:=call) (base:=base) (st:=C) n
   rw[<-m] at B;rw[<-k] at w
   exact⟨g,by simp[B],by simp[w],λh=>(by omega),λh=>(by omega)⟩
 |false=>
  have M:akD y x=true:=I.resolve_left (by simp[a])
  have J:=atE p q y x e i j u a
  have o:(adu c l).isEmpty=false:=by
   grind
  rw[o,Bool.false_or] at b
  have t:=γf.1 b _ J
  simp only[an5 z A i d,an5 z A j f,μ,γf,decide_eq_true_eq] at t
  obtain⟨⟨⟨F,K⟩,H⟩,G⟩:=t
  refine⟨g,atH F,atH K,λL=>⟨λN=>?_,G⟩,λ_=>H⟩
  grind[akD]
theorem mg.eq {e:Nat} {f:World} {b:ja} {d:Store} {st st':St} {a:Act} {w:World} {σ:ja} (h:mg A e D f b d st a w σ) (c:RR st st'):mg A e D f b d st' a w σ where
 zt:=c.2▸h.zt
 env:=λs=>by rw[<-c.1 s,<-c.2];exact h.env s
 size:=h.size
 defers:=h.defers
 ext:=c.2▸h.ext
theorem mg.drew {e:Nat} {f:World} {b:ja} {d:Store} {st:St} {a:Act} {w:World} {σ:ja} (h:mg A e D f b d st a w σ):mg A e D f b d st a {w with drawn:=w.drawn+1} σ:=by
 have c:Ext w σ st.o {w with drawn:=w.drawn+1} σ st.o:=⟨Θ _,λ_ _ h=>⟨rfl,h⟩,Θ _,λ_ _ h=>⟨h,λ_ h=>⟨h,rfl⟩⟩,λ_ h=>⟨h,rfl⟩,rfl,rfl,rfl⟩
 exact⟨⟨h.zt.len,h.zt.dist,h.zt.bnd,λi x g=>(h.zt.obj i x g).ext c rfl λ_ _ _=>rfl,h.zt.av,h.zt.RN⟩,λs=>(h.env s).ext c,h.size,h.defers,h.ext.trans c⟩
theorem aAU {c:Type} (b a:List c) (x:c):b++a=(b++x::a).eraseIdx b.length:=by
 grind
structure an6 (P:Program) (nt:Nat) (fl:List Nat) (ops:Array Oper) (call:nD) (base n0:Nat) (st2:St) (l:List oQ) (listed:Array Bool) (st:St):Prop where
 run:∃s,BJ call base l st=some s/\RR st2 s
 len:n0<=st.o.length
 rel:∀(p q:Nat) (y x:oQ) (ty tx:List Nat×List Nat),p<q->l[p]?=some y->l[q]?=some x->(ents call base l st)[p]?=some ty->(ents call base l st)[q]?=some tx->((abS ops).getD x.idx 0).testBit y.idx=true\/aiP n0 y ty x tx
 comp:∀x∈l,∃dp,adt P nt fl ops dp x.idx=some x
 nodup:(l.map (·.idx)).Nodup
 sz:listed.size=ops.size
 fK:∀k,k<ops.size->(listed.getD k true=false↔∃x∈l,x.idx=k)
 closed:∀k m,listed.getD k false=true->((abS ops).getD k 0).testBit m=true->listed.getD m false=true
theorem getD_lt {c:Array Bool} {k:Nat} (h:k<c.size) (a b:Bool):c.getD k a=c.getD k b:=by
 simp_all
theorem aAV {M:Nat} {fl:List Nat} {c:Array Oper} (K:acn P call) (a5:agW 0 c.toList=true) {n0:Nat} {st2:St} {w0:World} {L:ja} {o0:Store} {Q:Exit->Act->World->Prop}
  (hQ:∀Y w' F,mg A M D w0 L o0 st2 Y w' F->Q .normal Y w') {ob:Option Nat}:∀(h:Nat) (l:List oQ) (b:Array Bool) (st:St) (a:Act) (w:World) (σ:ja),l.length<=h->
   an6 P M fl c call base n0 st2 l b st->mg A M D w0 L o0 st a w σ->wpAnyIn (FR ob) 0 P .any c Q h b a w:=by
 have C:∀(b:Array Bool) (st:St) (a:Act) (w:World) (σ:ja),an6 P M fl c call base n0 st2 [] b st->mg A M D w0 L o0 st a w σ->Q .normal a w:=by
  intro b st a w σ d O
  obtain⟨s,n,h2⟩:=d.run
  simp only[BJ,γ] at n;subst n
  exact hQ _ _ _ (O.eq h2.symm)
 have H:∀(l:List oQ) (b:Array Bool) (st:St),an6 P M fl c call base n0 st2 l b st->∀(k:Nat),(∃x∈l,x.idx=k)->Region.ready .any c b≠[]:=by
  intro l b st d k
  induction k using ζB with
  |_ k ih=>
   rintro⟨x,G,rfl⟩
   obtain⟨V,X⟩:=d.comp x G
   cases I:c[x.idx]? with
   |none=>grind[adt]
   |some o=>
    have j:x.idx<c.size:=(γR.1 I).1
    by_cases i:∀e∈o.after,Region.binds .any e=true->b.getD e.on false=true
    ·intro u
     have:x.idx∈Region.ready .any c b:=mem_ready.2 ⟨(d.fK _ j).2 ⟨x,G,rfl⟩,o,I,i⟩
     simp_all
    ·simp only[Classical.not_forall] at i
     obtain⟨e,he,hb,hn⟩:=i
     have N:=atC c.toList 0 a5 x.idx o (by simp_all) e he hb
     simp only[Nat.zero_add] at N
     refine ih e.on N ((d.fK e.on (by omega)).1 ?_)
     rw[getD_lt (by rw[d.sz];omega) true false]
     simp_all
 intro h
 induction h with
 |zero=>
  intro l b st a w σ hl d O
  have:l=[]:=π (by omega)
  subst this
  refine⟨?_,C b st a w σ d O⟩
  rw[List.eq_nil_iff_forall_not_mem];intro k j
  obtain⟨h0,o,I,_⟩:=mem_ready.1 j
  obtain⟨x,G,_⟩:=(d.fK k (γR.1 I).1).1 h0
  simp at G
 |succ h ih=>
  intro l b st a w σ hl d O
  refine⟨λu=>?_,λk j=>?_⟩
  ·cases l with
   |nil=>grind
   |cons x l=>exact absurd u (H _ b st d x.idx ⟨x,by simp,rfl⟩)
  ·obtain⟨h0,o,I,i⟩:=mem_ready.1 j
   have a2:k<c.size:=(γR.1 I).1
   obtain⟨x,G,rfl⟩:=(d.fK k a2).1 h0
   obtain⟨f,g,rfl⟩:=List.append_of_mem G
   obtain⟨s,R,S⟩:=d.run
   have T:∀m,((abS c).getD x.idx 0).testBit m=true->b.getD m false=true:=by
    intro m hm
    obtain⟨e,he,hb,n⟩:=aAS I hm
    rcases n with rfl|n
    ·simp_all
    ·exact d.closed _ _ (i e he hb) n
   obtain⟨s1,s',f1,f2,f3,f4,f5⟩:=front (n0:=n0) f R d.len λp y W tx hp n h2=>by
    have a0:p<f.length:=(ζ.1 hp).1
    have J:(f++x::g)[p]?=some y:=by grind
    rcases d.rel p f.length y x W tx a0 J (by simp) n h2 with Z|Z
    ·exfalso
     have h4:=T _ Z
     obtain⟨V,X⟩:=d.comp y (γw J)
     cases U:c[y.idx]? with
     |none=>simp[adt,U] at X
     |some oy=>
      have a6:y.idx<c.size:=(γR.1 U).1
      have h5:=(d.fK _ a6).2 ⟨y,γw J,rfl⟩
      grind
    ·exact Z
   obtain⟨V,X⟩:=d.comp x G
   refine atr K X f1 O λY w' F a4=>?_
   have a8:=d.nodup
   have a7:=aAU f g x
   have v:∀(p:Nat) (y:oQ),(f++g)[p]?=some y->(f++x::g)[if p<f.length then p else p+1]?=some y:=by
    grind
   have B:∀(p:Nat) (t:List Nat×List Nat),(ents call base (f++g) s1)[p]?=some t->(ents call base (f++x::g) st)[if p<f.length then p else p+1]?=some t:=by
    grind
   obtain⟨_,_,E,_⟩:=ahj f1
   refine ih (f++g) _ s1 Y w' F (by grind) ⟨⟨s',f2,S.trans f3⟩,Nat.le_trans d.len E,λp q y z W tz a9 hy hz a1 a3=>?_,λy hy=>d.comp y ?_,?_,by simp[d.sz],λk j=>?_,λk m j hm=>?_⟩ a4
   ·refine d.rel _ _ y z W tz ?_ (v p y hy) (v q z hz) (B p W a1) (B q tz a3)
    split<;>split<;>omega
   ·grind
   ·grind
   ·by_cases r:k=x.idx
    ·subst r
     have n:(b.setIfInBounds x.idx true).getD x.idx true=true:=by simp
     grind
    ·rw[getD_set_ne true (Ne.symm r),d.fK k j]
     grind
   ·by_cases r:k=x.idx
    ·grind[getD_set_true]
    ·rw[getD_set_ne false (Ne.symm r)] at j
     exact getD_set_true (d.closed k m j hm)
theorem atI:∀{l:List Nat},nodupB l=true->l.Nodup
 |[],_=>List.nodup_nil
 |a::r,h=>by
  simp only[nodupB,μ,Bool.not_eq_true',List.contains_eq_mem,decide_eq_false_iff_not] at h
  exact δx.2 ⟨h.1,atI h.2⟩
theorem aAW {b:Nat} {fl:List Nat} {a:Array Oper} {dp k:Nat} {x:oQ} (h:adt P b fl a dp k=some x):x.idx=k/\k<a.size:=by
 unfold adt at h;split at h
 ·cases h
 ·rename_i o d
  split at h
  ·obtain⟨c,_,rfl⟩:=ε.1 h
   grind
  ·cases h
theorem aAX (g:acn P call) {s:Nat} {fl:List Nat} {d:Array Oper} {id k:Nat} {c:List Nat} {l:List oQ} (S:afJ P s fl d 0 c=some (l,k)) (h:P.follows .mixedOrders=true)
  (C:c.length=d.size) (L:nodupB c=true) (M:agY (abS d) l=true) (u:agW 0 d.toList=true) (r:(Φ d.size).all c.contains=true)
  {b st2:St} (T:BJ call b.o.length l ⟨b.env,b.o++BK k⟩=some st2)
  (G:((adu (abS d) l).isEmpty||aeI (b.o++BK k).length (aax call b.o.length l ⟨b.env,b.o++BK k⟩) (adu (abS d) l))=true)
  {I:World} {n:ja} {F:Store} {a:Act} {w:World} {σ:ja} {Q:Exit->Act->World->Prop} (O:mg A s D I n F ⟨b.env,b.o++BK k⟩ a w σ) (K:∀B w' t,mg A s D I n F st2 B w' t->Q .normal B w') {ob:Option Nat}:(Code.region id d true).wpIn (FR ob) 0 P Q a w:=by
 obtain⟨Z,W⟩:=anZ S
 have E:l.map (·.idx)=c:=by
  apply List.ext_getElem?
  intro j;rw[List.getElem?_map]
  cases f:l[j]? with
  |none=>
   simp_all
  |some x=>
   have v:=(ζ.1 f).1
   have z:=ι (l:=c) (i:=j) (by omega)
   obtain⟨X,V⟩:=W j x _ f z
   rw[z]
   simp[(aAW V).1]
 have e:(l.map (·.idx)).Nodup:=by grind[atI]
 refine wpIn_region_any h (aAV (fl:=fl) (base:=b.o.length) (n0:=(b.o++BK k).length) g u K d.size l _ ⟨b.env,b.o++BK k⟩ a _ σ (by omega) ⟨⟨st2,T,RR.refl _⟩,Θ _,λp q y x ty tx R Y H N U=>?_,λx H=>?_,e,by simp,λj f=>?_,λj m f=>?_⟩ O.drew)
 ·grind[aAT]
 ·obtain⟨j,f⟩:=List.getElem?_of_mem H
  have v:=(ζ.1 f).1
  have z:=ι (l:=c) (i:=j) (by omega)
  grind
 ·have J:(εf d.size false).getD j true=false:=by simp[f]
  rw[J]
  refine⟨λ_=>?_,λ_=>rfl⟩
  have:=γf.1 r j (List.mem_range.2 f)
  grind
 ·exfalso
  rw[Array.getD_eq_getD_getElem?,Array.getElem?_replicate] at f
  grind
end
section
variable {P:Program} {A:qM} {D:List Deferred} {w w':World} {σ σ':ja} {o o':Store}
theorem iP.fresh (i:iP A w σ o) (e:TypeId) (sz:Nat) (pu:Bool):∃a,iP A w a (o++[.cells [] e sz pu])/\Ext w σ o w a (o++[.cells [] e sz pu])/\a[o.length]?=some none:=by
 obtain⟨k,j⟩:=i.BK 1
 have b:(o++Go.Vi.BK 1)[o.length]?=some .dead:=by simp[Go.Vi.BK]
 have c:(o++Go.Vi.BK 1).set o.length (.cells [] e sz pu)=o++[.cells [] e sz pu]:=by
  grind[Go.Vi.BK]
 have f:o.length<(σ++δ 1 none).length:=by simp[i.len]
 obtain⟨d,g⟩:=k.upd (w':=w) (x':=.cells [] e sz pu) (s':=none) b (Θ _) rfl rfl rfl (λ_ _ _=>rfl) (λ_ _ h=>by cases h) trivial (λl=>by
  simp only[pn]
  exact⟨λ_=>rfl,rfl,.inl ⟨by simp_all,trivial⟩⟩)
 rw[c] at d g
 exact⟨_,d,j.trans g,by simp_all⟩
theorem atJ {n:Nat} {e:TypeId} {sz:Nat} {pu:Bool} (c:o[n]?=some (.cells [] e sz pu)) (a:σ[n]?=some none):df A w σ o (.os n 0 0 0) (.slice none 0 0):=by
 simp only[df]
 refine⟨⟨[],e,sz,pu,c,Θ _⟩,none,0,rfl,Θ _,λb _=>?_⟩
 grind[SL]
theorem mg.unp {t:Nat} {r:World} {g:ja} {p:Store} {st:St} {a:Act} (h:mg A t D r g p st a w σ) (id:Nat):∃i,mg A t D r g p (akA id st) a w i:=by
 unfold akA;split
 ·rename_i E e L k
  have n:id<st.o.length:=(ζ.1 k).1
  have d:id<σ.length:=by rw[h.zt.len];exact n
  obtain⟨x,q⟩:=h.zt.upd (w':=w) (x':=.cells E e L false) (s':=σ[id]) k (Θ _) rfl rfl rfl (λ_ _ _=>rfl)
   (λb c N=> .inl ⟨c,by simp_all⟩) ⟨_,e,false,rfl,by simp,λ_=>ι d⟩ (λK=>by
    have f:=h.zt.obj id _ k
    simp only[pn] at f ⊢
    obtain⟨P,H,I⟩:=f
    refine⟨λG=>(by cases G),H,?_⟩
    rcases I with⟨O,R⟩|⟨b,l,m,Q,J,u,y,F,M⟩
    ·simp_all
    ·refine .inr ⟨b,l,m,?_,J,u,y,F,λj c C=>?_⟩
     ·simp_all
     ·obtain⟨v,z,B⟩:=M j c C
      exact⟨v,z,B.ext K⟩)
  exact⟨_,x,λs=>(h.env s).ext q,h.size,h.defers,h.ext.trans q⟩
 grind
theorem mg.aAZ {M:Nat} {P:World} {u:ja} {U:Store} {st:St} {a:Act} (h:mg A M D P u U st a w σ) (x:SJ):∃C,mg A M D P u U (akB x st) a w C:=by
 obtain⟨f,I,z,V⟩:=h.zt.fresh x.e x.sz x.pu
 have r:(st.o++[ig.cells [] x.e x.sz x.pu])[st.o.length]?=some (.cells [] x.e x.sz x.pu):=by simp
 unfold akB;split
 ·split
  ·rename_i N
   refine⟨f,I,λs=>?_,h.size,h.defers,h.ext.trans z⟩
   simp only[qd]
   cases X:δD x.slot s with
   |true=>
    have:=ζC X
    subst this
    have:=h.env x.slot
    grind[GI,atJ]
   |false=>exact(h.env s).ext z
  ·split
   ·exact h.unp _
   grind
  grind
 ·rename_i k _
  split
  ·rename_i i d a1 N
   split
   ·rename_i p e y pu ho
    split
    ·rename_i R
     split
     ·rename_i g
      obtain⟨L,rfl⟩:=g
      have a0:i<st.o.length:=(ζ.1 ho).1
      have l:i<f.length:=by grind
      have n:(st.o++[ig.cells [] x.e x.sz x.pu])[i]?=some (.cells p e y false):=by grind
      have Z:d+k<p.length:=(ζ.1 R).1
      obtain⟨O,G⟩:=I.upd (w':=w) (x':=.cells (p.set (d+k) (.os st.o.length 0 0 0)) e y false) (s':=f[i]) n (Θ _) rfl rfl rfl (λ_ _ _=>rfl)
       (λb c N=> .inl ⟨c,by simp_all⟩) ⟨_,e,false,rfl,by simp,λ_=>ι l⟩ (λS=>by
        have t:=I.obj i _ n
        simp only[pn] at t ⊢
        obtain⟨q1,q2,q3⟩:=t
        refine⟨λh=>(by cases h),?_,?_⟩
        ·refine aaO.2 λc H=>?_
         rcases List.mem_or_eq_of_mem_set H with T|T
         ·grind[aaO]
         ·subst T;rfl
        ·rcases q3 with⟨_,h0⟩|⟨b,K,B,r1,W,r3,Y,r5,Q⟩
         ·simp_all
         ·refine .inr ⟨b,K,B,?_,W,r3,Y,by simp_all,λj c m=>?_⟩
          ·simp_all
          ·rw[List.getElem?_set] at m
           split at m
           ·rename_i J
            subst J
            injection m with m;subst m
            obtain⟨v,E,F⟩:=Q _ _ R
            refine⟨v,E,?_⟩
            rw[GI F]
            exact(atJ r V).ext S
           ·obtain⟨v,E,F⟩:=Q j c m
            exact⟨v,E,F.ext S⟩)
      have q:(st.o++[ig.cells [] x.e x.sz x.pu]).set i (.cells (p.set (d+k) (.os st.o.length 0 0 0)) e y false)=(st.o.set i (.cells (p.set (d+k) (.os st.o.length 0 0 0)) e y false))++[ig.cells [] x.e x.sz x.pu]:=by
       simp_all
      rw[q] at O G
      exact⟨_,O,λs=>((h.env s).ext z).ext G,h.size,h.defers,(h.ext.trans z).trans G⟩
     grind
    grind
   grind
  grind
theorem mg.pur {t:Nat} {r:World} {f:ja} {p:Store} {st:St} {a:Act} (h:mg A t D r f p st a w σ) (id:Nat):∃i,mg A t D r f p (aiF id st) a w i:=by
 unfold aiF;split
 ·rename_i G e x k
  split
  ·rename_i E
   have n:id<st.o.length:=(ζ.1 k).1
   have d:id<σ.length:=by rw[h.zt.len];exact n
   obtain⟨y,q⟩:=h.zt.upd (w':=w) (x':=.cells G e x true) (s':=σ[id]) k (Θ _) rfl rfl rfl (λ_ _ _=>rfl)
    (λb c N=> .inl ⟨c,by simp_all⟩) ⟨_,e,true,rfl,by simp,λ_=>ι d⟩ (λH=>by
     have g:=h.zt.obj id _ k
     simp only[pn] at g ⊢
     obtain⟨P,F,K⟩:=g
     refine⟨λ_=>E,F,?_⟩
     rcases K with⟨O,R⟩|⟨b,l,m,Q,L,u,z,I,M⟩
     ·simp_all
     ·refine .inr ⟨b,l,m,?_,L,u,z,I,λj c B=>?_⟩
      ·simp_all
      ·obtain⟨v,C,J⟩:=M j c B
       exact⟨v,C,J.ext H⟩)
   exact⟨_,y,λs=>(h.env s).ext q,h.size,h.defers,h.ext.trans q⟩
  grind
 grind
theorem mg.hint {f:Nat} {g:World} {b:ja} {e:Store} {st:St} {a:Act} {lo:Nat} (l:e.length<=lo) (h:mg A f D g b e st a w σ) (x:SJ):∃d,mg A f D g b e (RB lo x st) a w d:=by
 unfold RB;split
 ·exact h.aAZ x
 ·split
  ·rename_i o _ _ _ _
   split
   ·rename_i p
    have m:=Nat.le_of_ble_eq_true p
    obtain⟨k,h⟩:=h.pur o
    unfold akC
    simp only
    split
    ·rename_i q t n j
     have c:=atl j
     exact⟨_,h.zt.iR c,λs=>df.iR h.zt c _ _ _ (ati n s) (h.env s),h.size,h.defers,h.ext.iR c λi r=>by
      grind⟩
    grind
   grind
  grind
theorem atK {s:World} {f:ja} {h:Store} (j:iP A w σ o) (g:Ext s f h w σ o) {l r:AV} {u:Value} (y:df A w σ o l u) {own:Bool} (a:finish own h.length l o=some (r,o')):
  ∃d,iP A w d o'/\df A w d o' r u/\Ext s f h w d o':=by
 unfold finish at a
 cases own with
 |true=>grind[aAq]
 |false=>
  simp only[Γ,if_false] at a;split at a
  ·rename_i D
   split at a
   ·rename_i C m
    simp only[γ,κ] at a
    obtain⟨rfl,rfl⟩:=a
    have t:h=[]:=π D
    subst t
    refine⟨[],akV w j.RN,anO j (λb _ a=>a.2) 6 l C u m (λq _ b c p=>j.av q b c p) y,g.size,λb v B=>⟨(g.blk b v B).1,λ⟨i,c,z⟩=>by simp at z⟩,Θ _,λq x k=>?_,λq k=>?_,g.os,g.tape,g.output⟩
    ·obtain⟨G,e,F,E,n,_⟩:=k;simp at n
    ·obtain⟨H,I,E,n⟩:=k;simp at n
   ·cases a
  ·cases a
end
open Go.RowKit
section
variable {A:qM} {w w':World} {σ:ja} {o:Store}
mutual
theorem df.to (g:∀(p:Addr) (v:Value),w.cell? p=some v->w'.cell? p=some v):∀(c:AV) (v:Value),df A w σ o c v->df A w' σ o c v
 | .ud,_,_=>by simp[df]
 | .sc u,v,d=>by grind[df]
 | .agg e,v,d=>by
  simp only[df] at d ⊢
  obtain⟨k,rfl,i⟩:=d
  exact⟨k,rfl,ei.to g e _ i⟩
 | .eW e,v,d=>by
  simp only[df] at d ⊢
  obtain⟨k,rfl,i⟩:=d
  exact⟨k,rfl,ei.to g e _ i⟩
 | .sl n e,v,d=>by
  simp only[df] at d ⊢
  obtain⟨a,m,rfl,G,t,s⟩:=d
  exact⟨a,m,rfl,G,t,pd.to g e a 0 s⟩
 | .ep e l,v,d=>by
  simp only[df] at d ⊢
  obtain⟨a,rfl,t,s⟩:=d
  exact⟨a,rfl,t,pd.to g e _ 0 s⟩
 | .ptr y l q,v,d=>by grind[df]
 | .os y l E q,v,d=>by grind[df]
 | .mp y,v,d=>by grind[df]
 | .fn f a b,v,d=>by
  simp only[df] at d ⊢
  obtain⟨C,D,rfl,z,F⟩:=d
  exact⟨C,D,rfl,ei.to g a _ z,ei.to g b _ F⟩
theorem ei.to (g:∀(p:Addr) (v:Value),w.cell? p=some v->w'.cell? p=some v):∀(e:List AV) (k:List Value),ei A w σ o e k->ei A w' σ o e k
 |[],_,h=>by grind[ei]
 |c::e,k,h=>by
  simp only[ei] at h ⊢
  obtain⟨v,r,rfl,x,i⟩:=h
  exact⟨v,r,rfl,df.to g c v x,ei.to g e r i⟩
theorem pd.to (g:∀(p:Addr) (v:Value),w.cell? p=some v->w'.cell? p=some v):∀(e:List AV) (a:Option Addr) (j:Nat),pd A w σ o e a j->pd A w' σ o e a j
 |[],_,_,_=>by simp[pd]
 |c::e,a,j,h=>by
  simp only[pd] at h ⊢
  obtain⟨⟨b,v,rfl,B,x,d⟩,i⟩:=h
  exact⟨⟨b,v,rfl,B,g _ _ x,df.to g c v d⟩,pd.to g e _ (j+1) i⟩
end
theorem iP.to (a:iP A w σ o) (t:∀(p:Addr) (v:Value),w.cell? p=some v->w'.cell? p=some v) (J:∀(i b c:Nat),σ[i]?=some (some (b,c))->w'.heap[b]?=w.heap[b]?)
  (d:w.heap.size<=w'.heap.size):iP A w' σ o:=by
 refine⟨a.len,a.dist,λi b c h=>γo (a.bnd i b c h) d,λi x F=>?_,a.av,λb h=>γo (a.RN b h) d⟩
 have h:=a.obj i x F
 cases x with
 |dead=>grind[pn]
 |cells N e K H=>
  simp only[pn] at h ⊢
  refine⟨h.1,h.2.1,?_⟩
  rcases h.2.2 with s|⟨b,n,g,k,u,y,l,D,C⟩
  ·exact .inl s
  ·refine .inr ⟨b,n,g,k,u,by grind,l,D,λj c q=>?_⟩
   obtain⟨v,I,f⟩:=C j c q
   exact⟨v,I,f.to t c v⟩
 |map M L H=>
  simp only[pn] at h ⊢
  obtain⟨s,r,b,c,E,G,k,u,y,l⟩:=h
  refine⟨s,r,b,c,E,G,k,by grind,y,λj e q=>?_⟩
  obtain⟨m,B,z,f⟩:=l j e q
  exact⟨m,B,z,f.to t e.2 _⟩
theorem aiR {r b:Nat} {y:Obj} (h:b≠r):(w.putObj r y).heap[b]?=w.heap[b]?:=by
 simp_all[World.putObj,Ne.symm]
theorem putObj_size {r:Nat} {y:Obj}:(w.putObj r y).heap.size=w.heap.size:=by simp_all
theorem atL {r:Nat} {x y:Obj} (h:w.heap[r]?=some x) (b:x.isCells=false) (p:Addr) (v:Value) (a:w.cell? p=some v):(w.putObj r y).cell? p=some v:=by
 grind[cells_of_cell,World.cell?_of_block,aiR]
theorem iP.aeT (a:iP A w σ o) {r:Nat} {x y:Obj} (h:w.heap[r]?=some x) (d:x.isCells=false) (g:¬Own σ r):iP A (w.putObj r y) σ o:=
 a.to (atL h d) (λi b c f=>aiR λe=>g ⟨i,c,e▸f⟩) (by simp_all)
theorem df.aeT {c:AV} {v:Value} (a:df A w σ o c v) {r:Nat} {x y:Obj} (h:w.heap[r]?=some x) (b:x.isCells=false):df A (w.putObj r y) σ o c v:=
 a.to (atL h b) c v
theorem Ext.aeT {c:World} {a:ja} {d:Store} (h:Ext c a d w σ o) {r:Nat} {y:Obj} (g:c.heap.size<=r):Ext c a d (w.putObj r y) σ o where
 size:=by rw[putObj_size];exact h.size
 blk:=λb e f=>by
  obtain⟨i,j⟩:=h.blk b e f
  grind[aiR]
 len:=h.len
 cur:=h.cur
 isMap:=h.isMap
 os:=h.os
 tape:=h.tape
 output:=h.output
theorem ak2 {P:Program} {t:Func} {a:Array Value} {m:World} {D:List Deferred} {R:Ending->World->Prop}:∀(j:List Deferred) (w:World),MkD m w j->iP A w σ o->
  (∀w',iP A w' σ o->(∀{c:ja} {q:Store},Ext m c q w σ o->Ext m c q w' σ o)->(∀s v,df A w σ o s v->df A w' σ o s v)->LeavesInM (FR none) 0 P t a R D .returning w')->
  LeavesInM (FR none) 0 P t a R (j++D) .returning w
 |[],w,_,f,k=>k w f (λh=>h) (λ_ _ h=>h)
 |d::j,w,g,f,k=>by
  obtain⟨r,x,n,i⟩:=g.2 d (by simp)
  have C:=f.anY i (by simp) (by simp)
  simp only[List.cons_append,LeavesInM]
  refine⟨by simp,.inl ⟨r,w.putObj r (.deferred none),by rw[x],run_takeDeferred i,?_⟩⟩
  refine ak2 j _ ⟨(γH.1 g.1).2,λe p=>?_⟩ (f.aeT i rfl C) λw' y z E=>k w' y (λh=>z (h.aeT n)) (λs v h=>E s v (h.aeT i rfl))
  obtain⟨B,l,b,u⟩:=g.2 e (εX _ p)
  refine⟨B,l,b,?_⟩
  have:=(γH.1 g.1).1 e p
  grind[aiR]
theorem an7 {P:Program} {m:World}:∀(f:List Deferred) (w:World) (fr:Frame) (cs:List Frame),fr.mode= .returning->fr.defers=f->MkD m w f->iP A w σ o->
  ∃w',StepsIn (Machine.fenced P (FR none)) P (lone fr cs w) (lone {fr with defers:=[]} cs w')/\iP A w' σ o/\(∀{a:ja} {u:Store},Ext m a u w σ o->Ext m a u w' σ o)/\∀s v,df A w σ o s v->df A w' σ o s v
 |[],w,fr,cs,_,k,_,l=>by
  refine⟨w,?_,l,λh=>h,λ_ _ h=>h⟩
  have:fr={fr with defers:=[]}:=by rw[<-k]
  rw[<-this]
  exact StepsIn.refl _
 |d::f,w,fr,cs,x,k,j,l=>by
  obtain⟨r,p,q,i⟩:=j.2 d (by simp)
  have C:=l.anY i (by simp) (by simp)
  have b:fr.mode≠ .run:=by rw[x];simp
  have I:=step_collected (cs:=cs) b k (by rw[p]) (run_takeDeferred (P:=P) i)
  have H:(lone fr cs w).fenced P (FR none):=fenced_out (n:=0) trivial (by simp[FR,Fence.wide,Fence.room]) b k (λg J=>by grind[Target.leads])
  obtain⟨w',E,z,F,D⟩:=an7 f (w.putObj r (.deferred none)) {fr with defers:=[]++f} cs x rfl ⟨(γH.1 j.1).2,λe y=>by
   obtain⟨G,t,c,B⟩:=j.2 e (εX _ y)
   refine⟨G,t,c,?_⟩
   have:=(γH.1 j.1).1 e y
   grind[aiR]⟩ (l.aeT i rfl C)
  exact⟨w',.head H I E,z,λh=>F (h.aeT q),λs v h=>D s v (h.aeT i rfl)⟩
theorem aA1 {P:Program} {f:FuncId} {m:Func} {c:Code} {args:Array Value} {u:FrameMode} {w:World} {R:Ending->World->Prop}
  (E:P.funcs[f]?=some m) (S:m.body=some c)
  (h:c.wpIn (FR none) 0 P (λe a r=>(e= .normal\/e= .ret)/\∃(q:World) (g:ja) (l:Store),MkD q r a.defers/\iP A r g l/\∀i,iP A i g l->(∀{n:ja} {I:Store},Ext q n I r g l->Ext q n I i g l)->(∀s v,df A r g l s v->df A i g l s v)->
   ∃v,(results m a.tmps).run P i= .ok v i/\R (.returned v) i) {tmps:=args++εf (m.ntmps - args.size) undef,defers:=[]} w):
  CallsDIn (FR none) 0 P f args u w λe L w'=>L=u/\R e w':=by
 refine⟨trivial,λd z Q J=>?_⟩
 let b:Frame:={(default:Frame) with fn:=f,kind:=.deferred,roundOf:=none}
 have k:Frame.enter P f args .deferred=
   b.atR {tmps:=args++εf (m.ntmps - args.size) undef,defers:=[]} [.code c]:=by
  grind[Frame.enter,Frame.atR]
 have F:({d with mode:=u}:Frame)=d:=by subst Q;rfl
 obtain⟨e,p,w',O,j⟩:=h b [] (d::z) rfl trivial J
 rw[<-k] at j
 obtain⟨N,q,g,l,H,K,G⟩:=O
 rcases N with rfl|rfl
 ·obtain⟨i,C,t,y,B⟩:=an7 (P:=P) p.defers w' {b.atR p [] with mode:=.returning} (d::z) rfl rfl H K
  obtain⟨v,D,x⟩:=G i t y B
  exact⟨.returned v,u,i,_,⟨rfl,x⟩,(by rw[F];exact StepsIn.trans (StepsIn.trans j (.one (fenced_calm (fr:=b.atR p []) trivial J rfl) (stepR_end rfl))) C),rfl,rfl,rfl,rfl,m,E,D⟩
 ·obtain⟨o,M⟩:=j.1 rfl
  obtain⟨i,C,t,y,B⟩:=an7 (P:=P) p.defers w' {b.atR p o with mode:=.returning} (d::z) rfl rfl H K
  obtain⟨v,D,x⟩:=G i t y B
  exact⟨.returned v,u,i,_,⟨rfl,x⟩,(by rw[F];exact StepsIn.trans M C),rfl,rfl,rfl,rfl,m,E,D⟩
end
open Go.RowKit
def Out.aeU:Out->Exit
 | .norm=> .normal
 | .exit a=> .exit a
 | .ret=> .ret
 | .goto l=> .goto l
section
variable {P:Program} {A:qM} {D:List Deferred} {w w':World} {σ σ':ja} {o o':Store}
theorem aA2 (a:List Nat) (env:MD) (s:Nat):qd (prune a env) s=qd env s\/qd (prune a env) s= .ud:=by
 unfold prune
 induction a with
 |nil=>right;rfl
 |cons x a b=>
  simp only[ψ,qd]
  cases c:δD x s<;>simp_all
theorem aA3 (t:Nat) (env:MD) (s:Nat):qd (adq t env) s=qd env s\/qd (adq t env) s= .ud:=by
 induction env with
 |nil=>left;rfl
 |cons p env c=>
  simp only[adq]
  cases a:δD p.1 t with
  |true=>
   simp only[cond_true]
   by_cases d:p.1=s
   ·have e:=ζC a
    right
    have:∀env:MD,qd (adq t env) t= .ud:=by
     intro env
     induction env with
     |nil=>rfl
     |cons q env c=>
      simp only[adq]
      cases b:δD q.1 t with
      |true=>simp_all
      |false=>simp_all[qd]
    simp_all
   ·have:qd (p::env) s=qd env s:=by
     simp only[qd]
     have:δD p.1 s=false:=by
      cases h:δD p.1 s<;>simp_all
     rw[this];rfl
    simp_all
  |false=>
   simp only[cond_false,qd]
   grind
theorem mg.drop {d:Nat} {e:World} {b:ja} {c:Store} {st:St} {a:Act} (h:mg A d D e b c st a w σ) (x:Operand):mg A d D e b c ⟨ach x st.env,st.o⟩ a w σ where
 zt:=h.zt
 env:=λs=>by
  unfold ach;split
  ·rename_i t
   rcases aA3 t st.env s with f|f
   ·simp only[f];exact h.env s
   grind[df]
  ·exact h.env s
 size:=h.size
 defers:=h.defers
 ext:=h.ext
theorem mg.prune {e:Nat} {f:World} {c:ja} {d:Store} {st:St} {a:Act} (h:mg A e D f c d st a w σ) (b:List Nat):mg A e D f c d ⟨ζI b st.env,st.o⟩ a w σ where
 zt:=h.zt
 env:=λs=>by
  rcases aA2 b st.env s with g|g
  ·simp only[g];exact h.env s
  grind[df]
 size:=h.size
 defers:=h.defers
 ext:=h.ext
theorem aA4 {env:MD} {s:Nat}:qd env s= .ud\/∃p∈env,p.2=qd env s:=by
 induction env<;>grind[qd]
theorem mg.trim {g:Nat} {f:World} {b:ja} {d:Store} {st:St} {a:Act} (h:mg A g D f b d st a w σ) {k:Nat} (i:d.length<=k):∃c,mg A g D f b d (Go.Vi.trim k st) a w c:=by
 unfold Go.Vi.trim;split
 ·grind
 ·split
  ·rename_i e
   simp only[μ,γf] at e
   refine⟨σ.take k,⟨h.zt.take e.2,λs=>?_,h.size,h.defers,h.ext.take i⟩⟩
   grind[aA4,env,df,df.take]
  grind
theorem mg.BK {e:Nat} {g:World} {b:ja} {d:Store} {st:St} {a:Act} (h:mg A e D g b d st a w σ) (n:Nat):∃c,mg A e D g b d ⟨st.env,st.o++Go.Vi.BK n⟩ a w c:=by
 obtain⟨i,f⟩:=h.zt.BK n
 exact⟨_,i,λs=>(h.env s).ext f,h.size,h.defers,h.ext.trans f⟩
theorem mg.adl {e:Nat} {f:World} {c:ja} {d:Store} {st:St} {a:Act} (h:mg A e D f c d st a w σ) {k:Nat} (g:d.length<=k):∃b,mg A e D f c d ⟨st.env,Go.Vi.adl k st.o⟩ a w b:=by
 obtain⟨b,l,j,i⟩:=aAn h.zt k
 exact⟨b,l,λs=>j _ _ (h.env s),h.size,h.defers,i _ _ _ g h.ext⟩
theorem mg.len {d:Nat} {e:World} {b:ja} {c:Store} {st:St} {a:Act} (h:mg A d D e b c st a w σ):c.length<=st.o.length:=h.ext.len
theorem mg.hints {nt:Nat} {w0:World} {Za:ja} {o0:Store} {lo:Nat} (hlo:o0.length<=lo) (l:List SJ):∀{st:St} {a:Act} {σ:ja},mg A nt D w0 Za o0 st a w σ->∃σ',mg A nt D w0 Za o0 (l.foldl (λs h=>RB lo h s) st) a w σ':=by
 induction l with
 |nil=>intro st a σ h;exact⟨σ,h⟩
 |cons x l ih=>
  intro st a σ h
  obtain⟨σ1,h1⟩:=mg.hint hlo h x
  exact ih h1
theorem aA5 {ob:Option Nat} {call:nD} (hcall:acn P call) {lo nt:Nat} {H:List RH} {id:Nat} {ops:Array Oper} {draw:Bool} {c:IR} (hc:agZ P nt H id ops draw=some c):
  ∃k l SK live pre post,c= .region id draw k l SK live pre post/\∀{st st':St},acg call k l SK (pre.foldl (λs h=>RB lo h s) st)=some st'->∀{w0:World} {Za:ja} {o0:Store} {a:Act} {w:World} {σ:ja},o0.length<=lo->mg A nt D w0 Za o0 st a w σ->
   (Code.region id ops draw).wpIn (FR ob) 0 P (λe a' w'=>e= .normal/\∃σ',mg A nt D w0 Za o0 (post.foldl (λs h=>RB lo h s) ⟨ζI live st'.env,st'.o⟩) a' w' σ') a w:=by
 unfold agZ at hc;split at hc
 ·cases hc
 ·rename_i h hh
  have fin:∀(k:Nat) (l:List oQ) (SK:List (Nat×Nat)),(∀{st1 st2:St},BJ call st1.o.length l ⟨st1.env,st1.o++BK k⟩=some st2->(SK.isEmpty||aeI (st1.o++BK k).length (aax call st1.o.length l ⟨st1.env,st1.o++BK k⟩) SK)=true->
     ∀{w0:World} {Za:ja} {o0:Store} {a:Act} {w:World} {σ:ja} {Q:Exit->Act->World->Prop},mg A nt D w0 Za o0 ⟨st1.env,st1.o++BK k⟩ a w σ->(∀a' w' σ',mg A nt D w0 Za o0 st2 a' w' σ'->Q .normal a' w')->(Code.region id ops draw).wpIn (FR ob) 0 P Q a w)->
    ∀{st st':St},acg call k l SK (h.pre.foldl (λs h=>RB lo h s) st)=some st'->∀{w0:World} {Za:ja} {o0:Store} {a:Act} {w:World} {σ:ja},o0.length<=lo->mg A nt D w0 Za o0 st a w σ->
     (Code.region id ops draw).wpIn (FR ob) 0 P (λe a' w'=>e= .normal/\∃σ',mg A nt D w0 Za o0 (h.post.foldl (λs h=>RB lo h s) ⟨ζI h.live st'.env,st'.o⟩) a' w' σ') a w:=by
   intro k l SK hrun st st' hr w0 Za o0 a w σ hlo hs
   obtain⟨σ1,hs1⟩:=mg.hints hlo h.pre hs
   generalize aHX:h.pre.foldl (λs h=>RB lo h s) st=st1 at hr hs1
   unfold acg at hr
   simp only at hr
   split at hr
   ·rename_i st2 h2
    split at hr
    ·rename_i an8
     injection hr with hr
     obtain⟨σ2,hs2⟩:=hs1.BK k
     refine hrun h2 an8 hs2 λa' w' σ' h3=>⟨rfl,?_⟩
     have h4:∃σ4,mg A nt D w0 Za o0 st' a' w' σ4:=by
      subst hr
      by_cases hk:k=0
      ·simp only[hk,if_true];exact⟨σ',h3⟩
      ·simp only[hk,if_false];exact h3.adl hs1.len
     obtain⟨σ4,h4⟩:=h4
     exact mg.hints hlo h.post (h4.prune h.live)
    ·cases hr
   ·cases hr
  cases draw with
  |false=>
   simp only[Γ,if_false] at hc
   obtain⟨⟨l,k⟩,hl,rfl⟩:=ε.1 hc
   refine⟨k,l,[],h.live,h.pre,h.post,rfl,fin k l [] λ{st1 st2} h2 _ w0 Za o0 a w σ Q hs hQ=>?_⟩
   obtain⟨g1,g2⟩:=anZ hl
   exact wpIn_region (att hcall l (Φ ops.size) g1 g2 _ _ a w σ h2 hs hQ)
  |true=>
   simp only[if_true] at hc
   generalize (if h.perm.isEmpty=true then Φ ops.size else h.perm)=perm at hc
   split at hc
   ·rename_i l k hl
    split at hc
    ·rename_i hcond
     injection hc with hc
     refine⟨k,l,adu (abS ops) l,h.live,h.pre,h.post,hc.symm,fin k l _ λ{st1 st2} h2 an8 w0 Za o0 a w σ Q hs hQ=>?_⟩
     simp only[μ,beq_iff_eq] at hcond
     exact aAX hcall hl hcond.1.1.1.1.1 hcond.1.1.1.1.2 hcond.1.1.1.2 hcond.1.1.2 hcond.1.2 hcond.2 h2 an8 hs hQ
    ·cases hc
   ·cases hc
def afS (_:Program) (ob:Option Nat) (_:qM->World->ja->Store->Prop):Md->Prop
 | .plain=>ob=none
def Closed (B:qM->World->ja->Store->Prop):Prop:=∀A w c o b a d,B A w c o->Ext w c o b a d->B A b a d
theorem aA6 {call:nD} (m:acn P call) {ob:Option Nat} {B:qM->World->ja->Store->Prop} {md:Md} (G:afS P ob B md) (F:Closed B) {lo r:Nat} {H:List RH} {id:Nat} {p:Array Oper} {d:Bool} {c:IR} (y:agZ P r H id p d=some c):
  ∃k l j f g b,c= .region id d k l j f g b/\∀{st st':St},anz md d call k l j (g.foldl (λs h=>RB lo h s) st)=some st'->∀{q:World} {i:ja} {n:Store} {a:Act} {w:World} {σ:ja},B A q i n->n.length<=lo->mg A r D q i n st a w σ->
   (Code.region id p d).wpIn (FR ob) 0 P (λe x w'=>e= .normal/\∃u,mg A r D q i n (b.foldl (λs h=>RB lo h s) ⟨ζI f st'.env,st'.o⟩) x w' u) a w:=by
 obtain⟨k,l,j,f,g,b,v,E⟩:=aA5 (ob:=ob) m (A:=A) (lo:=lo) y
 refine⟨k,l,j,f,g,b,v,?_⟩
 intro st st' z q i n a w σ _ t C
 exact E z t C
structure SQ (P:Program) (T:Tab):Prop where
 fn:∀f F,T.fn f=some F->∃fn H,P.funcs[f]?=some fn/\akJ P H fn=some F/\FG P f=true
 K:∀f args o own r o',T.K f args o own=some (r,o')->FG P f=true/\W7 P f args o r o'/\(own=false->o'=[])
def aiS (P:Program) (T:Tab) (n:Nat):Prop:=
 ∀(g:Option Nat) (m:Md) (B:qM->World->ja->Store->Prop),afS P g B m->Closed B->
 ∀(o:Nat) (c:IR) (p:St) (h:Out) (f:St),exec T m n o c p=some (h,f)->∀(j:Nat) (H:List RH) (b:Code),comp P j H b=some c->∀(D:List Deferred) (A:qM) (l:World) (d:ja) (i:Store) (a:Act) (w:World) (q:ja),B A l d i->i.length<=o->mg A j D l d i p a w q->
  b.wpIn (FR g) 0 P (λe s r=>e=h.aeU/\∃k,mg A j D l d i f s r k) a w
def aiT:qM->World->ja->Store->Prop:=λ_ _ _ _=>True
theorem ak3:Closed aiT:=λ_ _ _ _ _ _ _ _ _=>trivial
theorem atN:∀(k:Nat) (args:List AV) (s:Nat),qd (Hl k args) s=if k<=s then(args[s - k]?).getD .ud else .ud
 |k,[],s=>by simp[Hl,qd]
 |k,v::b,s=>by
  simp only[Hl,qd]
  by_cases h:k=s
  ·subst h;simp
  ·have a:δD k s=false:=by
    cases a:δD k s<;>simp_all
   simp only[a,cond_false];rw[atN (k+1) b s]
   grind
def aiU (a:Array Value):ResultVar->Sem Value
 | .tmp t=>pure (a.getD t undef)
 | .cell x t=>do loadVar t (<-asAddr (a.getD x undef))
theorem aA7 (b:Func) (a:Array Value):results b a=(do let vs <-b.results.mapM (aiU a);pure (if h:vs.size=1 then vs[0] else .tuple vs)):=by
 unfold results
 congr 1
theorem aA8 {m:Nat} {i:World} {e:ja} {l:Store} {st:St} {a:Act} (h:mg A m D i e l st a w σ) {f:ResultVar} {g:aaN} (d:ad4 P f=some g) {r:AV} (c:adn st g=some r):
  ∃u,(aiU a.tmps f).run P w= .ok u w/\df A w σ st.o r u:=by
 cases f with
 |tmp t=>
  simp only[ad4,γ] at d;subst d;simp only[adn,γ] at c;subst c
  exact⟨_,rfl,h.env t⟩
 |cell x t=>
  simp only[ad4,ε] at d
  obtain⟨n,j,rfl⟩:=d
  simp only[adn] at c;split at c
  ·rename_i y s k
   obtain⟨p,z,b⟩:=(h.env x).asK h.zt k
   obtain⟨u,v,q⟩:=asL (P:=P) j b c
   grind[aiU,asAddr]
  ·cases c
theorem an9 {K:Nat} {Q:World} {t:ja} {N:Store} {st:St} {a:Act} (h:mg A K D Q t N st a w σ) {m:Func} {H:List aaN} (O:ads (ad4 P) m.results.toList=some H) {r:AV} (j:abm st H=some r):
  ∃u,(results m a.tmps).run P w= .ok u w/\df A w σ st.o r u:=by
 obtain⟨n,S⟩:=anI O
 unfold abm at j
 have z:∀(c:List ResultVar) (b:List aaN) (g:List AV),c.length=b.length->(∀(i:Nat) (x:ResultVar) (y:aaN),c[i]?=some x->b[i]?=some y->ad4 P x=some y)->b.mapM (adn st)=some g->
   ∃d:List Value,(c.mapM (aiU a.tmps)).run P w= .ok d w/\ei A w σ st.o g d:=by
  intro c
  induction c with
  |nil=>
   intro b g l _ f
   have:b=[]:=π (by simp_all)
   simp_all[ei]
  |cons x c R=>
   intro b g l G f
   match b,l with
   |y::b,l=>
    rw[List.mapM_cons] at f
    cases s:adn st y with
    |none=>simp[s] at f
    |some v=>
     cases e:b.mapM (adn st) with
     |none=>simp_all
     |some C=>
      simp[s,e] at f
      subst f
      obtain⟨u,U,M⟩:=aA8 h (G 0 x y (by simp) (by simp)) s
      obtain⟨d,B,E⟩:=R b C (by grind) (λi p q J T=>G (i+1) p q (by simpa using J) (by simpa using T)) e
      refine⟨u::d,?_,by grind[ei]⟩
      simp_all
 have F:∀d:List Value,(m.results.toList.mapM (aiU a.tmps)).run P w= .ok d w->
   (results m a.tmps).run P w= .ok (if h:d.length=1 then d[0]'(by omega) else .tuple d.toArray) w:=by
  grind[aA7,Array.mapM_eq_mapM_toList,Sem.run_bind,Sem.run_map,Result.andThen_ok,Sem.run_pure]
 split at j
 ·grind[ei]
 ·rename_i g I f
  injection j with j;subst j
  obtain⟨d,B,l⟩:=z _ _ _ n S f
  have k:=ei.length _ _ l
  have L:¬d.length=1:=by
   intro n
   match g,k.trans n with
   |[v],_=>simp_all
  grind[df]
 ·cases j
theorem aoa {a:Nat} {args:List AV} {vs:List Value} (d:iP A w σ o) (b:ei A w σ o args vs) (j:args.length<=a):mg A a [] w σ o ⟨Hl 0 args,o⟩ {tmps:=vs.toArray++εf (a - vs.toArray.size) undef,defers:=[]} w σ:=by
 have i:=ei.length _ _ b
 refine⟨d,λs=>?_,?_,⟨[],rfl,δM,by simp⟩,Ext.refl _ _ _⟩
 ·simp only[atN,Nat.zero_le,if_true,Nat.sub_zero]
  cases h:args[s]? with
  |none=>simp[df]
  |some c=>
   obtain⟨v,e,g⟩:=ei.get _ _ b s c h
   have f:s<vs.length:=(ζ.1 e).1
   have:(vs.toArray++εf (a - vs.toArray.size) undef).getD s undef=v:=by
    simp_all[Array.getElem?_append_left]
   simp_all
 ·simp;omega
theorem aA9 {T:Tab} {n:Nat} (W:aiS P T n) {md:Md} {B:qM->World->ja->Store->Prop} (N:afS P none B md) (L:Closed B) {f:FuncId} {c:Func} {g:Code} {H:List RH} {b:IR} {E:List aaN}
  (t:P.funcs[f]?=some c) (i:c.body=some g) (X:comp P c.ntmps H g=some b) (y:ads (ad4 P) c.results.toList=some E) (Q:¬c.ntmps<c.params.size+c.nfree)
  {args:List AV} {out:Out} {st:St} (C:args.length=c.params.size+c.nfree) (j:out= .norm\/out= .ret) (m:exec T md n o.length b ⟨Hl 0 args,o⟩=some (out,st)) {G r:AV} (z:abm st E=some G) {own:Bool} (q:finish own o.length G st.o=some (r,o'))
  {vs:List Value} (x:B A w σ o) (J:iP A w σ o) (I:ei A w σ o args vs):
  CallsIn (FR none) 0 P f vs.toArray w λe w'=>∃u a,e= .returned u/\iP A w' a o'/\df A w' a o' r u/\Ext w σ o w' a o':=by
 have M:=ei.length _ _ I
 refine callsIn_of_wp_marks (F:=FR none) t i trivial (wpIn_mono (W none md B N L _ b _ out st m c.ntmps H g X [] A w σ o {tmps:=vs.toArray++εf (c.ntmps - vs.toArray.size) undef,defers:=[]} w σ x (Θ _) (aoa J I (by omega))) ?_)
 ·rintro e p w' ⟨rfl,a,d⟩
  have k:LeavesInM (FR none) 0 P c p.tmps (λe w'=>∃u a,e= .returned u/\iP A w' a o'/\df A w' a o' r u/\Ext w σ o w' a o') p.defers .returning w':=by
   obtain⟨K,v,U⟩:=d.defers
   rw[v]
   refine ak2 K w' U d.zt λS R V O=>?_
   simp only[LeavesInM,LeavesIn]
   have h:mg A c.ntmps [] w σ o st {p with defers:=[]} S a:=⟨R,λs=>O _ _ (d.env s),d.size,⟨[],rfl,δM,by simp⟩,V d.ext⟩
   obtain⟨u,Y,l⟩:=an9 h y z
   have D:=atK h.zt h.ext l q
   simp_all
  rcases j with rfl|rfl
  ·exact k
  ·exact k
theorem atO {out:Out} (h:adp out=true):out= .norm\/out= .ret:=by
 grind[adp]
theorem aBa {P:Program} {j:Nat} {H:List RH} {g:FuncId} {e:List Operand} {d:Nat} {a b:IR} (c:Code):comp P j H c≠some (.dfr g e d a b):=by
 intro h
 cases c with
 |region k i f=>
  simp only[comp] at h;unfold agZ at h;split at h
  ·cases h
  ·split at h
   ·grind
   simp_all
 |seq x y=>grind[comp]
 |cond c x y=>
  grind[comp]
 |_=>simp[comp] at h
theorem aBb {f:Array Oper} {g:FuncId} {e:List Operand} {d:Nat} (h:akI f=some (g,e,d)):∃i j a b c,f.toList=[i,j]/\i.dst=some d/\i.op= .makeFunc (.func g) a b/\i.guard=none/\j.op= .defer c/\j.dst=none/\j.guard=none/\c.callee= .value (.tmp d)/\a.toList=[]/\c.args.toList=[]/\b.toList=e:=by
 grind[akI]
theorem aBd {n:Nat} {id:Nat} {e:Array Oper} {g:FuncId} {f:List Operand} {d:Nat} (H:akI e=some (g,f,d)) (p:d<n) {st:St} {a:Act} {F:World} {l:ja} {G:Store} (h:mg A n D F l G st a w σ) {Q:Exit->Act->World->Prop}
  (I:∀(r:Act) (vs:List Value),ei A w σ st.o (f.map (uB st.env)) vs->mg A n ({target:=.fn (.func g) vs.toArray,args:=#[]}::a.defers) w σ st.o ⟨(d,.ud)::st.env,st.o⟩ r w σ->Q .normal r w):
  (Code.region id e false).wpIn (FR none) 0 P Q a w:=by
 obtain⟨k,u,x,b,c,t,q,U,X,S,J,V,R,N,T,rfl⟩:=aBb H
 have L:e[0]?=some k:=by rw[<-δv,t];rfl
 have z:e[1]?=some u:=by rw[<-δv,t];rfl
 have B:e.size=2:=by grind[Array.length_toList]
 have W:x=#[]:=εB (by omega)
 have O:c.args=#[]:=εB (by omega)
 refine wpIn_region ?_
 rw[B]
 show wpOpsIn (FR none) 0 P e Q [0,1] a w
 rw[wpOpsIn_cons];unfold wpOpIn;simp only[L]
 rw[if_pos (by grind[Region.wanted])]
 unfold Oper.wpIn;rw[show(FR none).round=none from rfl,Oper.semAt_none]
 refine⟨λ_ _=>trivial,?_⟩
 have E:(execOp a.eval k).run P w= .ok (.value (.func (.func g) #[] (b.map a.eval))) w:=by
  simp_all[execOp,Instr.makeFunc]
 rw[E,Oper.uponIn_value,wpOpsIn_cons]
 have C:d<a.tmps.size:=by rw[h.size];exact p
 have m:(a.put k.dst (.func (.func g) #[] (b.map a.eval))).eval (.tmp d)= .func (.func g) #[] (b.map a.eval):=by
  simp_all[Act.put,Act.eval]
 generalize i:a.put k.dst (.func (.func g) #[] (b.map a.eval))=K at m
 unfold wpOpIn;simp only[z]
 rw[if_pos (by grind[Region.wanted])]
 unfold Oper.wpIn;rw[show(FR none).round=none from rfl,Oper.semAt_none]
 refine⟨λ_ _=>trivial,?_⟩
 have y:(execOp K.eval u).run P w= .ok (.defer {target:=.fn (.func g) (b.map a.eval),args:=#[]}) w:=by
  simp_all[execOp,resolve,Deferred.ofValue]
 rw[y,Oper.uponIn_defer,J]
 show Q .normal _ w
 have j:ei A w σ st.o (b.toList.map (uB st.env)) (b.toList.map a.eval):=ag5 (λx=>h.ev x) b.toList
 refine I _ (b.toList.map a.eval) j ⟨h.zt,λs=>?_,?_,⟨[],?_,δM,by simp⟩,Ext.refl _ _ _⟩
 ·subst i
  by_cases M:d=s
  ·simp_all[qd,df]
  ·have v:δD d s=false:=by
    cases v:δD d s<;>simp_all
   simp only[qd,v,cond_false]
   have:=h.env s
   simp_all[Act.put]
 ·subst i
  simp[q,Act.put,h.size]
 ·subst i
  simp[q,Act.put]
  grind
theorem aBe {T:Tab} {n:Nat} (Q:aiS P T n) {v:Nat} {H:List RH} {lo:Nat} {C:World} {p:ja} {D:Store} (I:D.length<=lo) {g:FuncId} {m:List Operand} {d:Nat} {S:IR} {s0 s2:St} {out:Out}
  (J:exec T .plain n s0.o.length S ⟨(d,.ud)::s0.env,s0.o⟩=some (out,s2)):∀(f:Code) (z:IR) (st:St) (a:Act) (w:World) (σ:ja),afK P v H f=some (z,(g,m,d),S)->ado (exec T .plain n lo) z st=some s0->mg A v [] C p D st a w σ->
  f.wpIn (FR none) 0 P (λe B w'=>e=out.aeU/\FG P g=true/\∃(q:World) (j t:ja) (R:List Deferred) (vs:List Value),MkD C q R/\iP A q j s0.o/\Ext C p D q j s0.o/\ei A q j s0.o (m.map (uB s0.env)) vs/\
   mg A v ({target:=.fn (.func g) vs.toArray,args:=#[]}::R) q j s0.o s2 B w' t) a w:=by
 intro f
 induction f with
 |seq c l _ G=>
  intro z st a w σ k i h
  cases c with
  |region W K N=>
   unfold afK at k;split at k
   ·rename_i x X _
    split at k
    ·rename_i y
     obtain⟨b,Y,O⟩:=ε.1 k
     simp only[κ] at O
     obtain⟨rfl,rfl,rfl⟩:=O
     simp only[ado,γ] at i;subst i
     refine wpIn_seq (aBd X y.1 h λE vs V s=>?_)
     show l.wpIn _ _ _ _ E w
     obtain⟨ms,U,Z⟩:=h.defers
     refine wpIn_mono (Q none .plain aiT rfl ak3 _ b _ out s2 J v H l Y _ A w σ st.o E w σ trivial (Θ _) s) ?_
     rintro e B w' ⟨rfl,t,L⟩
     exact⟨rfl,y.2,w,σ,t,a.defers,vs,by simp_all,h.zt,h.ext,V,L⟩
    ·cases k
   ·split at k
    ·rename_i r B x b hr F
     simp only[γ,κ] at k
     obtain⟨rfl,rfl,rfl⟩:=k
     simp only[ado] at i;split at i
     ·rename_i u M
      refine wpIn_seq (wpIn_mono (Q none .plain aiT rfl ak3 lo r st .norm u M v H (.region W K _) (by grind[comp]) [] A C p D a w σ trivial I h) ?_)
      rintro e E q ⟨rfl,j,s⟩
      exact G B u E q j F i s
     ·cases i
    ·cases k
  |_=>simp[afK] at k
 |_=>
  intro z st a w σ k
  simp[afK] at k
theorem aBf {T:Tab} (hT:SQ P T) {n:Nat} (ih:aiS P T n) {f:FuncId} {fn:Func} {code:Code} {H:List RH} {ia ib:IR} {g:FuncId} {caps:List Operand} {d:Nat} {rs:List aaN}
  (hfn:P.funcs[f]?=some fn) (hcode:fn.body=some code) (hb:afK P fn.ntmps H code=some (ia,(g,caps,d),ib)) (hrs:ads (ad4 P) fn.results.toList=some rs) (hnt:¬fn.ntmps<fn.params.size+fn.nfree)
  {args:List AV} {out ak4:Out} {s0 s2 s3:St} (hlen:args.length=fn.params.size+fn.nfree) (hout:out= .norm\/out= .ret) (h1:ado (exec T .plain n o.length) ia ⟨Hl 0 args,o⟩=some s0) (h2:exec T .plain n s0.o.length ib ⟨(d,.ud)::s0.env,s0.o⟩=some (out,s2))
  {F:zr} (hF:T.fn g=some F) (hcl:(caps.map (uB s0.env)).length=F.params) (hre:F.res=[]) (h3:exec T .plain n s2.o.length F.body ⟨Hl 0 (caps.map (uB s0.env)),s2.o⟩=some (ak4,s3)) (aHY:ak4= .norm\/ak4= .ret)
  {r0 r:AV} (hr0:abm ⟨s2.env,s3.o⟩ rs=some r0) {own:Bool} (hfi:finish own o.length r0 s3.o=some (r,o'))
  {vs:List Value} (hS:iP A w σ o) (hr:ei A w σ o args vs):
  CallsIn (FR none) 0 P f vs.toArray w λe w'=>∃u σ',e= .returned u/\iP A w' σ' o'/\df A w' σ' o' r u/\Ext w σ o w' σ' o':=by
 have hvl:=ei.length _ _ hr
 obtain⟨fg,Hg,hfg,hcg,hgg⟩:=hT.fn g F hF
 obtain⟨cg,aBg,aBh,hpg,hrg⟩:∃cg,fg.body=some cg/\comp P fg.ntmps Hg cg=some F.body/\F.params<=fg.ntmps/\ads (ad4 P) fg.results.toList=some []:=by
  unfold akJ at hcg;split at hcg
  ·cases hcg
  ·rename_i cg aHZ
   split at hcg
   ·rename_i b rs' hb' aH0
    split at hcg
    ·cases hcg
    ·rename_i aH1
     injection hcg with hcg;subst hcg
     simp only at h3 hre ⊢
     subst hre
     unfold anB at hb'
     split at hb'
     ·simp_all
     ·obtain⟨x,_,rfl⟩:=ε.1 hb'
      cases n<;>simp[exec] at h3
   ·cases hcg
 refine callsIn_of_wp_marks (F:=FR none) hfn hcode trivial (wpIn_mono (aBe ih (Θ _) h2 code ia _ _ w σ hb h1 (aoa hS hr (by omega))) ?_)
 rintro e a' w' ⟨rfl,hg,w1,σ1,σ',ds,cv,hM1,hS1,hE1,hcv,hs'⟩
 have key:LeavesInM (FR none) 0 P fn a'.tmps (λe w'=>∃u σ',e= .returned u/\iP A w' σ' o'/\df A w' σ' o' r u/\Ext w σ o w' σ' o') a'.defers .returning w':=by
  obtain⟨ms,hms,hM⟩:=hs'.defers
  rw[hms]
  refine ak2 ms w' hM hs'.zt λw2 q1 q3 q4=>?_
  simp only[LeavesInM]
  refine⟨by simp,.inr ⟨λh=>by grind[FR,Fence.wide],.func g,cv.toArray,g,cv.toArray,rfl,by simp[invoke,anX hg],λ_ _=>trivial,?_⟩⟩
  have atP:ei A w2 σ' s2.o (caps.map (uB s0.env)) cv:=by
   have e1:Ext w1 σ1 s0.o w' σ' s2.o:=hs'.ext
   grind[ei.ext]
  have aH2:=ei.length _ _ atP
  refine CallsDIn.mono (aA1 (A:=A) hfg aBg (R:=λe w3=>∃u σ3,e= .returned u/\iP A w3 σ3 s3.o/\Ext w2 σ' s2.o w3 σ3 s3.o) (wpIn_mono (ih none .plain aiT rfl ak3 _ F.body _ ak4 s3 h3 fg.ntmps Hg cg aBh [] A w2 σ' s2.o _ w2 σ' trivial (Θ _) (aoa q1 atP (by omega))) ?_)) ?_
  ·rintro e a3 w3 ⟨rfl,σ3,hs3⟩
   obtain⟨ms3,aBi,hM3⟩:=hs3.defers
   rw[δN] at aBi
   refine⟨by grind[Out.aeU],w2,σ3,s3.o,by simp_all,hs3.zt,λw4 k1 k2 k3=>?_⟩
   have hs4:mg A fg.ntmps [] w2 σ' s2.o s3 {a3 with defers:=[]} w4 σ3:=⟨k1,λs=>k3 _ _ (hs3.env s),hs3.size,⟨[],rfl,δM,by simp⟩,k2 hs3.ext⟩
   obtain⟨u,hu,_⟩:=an9 hs4 hrg (r:=.eW []) rfl
   exact⟨u,hu,u,σ3,rfl,k1,k2 hs3.ext⟩
  ·rintro e u' w3 ⟨rfl,u,σ3,rfl,p1,p2⟩
   show LeavesInM (FR none) 0 P fn a'.tmps _ ds (settle .returning) w3
   rw[show settle FrameMode.returning= .returning from rfl,<-δN ds]
   have e13:Ext w1 σ1 s0.o w3 σ3 s3.o:=(q3 hs'.ext).trans p2
   refine ak2 ds w3 (hM1.ext hS1 e13) p1 λw4 t1 t3 t4=>?_
   simp only[LeavesInM,LeavesIn]
   have hs4:mg A fn.ntmps [] w σ o ⟨s2.env,s3.o⟩ {a' with defers:=[]} w4 σ3:=⟨t1,λs=>t4 _ _ ((q4 _ _ (hs'.env s)).ext p2),hs'.size,⟨[],rfl,δM,by simp⟩,t3 (hE1.trans e13)⟩
   obtain⟨u,hu,hru⟩:=an9 hs4 hrs hr0
   have hfin:=atK hs4.zt hs4.ext hru hfi
   simp_all
 rcases hout with rfl|rfl
 ·exact key
 ·exact key
theorem atQ {T:Tab} (N:SQ P T) {n:Nat} (ih:aiS P T n):acn P (acQ T (exec T .plain n)):=by
 intro f e o m r I c;unfold acQ at c;split at c
 ·rename_i x hK
  injection c with c;subst c
  exact N.K _ _ _ _ _ _ hK
 ·split at c
  ·cases c
  ·rename_i F J
   obtain⟨fn,H,y,a,hg⟩:=N.fn f F J
   split at c
   ·rename_i k
    unfold akJ at a;split at a
    ·cases a
    ·rename_i a0 j
     split at a
     ·rename_i b rs i D
      split at a
      ·cases a
      ·rename_i E
       injection a with a;subst a
       simp only at c k
       have p:∀{t:AV} {u:St},finish m o.length t u.o=some (r,I)->m=false->I=[]:=λl ho=>by
        subst ho;unfold finish at l
        grind
       unfold anB at i;split at i
       ·rename_i V S
        injection i with i;subst i
        have R:∀(x:Option (Out×St)),aeJ T (exec T .plain n) o.length V ⟨Hl 0 e,o⟩=x->exec T .plain n o.length V ⟨Hl 0 e,o⟩=x:=λx hx=>by
         unfold aeJ at hx
         grind[aBa]
        have a1:∀(h:Out) (u:St),(h= .norm\/h= .ret)->aeJ T (exec T .plain n) o.length V ⟨Hl 0 e,o⟩=some (h,u)->∀t,abm u rs=some t->finish m o.length t u.o=some (r,I)->
          FG P f=true/\W7 P f e o r I/\(m=false->I=[]):=by
         intro h u G Q t s l
         exact⟨hg,λA w σ vs L U=>(callsIn_wide (n:=0)).1 (aA9 ih (md:=.plain) (B:=aiT) rfl ak3 y j S D E k G (R _ Q) s l trivial L U),p l⟩
        grind
       ·obtain⟨⟨ia,⟨g,q,d⟩,ib⟩,S,rfl⟩:=ε.1 i
        simp only[aeJ] at c
        cases W:ado (exec T .plain n o.length) ia ⟨Hl 0 e,o⟩ with
        |none=>simp_all
        |some v=>
        simp only[W] at c
        cases h2:exec T .plain n v.o.length ib ⟨(d,.ud)::v.env,v.o⟩ with
        |none=>simp_all
        |some x2=>
        obtain⟨h,Y⟩:=x2
        simp only[h2] at c
        cases Z:adp h with
        |false=>simp_all
        |true=>
        simp only[Z,if_true] at c;unfold anx at c
        cases J:T.fn g with
        |none=>simp_all
        |some O=>
        simp only[J] at c
        by_cases M:(q.map (uB v.env)).length=O.params/\O.res.isEmpty=true
        ·rw[if_pos M] at c
         cases X:exec T .plain n Y.o.length O.body ⟨Hl 0 (q.map (uB v.env)),Y.o⟩ with
         |none=>simp_all
         |some x3=>
         obtain⟨C,s3⟩:=x3
         simp only[X] at c
         cases z:adp C with
         |false=>simp_all
         |true=>
         simp only[z,if_true] at c;split at c
         ·rename_i t s
          exact⟨hg,λA w σ vs L U=>(callsIn_wide (n:=0)).1 (aBf N ih y j S D E k (atO Z) W h2 J M.1 (List.isEmpty_iff.1 M.2) X (atO z) s c L U),p c⟩
         ·cases c
        simp_all
     ·cases a
   ·cases c
end
open Go.RowKit
section
variable {P:Program} {A:qM} {D:List Deferred} {w w':World} {σ σ':ja} {o o':Store}
theorem aBj {ob:Option Nat} {Q:Exit->Act->World->Prop} {a:Act} {w:World} {c:Code} (h:c.wpIn (FR ob) 0 P (Exit.noGoto Q) a w):(Code.scope c).wpIn (FR ob) 0 P Q a w:=by
 intro b k n o p m
 obtain⟨e,d,f,j,g⟩:=h b (.inScope c::k) n o p m
 have s:step P (lone (b.atR a (.code (.scope c)::k)) n w)= .next (lone (b.atR a (.code c:: .inScope c::k)) n w):=step_lone_go (by simp[stepG,stepG.exec,Frame.atR])
 have q:step P (lone (b.atR d (.inScope c::k)) n f)= .next (lone (b.atR d k) n f):=step_lone_go (by simp[stepG,stepG.exec,Frame.atR])
 have i:=StepsIn.one (I:=Machine.fenced P (FR ob)) (fenced_calm (fr:=b.atR a (.code (.scope c)::k)) p m rfl) s
 cases e with
 |normal=>exact⟨.normal,d,f,j,(StepsIn.trans i (StepsIn.trans g (.one (fenced_calm (fr:=b.atR d (.inScope c::k)) p m rfl) q)))⟩
 |exit u=>exact⟨.exit u,d,f,j,.of_steps i ⟨λr t=>g.1 r (by grind[exitTo]),λm t=>by obtain⟨x,z,v⟩:=g.2 m (by grind[exitTo]);grind⟩⟩
 |goto l=>exact j.elim
 |ret=>exact⟨_,d,f,j,.of_steps i g⟩
 |panic y=>exact⟨_,d,f,j,.of_steps i g⟩
 |outgrown=>exact⟨_,d,f,j,.of_steps i g⟩
def aiV (ob:Option Nat) (P:Program) (b:Code) (l:Nat) (Q:Exit->Act->World->Prop):Nat->Code->Act->World->Prop
 |0,_,_,_=>False
 |n+1,x,a,w=>x.wpIn (FR ob) 0 P (λe d c=>match e with
   | .goto f=>f=l/\aiV ob P b l Q n b d c
   |e=>Q e d c) a w
theorem aBk {ob:Option Nat} {Q:Exit->Act->World->Prop} {a:Act} {w:World} {c i:Code} {l:Nat} (S:findLabel c l=some i) {n:Nat} (h:aiV ob P i l Q n c a w):(Code.scope c).wpIn (FR ob) 0 P Q a w:=by
 intro b k p A y t
 have E:gotoIn l (.inScope c::k)=some (.code i:: .inScope c::k):=by grind[gotoIn]
 have B:∀n x a w,aiV ob P i l Q n x a w->∃e u v,Q e u v/\ArrivesIn (Machine.fenced P (FR ob)) P (lone (b.atR a (.code x:: .inScope c::k)) p w) b k p e u v:=by
  intro n
  induction n with
  |zero=>intro x a w h;exact h.elim
  |succ n J=>
   intro x a w h
   obtain⟨e,d,g,m,f⟩:=h b (.inScope c::k) p A y t
   have G:step P (lone (b.atR d (.inScope c::k)) p g)= .next (lone (b.atR d k) p g):=step_lone_go (by simp[stepG,stepG.exec,Frame.atR])
   cases e with
   |normal=>exact⟨.normal,d,g,m,StepsIn.trans f (.one (fenced_calm (fr:=b.atR d (.inScope c::k)) y t rfl) G)⟩
   |exit K=>exact⟨.exit K,d,g,m,λD C=>f.1 D (by grind[exitTo]),λt C=>by obtain⟨M,O,N⟩:=f.2 t (by grind[exitTo]);grind⟩
   |goto L=>
    obtain⟨rfl,H⟩:=m
    obtain⟨q,r,s,o,j⟩:=J i d g H
    exact⟨q,r,s,o,.of_steps (f.1 _ E) j⟩
   |ret=>exact⟨_,d,g,m,f⟩
   |panic R=>exact⟨_,d,g,m,f⟩
   |outgrown=>exact⟨_,d,g,m,f⟩
 have F:step P (lone (b.atR a (.code (.scope c)::k)) p w)= .next (lone (b.atR a (.code c:: .inScope c::k)) p w):=step_lone_go (by simp[stepG,stepG.exec,Frame.atR])
 have z:=StepsIn.one (I:=Machine.fenced P (FR ob)) (fenced_calm (fr:=b.atR a (.code (.scope c)::k)) y t rfl) F
 obtain⟨e,u,v,m,f⟩:=B n c a w h
 exact⟨e,u,v,m,.of_steps z f⟩
theorem aBl {b:Code} {l c:Nat} {H:List RH} {x:IR} (h:akH b=some l) (d:comp P c H b=some x):∃a,findLabel b l=some a/\comp P c H a=some x:=by
 unfold akH at h
 grind[findLabel,comp]
theorem atS {T:Tab} (hT:SQ P T):∀n,aiS P T n/\(∀(ob:Option Nat) (md:Md) (B:qM->World->ja->Store->Prop),afS P ob B md->Closed B->∀(lo:Nat) (b:IR) (st:St) (out:Out) (st':St),exec T md n lo (.loop b) st=some (out,st')->∀(q:Nat) (H:List RH) (f:Code),comp P q H f=some b->∀(D:List Deferred) (A:qM) (r:World) (d:ja) (m:Store) (a:Act) (w:World) (σ:ja),B A r d m->
   m.length<=lo->mg A q D r d m st a w σ->Code.roundsIn (FR ob) 0 P f (λe v w'=>e=out.aeU/\∃u,mg A q D r d m st' v w' u) n a w)/\∀(ob:Option Nat) (md:Md) (B:qM->World->ja->Store->Prop),afS P ob B md->Closed B->∀(lo l:Nat) (b:IR) (st:St) (out:Out) (st':St),exec T md n lo (.turns (some l) b) st=some (out,st')->∀(q:Nat) (H:List RH) (f s:Code),comp P q H f=some b->comp P q H s=some b->∀(D:List Deferred) (A:qM) (r:World) (d:ja) (m:Store) (a:Act) (w:World) (σ:ja),B A r d m->
   m.length<=lo->mg A q D r d m st a w σ->aiV ob P s l (λe v w'=>e=out.aeU/\∃u,mg A q D r d m st' v w' u) n f a w
 |0=>⟨λob md B _ _ lo c st out st' h=>by grind[exec],λob md B _ _ lo b st out st' h=>by grind[exec],λob md B _ _ lo l b st out st' h=>by grind[exec]⟩
 |n+1=>by
  obtain⟨I,a0,Z⟩:=atS hT n
  have M:∀(ob:Option Nat) (md:Md) (B:qM->World->ja->Store->Prop),afS P ob B md->Closed B->∀(lo:Nat) (b:IR) (st:St) (out:Out) (st':St),exec T md (n+1) lo (.loop b) st=some (out,st')->∀(q:Nat) (H:List RH) (f:Code),comp P q H f=some b->∀(D:List Deferred) (A:qM) (r:World) (d:ja) (m:Store) (a:Act) (w:World) (σ:ja),B A r d m->
    m.length<=lo->mg A q D r d m st a w σ->Code.roundsIn (FR ob) 0 P f (λe v w'=>e=out.aeU/\∃u,mg A q D r d m st' v w' u) (n+1) a w:=by
   intro ob md B C E lo b st out st' h q H f p D A r d m a w σ j i t
   simp only[exec] at h;split at h
   ·rename_i F Q
    have O:=I ob md B C E lo b st .norm F Q q H f p _ A r d m a w σ j i t
    rw[roundsIn_succ]
    refine wpIn_mono O ?_
    rintro e v w' ⟨rfl,u,g⟩
    obtain⟨N,L⟩:=g.trim (k:=st.o.length) t.len
    exact a0 ob md B C E lo b _ out st' h q H f p _ A r d m v w' N j i L
   ·rename_i K
    have O:=I ob md B C E lo b st out st' h q H f p _ A r d m a w σ j i t
    rw[roundsIn_succ]
    refine wpIn_mono O ?_
    rintro e v w' ⟨rfl,g⟩
    cases out with
    |norm=>simp_all
    |exit S=>exact⟨rfl,g⟩
    |ret=>exact⟨rfl,g⟩
    |goto l=>exact⟨rfl,g⟩
  have R:∀(ob:Option Nat) (md:Md) (B:qM->World->ja->Store->Prop),afS P ob B md->Closed B->∀(lo l:Nat) (b:IR) (st:St) (out:Out) (st':St),exec T md (n+1) lo (.turns (some l) b) st=some (out,st')->∀(q:Nat) (H:List RH) (f s:Code),comp P q H f=some b->comp P q H s=some b->∀(D:List Deferred) (A:qM) (r:World) (d:ja) (m:Store) (a:Act) (w:World) (σ:ja),B A r d m->
    m.length<=lo->mg A q D r d m st a w σ->aiV ob P s l (λe v w'=>e=out.aeU/\∃u,mg A q D r d m st' v w' u) (n+1) f a w:=by
   intro ob md B C E lo l b st out st' h q H f s p hr D A r d m a w σ j i t
   simp only[exec] at h;split at h
   ·rename_i l' F Q
    split at h
    ·rename_i U
     injection U with U;subst U
     refine wpIn_mono (I ob md B C E lo b st (.goto l) F Q q H f p _ A r d m a w σ j i t) ?_
     rintro e v w' ⟨rfl,u,g⟩
     obtain⟨N,L⟩:=g.trim (k:=st.o.length) t.len
     exact⟨rfl,Z ob md B C E lo l b _ out st' h q H s s hr hr _ A r d m v w' N j i L⟩
    ·cases h
   ·rename_i K
    refine wpIn_mono (I ob md B C E lo b st out st' h q H f p _ A r d m a w σ j i t) ?_
    rintro e v w' ⟨rfl,g⟩
    cases out with
    |norm=>exact⟨rfl,g⟩
    |exit S=>exact⟨rfl,g⟩
    |ret=>exact⟨rfl,g⟩
    |goto l=>simp_all
  refine⟨λob md B C E lo c st out st' h q H f p D A r d m a w σ j i t=>?_,M,R⟩
  cases f with
  |skip=>
   simp only[comp,γ] at p;subst p;simp only[exec,γ,κ] at h
   obtain⟨rfl,rfl⟩:=h
   exact wpIn_skip ⟨rfl,σ,t⟩
  |scope b=>
   simp only[comp] at p
   obtain⟨V,J,rfl⟩:=ε.1 p
   cases U:akH b with
   |some l=>
    grind[aBl,aBk]
   |none=>
    rw[U] at h;simp only[exec] at h
    refine aBj ?_
    split at h
    ·simp_all
    ·rename_i K
     refine wpIn_mono (I ob md B C E lo V st out st' h q H b J _ A r d m a w σ j i t) ?_
     rintro e v w' ⟨rfl,g⟩
     cases out with
     |norm=>exact⟨rfl,g⟩
     |exit S=>exact⟨rfl,g⟩
     |ret=>exact⟨rfl,g⟩
     |goto l=>simp_all
  |goto l=>
   simp only[comp,γ] at p;subst p;simp only[exec,γ,κ] at h
   obtain⟨rfl,rfl⟩:=h
   exact wpIn_goto ⟨rfl,σ,t⟩
  |label l=>
   simp only[comp,γ] at p;subst p;simp only[exec,γ,κ] at h
   obtain⟨rfl,rfl⟩:=h
   exact wpIn_label ⟨rfl,σ,t⟩
  |region S a8 a3=>
   simp only[comp] at p
   obtain⟨k,l,a4,a1,a7,a2,rfl,hw⟩:=aA6 (atQ hT I) C E (A:=A) (lo:=lo) p
   simp only[exec] at h;split at h
   ·rename_i a5 h2
    simp only[γ,κ] at h
    obtain⟨rfl,rfl⟩:=h
    exact hw h2 j i t
   ·cases h
  |seq x y=>
   simp only[comp] at p;split at p
   ·rename_i V W J X
    injection p with p;subst p
    simp only[exec] at h;split at h
    ·rename_i F Q
     refine wpIn_seq (wpIn_mono (I ob md B C E lo V st .norm F Q q H x J _ A r d m a w σ j i t) ?_)
     rintro e v w' ⟨rfl,u,g⟩
     exact I ob md B C E lo W F out st' h q H y X _ A r d m v w' u j i g
    ·rename_i K
     refine wpIn_seq (wpIn_mono (I ob md B C E lo V st out st' h q H x J _ A r d m a w σ j i t) ?_)
     rintro e v w' ⟨rfl,g⟩
     cases out with
     |norm=>simp_all
     |exit S=>exact⟨rfl,g⟩
     |ret=>exact⟨rfl,g⟩
     |goto l=>exact⟨rfl,g⟩
   ·cases p
  |cond x y z=>
   simp only[comp] at p;split at p
   ·rename_i W z' X hz
    injection p with p;subst p
    by_cases hk:asD H x=true
    ·rw[if_pos hk] at h
     simp only[exec] at h
     have J:=t.ev x
     split at h
     ·rename_i G
      rw[G] at J
      exact wpIn_cond_true (GI J) (I ob md B C E lo W _ out st' h q H y X _ A r d m a w σ j i t)
     ·rename_i G
      rw[G] at J
      exact wpIn_cond_false (GI J) (I ob md B C E lo z' _ out st' h q H z hz _ A r d m a w σ j i t)
     ·cases h
    rw[if_neg hk] at h;simp only[exec] at h
    have J:=t.ev x
    split at h
    ·rename_i G
     rw[G] at J
     exact wpIn_cond_true (GI J) (I ob md B C E lo W _ out st' h q H y X _ A r d m a w σ j i (t.drop x))
    ·rename_i G
     rw[G] at J
     exact wpIn_cond_false (GI J) (I ob md B C E lo z' _ out st' h q H z hz _ A r d m a w σ j i (t.drop x))
    ·cases h
   ·cases p
  |block S b=>
   simp only[comp] at p
   obtain⟨b',O,rfl⟩:=ε.1 p
   simp only[exec] at h;split at h
   ·rename_i Y F Q
    refine wpIn_block (wpIn_mono (I ob md B C E lo b' st (.exit Y) F Q q H b O _ A r d m a w σ j i t) ?_)
    rintro e v w' ⟨rfl,g⟩
    simp only[Out.aeU,Exit.inBlock]
    grind
   ·rename_i K
    refine wpIn_block (wpIn_mono (I ob md B C E lo b' st out st' h q H b O _ A r d m a w σ j i t) ?_)
    rintro e v w' ⟨rfl,g⟩
    cases out with
    |norm=>exact⟨rfl,g⟩
    |exit a6=>simp_all
    |ret=>exact⟨rfl,g⟩
    |goto l=>exact⟨rfl,g⟩
  |loop b=>
   simp only[comp] at p
   obtain⟨b',O,rfl⟩:=ε.1 p
   grind[wpIn_loop_rounds]
  |exit S=>
   simp only[comp,γ] at p;subst p;simp only[exec,γ,κ] at h
   obtain⟨rfl,rfl⟩:=h
   exact wpIn_exit ⟨rfl,σ,t⟩
  |ret=>
   simp only[comp,γ] at p;subst p;simp only[exec,γ,κ] at h
   obtain⟨rfl,rfl⟩:=h
   exact wpIn_ret ⟨rfl,σ,t⟩
  |_=>grind[comp]
theorem atT {T:Tab} (a:SQ P T) (n:Nat):acn P (acQ T (exec T .plain n)):=atQ a (atS a n).1
end
def Ev (T:Tab) (md:Nat->Md) (lo:Nat) (c:IR) (st:St) (r:Out×St):Prop:=∃N,∀m n,N<=m->N<=n->exec T (md m) n lo c st=some r
abbrev aiW:Nat->Md:=λ_=> .plain
section
variable {T:Tab} {md:Nat->Md} {lo:Nat} {st st1 st':St} {r:Out×St} {a b:IR} {out:Out}
theorem Ev.mk (N:Nat) (h:∀m n,N<=m->N<=n->exec T (md m) (n+1) lo a st=some r):Ev T md lo a st r:=
 ⟨N+1,λm n c b=>by
  match n,b with
  |n+1,b=>grind⟩
theorem Ev.skip:Ev T md lo .skip st (.norm,st):=.mk 0 λ_ _ _ _=>by simp only[exec]
theorem Ev.ret:Ev T md lo .ret st (.ret,st):=.mk 0 λ_ _ _ _=>by simp only[exec]
theorem Ev.exit {id:Nat}:Ev T md lo (.exit id) st (.exit id,st):=.mk 0 λ_ _ _ _=>by simp only[exec]
theorem Ev.seq (h:Ev T md lo a st (.norm,st1)) (k:Ev T md lo b st1 r):Ev T md lo (.seq a b) st r:=by
 obtain⟨N,h⟩:=h
 obtain⟨M,k⟩:=k
 exact .mk (N+M) λm n c d=>by simp only[exec,h m n (by omega) (by omega),k m n (by omega) (by omega)]
theorem Ev.aBm (h:Ev T md lo a st (out,st1)) (c:out≠ .norm):Ev T md lo (.seq a b) st (out,st1):=by
 obtain⟨N,h⟩:=h
 exact .mk N λm n e d=>by
  simp_all[exec]
theorem Ev.aBn {x:Operand} (d:uB st.env x= .sc (.bool true)) (h:Ev T md lo a ⟨ach x st.env,st.o⟩ r):Ev T md lo (.cond x a b) st r:=by
 obtain⟨N,h⟩:=h
 exact .mk N λm n c e=>by simp_all[exec]
theorem Ev.aBo {x:Operand} (d:uB st.env x= .sc (.bool false)) (h:Ev T md lo b ⟨ach x st.env,st.o⟩ r):Ev T md lo (.cond x a b) st r:=by
 obtain⟨N,h⟩:=h
 exact .mk N λm n c e=>by simp_all[exec]
theorem Ev.abN {x:Operand} {q:Bool} (g:uB st.env x= .sc (.bool q)) (e:q=true->Ev T md lo a st r) (d:q=false->Ev T md lo b st r):Ev T md lo (.abN x a b) st r:=by
 cases q with
 |true=>
  obtain⟨N,h⟩:=e rfl
  exact .mk N λm n c f=>by simp_all[exec]
 |false=>
  obtain⟨N,h⟩:=d rfl
  exact .mk N λm n c f=>by simp_all[exec]
def Out.inBlock (id:Nat):Out->Out
 | .exit a=>if a=id then .norm else .exit a
 |o=>o
theorem Ev.block {id:Nat} (h:Ev T md lo a st (out,st1)):Ev T md lo (.block id a) st (out.inBlock id,st1):=by
 obtain⟨N,h⟩:=h
 exact .mk N λm n b c=>by
  simp only[exec,h m n b c]
  cases out<;>grind[exit,Out.inBlock]
theorem Ev.aBp (h:Ev T md lo a st (.norm,st1)) (k:Ev T md lo (.loop a) (trim st.o.length st1) r):Ev T md lo (.loop a) st r:=by
 obtain⟨N,h⟩:=h
 obtain⟨M,k⟩:=k
 exact .mk (N+M) λm n b c=>by
  simp only[exec,h m n (by omega) (by omega)]
  grind
theorem Ev.aBq (h:Ev T md lo a st (out,st1)) (b:out≠ .norm):Ev T md lo (.loop a) st (out,st1):=by
 obtain⟨N,h⟩:=h
 exact .mk N λm n d c=>by
  simp_all[exec]
theorem Ev.goto {l:Nat}:Ev T md lo (.goto l) st (.goto l,st):=.mk 0 λ_ _ _ _=>by simp only[exec]
theorem Ev.aBr {l:Nat} (h:Ev T md lo a st (.goto l,st1)) (k:Ev T md lo (.turns (some l) a) (trim st.o.length st1) r):Ev T md lo (.turns (some l) a) st r:=by
 obtain⟨N,h⟩:=h
 obtain⟨M,k⟩:=k
 exact .mk (N+M) λm n b c=>by
  simp only[exec,h m n (by omega) (by omega),if_true]
  grind
theorem Ev.atU {l:Option Nat} (h:Ev T md lo a st (out,st1)) (c:∀b,out≠ .goto b):Ev T md lo (.turns l a) st (out,st1):=by
 obtain⟨N,h⟩:=h
 exact .mk N λm n e d=>by
  simp_all[exec]
theorem Ev.region {id k:Nat} {b:Bool} {f:List oQ} {d:List (Nat×Nat)} {a:List Nat} {e c:List SJ}
  (h:∃N,∀g m,N<=m->anz (md m) b (acQ T g) k f d (e.foldl (λs h=>RB lo h s) st)=some st'):
  Ev T md lo (.region id b k f d a e c) st (.norm,c.foldl (λs h=>RB lo h s) ⟨prune a st'.env,st'.o⟩):=by
 obtain⟨N,h⟩:=h
 exact .mk N λm n i _=>by simp_all[exec]
theorem aBs {P:Program} (i:SQ P T) {f:FuncId} {F:zr} (l:T.fn f=some F) {args:List AV} {o:Store} {own:Bool} (g:T.K f args o own=none) (d:args.length=F.params)
  (h:Ev T aiW o.length F.body ⟨Hl 0 args,o⟩ (out,st')) (c:out= .norm\/out= .ret) {b v:AV} {o':Store} (k:abm st' F.res=some b) (a:finish own o.length b st'.o=some (v,o')):
  FG P f=true/\W7 P f args o v o'/\(own=false->o'=[]):=by
 obtain⟨N,h⟩:=h
 refine atT i N f args o own v o' ?_
 unfold acQ;rw[g]
 have h:=h N N (Θ _) (Θ _)
 have j:aeJ T (exec T .plain N) o.length F.body ⟨Hl 0 args,o⟩=some (out,st'):=by
  unfold aeJ;split
  ·rename_i e
   rw[e] at h
   cases N<;>simp[exec] at h
  ·exact h
 grind
theorem aBt {P:Program} (A:SQ P T) {f:FuncId} {F:zr} (z:T.fn f=some F) {g:FuncId} {a:List Operand} {d:Nat} {w u:IR} (e:F.body= .dfr g a d w u) {args:List AV} {o:Store} {own:Bool} (E:T.K f args o own=none) (k:args.length=F.params)
  {s0 s2 s3:St} {b:Out} {G:zr} (t:∃N,∀n,N<=n->ado (exec T .plain n o.length) w ⟨Hl 0 args,o⟩=some s0) (s:Ev T aiW s0.o.length u ⟨(d,.ud)::s0.env,s0.o⟩ (out,s2)) (l:adp out=true)
  (D:T.fn g=some G) (q:(a.map (uB s0.env)).length=G.params) (p:G.res.isEmpty=true) (r:Ev T aiW s2.o.length G.body ⟨Hl 0 (a.map (uB s0.env)),s2.o⟩ (b,s3)) (c:adp b=true)
  {x v:AV} {o':Store} (C:abm ⟨s2.env,s3.o⟩ F.res=some x) (m:finish own o.length x s3.o=some (v,o')):
  FG P f=true/\W7 P f args o v o'/\(own=false->o'=[]):=by
 obtain⟨h,t⟩:=t
 obtain⟨j,s⟩:=s
 obtain⟨i,r⟩:=r
 refine atT A (h+j+i) f args o own v o' ?_
 unfold acQ;rw[E]
 simp only[z,if_pos k,e,aeJ,t _ (show h<=h+j+i by omega)]
 have y:=s (h+j+i) (h+j+i) (by omega) (by omega)
 have B:=r (h+j+i) (h+j+i) (by omega) (by omega)
 simp only[y,l,if_true,anx,D,if_pos (And.intro q p),B,c,C,m]
end
section
variable {call call':nD}
def OLe (call b:nD):Prop:=∀f a o c r,call f a o c=some r->b f a o c=some r
theorem OLe.acQ (T:Tab) (b:Nat->IR->St->Option (Out×St)):OLe T.K (acQ T b):=by
 intro f a o c r h
 grind[Go.Vi.acQ]
theorem OLe.HZ (h:OLe call call') {f:FuncId} {args:List AV} {o:Store} {own:Bool} {r:AV×Store} (a:HZ call f args o own=some r):HZ call' f args o own=some r:=by
 unfold Go.Vi.HZ at a ⊢;split at a
 ·rename_i b
  rw[if_pos b];unfold J8 at a ⊢
  simp only at a ⊢
  split at a
  ·split at a
   ·rename_i e d c
    rw[h _ _ _ _ _ c];exact a
   ·cases a
  ·cases a
 ·rename_i b
  rw[if_neg b];split at a
  ·cases a
  ·split at a
   ·rename_i c
    rw[h _ _ _ _ _ c];exact a
   ·cases a
theorem OLe.eff (h:OLe call call') {d:lh} {ρ:Operand->AV} {o:Store} {dp:Nat} {r:AV×Store} (a:eff call d ρ o dp=some r):eff call' d ρ o dp=some r:=by
 cases d with
 |call f b c=>exact h.HZ a
 |QU f b c=>
  simp only[Go.Vi.eff,asA,asz] at a ⊢;split at a
  ·exact h.HZ a
  ·cases a
 |_=>exact a
theorem OLe.Hj (h:OLe call call') {base:Nat} {i:oQ} {st st':St} (a:Hj call base i st=some st'):Hj call' base i st=some st':=by
 unfold Go.Vi.Hj at a ⊢;split at a
 ·cases a
 ·exact a
 ·split at a
  ·rename_i b
   rw[h.eff b];exact a
  ·cases a
theorem OLe.uu (h:OLe call call') {b:lh} {ρ:Operand->AV} {o:Store} {dp:Nat} {r:AV×Store} (d:Go.Vi.eff call b ρ o dp=some r):Go.Vi.uu call' b ρ o dp=Go.Vi.uu call b ρ o dp:=by
 unfold Go.Vi.uu;split
 ·rename_i f a
  have c:Go.Vi.HZ call f (a.map ρ) o true=some r:=d
  have e:=h.HZ c
  simp_all[Go.Vi.HZ]
 ·rfl
theorem OLe.BJ (h:OLe call call') {base:Nat}:∀{l:List oQ} {st st':St},BJ call base l st=some st'->BJ call' base l st=some st'/\aax call' base l st=aax call base l st
 |[],_,_,b=>⟨b,rfl⟩
 |i::l,st,st',b=>by
  simp only[Go.Vi.BJ] at b ⊢;split at b
  ·rename_i g a
   obtain⟨j,c⟩:=h.BJ b
   have f:=h.Hj a
   refine⟨by simp_all,?_⟩
   simp only[aax,a,f,c]
   congr 1
   split
   ·rename_i e
    unfold Go.Vi.Hj at a;rw[e] at a
    simp only at a
    split at a
    ·rename_i d
     rw[h.uu d]
    ·cases a
   ·rfl
  ·cases b
theorem OLe.acg (h:OLe call call') {k:Nat} {b:List oQ} {a:List (Nat×Nat)} {st st':St} (c:acg call k b a st=some st'):acg call' k b a st=some st':=by
 unfold Go.Vi.acg at c ⊢
 simp only at c ⊢
 split at c
 ·rename_i e d
  obtain⟨f,g⟩:=h.BJ d
  simp_all
 ·cases c
end
def VW (T:Tab) (md:Nat->Md) (lo:Nat) (c:IR) (st:St) (Q:Out->St->Prop):Prop:=∃b a,Ev T md lo c st (b,a)/\Q b a
def RQ (x:Option St) (Q:St->Prop):Prop:=match x with|some a=>Q a|none=>False
section
variable {T:Tab} {md:Nat->Md} {lo:Nat} {st:St} {a b:IR} {Q Q':Out->St->Prop}
theorem VW.mono (h:VW T md lo a st Q) (d:∀o s,Q o s->Q' o s):VW T md lo a st Q':=by
 obtain⟨o,s,b,c⟩:=h
 exact⟨o,s,b,d o s c⟩
theorem VW.skip (h:Q .norm st):VW T md lo .skip st Q:=⟨_,_,.skip,h⟩
theorem VW.ret (h:Q .ret st):VW T md lo .ret st Q:=⟨_,_,.ret,h⟩
theorem VW.exit {id:Nat} (h:Q (.exit id) st):VW T md lo (.exit id) st Q:=⟨_,_,.exit,h⟩
theorem VW.seq (h:VW T md lo a st λout s=>if out= .norm then VW T md lo b s Q else Q out s):VW T md lo (.seq a b) st Q:=by
 obtain⟨o,s,e,c⟩:=h
 by_cases d:o= .norm
 ·subst d
  rw[if_pos rfl] at c
  obtain⟨i,j,g,f⟩:=c
  exact⟨i,j,e.seq g,f⟩
 ·rw[if_neg d] at c
  exact⟨o,s,e.aBm d,c⟩
theorem VW.cond {x:Operand} {q:Bool} (e:uB st.env x= .sc (.bool q)) (h:if q=true then VW T md lo a ⟨ach x st.env,st.o⟩ Q else VW T md lo b ⟨ach x st.env,st.o⟩ Q):VW T md lo (.cond x a b) st Q:=by
 cases q with
 |true=>obtain⟨o,s,c,d⟩:=(by simpa using h:VW T md lo a ⟨ach x st.env,st.o⟩ Q);exact⟨o,s,.aBn e c,d⟩
 |false=>obtain⟨o,s,c,d⟩:=(by simpa using h:VW T md lo b ⟨ach x st.env,st.o⟩ Q);exact⟨o,s,.aBo e c,d⟩
theorem VW.abN {x:Operand} {q:Bool} (e:uB st.env x= .sc (.bool q)) (h:if q=true then VW T md lo a st Q else VW T md lo b st Q):VW T md lo (.abN x a b) st Q:=by
 cases q with
 |true=>obtain⟨o,s,c,d⟩:=(by simpa using h:VW T md lo a st Q);exact⟨o,s,.abN e (λ_=>c) (λh=>by cases h),d⟩
 |false=>obtain⟨o,s,c,d⟩:=(by simpa using h:VW T md lo b st Q);exact⟨o,s,.abN e (λh=>by cases h) (λ_=>c),d⟩
theorem VW.block {id:Nat} (h:VW T md lo a st λout s=>Q (out.inBlock id) s):VW T md lo (.block id a) st Q:=by
 obtain⟨o,s,b,c⟩:=h
 exact⟨_,_,b.block,c⟩
theorem VW.region {id k:Nat} {d:Bool} {e:List oQ} {c:List (Nat×Nat)} {b:List Nat} {f a:List SJ}
  (h:RQ (acg T.K k e c (f.foldl (λs h=>RB lo h s) st)) λst'=>Q .norm (a.foldl (λs h=>RB lo h s) ⟨prune b st'.env,st'.o⟩)):
  VW T md lo (.region id d k e c b f a) st Q:=by
 unfold RQ at h;split at h
 ·rename_i st' g
  refine⟨_,_,Ev.region ⟨0,λi m _=>?_⟩,h⟩
  have:=(OLe.acQ T i).acg g
  exact this
 simp_all
theorem VW.loop (h:VW T md lo a st λout s=>if out= .norm then VW T md lo (.loop a) (trim st.o.length s) Q else Q out s):VW T md lo (.loop a) st Q:=by
 obtain⟨o,s,d,b⟩:=h
 by_cases c:o= .norm
 ·subst c
  rw[if_pos rfl] at b
  obtain⟨g,i,f,e⟩:=b
  exact⟨g,i,d.aBp f,e⟩
 ·rw[if_neg c] at b
  exact⟨o,s,d.aBq c,b⟩
theorem VW.aBu (I:Nat->St->Prop) (b:∀m s,I m s->VW T md lo a s λout s'=>if out= .norm then ∃c,c<m/\I c (trim s.o.length s') else Q out s'):
  ∀(m:Nat) (s:St),I m s->VW T md lo (.loop a) s Q:=by
 intro m
 induction m using ζB with
 |_ m e=>
  intro s d
  refine VW.loop ((b m s d).mono λo s' h=>?_)
  grind
theorem VW.goto {l:Nat} (h:Q (.goto l) st):VW T md lo (.goto l) st Q:=⟨_,_,.goto,h⟩
theorem VW.aBv {l:Option Nat} (h:VW T md lo a st λout s=>(∀e,out≠ .goto e)/\Q out s):VW T md lo (.turns l a) st Q:=by
 obtain⟨o,s,b,c,d⟩:=h
 exact⟨o,s,b.atU c,d⟩
theorem VW.aBw {l:Nat} (I:Nat->St->Prop) (b:∀m s,I m s->VW T md lo a s λout s'=>(out= .goto l/\∃c,c<m/\I c (trim s.o.length s'))\/((∀h,out≠ .goto h)/\Q out s')):
  ∀(m:Nat) (s:St),I m s->VW T md lo (.turns (some l) a) s Q:=by
 intro m
 induction m using ζB with
 |_ m i=>
  intro s k
  obtain⟨o,s',f,j⟩:=b m s k
  rcases j with⟨rfl,c,d,e⟩|⟨d,e⟩
  ·obtain⟨p,q,n,g⟩:=i c d _ e
   exact⟨p,q,f.aBr n,g⟩
  ·exact⟨o,s',f.atU d,e⟩
theorem ak5 {P:Program} (k:SQ P T) {f:FuncId} {F:zr} (g:T.fn f=some F) {args:List AV} {o:Store} {own:Bool} (j:T.K f args o own=none) (b:args.length=F.params) {v:AV} {o':Store}
  (h:VW T aiW o.length F.body ⟨Hl 0 args,o⟩ λout st'=>(out= .norm\/out= .ret)/\(abm st' F.res).bind (λc=>finish own o.length c st'.o)=some (v,o')):
  FG P f=true/\W7 P f args o v o'/\(own=false->o'=[]):=by
 obtain⟨out,st',e,i,d⟩:=h
 obtain⟨c,l,a⟩:=Option.bind_eq_some_iff.1 d
 grind[aBs]
end
open Classical in
def ans {α:Type} (enc:α->List AV) (dom:α->Prop) (spec:α->AV) (args:List AV):Option AV:=
 if h:∃a,args=enc a/\dom a then some (spec (Classical.choose h)) else none
theorem aBx {e:Type} {enc:e->List AV} {d:e->Prop} {c:e->AV} (f:∀a b,enc a=enc b->a=b) {a:e} (g:d a):ans enc d c (enc a)=some (c a):=by
 have h:∃b,enc a=enc b/\d b:=⟨a,rfl,g⟩
 unfold ans
 grind
theorem aBy {d:Type} {enc:d->List AV} {c:d->Prop} {b:d->AV} {args:List AV} {v:AV} (h:ans enc c b args=some v):∃a,args=enc a/\c a/\v=b a:=by
 unfold ans at h
 split at h<;>grind
structure fZ where
 (a0 a1 a2 a3 a4 a5:Int)
 deriving DecidableEq
structure Off where
 jV:Int
 want:fZ
 value:Int
 deriving DecidableEq
structure Need where
 atV:Int
 least:Int
 deriving DecidableEq
structure acp where
 jV:Int
 want:fZ
 deriving DecidableEq
structure Sit where
 members:Int
 left:fZ
 opn:fZ
 deriving DecidableEq
def fZ.zero:fZ:=⟨0,0,0,0,0,0⟩
inductive cn where
 |i (k:IntKind)
 |b
 |zx
 |off
 |need
 |key
 |sit
 |fK (s:cn)
 |pair (s t:cn)
 deriving DecidableEq
@[reducible] def cn.T:cn->Type
 | .i _=>Int
 | .b=>Bool
 | .zx=>fZ
 | .off=>Off
 | .need=>Need
 | .key=>acp
 | .sit=>Sit
 | .fK s=>List s.T
 | .pair s t=>s.T×t.T
def cn.dflt:(s:cn)->s.T
 | .i _=>(0:Int)
 | .b=>false
 | .zx=> .zero
 | .off=>⟨0,.zero,0⟩
 | .need=>⟨0,0⟩
 | .key=>⟨0,.zero⟩
 | .sit=>⟨0,.zero,.zero⟩
 | .fK _=>[]
 | .pair s t=>(s.dflt,t.dflt)
def cn.sz:cn->Nat
 | .i _=>1
 | .b=>1
 | .zx=>6
 | .off=>8
 | .need=>2
 | .key=>7
 | .sit=>13
 | .fK _=>1
 | .pair s t=>s.sz+t.sz
@[reducible] def cn.dec:(s:cn)->DecidableEq s.T
 | .i _=>inferInstanceAs (DecidableEq Int)
 | .b=>inferInstanceAs (DecidableEq Bool)
 | .zx=>inferInstanceAs (DecidableEq fZ)
 | .off=>inferInstanceAs (DecidableEq Off)
 | .need=>inferInstanceAs (DecidableEq Need)
 | .key=>inferInstanceAs (DecidableEq acp)
 | .sit=>inferInstanceAs (DecidableEq Sit)
 | .fK s=>@instDecidableEqList _ s.dec
 | .pair s t=>@instDecidableEqProd _ _ s.dec t.dec
instance (s:cn):DecidableEq s.T:=s.dec
def cn.ahk:cn->Bool
 | .i _| .b=>true
 |_=>false
def cn.flat:cn->Bool
 | .fK _=>false
 | .pair s t=>s.flat&&t.flat
 |_=>true
def iv (n:Int):Value:=.int .i64 n
def fZ.vs (b:fZ):List Value:=[iv b.a0,iv b.a1,iv b.a2,iv b.a3,iv b.a4,iv b.a5]
def pF:(s:cn)->s.T->List Value
 | .i k,n=>[.int k n]
 | .b,b=>[.bool b]
 | .zx,x=>[iv x.a0,iv x.a1,iv x.a2,iv x.a3,iv x.a4,iv x.a5]
 | .off,x=>[iv x.jV,iv x.want.a0,iv x.want.a1,iv x.want.a2,iv x.want.a3,iv x.want.a4,iv x.want.a5,iv x.value]
 | .need,x=>[iv x.atV,iv x.least]
 | .key,x=>[iv x.jV,iv x.want.a0,iv x.want.a1,iv x.want.a2,iv x.want.a3,iv x.want.a4,iv x.want.a5]
 | .sit,x=>[iv x.members,iv x.left.a0,iv x.left.a1,iv x.left.a2,iv x.left.a3,iv x.left.a4,iv x.left.a5,iv x.opn.a0,iv x.opn.a1,iv x.opn.a2,iv x.opn.a3,iv x.opn.a4,iv x.opn.a5]
 | .fK _,_=>[.bool false]
 | .pair s t,x=>pF s x.1++pF t x.2
def qq:(s:cn)->s.T->List AV
 | .fK s,l=>[.sl l.length (l.flatMap (qq s))]
 | .pair s t,x=>qq s x.1++qq t x.2
 | .i k,x=>(pF (.i k) x).map .sc
 | .b,x=>(pF .b x).map .sc
 | .zx,x=>(pF .zx x).map .sc
 | .off,x=>(pF .off x).map .sc
 | .need,x=>(pF .need x).map .sc
 | .key,x=>(pF .key x).map .sc
 | .sit,x=>(pF .sit x).map .sc
inductive SV where
 |ud
 |sc (v:Value)
 |il (k:IntKind) (n:Int)
 |si (k:IntKind) (n:Int)
 |bl (b:Bool)
 |sb (b:Bool)
 |agg (cs:List SV)
 |eW (cs:List SV)
 |row (s:cn) (l:List s.T)
 |ep (s:cn) (l:List s.T) (i off:Nat)
 |ptr (id off tot:Nat)
 |ap (id base sz len tot i:Nat)
 |rp (id i off n sz:Nat)
 |ow (id n sz:Nat)
 |os (id off len n sz:Nat)
 |oc (id off len n sz:Nat)
 |mp (id:Nat)
 |fn (f:Fn) (first captured:List SV)
inductive cJ where
 |dead
 |cells (cs:List SV) (e:TypeId) (sz:Nat) (pu:Bool)
 |row (s:cn) (l:List s.T) (e:TypeId) (pu:Bool)
 |map (sk sv:cn) (ka:Bool) (es:List (sk.T×sv.T)) (kt:List Nat×Bool) (pu:Bool)
 |abT (s:cn) (l:List s.T) (e:TypeId) (t:List SV)
def kD (s:cn) (l:List s.T):List AV:=l.flatMap (qq s)
def acr (s:cn) (a:Bool) (x:s.T):Value:=if a then .agg (pF s x).toArray else(pF s x).headD (.bool false)
def aaR (s:cn) (x:s.T):AV:=.sc ((pF s x).headD (.bool false))
mutual
def SV.g:SV->AV
 | .ud=> .ud
 | .sc v=> .sc v
 | .il k n=> .sc (.int k n)
 | .si k n=> .sc (.int k n)
 | .bl b=> .sc (.bool b)
 | .sb b=> .sc (.bool b)
 | .agg o=> .agg (gL o)
 | .eW o=> .eW (gL o)
 | .row s l=> .sl l.length (kD s l)
 | .ep s l i d=> .ep (kD s l) (i*s.sz+d)
 | .ptr h d m=> .ptr h d m
 | .ap h p e _ m i=> .ptr h (p+i*e) m
 | .rp h i d n e=> .ptr h (i*e+d) (n*e)
 | .ow h n e=> .os h 0 n (n*e)
 | .os h d j n e=> .os h (d*e) j (n*e)
 | .oc h d j n e=> .os h (d*e+(n*e+e)) j (n*e)
 | .mp h=> .mp h
 | .fn f a b=> .fn f (gL a) (gL b)
def gL:List SV->List AV
 |[]=>[]
 |c::o=>c.g::gL o
end
theorem FQ:∀(l:List SV),gL l=l.map SV.g
 |[]=>rfl
 |c::a=>by simp[gL,FQ a]
def cJ.g:cJ->ig
 | .dead=> .dead
 | .cells c e i a=> .cells (gL c) e i a
 | .row s l e a=> .cells (kD s l) e s.sz a
 | .abT s l e t=> .cells (kD s l++gL t) e s.sz false
 | .map f b j h d a=> .map (h.map λp=>(acr f j p.1,aaR b p.2)) d a
def encS:(s:cn)->s.T->List SV
 | .i k,n=>[.si k n]
 | .b,b=>[.sb b]
 | .zx,x=>[.si .i64 x.a0,.si .i64 x.a1,.si .i64 x.a2,.si .i64 x.a3,.si .i64 x.a4,.si .i64 x.a5]
 | .off,x=>[.si .i64 x.jV,.si .i64 x.want.a0,.si .i64 x.want.a1,.si .i64 x.want.a2,.si .i64 x.want.a3,.si .i64 x.want.a4,.si .i64 x.want.a5,.si .i64 x.value]
 | .need,x=>[.si .i64 x.atV,.si .i64 x.least]
 | .key,x=>[.si .i64 x.jV,.si .i64 x.want.a0,.si .i64 x.want.a1,.si .i64 x.want.a2,.si .i64 x.want.a3,.si .i64 x.want.a4,.si .i64 x.want.a5]
 | .sit,x=>[.si .i64 x.members,.si .i64 x.left.a0,.si .i64 x.left.a1,.si .i64 x.left.a2,.si .i64 x.left.a3,.si .i64 x.left.a4,.si .i64 x.left.a5,.si .i64 x.opn.a0,.si .i64 x.opn.a1,.si .i64 x.opn.a2,.si .i64 x.opn.a3,.si .i64 x.opn.a4,.si .i64 x.opn.a5]
 | .fK s,l=>[.row s l]
 | .pair s t,x=>encS s x.1++encS t x.2
def AW (s s':cn) (l:List s.T):Option (List s'.T):=if h:s=s' then some (h▸l) else none
def Kz (s:cn):SV->Option (List s.T)
 | .row a l=>match AW a s l with
  |some l=>some l
  |none=>match l with
   |[]=>some []
   |_=>none
 |_=>none
def SV.qn:SV->SV
 | .sc (.slice none 0 0)=> .row (.i .i64) []
 |v=>v
def SV.int:IntKind->SV->Option Int
 |k,.si a n=>if a=k then some n else none
 |k,.il a n=>if a=k then some n else none
 |_,_=>none
def SV.boo:SV->Option Bool
 | .sb b=>some b
 | .bl b=>some b
 |_=>none
def ints:List SV->Option (List Int)
 |[]=>some []
 |c::a=>match c.int .i64,ints a with
  |some n,some l=>some (n::l)
  |_,_=>none
def RS:(s:cn)->List SV->Option s.T
 | .i k,[c]=>c.int k
 | .b,[c]=>c.boo
 | .zx,d=>match ints d with
  |some [f,e,l,h,g,j]=>some (⟨f,e,l,h,g,j⟩:fZ)
  |_=>none
 | .off,d=>match ints d with
  |some [b,f,e,l,h,g,j,v]=>some (⟨b,⟨f,e,l,h,g,j⟩,v⟩:Off)
  |_=>none
 | .need,d=>match ints d with
  |some [a,b]=>some (⟨a,b⟩:Need)
  |_=>none
 | .key,d=>match ints d with
  |some [b,f,e,l,h,g,j]=>some (⟨b,⟨f,e,l,h,g,j⟩⟩:acp)
  |_=>none
 | .sit,d=>match ints d with
  |some [m,f,e,l,h,g,j,p,u,n,q,r,o]=>some (⟨m,⟨f,e,l,h,g,j⟩,⟨p,u,n,q,r,o⟩⟩:Sit)
  |_=>none
 | .fK s,[c]=>Kz s c
 | .pair s t,d=>match RS s (d.take s.sz),RS t (d.drop s.sz) with
  |some x,some y=>some (x,y)
  |_,_=>none
 |_,_=>none
theorem aoc:(s:cn)->0<s.sz
 | .i _| .b| .zx| .off| .need| .key| .sit| .fK _=>by simp[cn.sz]
 | .pair s t=>by
  have:=aoc s
  grind[cn.sz]
theorem ahl:(s:cn)->(x:s.T)->(encS s x).map SV.g=qq s x
 | .fK s,l=>by grind[encS,qq,SV.g,kD]
 | .pair s t,x=>by simp only[encS,qq,γj,ahl s x.1,ahl t x.2]
 | .i _,x| .b,x| .zx,x| .off,x| .need,x| .key,x| .sit,x=>by simp[encS,qq,pF,SV.g,iv]
theorem aod:(s:cn)->(x:s.T)->(pF s x).length=s.sz
 | .pair s t,x=>by simp only[pF,θ,aod s x.1,aod t x.2,cn.sz]
 | .fK _,x| .i _,x| .b,x| .zx,x| .off,x| .need,x| .key,x| .sit,x=>rfl
theorem Zb:(s:cn)->(x:s.T)->(qq s x).length=s.sz
 | .pair s t,x=>by simp only[qq,θ,Zb s x.1,Zb t x.2,cn.sz]
 | .fK _,x| .i _,x| .b,x| .zx,x| .off,x| .need,x| .key,x| .sit,x=>rfl
theorem ak6:(s:cn)->s.flat=true->(x:s.T)->qq s x=(pF s x).map .sc
 | .pair s t,h,x=>by
  simp only[cn.flat,μ] at h;simp only[qq,pF,γj,ak6 s h.1,ak6 t h.2]
 | .fK _,h,x=>by grind[cn.flat]
 | .i _,_,x| .b,_,x| .zx,_,x| .off,_,x| .need,_,x| .key,_,x| .sit,_,x=>rfl
theorem F2 {k:IntKind} {c:SV} {n:Int} (h:c.int k=some n):c.g= .sc (.int k n):=by
 cases c<;>simp only[SV.int,reduceCtorEq] at h<;>grind[SV.int,reduceCtorEq,SV.g]
theorem ahm {c:SV} {b:Bool} (h:c.boo=some b):c.g= .sc (.bool b):=by
 cases c<;>simp[SV.boo] at h<;>subst h<;>simp[SV.g]
theorem ak7:∀{cs:List SV} {l:List Int},ints cs=some l->cs.map SV.g=l.map λn=> .sc (iv n)
 |[],l,h=>by grind[ints]
 |c::cs,l,h=>by
  simp only[ints] at h;split at h
  ·rename_i n d a b
   simp at h;subst h
   simp[F2 a,ak7 b,iv]
  ·cases h
theorem KA {s s':cn} {l:List s.T} {a:List s'.T} (h:AW s s' l=some a):s=s'/\HEq l a:=by
 unfold AW at h
 grind
theorem aBz {s:cn} {v:SV} {l:List s.T} (h:Kz s v=some l):v.g= .sl l.length (kD s l):=by
 cases v<;>simp only[Kz,reduceCtorEq] at h
 grind[KA,SV.g,kD]
theorem abU:{s:cn}->{cs:List SV}->{x:s.T}->(h:RS s cs=some x)->cs.map SV.g=qq s x
 | .i k,[c],_,h=>by grind[RS,qq,pF,F2]
 | .b,[c],_,h=>by grind[RS,qq,pF,ahm]
 | .fK s,[c],_,h=>by grind[RS,aBz,qq,kD]
 | .pair s t,cs,_,h=>by
  simp only[RS] at h;split at h
  ·rename_i x y a d
   simp only[γ] at h;subst h
   have f:=abU a
   have e:=abU d
   simp only[qq,<-f,<-e];rw[<-γj,List.take_append_drop]
  ·cases h
 | .zx,cs,_,h| .off,cs,_,h| .need,cs,_,h| .key,cs,_,h| .sit,cs,_,h=>by
  simp only[RS] at h;split at h
  ·rename_i a
   simp at h;subst h
   rw[ak7 a]
   simp[qq,pF]
  ·cases h
theorem aBA (v:SV):v.qn.g=v.g.qn:=by
 unfold SV.qn;split
 ·simp[SV.g,AV.qn,kD]
 ·rename_i h
  cases v<;>grind[SV.g,AV.qn,AV.sc.injEq]
theorem ak8:(s:cn)->(x:s.T)->∀v∈pF s x,v.oneCell'=true
 | .pair s t,x=>by
  intro v a;simp only[pF] at a
  rcases γt.1 a with h|h
  ·exact ak8 s _ v h
  ·exact ak8 t _ v h
 | .fK _,x| .i _,x| .b,x| .zx,x| .off,x| .need,x| .key,x| .sit,x=>by simp[pF,iv,Value.oneCell']
def Plain (a:AV):Prop:=(∃v,a= .sc v/\v.oneCell'=true/\v≠ .slice none 0 0)\/∃n b,a= .sl n b/\ql b=true
theorem ak9:∀{l:List AV},(∀a∈l,a.pure=true)->ql l=true
 |[],_=>by simp[ql]
 |a::l,h=>by simp[ql,h a (by simp),ak9 (l:=l) λb c=>h b (by simp[c])]
theorem aoe {k:Nat}:∀{l:List AV},(∀a∈l,a.ju k=true)->tf k l=true
 |[],_=>by simp[tf]
 |a::l,h=>by simp[tf,h a (by simp),aoe (l:=l) λb c=>h b (by simp[c])]
theorem Plain.pure {a:AV} (h:Plain a):a.pure=true:=by
 rcases h with⟨v,rfl,_⟩|⟨n,b,rfl,h⟩<;>grind[AV.pure]
theorem Plain.ju {a:AV} (h:Plain a) (k:Nat):a.ju k=true:=by
 rcases h with⟨v,rfl,_⟩|⟨n,b,rfl,h⟩<;>simp[AV.ju]
theorem Plain.one {a:AV} (h:Plain a):a.one=true:=by
 rcases h with⟨v,rfl,h,_⟩|⟨n,b,rfl,h⟩<;>grind[AV.one]
theorem aiX:(s:cn)->(x:s.T)->∀a∈qq s x,Plain a
 | .pair s t,x=>by
  intro a c;simp only[qq] at c
  rcases γt.1 c with h|h
  ·exact aiX s _ a h
  ·exact aiX t _ a h
 | .fK s,l=>by
  intro a c;simp only[qq,List.mem_singleton] at c;subst c
  refine .inr ⟨_,_,rfl,ak9 λb e=>?_⟩
  obtain⟨y,_,f⟩:=List.mem_flatMap.1 e
  exact(aiX s y b f).pure
 | .i _,x| .b,x| .zx,x| .off,x| .need,x| .key,x| .sit,x=>by
  intro a c;simp only[qq] at c
  obtain⟨v,d,rfl⟩:=List.mem_map.1 c
  refine .inl ⟨v,rfl,ak8 _ _ v d,?_⟩
  rintro rfl
  simp[pF,iv] at d
theorem aaS {s:cn} {l:List s.T} {a:AV} (h:a∈kD s l):Plain a:=by
 grind[kD,aiX]
theorem acs (s:cn) (l:List s.T):ql (kD s l)=true:=ak9 λa h=>(aaS h).pure
theorem atW (k:Nat) (s:cn) (l:List s.T):tf k (kD s l)=true:=aoe λa h=>(aaS h).ju k
theorem ala (s:cn) (l:List s.T):uC (kD s l)=true:=by
 simp only[uC,γf];intro a h
 exact(aaS h).one
theorem x7 (s:cn) (l:List s.T):(kD s l).length=l.length*s.sz:=by
 induction l<;>grind[kD,Zb]
theorem atX (s:cn) (l a:List s.T):kD s (l++a)=kD s l++kD s a:=by simp[kD]
theorem aof (s:cn):∀(l:List s.T) (i:Nat),(kD s l).drop (i*s.sz)=kD s (l.drop i)
 |l,0=>by simp
 |[],i+1=>by simp[kD]
 |x::l,i+1=>by
  have h:=aof s l i
  simp only[kD,δ3,List.drop_succ_cons] at h ⊢
  rw[Nat.succ_mul,Nat.add_comm,List.drop_append,Zb,εG,h,List.drop_of_length_le (by grind[Zb])]
  simp
theorem atY (s:cn):∀(l:List s.T) (i:Nat),(kD s l).take (i*s.sz)=kD s (l.take i)
 |l,0=>by simp[kD]
 |[],i+1=>by simp[kD]
 |x::l,i+1=>by
  have h:=atY s l i
  simp only[kD,δ3,List.take_succ_cons] at h ⊢
  rw[Nat.succ_mul,Nat.add_comm,List.take_append,Zb,εG,h,List.take_of_length_le (by grind[Zb])]
def bC {a:Type} (l:List a) (i:Nat) (d:a):a:=(l[i]?).getD d
theorem my {a:Type} {l:List a} {i:Nat} {d:a} (h:i<l.length):bC l i d=l[i]:=by simp[bC,h]
theorem aBB {s:cn} {l:List s.T} {i:Nat} (h:i<l.length):(kD s l).drop (i*s.sz)=qq s (bC l i s.dflt)++kD s (l.drop (i+1)):=by
 rw[aof,List.drop_eq_getElem_cons h,my h]
 grind[kD]
abbrev zy:=List (Nat×SV)
abbrev jr:=List cJ
structure jD where
 env:zy
 o:jr
def MR:zy->Nat->SV
 |[],_=> .ud
 |p::r,s=>bif δD p.1 s then p.2 else MR r s
def afT (env:zy) (a:Option Nat) (v:SV):zy:=
 match a with
 |none=>env
 |some d=>(d,v)::env
def SV.abV:Value->SV
 | .int k n=> .il k n
 | .bool b=> .bl b
 |v=> .sc v
def SV.afA:Value->SV
 | .agg a=>if a.toList.all (·.oneCell') then .agg (a.toList.map .abV) else .ud
 | .tuple _=> .ud
 | .int k n=> .il k n
 | .bool b=> .bl b
 |v=> .sc v
def MZ (env:zy):Operand->SV
 | .tmp t=>MR env t
 | .const v=> .afA v
 | .global _=> .ud
 | .func f=> .fn (.func f) [] []
def SV.cellsOf:SV->List SV
 | .agg a=>a
 |v=>[v]
def SV.one:SV->Bool
 | .agg _| .eW _| .ud=>false
 | .sc v=>v.oneCell'
 |_=>true
def ahn (l:List SV):Bool:=l.all (·.one)
mutual
def SV.pure:SV->Bool
 | .sc _| .il .. | .si .. | .bl _| .sb _| .row .. =>true
 |_=>false
def alb:List SV->Bool
 |[]=>true
 |c::a=>c.pure&&alb a
end
mutual
def SV.ju (k:Nat):SV->Bool
 | .ud| .sc _| .il .. | .si .. | .bl _| .sb _| .row .. | .ep .. =>true
 | .agg e| .eW e=>ad8 k e
 | .ptr d .. | .ap d .. | .rp d .. | .ow d .. | .os d .. | .oc d .. | .mp d=>decide (d<k)
 | .fn _ a b=>ad8 k a&&ad8 k b
def ad8 (k:Nat):List SV->Bool
 |[]=>true
 |c::e=>c.ju k&&ad8 k e
end
def cJ.ju (k:Nat):cJ->Bool
 | .cells b _ _ a=>a||ad8 k b
 | .abT _ _ _ t=>ad8 k t
 |_=>true
mutual
def SV.WB:SV->Bool
 | .ud| .sc _| .il .. | .si .. | .bl _| .sb _=>true
 | .agg a| .eW a=>alc a
 |_=>false
def alc:List SV->Bool
 |[]=>true
 |c::a=>c.WB&&alc a
end
def ie (k:IntKind) (n:Int):Prop:=
 match k with
 | .i64=> -9223372036854775808<=n/\n<=9223372036854775807
 |k=>k.wrap n=n
def afU (k:IntKind) (n:Int) (K:Int->Prop):Prop:=
 match k with
 | .u32=>K (n % 4294967296)
 | .u64=>K (n % 18446744073709551616)
 |k=>ie k n/\K n
structure atZ where
 pure:FuncId->List SV->(SV->Prop)->Prop
 own:FuncId->List SV->jr->(SV->jr->Prop)->Prop
structure KB where
 C:atZ
 ty:TypeId->Option cn
 mt:List Nat×Bool->Option (cn×cn)
 sp:Nat->Option (Nat×Nat×Nat):=λ_=>none
 it:FuncId->Option zr:=λ_=>none
 ro:FuncId->Bool:=λ_=>false
def ad9 (cs:List SV) (a:Nat):Option Nat->Option SV
 |none=>cs[a]?
 |some n=>if a+n<=cs.length then some (.agg ((cs.drop a).take n)) else none
def aeV (cs:List SV) (a:Nat):List SV->List SV
 |[]=>cs
 |v::b=>aeV (cs.set a v) (a+1) b
def Ks {b:Type} (x:Option b) (K:b->Prop):Prop:=match x with|some a=>K a|none=>False
def afV {b:Type} (f:SV->(b->Prop)->Prop):List SV->(List b->Prop)->Prop
 |[],K=>K []
 |v::c,K=>f v λa=>afV f c λd=>K (a::d)
def ady (o:jr):Nat->SV->(SV->Prop)->Prop
 |_,.ud,K=>K .ud
 |_,.sc v,K=>match v with
  | .slice none 0 0=>K (.row (.i .i64) [])
  |v=>K (.sc v)
 |_,.il k n,K=>K (.il k n)
 |_,.si k n,K=>K (.si k n)
 |_,.bl b,K=>K (.bl b)
 |_,.sb b,K=>K (.sb b)
 |_,.row s l,K=>K (.row s l)
 |d+1,.agg j,K=>afV (ady o d) j λc=>K (.agg c)
 |d+1,.eW j,K=>afV (ady o d) j λc=>K (.eW c)
 |d+1,.fn f a b,K=>afV (ady o d) a λp=>afV (ady o d) b λq=>K (.fn f p q)
 |_+1,.ow m n h,K=>match o[m]? with
  |some (.row s l _ _)=>if h=s.sz then n=l.length/\K (.row s l) else False
  |_=>False
 |_+1,.os m g e n h,K=>match o[m]? with
  |some (.row s l _ _)=>if h=s.sz then n=l.length/\g+e<=n/\K (.row s ((l.drop g).take e)) else False
  |_=>False
 |_,_,_=>False
def aaA (o:jr) (a:SV) (n:Option Nat) (K:SV->Prop):Prop:=
 match a with
 | .ptr h b d=>match o[h]? with
  |some (.cells c _ _ _)=>if c.length=d then Ks (ad9 c b n) K else False
  |_=>False
 | .ap h e g f d i=>match o[h]? with
  |some (.cells c _ _ _)=>if c.length=d/\e+g*f<=d then i<f/\aiY ((c.drop e).take (g*f)) g i n K else False
  |_=>False
 | .ep s l i b=>i<l.length/\Ks (ad9 (encS s (bC l i s.dflt)) b n) K
 | .rp h i b m g=>match o[h]? with
  |some (.row s l _ _)=>if g=s.sz then m=l.length/\i<l.length/\Ks (ad9 (encS s (bC l i s.dflt)) b n) K else False
  |_=>False
 |_=>False
where
 aiY (c:List SV) (g i:Nat) (n:Option Nat) (K:SV->Prop):Prop:=
  match n,g with
  |none,1=>match ints c with
   |some l=>K (.si .i64 (bC l i 0))
   |none=>match rowsOff c with
    |some l=>K (.row .off (bC l i []))
    |none=>False
  |_,_=>False
 rowsOff:List SV->Option (List (List Off))
  |[]=>some []
  | .row .off l::c=>(rowsOff c).map (l::·)
  |_=>none
def mkK (dp:Nat) (x:cJ) (o:jr) (K:jr->Prop):Prop:=
 match o[dp]? with
 |some .dead=>K (o.set dp x)
 |_=>False
def aea (a:List (Nat×Nat×SV)) (cs:List SV):Option (List SV):=
 match a with
 |[]=>some cs
 |(b,n,v)::c=>
  if v.cellsOf.length=n/\ahn v.cellsOf=true/\b+n<=cs.length then aea c (aeV cs b v.cellsOf) else none
def aeW (s:cn):Nat->List SV->Option (List s.T)
 |0,[]=>some []
 |n+1,a=>match RS s (a.take s.sz),aeW s n (a.drop s.sz) with
  |some x,some l=>some (x::l)
  |_,_=>none
 |_,_=>none
def afW (o:jr) (s:cn) (x:SV) (K:List s.T->Prop):Prop:=
 match x with
 | .row a l=>Ks (AW a s l) K
 | .ow d n e=>match o[d]? with
  |some (.row a l _ _)=>if e=a.sz then n=l.length/\Ks (AW a s l) K else False
  |_=>False
 | .os d c b n e=>match o[d]? with
  |some (.row a l _ _)=>if e=a.sz then n=l.length/\c+b<=n/\Ks (AW a s ((l.drop c).take b)) K else False
  |_=>False
 | .sc (.slice none 0 0)=>K []
 |_=>False
def at0 (o:jr):SV->Option (List SV)
 | .ow j 1 a=>match o[j]? with
  |some (.abT s [] _ t)=>if s.sz=a then some t else none
  |_=>none
 |_=>none
def SV.at1:SV->Bool
 | .ow .. =>true
 |_=>false
def aiZ:SV->Option Int
 | .si _ n=>some n
 | .il _ n=>some n
 |_=>none
def isNil:SV->Bool
 | .sc (.slice none 0 0)=>true
 |_=>false
def J9 (e:BinOp) (x y:SV) (K:SV->Prop):Prop:=
 match x,y with
 | .il k a,.il d b=>match GG e (.int k a) (.int d b) with
  |some (.int k n)=>K (.il k n)
  |some (.bool c)=>K (.bl c)
  |_=>False
 | .si k a,.si d b=>go k a d b
 | .il k a,.si d b=>go k a d b
 | .si k a,.il d b=>go k a d b
 | .sc (.string a),.sc (.string b)=>match e with
  | .eql=>K (.sb (a.toList==b.toList))
  | .neq=>K (.sb (!(a.toList==b.toList)))
  |_=>False
 |_,_=>False
where
 go (k:IntKind) (a:Int) (d:IntKind) (b:Int):Prop:=
  match e with
  | .shl=>0<=b/\b<=k.bits/\afU k (a*2^b.toNat) λn=>K (.si k n)
  | .shr=>0<=b/\b<=k.bits/\K (.si k (a / 2^b.toNat))
  | .add=>if k=d then afU k (a+b) λn=>K (.si k n) else False
  | .sub=>if k=d then afU k (a - b) λn=>K (.si k n) else False
  | .mul=>if k=d then afU k (a*b) λn=>K (.si k n) else False
  | .quo=>if k=d then b≠0/\ie k (a.tdiv b)/\K (.si k (a.tdiv b)) else False
  | .rem=>if k=d then b≠0/\K (.si k (a.tmod b)) else False
  | .and=>if k=d then K (.si k (ai0 k a b)) else False
  | .or=>if k=d then K (.si k (orI k a b)) else False
  | .xor=>if k=d then K (.si k (aog k a b)) else False
  | .andNot=>if k=d then K (.si k (aoh k a b)) else False
  | .eql=>if k=d then K (.sb (decide (a=b))) else False
  | .neq=>if k=d then K (.sb (decide (a≠b))) else False
  | .lss=>if k=d then K (.sb (decide (a<b))) else False
  | .leq=>if k=d then K (.sb (decide (a<=b))) else False
  | .gtr=>if k=d then K (.sb (decide (b<a))) else False
  | .geq=>if k=d then K (.sb (decide (b<=a))) else False
 ai0 (k:IntKind) (a b:Int):Int:=x5 k (γq k.bits a &&&γq k.bits b).toNat
 orI (k:IntKind) (a b:Int):Int:=x5 k (γq k.bits a |||γq k.bits b).toNat
 aog (k:IntKind) (a b:Int):Int:=x5 k (γq k.bits a ^^^γq k.bits b).toNat
 aoh (k:IntKind) (a b:Int):Int:=x5 k (γq k.bits a &&&~~~(γq k.bits b)).toNat
def aoi:SV->SV->Option Bool
 | .si k a,y=>(y.int k).map λb=>decide (a=b)
 | .il k a,y=>(y.int k).map λb=>decide (a=b)
 | .sb a,y=>y.boo.map λb=>a==b
 | .bl a,y=>y.boo.map λb=>a==b
 |_,_=>none
def aeX:List SV->List SV->Option Bool
 |[],[]=>some true
 |x::d,y::c=>match aoi x y,aeX d c with
  |some a,some b=>some (a&&b)
  |_,_=>none
 |_,_=>none
def XT:List Nat->List SV->Bool
 |[],[]=>true
 |0::a,.si _ _::b=>XT a b
 |0::a,.il _ _::b=>XT a b
 |1::a,.sb _::b=>XT a b
 |1::a,.bl _::b=>XT a b
 |_,_=>false
def abp (a sv:cn) (x:a.T) (es:List (a.T×sv.T)):Option sv.T:=(es.find? λp=>decide (p.1=x)).map (·.2)
def aeb (a sv:cn) (x:a.T) (v:sv.T):List (a.T×sv.T)->List (a.T×sv.T)
 |[]=>[(x,v)]
 |p::r=>if p.1=x then(x,v)::r else p::aeb a sv x v r
def afX (a:Bool):SV->Bool
 | .agg _=>a
 |_=>!a
def cn.keyed:cn->Bool
 | .key| .sit| .i _=>true
 |_=>false
def abq (d:Nat):Option SV->(Nat->Prop)->Prop
 |none,K=>K d
 |some (.il _ n),K=>if 0<=n then K n.toNat else False
 |some (.si _ n),K=>0<=n/\K n.toNat
 |_,_=>False
def aeY:List Int->Nat->Int->Nat->List Int
 |[],_,_,_=>[]
 |a::l,i,v,j=>(if i=j then v else a)::aeY l i v (j+1)
def yf (p:KB) (op:lh) (ρ:Operand->SV) (o:jr) (dp:Nat) (K:SV->jr->Prop):Prop:=
 match op with
 | .mov x=>K (ρ x) o
 | .pick c a b=>match ρ c with
  | .bl true=>K (ρ a) o
  | .bl false=>K (ρ b) o
  | .sb c=>(c=true->K (ρ a) o)/\(c=false->K (ρ b) o)
  |_=>False
 | .alloc z e pu=>mkK dp (.cells (z.map .abV) e z.length pu) o λo'=>K (.ptr dp 0 z.length) o'
 | .box e x=>if ahn (ρ x).cellsOf then mkK dp (.cells (ρ x).cellsOf e (ρ x).cellsOf.length false) o λo'=>K (.ptr dp 0 (ρ x).cellsOf.length) o' else False
 | .build z parts=>Ks (aea (parts.map λq=>(q.1,q.2.1,ρ q.2.2)) (z.map .abV)) λcs=>K (.agg cs) o
 | .ace z len parts e sz=>match p.ty e,aea (parts.map λq=>(q.1,sz,ρ q.2)) ((δ len (z.map SV.abV)).flatten) with
  |some s,some cs=>if s.sz=sz then(if cs.any SV.at1 then(if cs.length=len*sz then mkK dp (.abT s [] e cs) o λo'=>K (.ow dp len sz) o' else False) else Ks (aeW s len (cs.map SV.qn)) λl=>mkK dp (.row s l e true) o λo'=>K (.ow dp len sz) o') else False
  |_,_=>False
 | .aeF z len parts e sz=>match p.ty e,aea (parts.map λq=>(q.1,sz,ρ q.2)) ((δ len (z.map SV.abV)).flatten) with
  |some s,some cs=>if s.sz=sz then Ks (aeW s len (cs.map SV.qn)) λl=>K (.row s l) o else False
  |_,_=>False
 | .load n a=>aaA o (ρ a) n λv=>K v o
 | .store n a x=>match ρ a with
  | .ptr id off tot=>match o[id]? with
   |some (.cells cs e sz pu)=>
    if cs.length=tot/\(ρ x).cellsOf.length=n/\ahn (ρ x).cellsOf=true/\off+n<=cs.length/\(pu=false\/alb (ρ x).cellsOf=true) then K .ud (o.set id (.cells (aeV cs off (if pu then(ρ x).cellsOf.map SV.qn else(ρ x).cellsOf)) e sz pu)) else False
   |_=>False
  | .rp id i off m sz=>match o[id]? with
   |some (.row s l e pu)=>
    if sz=s.sz/\(ρ x).cellsOf.length=n/\off+n<=s.sz then m=l.length/\i<l.length/\Ks (RS s (aeV (encS s (bC l i s.dflt)) off (if pu then(ρ x).cellsOf.map SV.qn else(ρ x).cellsOf))) λv=>K .ud (o.set id (.row s (l.set i v) e pu)) else False
   |_=>False
  | .ap id base sz len tot i=>match o[id]? with
   |some (.cells cs e sz' pu)=>match n,sz,(ρ x).int .i64 with
    |1,1,some v=>match ints ((cs.drop base).take len) with
     |some l=>if cs.length=tot/\base+len<=tot then i<len/\K .ud (o.set id (.cells (aeV cs base ((aeY l i v 0).map (SV.si .i64))) e sz' pu)) else False
     |none=>False
    |_,_,_=>False
   |_=>False
  |_=>False
 | .afC x=>match ρ x with
  | .ptr a b c=>K (.ptr a b c) o
  | .rp a b c d e=>K (.rp a b c d e) o
  | .ep s l i f=>K (.ep s l i f) o
  |_=>False
 | .bin op x y=>J9 op (ρ x) (ρ y) λv=>K v o
 | .beq neg x y=>match(ρ x).boo,(ρ y).boo with
  |some a,some b=>K (.sb (if neg then !(a==b) else a==b)) o
  |_,_=>False
 | .eqf neg ks x y=>match ρ x,ρ y with
  | .agg a,.agg b=>if XT ks a&&XT ks b then Ks (aeX a b) λr=>K (.sb (if neg then !r else r)) o else False
  |_,_=>False
 | .un op x=>match op,ρ x with
  | .not,.sb b=>K (.sb !b) o
  | .not,.bl b=>K (.bl !b) o
  | .neg,.si k n=>ie k (-n)/\K (.si k (-n)) o
  | .neg,.il k n=>K (.il k (x5 k (0 - n))) o
  |_,_=>False
 | .conv k x=>match ρ x with
  | .il _ n=>K (.il k (x5 k n)) o
  | .si .i64 n=>ie k n/\K (.si k n) o
  | .si _ n=>afU k n λm=>K (.si k m) o
  |_=>False
 | .afD off x=>match ρ x with
  | .ptr id b tot=>K (.ptr id (b+off) tot) o
  | .ep s l i b=>K (.ep s l i (b+off)) o
  | .rp id i b m sz=>K (.rp id i (b+off) m sz) o
  |_=>False
 | .field off n x=>match ρ x with
  | .agg cs=>Ks (ad9 cs off n) λv=>K v o
  |_=>False
 | .afE len sz x i=>match ρ i with
  | .il _ n=>if 0<=n/\n<len then(match ρ x with
   | .ptr id b tot=>K (.ptr id (b+n.toNat*sz) tot) o
   | .ep s l j b=>K (.ep s l j (b+n.toNat*sz)) o
   | .rp id j b m sz'=>K (.rp id j (b+n.toNat*sz) m sz') o
   |_=>False) else False
  | .si _ n=>match ρ x with
   | .ptr id b tot=>0<=n/\n<len/\K (.ap id b sz len tot n.toNat) o
   |_=>False
  |_=>False
 | .adY sz x i=>match aiZ (ρ i) with
  |some n=>match ρ x with
   | .row s l=>if sz=s.sz then 0<=n/\n<l.length/\K (.ep s l n.toNat 0) o else False
   | .ow id m sz'=>match o[id]? with
    |some (.row s l _ _)=>if sz=s.sz/\sz'=s.sz then m=l.length/\0<=n/\n<l.length/\K (.rp id n.toNat 0 m sz) o else False
    |_=>False
   | .os id off len m sz'=>match o[id]? with
    |some (.row s l _ _)=>if sz=s.sz/\sz'=s.sz then m=l.length/\0<=n/\n<len/\off+len<=m/\K (.rp id (off+n.toNat) 0 m sz) o else False
    |_=>False
   | .oc id off len m sz'=>match o[id]? with
    |some (.row s l _ _)=>if sz=s.sz/\sz'=s.sz then m=l.length/\0<=n/\n<len/\off+len<=m/\K (.rp id (off+n.toNat) 0 m sz) o else False
    |_=>False
   |_=>False
  |none=>False
 | .idx len sz n x i=>match ρ i,ρ x with
  | .il _ k,.agg cs=>if 0<=k/\k<len then Ks (ad9 cs (k.toNat*sz) n) λv=>K v o else False
  | .si _ k,.agg cs=>match n,sz,ints cs with
   |none,1,some l=>if l.length=len then 0<=k/\k<len/\K (.si .i64 (bC l k.toNat 0)) o else False
   |_,_,_=>False
  |_,_=>False
 | .acJ z e sz bytes l c pu=>match aiZ (ρ l),aiZ (ρ c),p.ty e with
  |some n,some m,some s=>if s.sz=sz then Ks (RS s (if pu then(z.map SV.abV).map SV.qn else z.map .abV)) λx=>0<=n/\n<=m/\m*bytes<=140737488355328/\m<=1000000000000/\
    mkK dp (.row s (δ n.toNat x) e pu) o λo'=>K (.ow dp n.toNat sz) o' else False
  |_,_,_=>False
 | .slice sz x lo hi=>match ρ x with
  | .row s l=>if sz=s.sz then abq 0 (lo.map ρ) λa=>abq l.length (hi.map ρ) λb=>a<=b/\b<=l.length/\K (.row s ((l.drop a).take (b - a))) o else False
  | .ow id m sz'=>match o[id]? with
   |some (.row s l _ _)=>if sz=s.sz/\sz'=s.sz then m=l.length/\abq 0 (lo.map ρ) λa=>abq m (hi.map ρ) λb=>a<=b/\b<=m/\K (.os id a (b - a) m sz) o else False
   |_=>False
  | .os id off len m sz'=>match o[id]? with
   |some (.row s l _ _)=>if sz=s.sz/\sz'=s.sz then m=l.length/\abq 0 (lo.map ρ) λa=>abq len (hi.map ρ) λb=>a<=b/\b<=len/\K (.os id (off+a) (b - a) m sz) o else False
   |_=>False
  |_=>False
 | .slice3 sz x lo hi mx=>match ρ x with
  | .row s l=>if sz=s.sz then abq 0 (lo.map ρ) λa=>abq l.length (some (ρ hi)) λb=>abq l.length (some (ρ mx)) λm=>a<=b/\b<=m/\m<=l.length/\K (.row s ((l.drop a).take (b - a))) o else False
  | .ow id n sz'=>match o[id]? with
   |some (.row s l _ _)=>if sz=s.sz/\sz'=s.sz then n=l.length/\abq 0 (lo.map ρ) λa=>abq n (some (ρ hi)) λb=>abq n (some (ρ mx)) λm=>a<=b/\b<=m/\m<=n/\K (.oc id a (b - a) n sz) o else False
   |_=>False
  |_=>False
 | .append e sz bytes s x pu=>match p.ty e,at0 o (ρ x) with
  |some t,some tl=>match ρ s,ρ x with
   | .ow id n sz',.ow _ _ sz2=>match o[id]? with
    |some (.row t' l e' pu')=>if e'=e/\t'.sz=sz/\sz'=sz/\sz2=sz/\t.sz=sz/\pu'=false/\tl.length=sz/\ahn tl=true then n=l.length/\(l.length+1)*bytes<=140737488355328/\l.length+1<=1000000000000/\
      K (.ow id (l.length+1) sz) (o.set id (.abT t' l e tl)) else False
    |_=>False
   |_,_=>False
  |some t,none=>if t.sz=sz then afW o t (ρ x) λnew=>match ρ s with
    | .sc (.slice none 0 0)=>(new.length=0->K (.sc aiC) o)/\(new.length≠0->new.length*bytes<=140737488355328/\new.length<=1000000000000/\mkK dp (.row t new e pu) o λo'=>K (.ow dp new.length sz) o')
    | .ow id n sz'=>match o[id]? with
     |some (.row t' l e' pu')=>if e'=e/\t'.sz=sz/\sz'=sz then n=l.length/\(l.length+new.length)*bytes<=140737488355328/\l.length+new.length<=1000000000000/\
       Ks (AW t' t l) λl'=>K (.ow id (l'++new).length sz) (o.set id (.row t (l'++new) e pu')) else False
     |_=>False
    | .row t' l=>new.length=0/\K (.row t' l) o
    |_=>False
   else False
  |none,_=>False
 | .len k x=>match k,ρ x with
  |0,.row _ l=>K (.si .i64 l.length) o
  |0,.ow _ n _=>K (.si .i64 n) o
  |0,.os _ _ len _ _=>K (.si .i64 len) o
  |0,.oc _ _ len _ _=>K (.si .i64 len) o
  |0,.sc (.slice none 0 0)=>K (.il .i64 0) o
  |1,.sc (.string s)=>K (.si .i64 s.size) o
  |2,.mp id=>match o[id]? with
   |some (.map _ _ _ es _ _)=>K (.si .i64 es.length) o
   |_=>False
  |_,_=>False
 | .afG n=>K (.il .i64 n) o
 | .mm mx x y=>match ρ x,ρ y with
  | .il k a,.il k' b=>if k=k' then K (.il k (if mx then(if b>a then b else a) else(if b<a then b else a))) o else False
  | .si k a,y=>Ks (y.int k) λb=>K (.si k (if mx then max a b else min a b)) o
  | .il k a,y=>Ks (y.int k) λb=>K (.si k (if mx then max a b else min a b)) o
  |_,_=>False
 | .call f args own=>ald p f (args.map ρ) o own K
 | .QU f args own=>match ρ f with
  | .fn (.func g) first captured=>ald p g (first++args.map ρ++captured) o own K
  |_=>False
 | .extract x i=>match ρ x with
  | .eW vs=>Ks vs[i]? λv=>K v o
  |_=>False
 | .aeG f first captured=>K (.fn f (first.map ρ) (captured.map ρ)) o
 | .acK kt pu=>match p.mt kt with
  |some (sk,sv)=>mkK dp (.map sk sv kt.2 [] kt pu) o λo'=>K (.mp dp) o'
  |none=>False
 | .lookup z agg ks ka x k ok=>match ρ x with
  | .mp id=>match o[id]? with
   |some (.map sk sv ka' es kt _)=>
    if kt=(ks,ka)/\ka'=ka/\sk.keyed=true/\sv.ahk=true/\agg=false/\(ka=false->sk.sz=1)/\XT ks (ρ k).cellsOf=true/\afX ka (ρ k)=true then
     Ks (RS sk (ρ k).cellsOf) λkv=>Ks (RS sv (z.map .abV)) λzv=>
      let r:=(encS sv ((abp sk sv kv es).getD zv)).headD .ud
      K (if ok then .eW [r,.sb (abp sk sv kv es).isSome] else r) o
    else False
   |_=>False
  |_=>False
 | .adi ks ka x k v=>match ρ x with
  | .mp id=>match o[id]? with
   |some (.map sk sv ka' es kt pu)=>
    if kt=(ks,ka)/\ka'=ka/\sk.keyed=true/\sv.ahk=true/\(ka=false->sk.sz=1)/\XT ks (ρ k).cellsOf=true/\afX ka (ρ k)=true/\afX false (ρ v)=true then
     Ks (RS sk (ρ k).cellsOf) λkv=>Ks (RS sv (ρ v).cellsOf) λvv=>K .ud (o.set id (.map sk sv ka' (aeb sk sv kv vv es) kt pu))
    else False
   |_=>False
  |_=>False
 |_=>False
where
 ald (p:KB) (f:FuncId) (args:List SV) (o:jr) (own:Bool) (K:SV->jr->Prop):Prop:=
  if own then p.C.own f args o K
  else afV (ady o 6) args λargs'=>p.C.pure f args' λr=>if(args.flatMap (λv=>AO (o.map cJ.g) 6 v.g)).isEmpty||r.WB then K r o else False
def ahp:zy->Nat->SV->zy
 |[],_,_=>[]
 |p::r,s,v=>bif δD p.1 s then(p.1,v)::r else p::ahp r s v
def aok (env:zy) (g:Option (Option Nat×Bool)) (K:zy->Bool->Prop):Prop:=
 match g with
 |none=>K env true
 |some (none,_)=>False
 |some (some s,b)=>match MR env s with
  | .bl c=>K env (c==b)
  | .sb c=>(c=true->K (ahp env s (.bl true)) (true==b))/\(c=false->K (ahp env s (.bl false)) (false==b))
  | .eW []=>K env false
  |_=>False
def SV.same (v w:SV):Prop:=v.g=w.g
def cJ.same (x y:cJ):Prop:=x.g=y.g
def N1:jr->jr->Prop
 |[],[]=>True
 |x::o,y::a=>x.same y/\N1 o a
 |_,_=>False
def roK (p:KB) (a:lh) (o o':jr) (K:Bool->Prop):Prop:=
 match a with
 | .call f _ true=>if p.ro f=true then N1 o o'/\K true else K false
 |_=>K false
def ahq (p:KB) (base:Nat):List oQ->jD->Trace->(jD->Trace->Prop)->Prop
 |[],b,c,K=>K b c
 |i::r,b,c,K=>aok b.env i.guard λa w=>
   if w then yf p i.op (MZ a) b.o (base+i.dp) λv d=>roK p i.op b.o d λe=>ahq p base r ⟨afT a i.dst v,d⟩ ((i.idx,se i.op (λx=>(MZ a x).g) (b.o.map cJ.g) (base+i.dp),if e then[] else wrt i.op (λx=>(MZ a x).g) (b.o.map cJ.g) (base+i.dp))::c) K
   else ahq p base r ⟨afT a i.dst (.eW []),b.o⟩ ((i.idx,[],[])::c) K
def cJ.aaL:cJ->Bool
 | .dead=>true
 |_=>false
def aol (base:Nat) (o:jr):jr:=if(o.drop base).all (·.aaL) then o.take base else o
def aom (p:KB) (k:Nat) (c:List oQ) (b:List (Nat×Nat)) (st:jD) (K:jD->Prop):Prop:=
 ahq p st.o.length c ⟨st.env,st.o++δ k .dead⟩ [] λa d=>
  if b.isEmpty||aeI (st.o.length+k) d.reverse b then K ⟨a.env,if k=0 then a.o else aol st.o.length a.o⟩ else False
mutual
def RY (id:Nat) (s:cn) (l:List s.T):SV->(SV->Prop)->Prop
 | .ow j n m,K=>if j=id then(if m=s.sz then n=l.length/\K (.row s l) else False) else K (.ow j n m)
 | .os j h g n m,K=>if j=id then(if m=s.sz then n=l.length/\h+g<=n/\K (.row s ((l.drop h).take g)) else False) else K (.os j h g n m)
 | .oc j h g n m,K=>if j=id then False else K (.oc j h g n m)
 | .rp j i f n m,K=>if j=id then False else K (.rp j i f n m)
 | .ptr j f t,K=>if j=id then False else K (.ptr j f t)
 | .ap j a b c d e,K=>if j=id then False else K (.ap j a b c d e)
 | .agg o,K=>adz id s l o λk=>K (.agg k)
 | .eW o,K=>adz id s l o λk=>K (.eW k)
 | .fn f a b,K=>adz id s l a λp=>adz id s l b λr=>K (.fn f p r)
 |v,K=>K v
def adz (id:Nat) (s:cn) (l:List s.T):List SV->(List SV->Prop)->Prop
 |[],K=>K []
 |c::o,K=>RY id s l c λq=>adz id s l o λk=>K (q::k)
end
def ai1 (id:Nat) (s:cn) (l:List s.T):zy->(zy->Prop)->Prop
 |[],K=>K []
 |(k,v)::r,K=>RY id s l v λa=>ai1 id s l r λb=>K ((k,a)::b)
def abr (id:Nat) (s:cn) (l:List s.T):Nat->jr->(jr->Prop)->Prop
 |_,[],K=>K []
 |i,x::r,K=>match x with
  | .cells g e h b=>if b then(if i=id then False else abr id s l (i+1) r λa=>K (.cells g e h b::a)) else adz id s l g λd=>abr id s l (i+1) r λa=>K (.cells d e h b::a)
  | .abT c f e t=>if i=id then False else adz id s l t λj=>match aeW c 1 j with
   |some m=>abr id s l (i+1) r λa=>K (.row c (f++m) e false::a)
   |none=>False
  | .row c f e b=>if i=id then(if b then abr id s l (i+1) r λa=>K (.dead::a) else False) else abr id s l (i+1) r λa=>K (.row c f e b::a)
  |x=>abr id s l (i+1) r λa=>K (x::a)
def aeZ (p:KB) (lo:Nat) (h:SJ) (st:jD) (K:jD->Prop):Prop:=
 if h.own then match h.off with
  |none=>if isNil (MR st.env h.slot) then(match p.ty h.e with
    |some s=>if s.sz=h.sz then K ⟨(h.slot,.ow st.o.length 0 h.sz)::st.env,st.o++[.row s [] h.e h.pu]⟩ else False
    |none=>False) else if h.sz=0 then(match MR st.env h.slot with
     | .ow a _ _=>match st.o[a]? with
      |some (.row s l e true)=>K ⟨st.env,st.o.set a (.row s l e false)⟩
      |_=>False
     |_=>False) else K st
  |some k=>match MR st.env h.slot with
   | .ptr a b c=>match st.o[a]? with
    |some (.cells d e i f)=>if(d[b+k]?).any isNil then(if d.length=c/\f=false then(match p.ty h.e with
      |some s=>if s.sz=h.sz then K ⟨st.env,(st.o.set a (.cells (d.set (b+k) (.ow st.o.length 0 h.sz)) e i f))++[.row s [] h.e h.pu]⟩ else False
      |none=>False) else False) else K st
    |_=>False
   |_=>False
 else match at7 h st with
  |some (some a)=>if Nat.ble lo a then(match st.o[a]? with
   |some (.row s l e f)=>ai1 a s l st.env λg=>abr a s l 0 (if f then st.o else st.o.set a (.row s l e true)) λo=>K ⟨g,o⟩
   |_=>False) else K st
  |some none=>K st
  |none=>False
where
 ahr:SV->Option Nat
  | .ow a .. =>some a
  | .os a .. =>some a
  | .oc a .. =>some a
  |_=>none
 at7 (h:SJ) (st:jD):Option (Option Nat):=
  match h.off with
  |none=>some (ahr (MR st.env h.slot))
  |some k=>match MR st.env h.slot with
   | .ptr a b c=>match st.o[a]? with
    |some (.cells d _ _ _)=>if d.length=c then(d[b+k]?).map ahr else none
    |_=>none
   |_=>none
def ai2 (p:KB) (lo:Nat):List SJ->jD->(jD->Prop)->Prop
 |[],st,K=>K st
 |h::hs,st,K=>aeZ p lo h st λst'=>ai2 p lo hs st' K
def aon (a:List Nat) (env:zy):zy:=a.map λs=>(s,MR env s)
def trimS (k:Nat) (st:jD):jD:=
 if st.o.length<=k then st
 else if(st.env.all λp=>p.2.ju k)&&((st.o.take k).all λx=>x.ju k) then⟨st.env,st.o.take k⟩ else st
def ahs:zy->zy->Prop
 |[],[]=>True
 |(k,v)::e,(b,c)::a=>if k=b then v.same c/\ahs e a else False
 |_,_=>False
def ai3 (s t:jD):Prop:=ahs s.env t.env/\N1 s.o t.o
def iS (s:jD) (k:Nat):Int:=match MR s.env k with
 | .si _ n=>n
 | .il _ n=>n
 |_=>0
def bS (s:jD) (k:Nat):Bool:=match MR s.env k with
 | .sb b=>b
 | .bl b=>b
 |_=>false
def rS (t:cn) (s:jD) (k:Nat):List t.T:=match MR s.env k with
 | .row a l=>match AW a t l with
  |some l=>l
  |none=>[]
 |_=>[]
def oS (t:cn) (s:jD) (id:Nat):List t.T:=match s.o[id]? with
 |some (.row a l _ _)=>match AW a t l with
  |some l=>l
  |none=>[]
 |_=>[]
def splitN (v:Int) (n:Nat) (K:Nat->Prop):Nat->Prop
 |0=>0<=v/\v<n
 |j+1=>(v=(n - (j+1):Nat)->K (n - (j+1)))/\splitN v n K j
def splitK (x:Option (Nat×Nat×Nat)) (st:jD) (K:jD->Prop):Prop:=
 match x with
 |none=>K st
 |some (b,a,n)=>match st.o[b]? with
  |some (.cells c e f d)=>match c[a]? with
   |some (.si k v)=>splitN v n (λj=>K ⟨st.env,st.o.set b (.cells (c.set a (.il k j)) e f d)⟩) n
   |_=>False
  |_=>False
inductive jY where
 |ae0 (n:Nat)
 |look
 |inv (X:Type) (shape:X->jD) (next:jD->X) (J:X->Prop) (m:X->Nat) (inner:X->Nat->jY)
def Look (_:jD):Prop:=False
def afY:IR->Nat
 | .region c .. =>c
 | .seq .skip b=>afY b
 | .seq a _=>afY a
 | .block _ b=>afY b
 | .loop b=>afY b
 | .turns _ b=>afY b
 |_=>0
def aoo (W:jD->(Out->jD->Prop)->Prop) (Q:Out->jD->Prop):Nat->jD->Prop
 |0,_=>False
 |n+1,b=>W b λa s=>match a with
  | .norm=>aoo W Q n (trimS b.o.length s)
  |o=>Q o s
def ai4 (t:Nat):zy->zy
 |[]=>[]
 |p::r=>bif δD p.1 t then ai4 t r else p::ai4 t r
def aht (x:Operand) (env:zy):zy:=
 match x with
 | .tmp t=>ai4 t env
 |_=>env
def ale (env:zy) (x:Operand) (v:SV):zy:=
 match x with
 | .tmp t=>ahp env t v
 |_=>env
def wpS (p:KB) (lo:Nat):IR->(Nat->jY)->jD->(Out->jD->Prop)->Prop
 | .skip,_,st,Q=>Q .norm st
 | .region id draw k ops SK live pre post,_,st,Q=>splitK (p.sp id) st λst0=>ai2 p lo pre st0 λst1=>aom p k ops SK st1 λst2=>ai2 p lo post ⟨aon live st2.env,st2.o⟩ λst3=>Q .norm st3
 | .seq a b,Λ,st,Q=>wpS p lo a Λ st λout s=>match out with
  | .norm=>wpS p lo b Λ s Q
  |o=>Q o s
 | .cond x a b,Λ,st,Q=>match MZ st.env x with
  | .bl true=>wpS p lo a Λ ⟨aht x st.env,st.o⟩ Q
  | .bl false=>wpS p lo b Λ ⟨aht x st.env,st.o⟩ Q
  | .sb c=>(c=true->wpS p lo a Λ ⟨aht x st.env,st.o⟩ Q)/\(c=false->wpS p lo b Λ ⟨aht x st.env,st.o⟩ Q)
  |_=>False
 | .block id b,Λ,st,Q=>wpS p lo b Λ st λout s=>Q (out.inBlock id) s
 | .loop b,Λ,st,Q=>match Λ (afY b) with
  | .ae0 n=>aoo (wpS p lo b Λ) Q n st
  | .look=>Look st
  | .inv _ shape next J m inner=>(ai3 st (shape (next st))/\J (next st))/\∀x,J x->wpS p lo b (inner x) (shape x) λout s=>match out with
   | .norm=>ai3 (trimS (shape x).o.length s) (shape (next (trimS (shape x).o.length s)))/\J (next (trimS (shape x).o.length s))/\m (next (trimS (shape x).o.length s))<m x
   |o=>Q o s
 | .exit id,_,st,Q=>Q (.exit id) st
 | .ret,_,st,Q=>Q .ret st
 | .goto l,_,st,Q=>Q (.goto l) st
 | .abN x a b,Λ,st,Q=>match MZ st.env x with
  | .bl true=>wpS p lo a Λ st Q
  | .bl false=>wpS p lo b Λ st Q
  | .sb c=>(c=true->wpS p lo a Λ ⟨ale st.env x (.bl true),st.o⟩ Q)/\(c=false->wpS p lo b Λ ⟨ale st.env x (.bl false),st.o⟩ Q)
  |_=>False
 | .turns none b,Λ,st,Q=>wpS p lo b Λ st λout s=>match out with
  | .goto _=>False
  |o=>Q o s
 | .turns (some l) b,Λ,st,Q=>match Λ (afY b) with
  | .inv _ shape next J m inner=>(ai3 st (shape (next st))/\J (next st))/\∀x,J x->wpS p lo b (inner x) (shape x) λout s=>match out with
   | .goto l'=>l'=l/\ai3 (trimS (shape x).o.length s) (shape (next (trimS (shape x).o.length s)))/\J (next (trimS (shape x).o.length s))/\m (next (trimS (shape x).o.length s))<m x
   |o=>Q o s
  |_=>Look st
 | .dfr ..,_,_,_=>False
def aaT:Nat->List SV->zy
 |_,[]=>[]
 |i,v::a=>(i,v)::aaT (i+1) a
def abt (st:jD) (a:List aaN) (K:SV->Prop):Prop:=
 goK a λl=>match l with
  |[v]=>K v
  |l=>K (.eW l)
where
 goK:List aaN->(List SV->Prop)->Prop
  |[],K=>K []
  |r::a,K=>aua r λv=>goK a λl=>K (v::l)
 aua (r:aaN) (K:SV->Prop):Prop:=match r.cell with
  |none=>K (MR st.env r.slot)
  |some n=>aaA st.o (MR st.env r.slot) n K
def fnK (p:KB) (Λ:Nat->jY) (F:zr) (args:List SV) (Q:SV->Prop):Prop:=
 wpS p 0 F.body Λ ⟨aaT 0 args,[]⟩ λa b=>match a with
  | .exit _=>False
  | .goto _=>False
  |_=>abt b F.res λr=>ady b.o 6 r Q
def afZ (p:KB) (Λ:Nat->jY) (F:zr) (args:List SV) (o:jr) (Q:SV->jr->Prop):Prop:=
 wpS p o.length F.body Λ ⟨aaT 0 args,o⟩ λb a=>match b with
  | .exit _=>False
  | .goto _=>False
  |_=>abt a F.res λr=>if r.ju o.length&&a.o.all (λx=>x.ju o.length)&&decide (o.length<=a.o.length) then Q r (a.o.take o.length) else False
end Go.Vi
