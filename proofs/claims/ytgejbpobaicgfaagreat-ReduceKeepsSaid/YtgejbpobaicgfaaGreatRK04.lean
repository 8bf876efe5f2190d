/-
  The abstract interpreter: a region whose order is open.
  Conditions: none.
-/
import Derived.Test.YtgejbpobaicgfaaGreatRK03
import Derived.RangeFuncOwn
import Derived.RangeFuncLeaves
import Derived.LoopNIn
import Derived.ControlIn
import Derived.LoopN
import Derived.Scope
import Derived.Tactics
set_option maxRecDepth 100000
set_option maxHeartbeats 4000000
set_option linter.all false
namespace Go.Vi
theorem aAs {acc:List Nat} {l:List Edge} {m:Nat}:∀{s:Nat},(l.foldl (akk acc) s).testBit m=true->s.testBit m=true\/∃e∈l,Region.binds .any e=true/\(m=e.on\/(acc.getD e.on 0).testBit m=true):=by
 induction l with
 |nil=>simp_all
 |cons e l b=>
  intro s h;simp only[List.foldl_cons] at h
  rcases b h with a|⟨d,f,a,c⟩
  ·unfold akk at a
   grind
  grind
def aiu (acc:List Nat) (o:Oper):Nat:=o.after.toList.foldl (akk acc) 0
theorem asW:∀(L:List Oper) (acc:List Nat),∃r,L.foldl (fun acc o=>acc++[aiu acc o]) acc=acc++r/\r.length=L.length/\
  ∀(k:Nat) (o:Oper),L[k]?=some o->r[k]?=some (aiu (acc++r.take k) o)
 |[],acc=>⟨[],by simp,rfl,by simp⟩
 |o::L,acc=>by
  obtain⟨r,b,a,d⟩:=asW L (acc++[aiu acc o])
  refine⟨aiu acc o::r,by simp[b],by simp[a],fun k e c=>?_⟩
  cases k<;>simp_all
theorem aAt {a:Array Oper} {k m:Nat} {o:Oper} (p:a[k]?=some o) (h:((abD a).getD k 0).testBit m=true):
  ∃e∈o.after,Region.binds .any e=true/\(m=e.on\/((abD a).getD e.on 0).testBit m=true):=by
 obtain⟨r,j,n,g⟩:=asW a.toList []
 have c:abD a=r:=by
  grind[abD,aiu]
 rw[c] at h ⊢
 have d:=g k o (by simp_all)
 rw[List.getD_eq_getElem?_getD,d] at h;simp only[Option.getD_some,List.nil_append] at h
 rcases aAs h with f|⟨e,l,i,b⟩
 ·simp at f
 ·refine⟨e,by simp_all,i,b.imp_right fun b=>?_⟩
  rw[List.getD_eq_getElem?_getD] at b ⊢;rw[List.getElem?_take] at b
  grind
theorem asX:∀(L:List Oper) (i:Nat),agz i L=true->∀(k:Nat) (o:Oper),L[k]?=some o->∀e∈o.after,Region.binds .any e=true->e.on<i+k
 |[],i,_,k,o,a,_,_,_=>by simp at a
 |o::L,i,h,k,c,a,e,d,b=>by
  simp only[agz,Bool.and_eq_true,List.all_eq_true] at h
  cases k with
  |zero=>
   grind
  |succ k=>
   have:=asX L (i+1) h.2 k c (by simp_all) e d b
   omega
theorem asY {c:List Nat}:∀{l:List og},agB c l=true->∀(p q:Nat) (y x:og),p<q->l[p]?=some y->l[q]?=some x->
  (c.getD x.idx 0).testBit y.idx=true\/(aik y x=true/\(agy y x=true\/aki y x=true))
 |[],_,p,q,y,x,_,e,_=>by simp at e
 |a::r,h,p,q,y,x,b,e,d=>by
  simp only[agB,Bool.and_eq_true,List.all_eq_true] at h
  match q,b with
  |q+1,b=>
   simp only[List.getElem?_cons_succ] at d
   cases p with
   |zero=>
    grind
   |succ p=>exact asY h.2 p q y x (by omega) (by simp_all) d
theorem asZ {d:List Nat}:∀{l:List og} (p q:Nat) (y x:og),p<q->l[p]?=some y->l[q]?=some x->¬(d.getD x.idx 0).testBit y.idx=true->agy y x=false->(y.idx,x.idx)∈adh d l
 |[],p,q,y,x,_,c,_,_,_=>by simp at c
 |a::r,p,q,y,x,b,c,e,g,f=>by
  simp only[adh,List.mem_append]
  match q,b with
  |q+1,b=>
   simp only[List.getElem?_cons_succ] at e
   cases p with
   |zero=>
    grind
   |succ p=>exact .inr (asZ p q y x (by omega) (by simp_all) e g f)
section
variable {P:Program} {A:qa} {D:List Deferred} {call:lU} {base:Nat}
theorem anv:∀{l:List og} {st:St} {p:Nat} {x:og} {t:List Nat×List Nat},l[p]?=some x->(ents call base l st)[p]?=some t->∃st',t=entry call base x st'
 |[],st,p,x,t,b,_=>by simp at b
 |i::l,st,p,x,t,b,a=>by
  simp only[ents] at a
  cases p with
  |zero=>grind
  |succ p=>
   simp only[List.getElem?_cons_succ] at b a;split at a
   ·exact anv b a
   ·simp at a
theorem anw:∀{l:List og} {st s:St} {p:Nat} {x:og} {t:List Nat×List Nat},An call base l st=some s->(l.map (·.idx)).Nodup->l[p]?=some x->(ents call base l st)[p]?=some t->acH (Zp call base l st) x.idx=t
 |[],st,s,p,x,t,_,_,a,_=>by simp at a
 |i::l,st,s,p,x,t,b,g,a,d=>by
  simp only[An] at b;split at b
  ·rename_i j k
   simp only[List.map_cons,List.nodup_cons] at g
   have e:Zp call base (i::l) st=(i.idx,entry call base i st)::Zp call base l j:=by
    grind[Zp,entry]
   rw[e];simp only[ents,k] at d
   cases p with
   |zero=>grind[acH]
   |succ p=>
    simp only[List.getElem?_cons_succ] at a d
    have c:i.idx≠x.idx:=fun h=>g.1 (h▸List.mem_map_of_mem (f:=fun i:og=>i.idx) (List.mem_of_getElem? a))
    simp only[acH,beq_iff_eq,c,if_false]
    exact anw b g.2 a d
  ·cases b
theorem as0 {i:og} {st:St} (h:i.op.cls=0):entry call base i st=([],[]):=by
 grind[entry,ant,aeG]
theorem as1 {i:og} {st:St} (h:i.op.cls=1):(entry call base i st).2=[]:=by
 grind[entry,aeG]
theorem as2 {a b:List Nat} (h:agx a b=true):∀j∈a,j∉b:=by
 intro j c d
 have:=List.all_eq_true.1 h j c
 simp_all
theorem aAu {n0:Nat} {c:List Nat} {l:List og} {st s:St} (z:An call base l st=some s) (A:(l.map (·.idx)).Nodup) (r:agB c l=true)
  (b:((adh c l).isEmpty||aew n0 (Zp call base l st) (adh c l))=true) {p q:Nat} {y x:og} {E D:List Nat×List Nat} (e:p<q) (i:l[p]?=some y) (j:l[q]?=some x)
  (d:(ents call base l st)[p]?=some E) (f:(ents call base l st)[q]?=some D):(c.getD x.idx 0).testBit y.idx=true\/ait n0 y E x D:=by
 rcases asY r p q y x e i j with h|⟨g,I⟩
 ·exact .inl h
 by_cases u:(c.getD x.idx 0).testBit y.idx=true
 ·exact .inl u
 right
 obtain⟨v,m⟩:=anv i d
 obtain⟨C,k⟩:=anv j f
 cases a:agy y x with
 |true=>
  unfold agy at a;simp only[Bool.or_eq_true,Bool.and_eq_true,beq_iff_eq] at a
  rcases a with(a|a)|⟨a,n⟩
  ·have:=as0 (call:=call) (base:=base) (st:=v) a
   rw[this] at m;subst m
   exact⟨g,by simp,by simp,fun h=>(by omega),by simp⟩
  ·have:=as0 (call:=call) (base:=base) (st:=C) a
   rw[this] at k;subst k
   exact⟨g,by simp,by simp,fun _=>⟨by rw[a];decide,by simp⟩,fun h=>(by omega)⟩
  ·have B:=as1 (call:=call) (base:=base) (st:=v) a
   have w:=as1 (call:=call) (base:=base) (st:=C) n
   rw[<-m] at B;rw[<-k] at w
   exact⟨g,by simp[B],by simp[w],fun h=>(by omega),fun h=>(by omega)⟩
 |false=>
  have M:aki y x=true:=I.resolve_left (by simp[a])
  have J:=asZ p q y x e i j u a
  have o:(adh c l).isEmpty=false:=by
   grind
  rw[o,Bool.false_or] at b
  have t:=List.all_eq_true.1 b _ J
  simp only[anw z A i d,anw z A j f,Bool.and_eq_true,List.all_eq_true,decide_eq_true_eq] at t
  obtain⟨⟨⟨F,K⟩,H⟩,G⟩:=t
  refine⟨g,as2 F,as2 K,fun L=>⟨fun N=>?_,G⟩,fun _=>H⟩
  grind[aki]
theorem lh.eq {e:Nat} {f:World} {b:gB} {d:Store} {st st':St} {a:Act} {w:World} {σ:gB} (h:lh A e D f b d st a w σ) (c:QR st st'):lh A e D f b d st' a w σ where
 vy:=c.2▸h.vy
 env:=fun s=>by rw[<-c.1 s,<-c.2];exact h.env s
 size:=h.size
 defers:=h.defers
 ext:=c.2▸h.ext
theorem lh.drew {e:Nat} {f:World} {b:gB} {d:Store} {st:St} {a:Act} {w:World} {σ:gB} (h:lh A e D f b d st a w σ):lh A e D f b d st a {w with drawn:=w.drawn+1} σ:=by
 have c:Ext w σ st.o {w with drawn:=w.drawn+1} σ st.o:=⟨Nat.le_refl _,fun _ _ h=>⟨rfl,h⟩,Nat.le_refl _,fun _ _ h=>⟨h,fun _ h=>⟨h,rfl⟩⟩,fun _ h=>⟨h,rfl⟩,rfl,rfl,rfl⟩
 exact⟨⟨h.vy.len,h.vy.dist,h.vy.bnd,fun i x g=>(h.vy.obj i x g).ext c rfl fun _ _ _=>rfl,h.vy.av,h.vy.QL⟩,fun s=>(h.env s).ext c,h.size,h.defers,h.ext.trans c⟩
theorem aAv {c:Type} (b a:List c) (x:c):b++a=(b++x::a).eraseIdx b.length:=by
 grind
structure anx (P:Program) (nt:Nat) (fl:List Nat) (ops:Array Oper) (call:lU) (base n0:Nat) (st2:St) (l:List og) (listed:Array Bool) (st:St):Prop where
 run:∃s,An call base l st=some s/\QR st2 s
 len:n0<=st.o.length
 rel:∀(p q:Nat) (y x:og) (ty tx:List Nat×List Nat),p<q->l[p]?=some y->l[q]?=some x->(ents call base l st)[p]?=some ty->(ents call base l st)[q]?=some tx->((abD ops).getD x.idx 0).testBit y.idx=true\/ait n0 y ty x tx
 comp:∀x∈l,∃ei,adg P nt fl ops ei x.idx=some x
 nodup:(l.map (·.idx)).Nodup
 sz:listed.size=ops.size
 fa:∀k,k<ops.size->(listed.getD k true=false↔∃x∈l,x.idx=k)
 closed:∀k m,listed.getD k false=true->((abD ops).getD k 0).testBit m=true->listed.getD m false=true
theorem getD_lt {c:Array Bool} {k:Nat} (h:k<c.size) (a b:Bool):c.getD k a=c.getD k b:=by
 simp_all
theorem aAw {M:Nat} {fl:List Nat} {c:Array Oper} (K:ab5 P call) (a5:agz 0 c.toList=true) {n0:Nat} {st2:St} {w0:World} {L:gB} {o0:Store} {Q:Exit->Act->World->Prop}
  (hQ:∀Y w' F,lh A M D w0 L o0 st2 Y w' F->Q .normal Y w') {my:Option Nat}:∀(h:Nat) (l:List og) (b:Array Bool) (st:St) (a:Act) (w:World) (σ:gB),l.length<=h->
   anx P M fl c call base n0 st2 l b st->lh A M D w0 L o0 st a w σ->wpAnyIn (FR my) 0 P .any c Q h b a w:=by
 have C:∀(b:Array Bool) (st:St) (a:Act) (w:World) (σ:gB),anx P M fl c call base n0 st2 [] b st->lh A M D w0 L o0 st a w σ->Q .normal a w:=by
  intro b st a w σ d O
  obtain⟨s,n,h2⟩:=d.run
  simp only[An,Option.some.injEq] at n;subst n
  exact hQ _ _ _ (O.eq h2.symm)
 have H:∀(l:List og) (b:Array Bool) (st:St),anx P M fl c call base n0 st2 l b st->∀(k:Nat),(∃x∈l,x.idx=k)->Region.ready .any c b≠[]:=by
  intro l b st d k
  induction k using Nat.strongRecOn with
  |_ k ih=>
   rintro⟨x,G,rfl⟩
   obtain⟨V,X⟩:=d.comp x G
   cases I:c[x.idx]? with
   |none=>grind[adg]
   |some o=>
    have j:x.idx<c.size:=(Array.getElem?_eq_some_iff.1 I).1
    by_cases i:∀e∈o.after,Region.binds .any e=true->b.getD e.on false=true
    ·intro u
     have:x.idx∈Region.ready .any c b:=mem_ready.2 ⟨(d.fa _ j).2 ⟨x,G,rfl⟩,o,I,i⟩
     simp_all
    ·simp only[Classical.not_forall] at i
     obtain⟨e,he,hb,hn⟩:=i
     have N:=asX c.toList 0 a5 x.idx o (by simp_all) e he hb
     simp only[Nat.zero_add] at N
     refine ih e.on N ((d.fa e.on (by omega)).1 ?_)
     rw[getD_lt (by rw[d.sz];omega) true false]
     simp_all
 intro h
 induction h with
 |zero=>
  intro l b st a w σ hl d O
  have:l=[]:=List.eq_nil_of_length_eq_zero (by omega)
  subst this
  refine⟨?_,C b st a w σ d O⟩
  rw[List.eq_nil_iff_forall_not_mem];intro k j
  obtain⟨h0,o,I,_⟩:=mem_ready.1 j
  obtain⟨x,G,_⟩:=(d.fa k (Array.getElem?_eq_some_iff.1 I).1).1 h0
  simp at G
 |succ h ih=>
  intro l b st a w σ hl d O
  refine⟨fun u=>?_,fun k j=>?_⟩
  ·cases l with
   |nil=>grind
   |cons x l=>exact absurd u (H _ b st d x.idx ⟨x,by simp,rfl⟩)
  ·obtain⟨h0,o,I,i⟩:=mem_ready.1 j
   have a2:k<c.size:=(Array.getElem?_eq_some_iff.1 I).1
   obtain⟨x,G,rfl⟩:=(d.fa k a2).1 h0
   obtain⟨f,g,rfl⟩:=List.append_of_mem G
   obtain⟨s,R,S⟩:=d.run
   have T:∀m,((abD c).getD x.idx 0).testBit m=true->b.getD m false=true:=by
    intro m hm
    obtain⟨e,he,hb,n⟩:=aAt I hm
    rcases n with rfl|n
    ·simp_all
    ·exact d.closed _ _ (i e he hb) n
   obtain⟨s1,s',f1,f2,f3,f4,f5⟩:=front (n0:=n0) f R d.len fun p y W tx hp n h2=>by
    have a0:p<f.length:=(List.getElem?_eq_some_iff.1 hp).1
    have J:(f++x::g)[p]?=some y:=by grind
    rcases d.rel p f.length y x W tx a0 J (by simp) n h2 with Z|Z
    ·exfalso
     have h4:=T _ Z
     obtain⟨V,X⟩:=d.comp y (List.mem_of_getElem? J)
     cases U:c[y.idx]? with
     |none=>simp[adg,U] at X
     |some oy=>
      have a6:y.idx<c.size:=(Array.getElem?_eq_some_iff.1 U).1
      have h5:=(d.fa _ a6).2 ⟨y,List.mem_of_getElem? J,rfl⟩
      grind
    ·exact Z
   obtain⟨V,X⟩:=d.comp x G
   refine asM K X f1 O fun Y w' F a4=>?_
   have a8:=d.nodup
   have a7:=aAv f g x
   have v:∀(p:Nat) (y:og),(f++g)[p]?=some y->(f++x::g)[if p<f.length then p else p+1]?=some y:=by
    grind
   have B:∀(p:Nat) (t:List Nat×List Nat),(ents call base (f++g) s1)[p]?=some t->(ents call base (f++x::g) st)[if p<f.length then p else p+1]?=some t:=by
    grind
   obtain⟨_,_,E,_⟩:=agW f1
   refine ih (f++g) _ s1 Y w' F (by grind) ⟨⟨s',f2,S.trans f3⟩,Nat.le_trans d.len E,fun p q y z W tz a9 hy hz a1 a3=>?_,fun y hy=>d.comp y ?_,?_,by simp[d.sz],fun k j=>?_,fun k m j hm=>?_⟩ a4
   ·refine d.rel _ _ y z W tz ?_ (v p y hy) (v q z hz) (B p W a1) (B q tz a3)
    split<;>split<;>omega
   ·grind
   ·grind
   ·by_cases r:k=x.idx
    ·subst r
     have n:(b.setIfInBounds x.idx true).getD x.idx true=true:=by simp
     grind
    ·rw[getD_set_ne true (Ne.symm r),d.fa k j]
     grind
   ·by_cases r:k=x.idx
    ·grind[getD_set_true]
    ·rw[getD_set_ne false (Ne.symm r)] at j
     exact getD_set_true (d.closed k m j hm)
theorem as3:∀{l:List Nat},nodupB l=true->l.Nodup
 |[],_=>List.nodup_nil
 |a::r,h=>by
  simp only[nodupB,Bool.and_eq_true,Bool.not_eq_true',List.contains_eq_mem,decide_eq_false_iff_not] at h
  exact List.nodup_cons.2 ⟨h.1,as3 h.2⟩
theorem aAx {b:Nat} {fl:List Nat} {a:Array Oper} {ei k:Nat} {x:og} (h:adg P b fl a ei k=some x):x.idx=k/\k<a.size:=by
 unfold adg at h;split at h
 ·cases h
 ·rename_i o d
  split at h
  ·obtain⟨c,_,rfl⟩:=Option.map_eq_some_iff.1 h
   grind
  ·cases h
theorem aAy (g:ab5 P call) {s:Nat} {fl:List Nat} {d:Array Oper} {id k:Nat} {c:List Nat} {l:List og} (S:afo P s fl d 0 c=some (l,k)) (h:P.follows .mixedOrders=true)
  (C:c.length=d.size) (L:nodupB c=true) (M:agB (abD d) l=true) (u:agz 0 d.toList=true) (r:(List.range d.size).all c.contains=true)
  {b st2:St} (T:An call b.o.length l ⟨b.env,b.o++Ao k⟩=some st2)
  (G:((adh (abD d) l).isEmpty||aew (b.o++Ao k).length (Zp call b.o.length l ⟨b.env,b.o++Ao k⟩) (adh (abD d) l))=true)
  {I:World} {n:gB} {F:Store} {a:Act} {w:World} {σ:gB} {Q:Exit->Act->World->Prop} (O:lh A s D I n F ⟨b.env,b.o++Ao k⟩ a w σ) (K:∀B w' t,lh A s D I n F st2 B w' t->Q .normal B w') {my:Option Nat}:(Code.region id d true).wpIn (FR my) 0 P Q a w:=by
 obtain⟨Z,W⟩:=anp S
 have E:l.map (·.idx)=c:=by
  apply List.ext_getElem?
  intro j;rw[List.getElem?_map]
  cases f:l[j]? with
  |none=>
   simp_all
  |some x=>
   have v:=(List.getElem?_eq_some_iff.1 f).1
   have z:=List.getElem?_eq_getElem (l:=c) (i:=j) (by omega)
   obtain⟨X,V⟩:=W j x _ f z
   rw[z]
   simp[(aAx V).1]
 have e:(l.map (·.idx)).Nodup:=by grind[as3]
 refine wpIn_region_any h (aAw (fl:=fl) (base:=b.o.length) (n0:=(b.o++Ao k).length) g u K d.size l _ ⟨b.env,b.o++Ao k⟩ a _ σ (by omega) ⟨⟨st2,T,QR.refl _⟩,Nat.le_refl _,fun p q y x ty tx R Y H N U=>?_,fun x H=>?_,e,by simp,fun j f=>?_,fun j m f=>?_⟩ O.drew)
 ·grind[aAu]
 ·obtain⟨j,f⟩:=List.getElem?_of_mem H
  have v:=(List.getElem?_eq_some_iff.1 f).1
  have z:=List.getElem?_eq_getElem (l:=c) (i:=j) (by omega)
  grind
 ·have J:(Array.replicate d.size false).getD j true=false:=by simp[f]
  rw[J]
  refine⟨fun _=>?_,fun _=>rfl⟩
  have:=List.all_eq_true.1 r j (List.mem_range.2 f)
  grind
 ·exfalso
  rw[Array.getD_eq_getD_getElem?,Array.getElem?_replicate] at f
  grind
end
section
variable {P:Program} {A:qa} {D:List Deferred} {w w':World} {σ σ':gB} {o o':Store}
theorem gp.fresh (i:gp A w σ o) (e:TypeId) (sz:Nat) (pu:Bool):∃a,gp A w a (o++[.cells [] e sz pu])/\Ext w σ o w a (o++[.cells [] e sz pu])/\a[o.length]?=some none:=by
 obtain⟨k,j⟩:=i.Ao 1
 have b:(o++Go.Vi.Ao 1)[o.length]?=some .dead:=by simp[Go.Vi.Ao]
 have c:(o++Go.Vi.Ao 1).set o.length (.cells [] e sz pu)=o++[.cells [] e sz pu]:=by
  grind[Go.Vi.Ao]
 have f:o.length<(σ++List.replicate 1 none).length:=by simp[i.len]
 obtain⟨d,g⟩:=k.upd (w':=w) (x':=.cells [] e sz pu) (s':=none) b (Nat.le_refl _) rfl rfl rfl (fun _ _ _=>rfl) (fun _ _ h=>by cases h) trivial (fun l=>by
  simp only[pd]
  exact⟨fun _=>rfl,rfl,.inl ⟨by simp_all,trivial⟩⟩)
 rw[c] at d g
 exact⟨_,d,j.trans g,by simp_all⟩
theorem as4 {n:Nat} {e:TypeId} {sz:Nat} {pu:Bool} (c:o[n]?=some (.cells [] e sz pu)) (a:σ[n]?=some none):cQ A w σ o (.os n 0 0 0) (.slice none 0 0):=by
 simp only[cQ]
 refine⟨⟨[],e,sz,pu,c,Nat.le_refl _⟩,none,0,rfl,Nat.le_refl _,fun b _=>?_⟩
 grind[Ss]
theorem lh.unp {t:Nat} {r:World} {g:gB} {p:Store} {st:St} {a:Act} (h:lh A t D r g p st a w σ) (id:Nat):∃i,lh A t D r g p (akf id st) a w i:=by
 unfold akf;split
 ·rename_i E e L k
  have n:id<st.o.length:=(List.getElem?_eq_some_iff.1 k).1
  have d:id<σ.length:=by rw[h.vy.len];exact n
  obtain⟨x,q⟩:=h.vy.upd (w':=w) (x':=.cells E e L false) (s':=σ[id]) k (Nat.le_refl _) rfl rfl rfl (fun _ _ _=>rfl)
   (fun b c N=> .inl ⟨c,by simp_all⟩) ⟨_,e,false,rfl,by simp,fun _=>List.getElem?_eq_getElem d⟩ (fun K=>by
    have f:=h.vy.obj id _ k
    simp only[pd] at f ⊢
    obtain⟨P,H,I⟩:=f
    refine⟨fun G=>(by cases G),H,?_⟩
    rcases I with⟨O,R⟩|⟨b,l,m,Q,J,u,y,F,M⟩
    ·simp_all
    ·refine .inr ⟨b,l,m,?_,J,u,y,F,fun j c C=>?_⟩
     ·simp_all
     ·obtain⟨v,z,B⟩:=M j c C
      exact⟨v,z,B.ext K⟩)
  exact⟨_,x,fun s=>(h.env s).ext q,h.size,h.defers,h.ext.trans q⟩
 grind
theorem lh.aAA {M:Nat} {P:World} {u:gB} {U:Store} {st:St} {a:Act} (h:lh A M D P u U st a w σ) (x:Sm):∃C,lh A M D P u U (akg x st) a w C:=by
 obtain⟨f,I,z,V⟩:=h.vy.fresh x.e x.sz x.pu
 have r:(st.o++[fZ.cells [] x.e x.sz x.pu])[st.o.length]?=some (.cells [] x.e x.sz x.pu):=by simp
 unfold akg;split
 ·split
  ·rename_i N
   refine⟨f,I,fun s=>?_,h.size,h.defers,h.ext.trans z⟩
   simp only[pI]
   cases X:Nat.beq x.slot s with
   |true=>
    have:=Nat.eq_of_beq_eq_true X
    subst this
    have:=h.env x.slot
    grind[B0,as4]
   |false=>exact(h.env s).ext z
  ·split
   ·exact h.unp _
   grind
  grind
 ·rename_i k _
  split
  ·rename_i i d a1 N
   split
   ·rename_i p e y pu ho
    split
    ·rename_i R
     split
     ·rename_i g
      obtain⟨L,rfl⟩:=g
      have a0:i<st.o.length:=(List.getElem?_eq_some_iff.1 ho).1
      have l:i<f.length:=by grind
      have n:(st.o++[fZ.cells [] x.e x.sz x.pu])[i]?=some (.cells p e y false):=by grind
      have Z:d+k<p.length:=(List.getElem?_eq_some_iff.1 R).1
      obtain⟨O,G⟩:=I.upd (w':=w) (x':=.cells (p.set (d+k) (.os st.o.length 0 0 0)) e y false) (s':=f[i]) n (Nat.le_refl _) rfl rfl rfl (fun _ _ _=>rfl)
       (fun b c N=> .inl ⟨c,by simp_all⟩) ⟨_,e,false,rfl,by simp,fun _=>List.getElem?_eq_getElem l⟩ (fun S=>by
        have t:=I.obj i _ n
        simp only[pd] at t ⊢
        obtain⟨q1,q2,q3⟩:=t
        refine⟨fun h=>(by cases h),?_,?_⟩
        ·refine aaE.2 fun c H=>?_
         rcases List.mem_or_eq_of_mem_set H with T|T
         ·grind[aaE]
         ·subst T;rfl
        ·rcases q3 with⟨_,h0⟩|⟨b,K,B,r1,W,r3,Y,r5,Q⟩
         ·simp_all
         ·refine .inr ⟨b,K,B,?_,W,r3,Y,by simp_all,fun j c m=>?_⟩
          ·simp_all
          ·rw[List.getElem?_set] at m
           split at m
           ·rename_i J
            subst J
            injection m with m;subst m
            obtain⟨v,E,F⟩:=Q _ _ R
            refine⟨v,E,?_⟩
            rw[B0 F]
            exact(as4 r V).ext S
           ·obtain⟨v,E,F⟩:=Q j c m
            exact⟨v,E,F.ext S⟩)
      have q:(st.o++[fZ.cells [] x.e x.sz x.pu]).set i (.cells (p.set (d+k) (.os st.o.length 0 0 0)) e y false)=(st.o.set i (.cells (p.set (d+k) (.os st.o.length 0 0 0)) e y false))++[fZ.cells [] x.e x.sz x.pu]:=by
       simp_all
      rw[q] at O G
      exact⟨_,O,fun s=>((h.env s).ext z).ext G,h.size,h.defers,(h.ext.trans z).trans G⟩
     grind
    grind
   grind
  grind
theorem lh.pur {t:Nat} {r:World} {f:gB} {p:Store} {st:St} {a:Act} (h:lh A t D r f p st a w σ) (id:Nat):∃i,lh A t D r f p (aii id st) a w i:=by
 unfold aii;split
 ·rename_i G e x k
  split
  ·rename_i E
   have n:id<st.o.length:=(List.getElem?_eq_some_iff.1 k).1
   have d:id<σ.length:=by rw[h.vy.len];exact n
   obtain⟨y,q⟩:=h.vy.upd (w':=w) (x':=.cells G e x true) (s':=σ[id]) k (Nat.le_refl _) rfl rfl rfl (fun _ _ _=>rfl)
    (fun b c N=> .inl ⟨c,by simp_all⟩) ⟨_,e,true,rfl,by simp,fun _=>List.getElem?_eq_getElem d⟩ (fun H=>by
     have g:=h.vy.obj id _ k
     simp only[pd] at g ⊢
     obtain⟨P,F,K⟩:=g
     refine⟨fun _=>E,F,?_⟩
     rcases K with⟨O,R⟩|⟨b,l,m,Q,L,u,z,I,M⟩
     ·simp_all
     ·refine .inr ⟨b,l,m,?_,L,u,z,I,fun j c B=>?_⟩
      ·simp_all
      ·obtain⟨v,C,J⟩:=M j c B
       exact⟨v,C,J.ext H⟩)
   exact⟨_,y,fun s=>(h.env s).ext q,h.size,h.defers,h.ext.trans q⟩
  grind
 grind
theorem lh.hint {f:Nat} {g:World} {b:gB} {e:Store} {st:St} {a:Act} {lo:Nat} (l:e.length<=lo) (h:lh A f D g b e st a w σ) (x:Sm):∃d,lh A f D g b e (QJ lo x st) a w d:=by
 unfold QJ;split
 ·exact h.aAA x
 ·split
  ·rename_i o _ _ _ _
   split
   ·rename_i p
    have m:=Nat.le_of_ble_eq_true p
    obtain⟨k,h⟩:=h.pur o
    unfold akh
    simp only
    split
    ·rename_i q t n j
     have c:=asG j
     exact⟨_,h.vy.gy c,fun s=>cQ.gy h.vy c _ _ _ (asE n s) (h.env s),h.size,h.defers,h.ext.gy c fun i r=>by
      grind⟩
    grind
   grind
  grind
theorem as5 {s:World} {f:gB} {h:Store} (j:gp A w σ o) (g:Ext s f h w σ o) {l r:AV} {u:Value} (y:cQ A w σ o l u) {own:Bool} (a:finish own h.length l o=some (r,o')):
  ∃d,gp A w d o'/\cQ A w d o' r u/\Ext s f h w d o':=by
 unfold finish at a
 cases own with
 |true=>grind[az1]
 |false=>
  simp only[Bool.false_eq_true,if_false] at a;split at a
  ·rename_i D
   split at a
   ·rename_i C m
    simp only[Option.some.injEq,Prod.mk.injEq] at a
    obtain⟨rfl,rfl⟩:=a
    have t:h=[]:=List.eq_nil_of_length_eq_zero D
    subst t
    refine⟨[],akA w j.QL,anc j (fun b _ a=>a.2) 6 l C u m (fun q _ b c p=>j.av q b c p) y,g.size,fun b v B=>⟨(g.blk b v B).1,fun⟨i,c,z⟩=>by simp at z⟩,Nat.le_refl _,fun q x k=>?_,fun q k=>?_,g.os,g.tape,g.output⟩
    ·obtain⟨G,e,F,E,n,_⟩:=k;simp at n
    ·obtain⟨H,I,E,n⟩:=k;simp at n
   ·cases a
  ·cases a
end
open Go.RowKit
section
variable {A:qa} {w w':World} {σ:gB} {o:Store}
mutual
theorem cQ.to (g:∀(p:Addr) (v:Value),w.cell? p=some v->w'.cell? p=some v):∀(c:AV) (v:Value),cQ A w σ o c v->cQ A w' σ o c v
 | .ud,_,_=>by simp[cQ]
 | .sc u,v,d=>by grind[cQ]
 | .agg e,v,d=>by
  simp only[cQ] at d ⊢
  obtain⟨k,rfl,i⟩:=d
  exact⟨k,rfl,ey.to g e _ i⟩
 | .eW e,v,d=>by
  simp only[cQ] at d ⊢
  obtain⟨k,rfl,i⟩:=d
  exact⟨k,rfl,ey.to g e _ i⟩
 | .sl n e,v,d=>by
  simp only[cQ] at d ⊢
  obtain⟨a,m,rfl,G,t,s⟩:=d
  exact⟨a,m,rfl,G,t,oQ.to g e a 0 s⟩
 | .ep e l,v,d=>by
  simp only[cQ] at d ⊢
  obtain⟨a,rfl,t,s⟩:=d
  exact⟨a,rfl,t,oQ.to g e _ 0 s⟩
 | .ptr y l q,v,d=>by grind[cQ]
 | .os y l E q,v,d=>by grind[cQ]
 | .mp y,v,d=>by grind[cQ]
 | .fn f a b,v,d=>by
  simp only[cQ] at d ⊢
  obtain⟨C,D,rfl,z,F⟩:=d
  exact⟨C,D,rfl,ey.to g a _ z,ey.to g b _ F⟩
theorem ey.to (g:∀(p:Addr) (v:Value),w.cell? p=some v->w'.cell? p=some v):∀(e:List AV) (k:List Value),ey A w σ o e k->ey A w' σ o e k
 |[],_,h=>by grind[ey]
 |c::e,k,h=>by
  simp only[ey] at h ⊢
  obtain⟨v,r,rfl,x,i⟩:=h
  exact⟨v,r,rfl,cQ.to g c v x,ey.to g e r i⟩
theorem oQ.to (g:∀(p:Addr) (v:Value),w.cell? p=some v->w'.cell? p=some v):∀(e:List AV) (a:Option Addr) (j:Nat),oQ A w σ o e a j->oQ A w' σ o e a j
 |[],_,_,_=>by simp[oQ]
 |c::e,a,j,h=>by
  simp only[oQ] at h ⊢
  obtain⟨⟨b,v,rfl,B,x,d⟩,i⟩:=h
  exact⟨⟨b,v,rfl,B,g _ _ x,cQ.to g c v d⟩,oQ.to g e _ (j+1) i⟩
end
theorem gp.to (a:gp A w σ o) (t:∀(p:Addr) (v:Value),w.cell? p=some v->w'.cell? p=some v) (J:∀(i b c:Nat),σ[i]?=some (some (b,c))->w'.heap[b]?=w.heap[b]?)
  (d:w.heap.size<=w'.heap.size):gp A w' σ o:=by
 refine⟨a.len,a.dist,fun i b c h=>Nat.lt_of_lt_of_le (a.bnd i b c h) d,fun i x F=>?_,a.av,fun b h=>Nat.lt_of_lt_of_le (a.QL b h) d⟩
 have h:=a.obj i x F
 cases x with
 |dead=>grind[pd]
 |cells N e K H=>
  simp only[pd] at h ⊢
  refine⟨h.1,h.2.1,?_⟩
  rcases h.2.2 with s|⟨b,n,g,k,u,y,l,D,C⟩
  ·exact .inl s
  ·refine .inr ⟨b,n,g,k,u,by grind,l,D,fun j c q=>?_⟩
   obtain⟨v,I,f⟩:=C j c q
   exact⟨v,I,f.to t c v⟩
 |map M L H=>
  simp only[pd] at h ⊢
  obtain⟨s,r,b,c,E,G,k,u,y,l⟩:=h
  refine⟨s,r,b,c,E,G,k,by grind,y,fun j e q=>?_⟩
  obtain⟨m,B,z,f⟩:=l j e q
  exact⟨m,B,z,f.to t e.2 _⟩
theorem aiv {r b:Nat} {y:Obj} (h:b≠r):(w.putObj r y).heap[b]?=w.heap[b]?:=by
 simp_all[World.putObj,Ne.symm]
theorem putObj_size {r:Nat} {y:Obj}:(w.putObj r y).heap.size=w.heap.size:=by simp_all
theorem as6 {r:Nat} {x y:Obj} (h:w.heap[r]?=some x) (b:x.isCells=false) (p:Addr) (v:Value) (a:w.cell? p=some v):(w.putObj r y).cell? p=some v:=by
 grind[cells_of_cell,World.cell?_of_block,aiv]
theorem gp.aeH (a:gp A w σ o) {r:Nat} {x y:Obj} (h:w.heap[r]?=some x) (d:x.isCells=false) (g:¬Own σ r):gp A (w.putObj r y) σ o:=
 a.to (as6 h d) (fun i b c f=>aiv fun e=>g ⟨i,c,e▸f⟩) (by simp_all)
theorem cQ.aeH {c:AV} {v:Value} (a:cQ A w σ o c v) {r:Nat} {x y:Obj} (h:w.heap[r]?=some x) (b:x.isCells=false):cQ A (w.putObj r y) σ o c v:=
 a.to (as6 h b) c v
theorem Ext.aeH {c:World} {a:gB} {d:Store} (h:Ext c a d w σ o) {r:Nat} {y:Obj} (g:c.heap.size<=r):Ext c a d (w.putObj r y) σ o where
 size:=by rw[putObj_size];exact h.size
 blk:=fun b e f=>by
  obtain⟨i,j⟩:=h.blk b e f
  grind[aiv]
 len:=h.len
 cur:=h.cur
 isMap:=h.isMap
 os:=h.os
 tape:=h.tape
 output:=h.output
theorem akH {P:Program} {t:Func} {a:Array Value} {m:World} {D:List Deferred} {R:Ending->World->Prop}:∀(j:List Deferred) (w:World),MkD m w j->gp A w σ o->
  (∀w',gp A w' σ o->(∀{c:gB} {q:Store},Ext m c q w σ o->Ext m c q w' σ o)->(∀s v,cQ A w σ o s v->cQ A w' σ o s v)->LeavesInM (FR none) 0 P t a R D .returning w')->
  LeavesInM (FR none) 0 P t a R (j++D) .returning w
 |[],w,_,f,k=>k w f (fun h=>h) (fun _ _ h=>h)
 |d::j,w,g,f,k=>by
  obtain⟨r,x,n,i⟩:=g.2 d (by simp)
  have C:=f.ano i (by simp) (by simp)
  simp only[List.cons_append,LeavesInM]
  refine⟨by simp,.inl ⟨r,w.putObj r (.deferred none),by rw[x],run_takeDeferred i,?_⟩⟩
  refine akH j _ ⟨(List.pairwise_cons.1 g.1).2,fun e p=>?_⟩ (f.aeH i rfl C) fun w' y z E=>k w' y (fun h=>z (h.aeH n)) (fun s v h=>E s v (h.aeH i rfl))
  obtain⟨B,l,b,u⟩:=g.2 e (List.mem_cons_of_mem _ p)
  refine⟨B,l,b,?_⟩
  have:=(List.pairwise_cons.1 g.1).1 e p
  grind[aiv]
theorem anz {P:Program} {m:World}:∀(f:List Deferred) (w:World) (fr:Frame) (cs:List Frame),fr.mode= .returning->fr.defers=f->MkD m w f->gp A w σ o->
  ∃w',StepsIn (Machine.fenced P (FR none)) P (lone fr cs w) (lone {fr with defers:=[]} cs w')/\gp A w' σ o/\(∀{a:gB} {u:Store},Ext m a u w σ o->Ext m a u w' σ o)/\∀s v,cQ A w σ o s v->cQ A w' σ o s v
 |[],w,fr,cs,_,k,_,l=>by
  refine⟨w,?_,l,fun h=>h,fun _ _ h=>h⟩
  have:fr={fr with defers:=[]}:=by rw[<-k]
  rw[<-this]
  exact StepsIn.refl _
 |d::f,w,fr,cs,x,k,j,l=>by
  obtain⟨r,p,q,i⟩:=j.2 d (by simp)
  have C:=l.ano i (by simp) (by simp)
  have b:fr.mode≠ .run:=by rw[x];simp
  have I:=step_collected (cs:=cs) b k (by rw[p]) (run_takeDeferred (P:=P) i)
  have H:(lone fr cs w).fenced P (FR none):=fenced_out (n:=0) trivial (by simp[FR,Fence.wide,Fence.room]) b k (fun g J=>by grind[Target.leads])
  obtain⟨w',E,z,F,D⟩:=anz f (w.putObj r (.deferred none)) {fr with defers:=[]++f} cs x rfl ⟨(List.pairwise_cons.1 j.1).2,fun e y=>by
   obtain⟨G,t,c,B⟩:=j.2 e (List.mem_cons_of_mem _ y)
   refine⟨G,t,c,?_⟩
   have:=(List.pairwise_cons.1 j.1).1 e y
   grind[aiv]⟩ (l.aeH i rfl C)
  exact⟨w',.head H I E,z,fun h=>F (h.aeH q),fun s v h=>D s v (h.aeH i rfl)⟩
theorem aAC {P:Program} {f:FuncId} {m:Func} {c:Code} {args:Array Value} {u:FrameMode} {w:World} {R:Ending->World->Prop}
  (E:P.funcs[f]?=some m) (S:m.body=some c)
  (h:c.wpIn (FR none) 0 P (fun e a r=>(e= .normal\/e= .ret)/\∃(q:World) (g:gB) (l:Store),MkD q r a.defers/\gp A r g l/\∀i,gp A i g l->(∀{n:gB} {I:Store},Ext q n I r g l->Ext q n I i g l)->(∀s v,cQ A r g l s v->cQ A i g l s v)->
   ∃v,(results m a.tmps).run P i= .ok v i/\R (.returned v) i) {tmps:=args++Array.replicate (m.ntmps - args.size) undef,defers:=[]} w):
  CallsDIn (FR none) 0 P f args u w fun e L w'=>L=u/\R e w':=by
 refine⟨trivial,fun d z Q J=>?_⟩
 let b:Frame:={(default:Frame) with fn:=f,kind:=.deferred,roundOf:=none}
 have k:Frame.enter P f args .deferred=
   b.atR {tmps:=args++Array.replicate (m.ntmps - args.size) undef,defers:=[]} [.code c]:=by
  grind[Frame.enter,Frame.atR]
 have F:({d with mode:=u}:Frame)=d:=by subst Q;rfl
 obtain⟨e,p,w',O,j⟩:=h b [] (d::z) rfl trivial J
 rw[<-k] at j
 obtain⟨N,q,g,l,H,K,G⟩:=O
 rcases N with rfl|rfl
 ·obtain⟨i,C,t,y,B⟩:=anz (P:=P) p.defers w' {b.atR p [] with mode:=.returning} (d::z) rfl rfl H K
  obtain⟨v,D,x⟩:=G i t y B
  exact⟨.returned v,u,i,_,⟨rfl,x⟩,(by rw[F];exact StepsIn.trans (StepsIn.trans j (.one (fenced_calm (fr:=b.atR p []) trivial J rfl) (stepR_end rfl))) C),rfl,rfl,rfl,rfl,m,E,D⟩
 ·obtain⟨o,M⟩:=j.1 rfl
  obtain⟨i,C,t,y,B⟩:=anz (P:=P) p.defers w' {b.atR p o with mode:=.returning} (d::z) rfl rfl H K
  obtain⟨v,D,x⟩:=G i t y B
  exact⟨.returned v,u,i,_,⟨rfl,x⟩,(by rw[F];exact StepsIn.trans M C),rfl,rfl,rfl,rfl,m,E,D⟩
end
open Go.RowKit
def Out.aeI:Out->Exit
 | .norm=> .normal
 | .exit a=> .exit a
 | .ret=> .ret
 | .goto l=> .goto l
section
variable {P:Program} {A:qa} {D:List Deferred} {w w':World} {σ σ':gB} {o o':Store}
theorem aAD (a:List Nat) (env:Ku) (s:Nat):pI (prune a env) s=pI env s\/pI (prune a env) s= .ud:=by
 unfold prune
 induction a with
 |nil=>right;rfl
 |cons x a b=>
  simp only[List.map_cons,pI]
  cases c:Nat.beq x s<;>simp_all
theorem aAE (t:Nat) (env:Ku) (s:Nat):pI (adb t env) s=pI env s\/pI (adb t env) s= .ud:=by
 induction env with
 |nil=>left;rfl
 |cons p env c=>
  simp only[adb]
  cases a:Nat.beq p.1 t with
  |true=>
   simp only[cond_true]
   by_cases d:p.1=s
   ·have e:=Nat.eq_of_beq_eq_true a
    right
    have:∀env:Ku,pI (adb t env) t= .ud:=by
     intro env
     induction env with
     |nil=>rfl
     |cons q env c=>
      simp only[adb]
      cases b:Nat.beq q.1 t with
      |true=>simp_all
      |false=>simp_all[pI]
    simp_all
   ·have:pI (p::env) s=pI env s:=by
     simp only[pI]
     have:Nat.beq p.1 s=false:=by
      cases h:Nat.beq p.1 s<;>simp_all
     rw[this];rfl
    simp_all
  |false=>
   simp only[cond_false,pI]
   grind
theorem lh.drop {d:Nat} {e:World} {b:gB} {c:Store} {st:St} {a:Act} (h:lh A d D e b c st a w σ) (x:Operand):lh A d D e b c ⟨ab2 x st.env,st.o⟩ a w σ where
 vy:=h.vy
 env:=fun s=>by
  unfold ab2;split
  ·rename_i t
   rcases aAE t st.env s with f|f
   ·simp only[f];exact h.env s
   grind[cQ]
  ·exact h.env s
 size:=h.size
 defers:=h.defers
 ext:=h.ext
theorem lh.prune {e:Nat} {f:World} {c:gB} {d:Store} {st:St} {a:Act} (h:lh A e D f c d st a w σ) (b:List Nat):lh A e D f c d ⟨Go.Vi.prune b st.env,st.o⟩ a w σ where
 vy:=h.vy
 env:=fun s=>by
  rcases aAD b st.env s with g|g
  ·simp only[g];exact h.env s
  grind[cQ]
 size:=h.size
 defers:=h.defers
 ext:=h.ext
theorem aAF {env:Ku} {s:Nat}:pI env s= .ud\/∃p∈env,p.2=pI env s:=by
 induction env<;>grind[pI]
theorem lh.trim {g:Nat} {f:World} {b:gB} {d:Store} {st:St} {a:Act} (h:lh A g D f b d st a w σ) {k:Nat} (i:d.length<=k):∃c,lh A g D f b d (Go.Vi.trim k st) a w c:=by
 unfold Go.Vi.trim;split
 ·grind
 ·split
  ·rename_i e
   simp only[Bool.and_eq_true,List.all_eq_true] at e
   refine⟨σ.take k,⟨h.vy.take e.2,fun s=>?_,h.size,h.defers,h.ext.take i⟩⟩
   grind[aAF,env,cQ,cQ.take]
  grind
theorem lh.Ao {e:Nat} {g:World} {b:gB} {d:Store} {st:St} {a:Act} (h:lh A e D g b d st a w σ) (n:Nat):∃c,lh A e D g b d ⟨st.env,st.o++Go.Vi.Ao n⟩ a w c:=by
 obtain⟨i,f⟩:=h.vy.Ao n
 exact⟨_,i,fun s=>(h.env s).ext f,h.size,h.defers,h.ext.trans f⟩
theorem lh.ac7 {e:Nat} {f:World} {c:gB} {d:Store} {st:St} {a:Act} (h:lh A e D f c d st a w σ) {k:Nat} (g:d.length<=k):∃b,lh A e D f c d ⟨st.env,Go.Vi.ac7 k st.o⟩ a w b:=by
 obtain⟨b,l,j,i⟩:=azY h.vy k
 exact⟨b,l,fun s=>j _ _ (h.env s),h.size,h.defers,i _ _ _ g h.ext⟩
theorem lh.len {d:Nat} {e:World} {b:gB} {c:Store} {st:St} {a:Act} (h:lh A d D e b c st a w σ):c.length<=st.o.length:=h.ext.len
theorem lh.hints {nt:Nat} {w0:World} {XY:gB} {o0:Store} {lo:Nat} (hlo:o0.length<=lo) (l:List Sm):∀{st:St} {a:Act} {σ:gB},lh A nt D w0 XY o0 st a w σ->∃σ',lh A nt D w0 XY o0 (l.foldl (fun s h=>QJ lo h s) st) a w σ':=by
 induction l with
 |nil=>intro st a σ h;exact⟨σ,h⟩
 |cons x l ih=>
  intro st a σ h
  obtain⟨σ1,h1⟩:=lh.hint hlo h x
  exact ih h1
theorem aAG {my:Option Nat} {call:lU} (hcall:ab5 P call) {lo nt:Nat} {H:List RH} {id:Nat} {ops:Array Oper} {draw:Bool} {c:IR} (hc:agC P nt H id ops draw=some c):
  ∃k l Sr live pre post,c= .region id draw k l Sr live pre post/\∀{st st':St},ab1 call k l Sr (pre.foldl (fun s h=>QJ lo h s) st)=some st'->∀{w0:World} {XY:gB} {o0:Store} {a:Act} {w:World} {σ:gB},o0.length<=lo->lh A nt D w0 XY o0 st a w σ->
   (Code.region id ops draw).wpIn (FR my) 0 P (fun e a' w'=>e= .normal/\∃σ',lh A nt D w0 XY o0 (post.foldl (fun s h=>QJ lo h s) ⟨Go.Vi.prune live st'.env,st'.o⟩) a' w' σ') a w:=by
 unfold agC at hc;split at hc
 ·cases hc
 ·rename_i h hh
  have fin:∀(k:Nat) (l:List og) (Sr:List (Nat×Nat)),(∀{st1 st2:St},An call st1.o.length l ⟨st1.env,st1.o++Ao k⟩=some st2->(Sr.isEmpty||aew (st1.o++Ao k).length (Zp call st1.o.length l ⟨st1.env,st1.o++Ao k⟩) Sr)=true->
     ∀{w0:World} {XY:gB} {o0:Store} {a:Act} {w:World} {σ:gB} {Q:Exit->Act->World->Prop},lh A nt D w0 XY o0 ⟨st1.env,st1.o++Ao k⟩ a w σ->(∀a' w' σ',lh A nt D w0 XY o0 st2 a' w' σ'->Q .normal a' w')->(Code.region id ops draw).wpIn (FR my) 0 P Q a w)->
    ∀{st st':St},ab1 call k l Sr (h.pre.foldl (fun s h=>QJ lo h s) st)=some st'->∀{w0:World} {XY:gB} {o0:Store} {a:Act} {w:World} {σ:gB},o0.length<=lo->lh A nt D w0 XY o0 st a w σ->
     (Code.region id ops draw).wpIn (FR my) 0 P (fun e a' w'=>e= .normal/\∃σ',lh A nt D w0 XY o0 (h.post.foldl (fun s h=>QJ lo h s) ⟨Go.Vi.prune h.live st'.env,st'.o⟩) a' w' σ') a w:=by
   intro k l Sr hrun st st' hr w0 XY o0 a w σ hlo hs
   obtain⟨σ1,hs1⟩:=lh.hints hlo h.pre hs
   generalize aHC:h.pre.foldl (fun s h=>QJ lo h s) st=st1 at hr hs1
   unfold ab1 at hr
   simp only at hr
   split at hr
   ·rename_i st2 h2
    split at hr
    ·rename_i anA
     injection hr with hr
     obtain⟨σ2,hs2⟩:=hs1.Ao k
     refine hrun h2 anA hs2 fun a' w' σ' h3=>⟨rfl,?_⟩
     have h4:∃σ4,lh A nt D w0 XY o0 st' a' w' σ4:=by
      subst hr
      by_cases hk:k=0
      ·simp only[hk,if_true];exact⟨σ',h3⟩
      ·simp only[hk,if_false];exact h3.ac7 hs1.len
     obtain⟨σ4,h4⟩:=h4
     exact lh.hints hlo h.post (h4.prune h.live)
    ·cases hr
   ·cases hr
  cases draw with
  |false=>
   simp only[Bool.false_eq_true,if_false] at hc
   obtain⟨⟨l,k⟩,hl,rfl⟩:=Option.map_eq_some_iff.1 hc
   refine⟨k,l,[],h.live,h.pre,h.post,rfl,fin k l [] fun {st1 st2} h2 _ w0 XY o0 a w σ Q hs hQ=>?_⟩
   obtain⟨g1,g2⟩:=anp hl
   exact wpIn_region (asN hcall l (List.range ops.size) g1 g2 _ _ a w σ h2 hs hQ)
  |true=>
   simp only[if_true] at hc
   generalize (if h.perm.isEmpty=true then List.range ops.size else h.perm)=perm at hc
   split at hc
   ·rename_i l k hl
    split at hc
    ·rename_i hcond
     injection hc with hc
     refine⟨k,l,adh (abD ops) l,h.live,h.pre,h.post,hc.symm,fin k l _ fun {st1 st2} h2 anA w0 XY o0 a w σ Q hs hQ=>?_⟩
     simp only[Bool.and_eq_true,beq_iff_eq] at hcond
     exact aAy hcall hl hcond.1.1.1.1.1 hcond.1.1.1.1.2 hcond.1.1.1.2 hcond.1.1.2 hcond.1.2 hcond.2 h2 anA hs hQ
    ·cases hc
   ·cases hc
def afx (_:Program) (my:Option Nat) (_:qa->World->gB->Store->Prop):Md->Prop
 | .plain=>my=none
def Closed (B:qa->World->gB->Store->Prop):Prop:=∀A w c o b a d,B A w c o->Ext w c o b a d->B A b a d
theorem aAH {call:lU} (m:ab5 P call) {my:Option Nat} {B:qa->World->gB->Store->Prop} {md:Md} (G:afx P my B md) (F:Closed B) {lo r:Nat} {H:List RH} {id:Nat} {p:Array Oper} {d:Bool} {c:IR} (y:agC P r H id p d=some c):
  ∃k l j f g b,c= .region id d k l j f g b/\∀{st st':St},amX md d call k l j (g.foldl (fun s h=>QJ lo h s) st)=some st'->∀{q:World} {i:gB} {n:Store} {a:Act} {w:World} {σ:gB},B A q i n->n.length<=lo->lh A r D q i n st a w σ->
   (Code.region id p d).wpIn (FR my) 0 P (fun e x w'=>e= .normal/\∃u,lh A r D q i n (b.foldl (fun s h=>QJ lo h s) ⟨Go.Vi.prune f st'.env,st'.o⟩) x w' u) a w:=by
 obtain⟨k,l,j,f,g,b,v,E⟩:=aAG (my:=my) m (A:=A) (lo:=lo) y
 refine⟨k,l,j,f,g,b,v,?_⟩
 intro st st' z q i n a w σ _ t C
 exact E z t C
structure Sv (P:Program) (T:Tab):Prop where
 fn:∀f F,T.fn f=some F->∃fn H,P.funcs[f]?=some fn/\ako P H fn=some F/\By P f=true
 K:∀f args o own r o',T.K f args o own=some (r,o')->By P f=true/\Uc P f args o r o'/\(own=false->o'=[])
def aiw (P:Program) (T:Tab) (n:Nat):Prop:=
 ∀(g:Option Nat) (m:Md) (B:qa->World->gB->Store->Prop),afx P g B m->Closed B->
 ∀(o:Nat) (c:IR) (p:St) (h:Out) (f:St),exec T m n o c p=some (h,f)->∀(j:Nat) (H:List RH) (b:Code),comp P j H b=some c->∀(D:List Deferred) (A:qa) (l:World) (d:gB) (i:Store) (a:Act) (w:World) (q:gB),B A l d i->i.length<=o->lh A j D l d i p a w q->
  b.wpIn (FR g) 0 P (fun e s r=>e=h.aeI/\∃k,lh A j D l d i f s r k) a w
def aix:qa->World->gB->Store->Prop:=fun _ _ _ _=>True
theorem akI:Closed aix:=fun _ _ _ _ _ _ _ _ _=>trivial
theorem as8:∀(k:Nat) (args:List AV) (s:Nat),pI (EF k args) s=if k<=s then(args[s - k]?).getD .ud else .ud
 |k,[],s=>by simp[EF,pI]
 |k,v::b,s=>by
  simp only[EF,pI]
  by_cases h:k=s
  ·subst h;simp
  ·have a:Nat.beq k s=false:=by
    cases a:Nat.beq k s<;>simp_all
   simp only[a,cond_false];rw[as8 (k+1) b s]
   grind
def aiy (a:Array Value):ResultVar->Sem Value
 | .tmp t=>pure (a.getD t undef)
 | .cell x t=>do loadVar t (<-asAddr (a.getD x undef))
theorem aAI (b:Func) (a:Array Value):results b a=(do let vs <-b.results.mapM (aiy a);pure (if h:vs.size=1 then vs[0] else .tuple vs)):=by
 unfold results
 congr 1
theorem aAJ {m:Nat} {i:World} {e:gB} {l:Store} {st:St} {a:Act} (h:lh A m D i e l st a w σ) {f:ResultVar} {g:aaD} (d:adY P f=some g) {r:AV} (c:ac8 st g=some r):
  ∃u,(aiy a.tmps f).run P w= .ok u w/\cQ A w σ st.o r u:=by
 cases f with
 |tmp t=>
  simp only[adY,Option.some.injEq] at d;subst d;simp only[ac8,Option.some.injEq] at c;subst c
  exact⟨_,rfl,h.env t⟩
 |cell x t=>
  simp only[adY,Option.map_eq_some_iff] at d
  obtain⟨n,j,rfl⟩:=d
  simp only[ac8] at c;split at c
  ·rename_i y s k
   obtain⟨p,z,b⟩:=(h.env x).arZ h.vy k
   obtain⟨u,v,q⟩:=ar0 (P:=P) j b c
   grind[aiy,asAddr]
  ·cases c
theorem anB {K:Nat} {Q:World} {t:gB} {N:Store} {st:St} {a:Act} (h:lh A K D Q t N st a w σ) {m:Func} {H:List aaD} (O:adf (adY P) m.results.toList=some H) {r:AV} (j:aa8 st H=some r):
  ∃u,(results m a.tmps).run P w= .ok u w/\cQ A w σ st.o r u:=by
 obtain⟨n,S⟩:=am6 O
 unfold aa8 at j
 have z:∀(c:List ResultVar) (b:List aaD) (g:List AV),c.length=b.length->(∀(i:Nat) (x:ResultVar) (y:aaD),c[i]?=some x->b[i]?=some y->adY P x=some y)->b.mapM (ac8 st)=some g->
   ∃d:List Value,(c.mapM (aiy a.tmps)).run P w= .ok d w/\ey A w σ st.o g d:=by
  intro c
  induction c with
  |nil=>
   intro b g l _ f
   have:b=[]:=List.eq_nil_of_length_eq_zero (by simp_all)
   simp_all[ey]
  |cons x c R=>
   intro b g l G f
   match b,l with
   |y::b,l=>
    rw[List.mapM_cons] at f
    cases s:ac8 st y with
    |none=>simp[s] at f
    |some v=>
     cases e:b.mapM (ac8 st) with
     |none=>simp_all
     |some C=>
      simp[s,e] at f
      subst f
      obtain⟨u,U,M⟩:=aAJ h (G 0 x y (by simp) (by simp)) s
      obtain⟨d,B,E⟩:=R b C (by grind) (fun i p q J T=>G (i+1) p q (by simpa using J) (by simpa using T)) e
      refine⟨u::d,?_,by grind[ey]⟩
      simp_all
 have F:∀d:List Value,(m.results.toList.mapM (aiy a.tmps)).run P w= .ok d w->
   (results m a.tmps).run P w= .ok (if h:d.length=1 then d[0]'(by omega) else .tuple d.toArray) w:=by
  grind[aAI,Array.mapM_eq_mapM_toList,Sem.run_bind,Sem.run_map,Result.andThen_ok,Sem.run_pure]
 split at j
 ·grind[ey]
 ·rename_i g I f
  injection j with j;subst j
  obtain⟨d,B,l⟩:=z _ _ _ n S f
  have k:=ey.length _ _ l
  have L:¬d.length=1:=by
   intro n
   match g,k.trans n with
   |[v],_=>simp_all
  grind[cQ]
 ·cases j
theorem anC {a:Nat} {args:List AV} {vs:List Value} (d:gp A w σ o) (b:ey A w σ o args vs) (j:args.length<=a):lh A a [] w σ o ⟨EF 0 args,o⟩ {tmps:=vs.toArray++Array.replicate (a - vs.toArray.size) undef,defers:=[]} w σ:=by
 have i:=ey.length _ _ b
 refine⟨d,fun s=>?_,?_,⟨[],rfl,List.Pairwise.nil,by simp⟩,Ext.refl _ _ _⟩
 ·simp only[as8,Nat.zero_le,if_true,Nat.sub_zero]
  cases h:args[s]? with
  |none=>simp[cQ]
  |some c=>
   obtain⟨v,e,g⟩:=ey.get _ _ b s c h
   have f:s<vs.length:=(List.getElem?_eq_some_iff.1 e).1
   have:(vs.toArray++Array.replicate (a - vs.toArray.size) undef).getD s undef=v:=by
    simp_all[Array.getElem?_append_left]
   simp_all
 ·simp;omega
theorem aAK {T:Tab} {n:Nat} (W:aiw P T n) {md:Md} {B:qa->World->gB->Store->Prop} (N:afx P none B md) (L:Closed B) {f:FuncId} {c:Func} {g:Code} {H:List RH} {b:IR} {E:List aaD}
  (t:P.funcs[f]?=some c) (i:c.body=some g) (X:comp P c.ntmps H g=some b) (y:adf (adY P) c.results.toList=some E) (Q:¬c.ntmps<c.params.size+c.nfree)
  {args:List AV} {out:Out} {st:St} (C:args.length=c.params.size+c.nfree) (j:out= .norm\/out= .ret) (m:exec T md n o.length b ⟨EF 0 args,o⟩=some (out,st)) {G r:AV} (z:aa8 st E=some G) {own:Bool} (q:finish own o.length G st.o=some (r,o'))
  {vs:List Value} (x:B A w σ o) (J:gp A w σ o) (I:ey A w σ o args vs):
  CallsIn (FR none) 0 P f vs.toArray w fun e w'=>∃u a,e= .returned u/\gp A w' a o'/\cQ A w' a o' r u/\Ext w σ o w' a o':=by
 have M:=ey.length _ _ I
 refine callsIn_of_wp_marks (F:=FR none) t i trivial (wpIn_mono (W none md B N L _ b _ out st m c.ntmps H g X [] A w σ o {tmps:=vs.toArray++Array.replicate (c.ntmps - vs.toArray.size) undef,defers:=[]} w σ x (Nat.le_refl _) (anC J I (by omega))) ?_)
 ·rintro e p w' ⟨rfl,a,d⟩
  have k:LeavesInM (FR none) 0 P c p.tmps (fun e w'=>∃u a,e= .returned u/\gp A w' a o'/\cQ A w' a o' r u/\Ext w σ o w' a o') p.defers .returning w':=by
   obtain⟨K,v,U⟩:=d.defers
   rw[v]
   refine akH K w' U d.vy fun S R V O=>?_
   simp only[LeavesInM,LeavesIn]
   have h:lh A c.ntmps [] w σ o st {p with defers:=[]} S a:=⟨R,fun s=>O _ _ (d.env s),d.size,⟨[],rfl,List.Pairwise.nil,by simp⟩,V d.ext⟩
   obtain⟨u,Y,l⟩:=anB h y z
   have D:=as5 h.vy h.ext l q
   simp_all
  rcases j with rfl|rfl
  ·exact k
  ·exact k
theorem as9 {out:Out} (h:ada out=true):out= .norm\/out= .ret:=by
 grind[ada]
theorem aAL {P:Program} {j:Nat} {H:List RH} {g:FuncId} {e:List Operand} {d:Nat} {a b:IR} (c:Code):comp P j H c≠some (.dfr g e d a b):=by
 intro h
 cases c with
 |region k i f=>
  simp only[comp] at h;unfold agC at h;split at h
  ·cases h
  ·split at h
   ·grind
   simp_all
 |seq x y=>grind[comp]
 |cond c x y=>
  grind[comp]
 |_=>simp[comp] at h
theorem aAM {f:Array Oper} {g:FuncId} {e:List Operand} {d:Nat} (h:akn f=some (g,e,d)):∃i j a b c,f.toList=[i,j]/\i.dst=some d/\i.op= .makeFunc (.func g) a b/\i.guard=none/\j.op= .defer c/\j.dst=none/\j.guard=none/\c.callee= .value (.tmp d)/\a.toList=[]/\c.args.toList=[]/\b.toList=e:=by
 grind[akn]
theorem aAN {n:Nat} {id:Nat} {e:Array Oper} {g:FuncId} {f:List Operand} {d:Nat} (H:akn e=some (g,f,d)) (p:d<n) {st:St} {a:Act} {F:World} {l:gB} {G:Store} (h:lh A n D F l G st a w σ) {Q:Exit->Act->World->Prop}
  (I:∀(r:Act) (vs:List Value),ey A w σ st.o (f.map (s4 st.env)) vs->lh A n ({target:=.fn (.func g) vs.toArray,args:=#[]}::a.defers) w σ st.o ⟨(d,.ud)::st.env,st.o⟩ r w σ->Q .normal r w):
  (Code.region id e false).wpIn (FR none) 0 P Q a w:=by
 obtain⟨k,u,x,b,c,t,q,U,X,S,J,V,R,N,T,rfl⟩:=aAM H
 have L:e[0]?=some k:=by rw[<-Array.getElem?_toList,t];rfl
 have z:e[1]?=some u:=by rw[<-Array.getElem?_toList,t];rfl
 have B:e.size=2:=by grind[Array.length_toList]
 have W:x=#[]:=Array.ext' (by omega)
 have O:c.args=#[]:=Array.ext' (by omega)
 refine wpIn_region ?_
 rw[B]
 show wpOpsIn (FR none) 0 P e Q [0,1] a w
 rw[wpOpsIn_cons];unfold wpOpIn;simp only[L]
 rw[if_pos (by grind[Region.wanted])]
 unfold Oper.wpIn;rw[show(FR none).round=none from rfl,Oper.semAt_none]
 refine⟨fun _ _=>trivial,?_⟩
 have E:(execOp a.eval k).run P w= .ok (.value (.func (.func g) #[] (b.map a.eval))) w:=by
  simp_all[execOp,Instr.makeFunc]
 rw[E,Oper.uponIn_value,wpOpsIn_cons]
 have C:d<a.tmps.size:=by rw[h.size];exact p
 have m:(a.put k.dst (.func (.func g) #[] (b.map a.eval))).eval (.tmp d)= .func (.func g) #[] (b.map a.eval):=by
  simp_all[Act.put,Act.eval]
 generalize i:a.put k.dst (.func (.func g) #[] (b.map a.eval))=K at m
 unfold wpOpIn;simp only[z]
 rw[if_pos (by grind[Region.wanted])]
 unfold Oper.wpIn;rw[show(FR none).round=none from rfl,Oper.semAt_none]
 refine⟨fun _ _=>trivial,?_⟩
 have y:(execOp K.eval u).run P w= .ok (.defer {target:=.fn (.func g) (b.map a.eval),args:=#[]}) w:=by
  simp_all[execOp,resolve,Deferred.ofValue]
 rw[y,Oper.uponIn_defer,J]
 show Q .normal _ w
 have j:ey A w σ st.o (b.toList.map (s4 st.env)) (b.toList.map a.eval):=agI (fun x=>h.ev x) b.toList
 refine I _ (b.toList.map a.eval) j ⟨h.vy,fun s=>?_,?_,⟨[],?_,List.Pairwise.nil,by simp⟩,Ext.refl _ _ _⟩
 ·subst i
  by_cases M:d=s
  ·simp_all[pI,cQ]
  ·have v:Nat.beq d s=false:=by
    cases v:Nat.beq d s<;>simp_all
   simp only[pI,v,cond_false]
   have:=h.env s
   simp_all[Act.put]
 ·subst i
  simp[q,Act.put,h.size]
 ·subst i
  simp[q,Act.put]
  grind
theorem aAO {T:Tab} {n:Nat} (Q:aiw P T n) {v:Nat} {H:List RH} {lo:Nat} {C:World} {p:gB} {D:Store} (I:D.length<=lo) {g:FuncId} {m:List Operand} {d:Nat} {S:IR} {s0 s2:St} {out:Out}
  (J:exec T .plain n s0.o.length S ⟨(d,.ud)::s0.env,s0.o⟩=some (out,s2)):∀(f:Code) (z:IR) (st:St) (a:Act) (w:World) (σ:gB),afp P v H f=some (z,(g,m,d),S)->ac9 (exec T .plain n lo) z st=some s0->lh A v [] C p D st a w σ->
  f.wpIn (FR none) 0 P (fun e B w'=>e=out.aeI/\By P g=true/\∃(q:World) (j t:gB) (R:List Deferred) (vs:List Value),MkD C q R/\gp A q j s0.o/\Ext C p D q j s0.o/\ey A q j s0.o (m.map (s4 s0.env)) vs/\
   lh A v ({target:=.fn (.func g) vs.toArray,args:=#[]}::R) q j s0.o s2 B w' t) a w:=by
 intro f
 induction f with
 |seq c l _ G=>
  intro z st a w σ k i h
  cases c with
  |region W K N=>
   unfold afp at k;split at k
   ·rename_i x X _
    split at k
    ·rename_i y
     obtain⟨b,Y,O⟩:=Option.map_eq_some_iff.1 k
     simp only[Prod.mk.injEq] at O
     obtain⟨rfl,rfl,rfl⟩:=O
     simp only[ac9,Option.some.injEq] at i;subst i
     refine wpIn_seq (aAN X y.1 h fun E vs V s=>?_)
     show l.wpIn _ _ _ _ E w
     obtain⟨ms,U,Z⟩:=h.defers
     refine wpIn_mono (Q none .plain aix rfl akI _ b _ out s2 J v H l Y _ A w σ st.o E w σ trivial (Nat.le_refl _) s) ?_
     rintro e B w' ⟨rfl,t,L⟩
     exact⟨rfl,y.2,w,σ,t,a.defers,vs,by simp_all,h.vy,h.ext,V,L⟩
    ·cases k
   ·split at k
    ·rename_i r B x b hr F
     simp only[Option.some.injEq,Prod.mk.injEq] at k
     obtain⟨rfl,rfl,rfl⟩:=k
     simp only[ac9] at i;split at i
     ·rename_i u M
      refine wpIn_seq (wpIn_mono (Q none .plain aix rfl akI lo r st .norm u M v H (.region W K _) (by grind[comp]) [] A C p D a w σ trivial I h) ?_)
      rintro e E q ⟨rfl,j,s⟩
      exact G B u E q j F i s
     ·cases i
    ·cases k
  |_=>simp[afp] at k
 |_=>
  intro z st a w σ k
  simp[afp] at k
theorem aAP {T:Tab} (hT:Sv P T) {n:Nat} (ih:aiw P T n) {f:FuncId} {fn:Func} {code:Code} {H:List RH} {ia ib:IR} {g:FuncId} {caps:List Operand} {d:Nat} {rs:List aaD}
  (hfn:P.funcs[f]?=some fn) (hcode:fn.body=some code) (hb:afp P fn.ntmps H code=some (ia,(g,caps,d),ib)) (hrs:adf (adY P) fn.results.toList=some rs) (hnt:¬fn.ntmps<fn.params.size+fn.nfree)
  {args:List AV} {out akJ:Out} {s0 s2 s3:St} (hlen:args.length=fn.params.size+fn.nfree) (hout:out= .norm\/out= .ret) (h1:ac9 (exec T .plain n o.length) ia ⟨EF 0 args,o⟩=some s0) (h2:exec T .plain n s0.o.length ib ⟨(d,.ud)::s0.env,s0.o⟩=some (out,s2))
  {F:uC} (hF:T.fn g=some F) (hcl:(caps.map (s4 s0.env)).length=F.params) (hre:F.res=[]) (h3:exec T .plain n s2.o.length F.body ⟨EF 0 (caps.map (s4 s0.env)),s2.o⟩=some (akJ,s3)) (aHD:akJ= .norm\/akJ= .ret)
  {r0 r:AV} (hr0:aa8 ⟨s2.env,s3.o⟩ rs=some r0) {own:Bool} (hfi:finish own o.length r0 s3.o=some (r,o'))
  {vs:List Value} (hS:gp A w σ o) (hr:ey A w σ o args vs):
  CallsIn (FR none) 0 P f vs.toArray w fun e w'=>∃u σ',e= .returned u/\gp A w' σ' o'/\cQ A w' σ' o' r u/\Ext w σ o w' σ' o':=by
 have hvl:=ey.length _ _ hr
 obtain⟨fg,Hg,hfg,hcg,hgg⟩:=hT.fn g F hF
 obtain⟨cg,aAQ,aAR,hpg,hrg⟩:∃cg,fg.body=some cg/\comp P fg.ntmps Hg cg=some F.body/\F.params<=fg.ntmps/\adf (adY P) fg.results.toList=some []:=by
  unfold ako at hcg;split at hcg
  ·cases hcg
  ·rename_i cg aHE
   split at hcg
   ·rename_i b rs' hb' aHF
    split at hcg
    ·cases hcg
    ·rename_i aHG
     injection hcg with hcg;subst hcg
     simp only at h3 hre ⊢
     subst hre
     unfold amZ at hb'
     split at hb'
     ·simp_all
     ·obtain⟨x,_,rfl⟩:=Option.map_eq_some_iff.1 hb'
      cases n<;>simp[exec] at h3
   ·cases hcg
 refine callsIn_of_wp_marks (F:=FR none) hfn hcode trivial (wpIn_mono (aAO ih (Nat.le_refl _) h2 code ia _ _ w σ hb h1 (anC hS hr (by omega))) ?_)
 rintro e a' w' ⟨rfl,hg,w1,σ1,σ',ds,cv,hM1,hS1,hE1,hcv,hs'⟩
 have key:LeavesInM (FR none) 0 P fn a'.tmps (fun e w'=>∃u σ',e= .returned u/\gp A w' σ' o'/\cQ A w' σ' o' r u/\Ext w σ o w' σ' o') a'.defers .returning w':=by
  obtain⟨ms,hms,hM⟩:=hs'.defers
  rw[hms]
  refine akH ms w' hM hs'.vy fun w2 q1 q3 q4=>?_
  simp only[LeavesInM]
  refine⟨by simp,.inr ⟨fun h=>by grind[FR,Fence.wide],.func g,cv.toArray,g,cv.toArray,rfl,by simp[invoke,anm hg],fun _ _=>trivial,?_⟩⟩
  have ata:ey A w2 σ' s2.o (caps.map (s4 s0.env)) cv:=by
   have e1:Ext w1 σ1 s0.o w' σ' s2.o:=hs'.ext
   grind[ey.ext]
  have aHH:=ey.length _ _ ata
  refine CallsDIn.mono (aAC (A:=A) hfg aAQ (R:=fun e w3=>∃u σ3,e= .returned u/\gp A w3 σ3 s3.o/\Ext w2 σ' s2.o w3 σ3 s3.o) (wpIn_mono (ih none .plain aix rfl akI _ F.body _ akJ s3 h3 fg.ntmps Hg cg aAR [] A w2 σ' s2.o _ w2 σ' trivial (Nat.le_refl _) (anC q1 ata (by omega))) ?_)) ?_
  ·rintro e a3 w3 ⟨rfl,σ3,hs3⟩
   obtain⟨ms3,aAS,hM3⟩:=hs3.defers
   rw[List.append_nil] at aAS
   refine⟨by grind[Out.aeI],w2,σ3,s3.o,by simp_all,hs3.vy,fun w4 k1 k2 k3=>?_⟩
   have hs4:lh A fg.ntmps [] w2 σ' s2.o s3 {a3 with defers:=[]} w4 σ3:=⟨k1,fun s=>k3 _ _ (hs3.env s),hs3.size,⟨[],rfl,List.Pairwise.nil,by simp⟩,k2 hs3.ext⟩
   obtain⟨u,hu,_⟩:=anB hs4 hrg (r:=.eW []) rfl
   exact⟨u,hu,u,σ3,rfl,k1,k2 hs3.ext⟩
  ·rintro e u' w3 ⟨rfl,u,σ3,rfl,p1,p2⟩
   show LeavesInM (FR none) 0 P fn a'.tmps _ ds (settle .returning) w3
   rw[show settle FrameMode.returning= .returning from rfl,<-List.append_nil ds]
   have e13:Ext w1 σ1 s0.o w3 σ3 s3.o:=(q3 hs'.ext).trans p2
   refine akH ds w3 (hM1.ext hS1 e13) p1 fun w4 t1 t3 t4=>?_
   simp only[LeavesInM,LeavesIn]
   have hs4:lh A fn.ntmps [] w σ o ⟨s2.env,s3.o⟩ {a' with defers:=[]} w4 σ3:=⟨t1,fun s=>t4 _ _ ((q4 _ _ (hs'.env s)).ext p2),hs'.size,⟨[],rfl,List.Pairwise.nil,by simp⟩,t3 (hE1.trans e13)⟩
   obtain⟨u,hu,hru⟩:=anB hs4 hrs hr0
   have hfin:=as5 hs4.vy hs4.ext hru hfi
   simp_all
 rcases hout with rfl|rfl
 ·exact key
 ·exact key
theorem atb {T:Tab} (N:Sv P T) {n:Nat} (ih:aiw P T n):ab5 P (acJ T (exec T .plain n)):=by
 intro f e o m r I c;unfold acJ at c;split at c
 ·rename_i x hK
  injection c with c;subst c
  exact N.K _ _ _ _ _ _ hK
 ·split at c
  ·cases c
  ·rename_i F J
   obtain⟨fn,H,y,a,hg⟩:=N.fn f F J
   split at c
   ·rename_i k
    unfold ako at a;split at a
    ·cases a
    ·rename_i a0 j
     split at a
     ·rename_i b rs i D
      split at a
      ·cases a
      ·rename_i E
       injection a with a;subst a
       simp only at c k
       have p:∀{t:AV} {u:St},finish m o.length t u.o=some (r,I)->m=false->I=[]:=fun l ho=>by
        subst ho;unfold finish at l
        grind
       unfold amZ at i;split at i
       ·rename_i V S
        injection i with i;subst i
        have R:∀(x:Option (Out×St)),aex T (exec T .plain n) o.length V ⟨EF 0 e,o⟩=x->exec T .plain n o.length V ⟨EF 0 e,o⟩=x:=fun x hx=>by
         unfold aex at hx
         grind[aAL]
        have a1:∀(h:Out) (u:St),(h= .norm\/h= .ret)->aex T (exec T .plain n) o.length V ⟨EF 0 e,o⟩=some (h,u)->∀t,aa8 u rs=some t->finish m o.length t u.o=some (r,I)->
          By P f=true/\Uc P f e o r I/\(m=false->I=[]):=by
         intro h u G Q t s l
         exact⟨hg,fun A w σ vs L U=>(callsIn_wide (n:=0)).1 (aAK ih (md:=.plain) (B:=aix) rfl akI y j S D E k G (R _ Q) s l trivial L U),p l⟩
        grind
       ·obtain⟨⟨ia,⟨g,q,d⟩,ib⟩,S,rfl⟩:=Option.map_eq_some_iff.1 i
        simp only[aex] at c
        cases W:ac9 (exec T .plain n o.length) ia ⟨EF 0 e,o⟩ with
        |none=>simp_all
        |some v=>
        simp only[W] at c
        cases h2:exec T .plain n v.o.length ib ⟨(d,.ud)::v.env,v.o⟩ with
        |none=>simp_all
        |some x2=>
        obtain⟨h,Y⟩:=x2
        simp only[h2] at c
        cases Z:ada h with
        |false=>simp_all
        |true=>
        simp only[Z,if_true] at c;unfold amW at c
        cases J:T.fn g with
        |none=>simp_all
        |some O=>
        simp only[J] at c
        by_cases M:(q.map (s4 v.env)).length=O.params/\O.res.isEmpty=true
        ·rw[if_pos M] at c
         cases X:exec T .plain n Y.o.length O.body ⟨EF 0 (q.map (s4 v.env)),Y.o⟩ with
         |none=>simp_all
         |some x3=>
         obtain⟨C,s3⟩:=x3
         simp only[X] at c
         cases z:ada C with
         |false=>simp_all
         |true=>
         simp only[z,if_true] at c;split at c
         ·rename_i t s
          exact⟨hg,fun A w σ vs L U=>(callsIn_wide (n:=0)).1 (aAP N ih y j S D E k (as9 Z) W h2 J M.1 (List.isEmpty_iff.1 M.2) X (as9 z) s c L U),p c⟩
         ·cases c
        simp_all
     ·cases a
   ·cases c
end
open Go.RowKit
section
variable {P:Program} {A:qa} {D:List Deferred} {w w':World} {σ σ':gB} {o o':Store}
theorem aAT {my:Option Nat} {Q:Exit->Act->World->Prop} {a:Act} {w:World} {c:Code} (h:c.wpIn (FR my) 0 P (Exit.noGoto Q) a w):(Code.scope c).wpIn (FR my) 0 P Q a w:=by
 intro b k n o p m
 obtain⟨e,d,f,j,g⟩:=h b (.inScope c::k) n o p m
 have s:step P (lone (b.atR a (.code (.scope c)::k)) n w)= .next (lone (b.atR a (.code c:: .inScope c::k)) n w):=step_lone_go (by simp[stepG,stepG.exec,Frame.atR])
 have q:step P (lone (b.atR d (.inScope c::k)) n f)= .next (lone (b.atR d k) n f):=step_lone_go (by simp[stepG,stepG.exec,Frame.atR])
 have i:=StepsIn.one (I:=Machine.fenced P (FR my)) (fenced_calm (fr:=b.atR a (.code (.scope c)::k)) p m rfl) s
 cases e with
 |normal=>exact⟨.normal,d,f,j,(StepsIn.trans i (StepsIn.trans g (.one (fenced_calm (fr:=b.atR d (.inScope c::k)) p m rfl) q)))⟩
 |exit u=>exact⟨.exit u,d,f,j,.of_steps i ⟨fun r t=>g.1 r (by grind[exitTo]),fun m t=>by obtain⟨x,z,v⟩:=g.2 m (by grind[exitTo]);grind⟩⟩
 |goto l=>exact j.elim
 |ret=>exact⟨_,d,f,j,.of_steps i g⟩
 |panic y=>exact⟨_,d,f,j,.of_steps i g⟩
 |outgrown=>exact⟨_,d,f,j,.of_steps i g⟩
def aiz (my:Option Nat) (P:Program) (b:Code) (l:Nat) (Q:Exit->Act->World->Prop):Nat->Code->Act->World->Prop
 |0,_,_,_=>False
 |n+1,x,a,w=>x.wpIn (FR my) 0 P (fun e d c=>match e with
   | .goto f=>f=l/\aiz my P b l Q n b d c
   |e=>Q e d c) a w
theorem aAU {my:Option Nat} {Q:Exit->Act->World->Prop} {a:Act} {w:World} {c i:Code} {l:Nat} (S:findLabel c l=some i) {n:Nat} (h:aiz my P i l Q n c a w):(Code.scope c).wpIn (FR my) 0 P Q a w:=by
 intro b k p A y t
 have E:gotoIn l (.inScope c::k)=some (.code i:: .inScope c::k):=by grind[gotoIn]
 have B:∀n x a w,aiz my P i l Q n x a w->∃e u v,Q e u v/\ArrivesIn (Machine.fenced P (FR my)) P (lone (b.atR a (.code x:: .inScope c::k)) p w) b k p e u v:=by
  intro n
  induction n with
  |zero=>intro x a w h;exact h.elim
  |succ n J=>
   intro x a w h
   obtain⟨e,d,g,m,f⟩:=h b (.inScope c::k) p A y t
   have G:step P (lone (b.atR d (.inScope c::k)) p g)= .next (lone (b.atR d k) p g):=step_lone_go (by simp[stepG,stepG.exec,Frame.atR])
   cases e with
   |normal=>exact⟨.normal,d,g,m,StepsIn.trans f (.one (fenced_calm (fr:=b.atR d (.inScope c::k)) y t rfl) G)⟩
   |exit K=>exact⟨.exit K,d,g,m,fun D C=>f.1 D (by grind[exitTo]),fun t C=>by obtain⟨M,O,N⟩:=f.2 t (by grind[exitTo]);grind⟩
   |goto L=>
    obtain⟨rfl,H⟩:=m
    obtain⟨q,r,s,o,j⟩:=J i d g H
    exact⟨q,r,s,o,.of_steps (f.1 _ E) j⟩
   |ret=>exact⟨_,d,g,m,f⟩
   |panic R=>exact⟨_,d,g,m,f⟩
   |outgrown=>exact⟨_,d,g,m,f⟩
 have F:step P (lone (b.atR a (.code (.scope c)::k)) p w)= .next (lone (b.atR a (.code c:: .inScope c::k)) p w):=step_lone_go (by simp[stepG,stepG.exec,Frame.atR])
 have z:=StepsIn.one (I:=Machine.fenced P (FR my)) (fenced_calm (fr:=b.atR a (.code (.scope c)::k)) y t rfl) F
 obtain⟨e,u,v,m,f⟩:=B n c a w h
 exact⟨e,u,v,m,.of_steps z f⟩
theorem aAV {b:Code} {l c:Nat} {H:List RH} {x:IR} (h:akm b=some l) (d:comp P c H b=some x):∃a,findLabel b l=some a/\comp P c H a=some x:=by
 unfold akm at h
 grind[findLabel,comp]
theorem atc {T:Tab} (hT:Sv P T):∀n,aiw P T n/\(∀(my:Option Nat) (md:Md) (B:qa->World->gB->Store->Prop),afx P my B md->Closed B->∀(lo:Nat) (b:IR) (st:St) (out:Out) (st':St),exec T md n lo (.loop b) st=some (out,st')->∀(q:Nat) (H:List RH) (f:Code),comp P q H f=some b->∀(D:List Deferred) (A:qa) (r:World) (d:gB) (m:Store) (a:Act) (w:World) (σ:gB),B A r d m->
   m.length<=lo->lh A q D r d m st a w σ->Code.roundsIn (FR my) 0 P f (fun e v w'=>e=out.aeI/\∃u,lh A q D r d m st' v w' u) n a w)/\∀(my:Option Nat) (md:Md) (B:qa->World->gB->Store->Prop),afx P my B md->Closed B->∀(lo l:Nat) (b:IR) (st:St) (out:Out) (st':St),exec T md n lo (.turns (some l) b) st=some (out,st')->∀(q:Nat) (H:List RH) (f s:Code),comp P q H f=some b->comp P q H s=some b->∀(D:List Deferred) (A:qa) (r:World) (d:gB) (m:Store) (a:Act) (w:World) (σ:gB),B A r d m->
   m.length<=lo->lh A q D r d m st a w σ->aiz my P s l (fun e v w'=>e=out.aeI/\∃u,lh A q D r d m st' v w' u) n f a w
 |0=>⟨fun my md B _ _ lo c st out st' h=>by grind[exec],fun my md B _ _ lo b st out st' h=>by grind[exec],fun my md B _ _ lo l b st out st' h=>by grind[exec]⟩
 |n+1=>by
  obtain⟨I,a0,Z⟩:=atc hT n
  have M:∀(my:Option Nat) (md:Md) (B:qa->World->gB->Store->Prop),afx P my B md->Closed B->∀(lo:Nat) (b:IR) (st:St) (out:Out) (st':St),exec T md (n+1) lo (.loop b) st=some (out,st')->∀(q:Nat) (H:List RH) (f:Code),comp P q H f=some b->∀(D:List Deferred) (A:qa) (r:World) (d:gB) (m:Store) (a:Act) (w:World) (σ:gB),B A r d m->
    m.length<=lo->lh A q D r d m st a w σ->Code.roundsIn (FR my) 0 P f (fun e v w'=>e=out.aeI/\∃u,lh A q D r d m st' v w' u) (n+1) a w:=by
   intro my md B C E lo b st out st' h q H f p D A r d m a w σ j i t
   simp only[exec] at h;split at h
   ·rename_i F Q
    have O:=I my md B C E lo b st .norm F Q q H f p _ A r d m a w σ j i t
    rw[roundsIn_succ]
    refine wpIn_mono O ?_
    rintro e v w' ⟨rfl,u,g⟩
    obtain⟨N,L⟩:=g.trim (k:=st.o.length) t.len
    exact a0 my md B C E lo b _ out st' h q H f p _ A r d m v w' N j i L
   ·rename_i K
    have O:=I my md B C E lo b st out st' h q H f p _ A r d m a w σ j i t
    rw[roundsIn_succ]
    refine wpIn_mono O ?_
    rintro e v w' ⟨rfl,g⟩
    cases out with
    |norm=>simp_all
    |exit S=>exact⟨rfl,g⟩
    |ret=>exact⟨rfl,g⟩
    |goto l=>exact⟨rfl,g⟩
  have R:∀(my:Option Nat) (md:Md) (B:qa->World->gB->Store->Prop),afx P my B md->Closed B->∀(lo l:Nat) (b:IR) (st:St) (out:Out) (st':St),exec T md (n+1) lo (.turns (some l) b) st=some (out,st')->∀(q:Nat) (H:List RH) (f s:Code),comp P q H f=some b->comp P q H s=some b->∀(D:List Deferred) (A:qa) (r:World) (d:gB) (m:Store) (a:Act) (w:World) (σ:gB),B A r d m->
    m.length<=lo->lh A q D r d m st a w σ->aiz my P s l (fun e v w'=>e=out.aeI/\∃u,lh A q D r d m st' v w' u) (n+1) f a w:=by
   intro my md B C E lo l b st out st' h q H f s p hr D A r d m a w σ j i t
   simp only[exec] at h;split at h
   ·rename_i l' F Q
    split at h
    ·rename_i U
     injection U with U;subst U
     refine wpIn_mono (I my md B C E lo b st (.goto l) F Q q H f p _ A r d m a w σ j i t) ?_
     rintro e v w' ⟨rfl,u,g⟩
     obtain⟨N,L⟩:=g.trim (k:=st.o.length) t.len
     exact⟨rfl,Z my md B C E lo l b _ out st' h q H s s hr hr _ A r d m v w' N j i L⟩
    ·cases h
   ·rename_i K
    refine wpIn_mono (I my md B C E lo b st out st' h q H f p _ A r d m a w σ j i t) ?_
    rintro e v w' ⟨rfl,g⟩
    cases out with
    |norm=>exact⟨rfl,g⟩
    |exit S=>exact⟨rfl,g⟩
    |ret=>exact⟨rfl,g⟩
    |goto l=>simp_all
  refine⟨fun my md B C E lo c st out st' h q H f p D A r d m a w σ j i t=>?_,M,R⟩
  cases f with
  |skip=>
   simp only[comp,Option.some.injEq] at p;subst p;simp only[exec,Option.some.injEq,Prod.mk.injEq] at h
   obtain⟨rfl,rfl⟩:=h
   exact wpIn_skip ⟨rfl,σ,t⟩
  |scope b=>
   simp only[comp] at p
   obtain⟨V,J,rfl⟩:=Option.map_eq_some_iff.1 p
   cases U:akm b with
   |some l=>
    grind[aAV,aAU]
   |none=>
    rw[U] at h;simp only[exec] at h
    refine aAT ?_
    split at h
    ·simp_all
    ·rename_i K
     refine wpIn_mono (I my md B C E lo V st out st' h q H b J _ A r d m a w σ j i t) ?_
     rintro e v w' ⟨rfl,g⟩
     cases out with
     |norm=>exact⟨rfl,g⟩
     |exit S=>exact⟨rfl,g⟩
     |ret=>exact⟨rfl,g⟩
     |goto l=>simp_all
  |goto l=>
   simp only[comp,Option.some.injEq] at p;subst p;simp only[exec,Option.some.injEq,Prod.mk.injEq] at h
   obtain⟨rfl,rfl⟩:=h
   exact wpIn_goto ⟨rfl,σ,t⟩
  |label l=>
   simp only[comp,Option.some.injEq] at p;subst p;simp only[exec,Option.some.injEq,Prod.mk.injEq] at h
   obtain⟨rfl,rfl⟩:=h
   exact wpIn_label ⟨rfl,σ,t⟩
  |region S a8 a3=>
   simp only[comp] at p
   obtain⟨k,l,a4,a1,a7,a2,rfl,hw⟩:=aAH (atb hT I) C E (A:=A) (lo:=lo) p
   simp only[exec] at h;split at h
   ·rename_i a5 h2
    simp only[Option.some.injEq,Prod.mk.injEq] at h
    obtain⟨rfl,rfl⟩:=h
    exact hw h2 j i t
   ·cases h
  |seq x y=>
   simp only[comp] at p;split at p
   ·rename_i V W J X
    injection p with p;subst p
    simp only[exec] at h;split at h
    ·rename_i F Q
     refine wpIn_seq (wpIn_mono (I my md B C E lo V st .norm F Q q H x J _ A r d m a w σ j i t) ?_)
     rintro e v w' ⟨rfl,u,g⟩
     exact I my md B C E lo W F out st' h q H y X _ A r d m v w' u j i g
    ·rename_i K
     refine wpIn_seq (wpIn_mono (I my md B C E lo V st out st' h q H x J _ A r d m a w σ j i t) ?_)
     rintro e v w' ⟨rfl,g⟩
     cases out with
     |norm=>simp_all
     |exit S=>exact⟨rfl,g⟩
     |ret=>exact⟨rfl,g⟩
     |goto l=>exact⟨rfl,g⟩
   ·cases p
  |cond x y z=>
   simp only[comp] at p;split at p
   ·rename_i W z' X hz
    injection p with p;subst p
    by_cases hk:arS H x=true
    ·rw[if_pos hk] at h
     simp only[exec] at h
     have J:=t.ev x
     split at h
     ·rename_i G
      rw[G] at J
      exact wpIn_cond_true (B0 J) (I my md B C E lo W _ out st' h q H y X _ A r d m a w σ j i t)
     ·rename_i G
      rw[G] at J
      exact wpIn_cond_false (B0 J) (I my md B C E lo z' _ out st' h q H z hz _ A r d m a w σ j i t)
     ·cases h
    rw[if_neg hk] at h;simp only[exec] at h
    have J:=t.ev x
    split at h
    ·rename_i G
     rw[G] at J
     exact wpIn_cond_true (B0 J) (I my md B C E lo W _ out st' h q H y X _ A r d m a w σ j i (t.drop x))
    ·rename_i G
     rw[G] at J
     exact wpIn_cond_false (B0 J) (I my md B C E lo z' _ out st' h q H z hz _ A r d m a w σ j i (t.drop x))
    ·cases h
   ·cases p
  |block S b=>
   simp only[comp] at p
   obtain⟨b',O,rfl⟩:=Option.map_eq_some_iff.1 p
   simp only[exec] at h;split at h
   ·rename_i Y F Q
    refine wpIn_block (wpIn_mono (I my md B C E lo b' st (.exit Y) F Q q H b O _ A r d m a w σ j i t) ?_)
    rintro e v w' ⟨rfl,g⟩
    simp only[Out.aeI,Exit.inBlock]
    grind
   ·rename_i K
    refine wpIn_block (wpIn_mono (I my md B C E lo b' st out st' h q H b O _ A r d m a w σ j i t) ?_)
    rintro e v w' ⟨rfl,g⟩
    cases out with
    |norm=>exact⟨rfl,g⟩
    |exit a6=>simp_all
    |ret=>exact⟨rfl,g⟩
    |goto l=>exact⟨rfl,g⟩
  |loop b=>
   simp only[comp] at p
   obtain⟨b',O,rfl⟩:=Option.map_eq_some_iff.1 p
   grind[wpIn_loop_rounds]
  |exit S=>
   simp only[comp,Option.some.injEq] at p;subst p;simp only[exec,Option.some.injEq,Prod.mk.injEq] at h
   obtain⟨rfl,rfl⟩:=h
   exact wpIn_exit ⟨rfl,σ,t⟩
  |ret=>
   simp only[comp,Option.some.injEq] at p;subst p;simp only[exec,Option.some.injEq,Prod.mk.injEq] at h
   obtain⟨rfl,rfl⟩:=h
   exact wpIn_ret ⟨rfl,σ,t⟩
  |_=>grind[comp]
theorem atd {T:Tab} (a:Sv P T) (n:Nat):ab5 P (acJ T (exec T .plain n)):=atb a (atc a n).1
end
def Ev (T:Tab) (md:Nat->Md) (lo:Nat) (c:IR) (st:St) (r:Out×St):Prop:=∃N,∀m n,N<=m->N<=n->exec T (md m) n lo c st=some r
abbrev aiA:Nat->Md:=fun _=> .plain
section
variable {T:Tab} {md:Nat->Md} {lo:Nat} {st st1 st':St} {r:Out×St} {a b:IR} {out:Out}
theorem Ev.mk (N:Nat) (h:∀m n,N<=m->N<=n->exec T (md m) (n+1) lo a st=some r):Ev T md lo a st r:=
 ⟨N+1,fun m n c b=>by
  match n,b with
  |n+1,b=>grind⟩
theorem Ev.skip:Ev T md lo .skip st (.norm,st):=.mk 0 fun _ _ _ _=>by simp only[exec]
theorem Ev.ret:Ev T md lo .ret st (.ret,st):=.mk 0 fun _ _ _ _=>by simp only[exec]
theorem Ev.exit {id:Nat}:Ev T md lo (.exit id) st (.exit id,st):=.mk 0 fun _ _ _ _=>by simp only[exec]
theorem Ev.seq (h:Ev T md lo a st (.norm,st1)) (k:Ev T md lo b st1 r):Ev T md lo (.seq a b) st r:=by
 obtain⟨N,h⟩:=h
 obtain⟨M,k⟩:=k
 exact .mk (N+M) fun m n c d=>by simp only[exec,h m n (by omega) (by omega),k m n (by omega) (by omega)]
theorem Ev.aAW (h:Ev T md lo a st (out,st1)) (c:out≠ .norm):Ev T md lo (.seq a b) st (out,st1):=by
 obtain⟨N,h⟩:=h
 exact .mk N fun m n e d=>by
  simp_all[exec]
theorem Ev.aAX {x:Operand} (d:s4 st.env x= .sc (.bool true)) (h:Ev T md lo a ⟨ab2 x st.env,st.o⟩ r):Ev T md lo (.cond x a b) st r:=by
 obtain⟨N,h⟩:=h
 exact .mk N fun m n c e=>by simp_all[exec]
theorem Ev.aAY {x:Operand} (d:s4 st.env x= .sc (.bool false)) (h:Ev T md lo b ⟨ab2 x st.env,st.o⟩ r):Ev T md lo (.cond x a b) st r:=by
 obtain⟨N,h⟩:=h
 exact .mk N fun m n c e=>by simp_all[exec]
theorem Ev.aby {x:Operand} {q:Bool} (g:s4 st.env x= .sc (.bool q)) (e:q=true->Ev T md lo a st r) (d:q=false->Ev T md lo b st r):Ev T md lo (.aby x a b) st r:=by
 cases q with
 |true=>
  obtain⟨N,h⟩:=e rfl
  exact .mk N fun m n c f=>by simp_all[exec]
 |false=>
  obtain⟨N,h⟩:=d rfl
  exact .mk N fun m n c f=>by simp_all[exec]
def Out.inBlock (id:Nat):Out->Out
 | .exit a=>if a=id then .norm else .exit a
 |o=>o
theorem Ev.block {id:Nat} (h:Ev T md lo a st (out,st1)):Ev T md lo (.block id a) st (out.inBlock id,st1):=by
 obtain⟨N,h⟩:=h
 exact .mk N fun m n b c=>by
  simp only[exec,h m n b c]
  cases out<;>grind[exit,Out.inBlock]
theorem Ev.aAZ (h:Ev T md lo a st (.norm,st1)) (k:Ev T md lo (.loop a) (trim st.o.length st1) r):Ev T md lo (.loop a) st r:=by
 obtain⟨N,h⟩:=h
 obtain⟨M,k⟩:=k
 exact .mk (N+M) fun m n b c=>by
  simp only[exec,h m n (by omega) (by omega)]
  grind
theorem Ev.aA0 (h:Ev T md lo a st (out,st1)) (b:out≠ .norm):Ev T md lo (.loop a) st (out,st1):=by
 obtain⟨N,h⟩:=h
 exact .mk N fun m n d c=>by
  simp_all[exec]
theorem Ev.goto {l:Nat}:Ev T md lo (.goto l) st (.goto l,st):=.mk 0 fun _ _ _ _=>by simp only[exec]
theorem Ev.aA1 {l:Nat} (h:Ev T md lo a st (.goto l,st1)) (k:Ev T md lo (.turns (some l) a) (trim st.o.length st1) r):Ev T md lo (.turns (some l) a) st r:=by
 obtain⟨N,h⟩:=h
 obtain⟨M,k⟩:=k
 exact .mk (N+M) fun m n b c=>by
  simp only[exec,h m n (by omega) (by omega),if_true]
  grind
theorem Ev.ate {l:Option Nat} (h:Ev T md lo a st (out,st1)) (c:∀b,out≠ .goto b):Ev T md lo (.turns l a) st (out,st1):=by
 obtain⟨N,h⟩:=h
 exact .mk N fun m n e d=>by
  simp_all[exec]
theorem Ev.region {id k:Nat} {b:Bool} {f:List og} {d:List (Nat×Nat)} {a:List Nat} {e c:List Sm}
  (h:∃N,∀g m,N<=m->amX (md m) b (acJ T g) k f d (e.foldl (fun s h=>QJ lo h s) st)=some st'):
  Ev T md lo (.region id b k f d a e c) st (.norm,c.foldl (fun s h=>QJ lo h s) ⟨prune a st'.env,st'.o⟩):=by
 obtain⟨N,h⟩:=h
 exact .mk N fun m n i _=>by simp_all[exec]
theorem aA2 {P:Program} (i:Sv P T) {f:FuncId} {F:uC} (l:T.fn f=some F) {args:List AV} {o:Store} {own:Bool} (g:T.K f args o own=none) (d:args.length=F.params)
  (h:Ev T aiA o.length F.body ⟨EF 0 args,o⟩ (out,st')) (c:out= .norm\/out= .ret) {b v:AV} {o':Store} (k:aa8 st' F.res=some b) (a:finish own o.length b st'.o=some (v,o')):
  By P f=true/\Uc P f args o v o'/\(own=false->o'=[]):=by
 obtain⟨N,h⟩:=h
 refine atd i N f args o own v o' ?_
 unfold acJ;rw[g]
 have h:=h N N (Nat.le_refl _) (Nat.le_refl _)
 have j:aex T (exec T .plain N) o.length F.body ⟨EF 0 args,o⟩=some (out,st'):=by
  unfold aex;split
  ·rename_i e
   rw[e] at h
   cases N<;>simp[exec] at h
  ·exact h
 grind
theorem aA3 {P:Program} (A:Sv P T) {f:FuncId} {F:uC} (z:T.fn f=some F) {g:FuncId} {a:List Operand} {d:Nat} {w u:IR} (e:F.body= .dfr g a d w u) {args:List AV} {o:Store} {own:Bool} (E:T.K f args o own=none) (k:args.length=F.params)
  {s0 s2 s3:St} {b:Out} {G:uC} (t:∃N,∀n,N<=n->ac9 (exec T .plain n o.length) w ⟨EF 0 args,o⟩=some s0) (s:Ev T aiA s0.o.length u ⟨(d,.ud)::s0.env,s0.o⟩ (out,s2)) (l:ada out=true)
  (D:T.fn g=some G) (q:(a.map (s4 s0.env)).length=G.params) (p:G.res.isEmpty=true) (r:Ev T aiA s2.o.length G.body ⟨EF 0 (a.map (s4 s0.env)),s2.o⟩ (b,s3)) (c:ada b=true)
  {x v:AV} {o':Store} (C:aa8 ⟨s2.env,s3.o⟩ F.res=some x) (m:finish own o.length x s3.o=some (v,o')):
  By P f=true/\Uc P f args o v o'/\(own=false->o'=[]):=by
 obtain⟨h,t⟩:=t
 obtain⟨j,s⟩:=s
 obtain⟨i,r⟩:=r
 refine atd A (h+j+i) f args o own v o' ?_
 unfold acJ;rw[E]
 simp only[z,if_pos k,e,aex,t _ (show h<=h+j+i by omega)]
 have y:=s (h+j+i) (h+j+i) (by omega) (by omega)
 have B:=r (h+j+i) (h+j+i) (by omega) (by omega)
 simp only[y,l,if_true,amW,D,if_pos (And.intro q p),B,c,C,m]
end
section
variable {call call':lU}
def OLe (call b:lU):Prop:=∀f a o c r,call f a o c=some r->b f a o c=some r
theorem OLe.acJ (T:Tab) (b:Nat->IR->St->Option (Out×St)):OLe T.K (acJ T b):=by
 intro f a o c r h
 grind[Go.Vi.acJ]
theorem OLe.Gj (h:OLe call call') {f:FuncId} {args:List AV} {o:Store} {own:Bool} {r:AV×Store} (a:Gj call f args o own=some r):Gj call' f args o own=some r:=by
 unfold Go.Vi.Gj at a ⊢;split at a
 ·rename_i b
  rw[if_pos b];unfold Hh at a ⊢
  simp only at a ⊢
  split at a
  ·split at a
   ·rename_i e d c
    rw[h _ _ _ _ _ c];exact a
   ·cases a
  ·cases a
 ·rename_i b
  rw[if_neg b];split at a
  ·cases a
  ·split at a
   ·rename_i c
    rw[h _ _ _ _ _ c];exact a
   ·cases a
theorem OLe.eff (h:OLe call call') {d:kh} {ρ:Operand->AV} {o:Store} {ei:Nat} {r:AV×Store} (a:eff call d ρ o ei=some r):eff call' d ρ o ei=some r:=by
 cases d with
 |call f b c=>exact h.Gj a
 |MC f b c=>
  simp only[Go.Vi.eff,arP,arO] at a ⊢;split at a
  ·exact h.Gj a
  ·cases a
 |_=>exact a
theorem OLe.EE (h:OLe call call') {base:Nat} {i:og} {st st':St} (a:EE call base i st=some st'):EE call' base i st=some st':=by
 unfold Go.Vi.EE at a ⊢;split at a
 ·cases a
 ·exact a
 ·split at a
  ·rename_i b
   rw[h.eff b];exact a
  ·cases a
theorem OLe.sX (h:OLe call call') {b:kh} {ρ:Operand->AV} {o:Store} {ei:Nat} {r:AV×Store} (d:Go.Vi.eff call b ρ o ei=some r):Go.Vi.sX call' b ρ o ei=Go.Vi.sX call b ρ o ei:=by
 unfold Go.Vi.sX;split
 ·rename_i f a
  have c:Go.Vi.Gj call f (a.map ρ) o true=some r:=d
  have e:=h.Gj c
  simp_all[Go.Vi.Gj]
 ·rfl
theorem OLe.An (h:OLe call call') {base:Nat}:∀{l:List og} {st st':St},An call base l st=some st'->An call' base l st=some st'/\Zp call' base l st=Zp call base l st
 |[],_,_,b=>⟨b,rfl⟩
 |i::l,st,st',b=>by
  simp only[Go.Vi.An] at b ⊢;split at b
  ·rename_i g a
   obtain⟨j,c⟩:=h.An b
   have f:=h.EE a
   refine⟨by simp_all,?_⟩
   simp only[Zp,a,f,c]
   congr 1
   split
   ·rename_i e
    unfold Go.Vi.EE at a;rw[e] at a
    simp only at a
    split at a
    ·rename_i d
     rw[h.sX d]
    ·cases a
   ·rfl
  ·cases b
theorem OLe.ab1 (h:OLe call call') {k:Nat} {b:List og} {a:List (Nat×Nat)} {st st':St} (c:ab1 call k b a st=some st'):ab1 call' k b a st=some st':=by
 unfold Go.Vi.ab1 at c ⊢
 simp only at c ⊢
 split at c
 ·rename_i e d
  obtain⟨f,g⟩:=h.An d
  simp_all
 ·cases c
end
def VW (T:Tab) (md:Nat->Md) (lo:Nat) (c:IR) (st:St) (Q:Out->St->Prop):Prop:=∃b a,Ev T md lo c st (b,a)/\Q b a
def RQ (x:Option St) (Q:St->Prop):Prop:=match x with|some a=>Q a|none=>False
section
variable {T:Tab} {md:Nat->Md} {lo:Nat} {st:St} {a b:IR} {Q Q':Out->St->Prop}
theorem VW.mono (h:VW T md lo a st Q) (d:∀o s,Q o s->Q' o s):VW T md lo a st Q':=by
 obtain⟨o,s,b,c⟩:=h
 exact⟨o,s,b,d o s c⟩
theorem VW.skip (h:Q .norm st):VW T md lo .skip st Q:=⟨_,_,.skip,h⟩
theorem VW.ret (h:Q .ret st):VW T md lo .ret st Q:=⟨_,_,.ret,h⟩
theorem VW.exit {id:Nat} (h:Q (.exit id) st):VW T md lo (.exit id) st Q:=⟨_,_,.exit,h⟩
theorem VW.seq (h:VW T md lo a st fun out s=>if out= .norm then VW T md lo b s Q else Q out s):VW T md lo (.seq a b) st Q:=by
 obtain⟨o,s,e,c⟩:=h
 by_cases d:o= .norm
 ·subst d
  rw[if_pos rfl] at c
  obtain⟨i,j,g,f⟩:=c
  exact⟨i,j,e.seq g,f⟩
 ·rw[if_neg d] at c
  exact⟨o,s,e.aAW d,c⟩
theorem VW.cond {x:Operand} {q:Bool} (e:s4 st.env x= .sc (.bool q)) (h:if q=true then VW T md lo a ⟨ab2 x st.env,st.o⟩ Q else VW T md lo b ⟨ab2 x st.env,st.o⟩ Q):VW T md lo (.cond x a b) st Q:=by
 cases q with
 |true=>obtain⟨o,s,c,d⟩:=(by simpa using h:VW T md lo a ⟨ab2 x st.env,st.o⟩ Q);exact⟨o,s,.aAX e c,d⟩
 |false=>obtain⟨o,s,c,d⟩:=(by simpa using h:VW T md lo b ⟨ab2 x st.env,st.o⟩ Q);exact⟨o,s,.aAY e c,d⟩
theorem VW.aby {x:Operand} {q:Bool} (e:s4 st.env x= .sc (.bool q)) (h:if q=true then VW T md lo a st Q else VW T md lo b st Q):VW T md lo (.aby x a b) st Q:=by
 cases q with
 |true=>obtain⟨o,s,c,d⟩:=(by simpa using h:VW T md lo a st Q);exact⟨o,s,.aby e (fun _=>c) (fun h=>by cases h),d⟩
 |false=>obtain⟨o,s,c,d⟩:=(by simpa using h:VW T md lo b st Q);exact⟨o,s,.aby e (fun h=>by cases h) (fun _=>c),d⟩
theorem VW.block {id:Nat} (h:VW T md lo a st fun out s=>Q (out.inBlock id) s):VW T md lo (.block id a) st Q:=by
 obtain⟨o,s,b,c⟩:=h
 exact⟨_,_,b.block,c⟩
theorem VW.region {id k:Nat} {d:Bool} {e:List og} {c:List (Nat×Nat)} {b:List Nat} {f a:List Sm}
  (h:RQ (ab1 T.K k e c (f.foldl (fun s h=>QJ lo h s) st)) fun st'=>Q .norm (a.foldl (fun s h=>QJ lo h s) ⟨prune b st'.env,st'.o⟩)):
  VW T md lo (.region id d k e c b f a) st Q:=by
 unfold RQ at h;split at h
 ·rename_i st' g
  refine⟨_,_,Ev.region ⟨0,fun i m _=>?_⟩,h⟩
  have:=(OLe.acJ T i).ab1 g
  exact this
 simp_all
theorem VW.loop (h:VW T md lo a st fun out s=>if out= .norm then VW T md lo (.loop a) (trim st.o.length s) Q else Q out s):VW T md lo (.loop a) st Q:=by
 obtain⟨o,s,d,b⟩:=h
 by_cases c:o= .norm
 ·subst c
  rw[if_pos rfl] at b
  obtain⟨g,i,f,e⟩:=b
  exact⟨g,i,d.aAZ f,e⟩
 ·rw[if_neg c] at b
  exact⟨o,s,d.aA0 c,b⟩
theorem VW.aA4 (I:Nat->St->Prop) (b:∀m s,I m s->VW T md lo a s fun out s'=>if out= .norm then ∃c,c<m/\I c (trim s.o.length s') else Q out s'):
  ∀(m:Nat) (s:St),I m s->VW T md lo (.loop a) s Q:=by
 intro m
 induction m using Nat.strongRecOn with
 |_ m e=>
  intro s d
  refine VW.loop ((b m s d).mono fun o s' h=>?_)
  grind
theorem VW.goto {l:Nat} (h:Q (.goto l) st):VW T md lo (.goto l) st Q:=⟨_,_,.goto,h⟩
theorem VW.aA5 {l:Option Nat} (h:VW T md lo a st fun out s=>(∀e,out≠ .goto e)/\Q out s):VW T md lo (.turns l a) st Q:=by
 obtain⟨o,s,b,c,d⟩:=h
 exact⟨o,s,b.ate c,d⟩
theorem VW.aA6 {l:Nat} (I:Nat->St->Prop) (b:∀m s,I m s->VW T md lo a s fun out s'=>(out= .goto l/\∃c,c<m/\I c (trim s.o.length s'))\/((∀h,out≠ .goto h)/\Q out s')):
  ∀(m:Nat) (s:St),I m s->VW T md lo (.turns (some l) a) s Q:=by
 intro m
 induction m using Nat.strongRecOn with
 |_ m i=>
  intro s k
  obtain⟨o,s',f,j⟩:=b m s k
  rcases j with⟨rfl,c,d,e⟩|⟨d,e⟩
  ·obtain⟨p,q,n,g⟩:=i c d _ e
   exact⟨p,q,f.aA1 n,g⟩
  ·exact⟨o,s',f.ate d,e⟩
theorem akL {P:Program} (k:Sv P T) {f:FuncId} {F:uC} (g:T.fn f=some F) {args:List AV} {o:Store} {own:Bool} (j:T.K f args o own=none) (b:args.length=F.params) {v:AV} {o':Store}
  (h:VW T aiA o.length F.body ⟨EF 0 args,o⟩ fun out st'=>(out= .norm\/out= .ret)/\(aa8 st' F.res).bind (fun c=>finish own o.length c st'.o)=some (v,o')):
  By P f=true/\Uc P f args o v o'/\(own=false->o'=[]):=by
 obtain⟨out,st',e,i,d⟩:=h
 obtain⟨c,l,a⟩:=Option.bind_eq_some_iff.1 d
 grind[aA2]
end
open Classical in
noncomputable def ans {α:Type} (enc:α->List AV) (dom:α->Prop) (spec:α->AV) (args:List AV):Option AV:=
 if h:∃a,args=enc a/\dom a then some (spec (Classical.choose h)) else none
theorem aA7 {e:Type} {enc:e->List AV} {d:e->Prop} {c:e->AV} (f:∀a b,enc a=enc b->a=b) {a:e} (g:d a):ans enc d c (enc a)=some (c a):=by
 have h:∃b,enc a=enc b/\d b:=⟨a,rfl,g⟩
 unfold ans
 grind
theorem aA8 {d:Type} {enc:d->List AV} {c:d->Prop} {b:d->AV} {args:List AV} {v:AV} (h:ans enc c b args=some v):∃a,args=enc a/\c a/\v=b a:=by
 unfold ans at h
 split at h<;>grind
structure dp where
 (a0 a1 a2 a3 a4 a5:Int)
 deriving DecidableEq
structure Off where
 iy:Int
 want:dp
 value:Int
 deriving DecidableEq
structure Need where
 atf:Int
 least:Int
 deriving DecidableEq
structure aaH where
 iy:Int
 want:dp
 deriving DecidableEq
structure Sit where
 members:Int
 left:dp
 opn:dp
 deriving DecidableEq
def dp.zero:dp:=⟨0,0,0,0,0,0⟩
inductive bD where
 |i (k:IntKind)
 |b
 |uo
 |off
 |need
 |key
 |sit
 |fa (s:bD)
 |pair (s t:bD)
 deriving DecidableEq
@[reducible] def bD.T:bD->Type
 | .i _=>Int
 | .b=>Bool
 | .uo=>dp
 | .off=>Off
 | .need=>Need
 | .key=>aaH
 | .sit=>Sit
 | .fa s=>List s.T
 | .pair s t=>s.T×t.T
def bD.dflt:(s:bD)->s.T
 | .i _=>(0:Int)
 | .b=>false
 | .uo=> .zero
 | .off=>⟨0,.zero,0⟩
 | .need=>⟨0,0⟩
 | .key=>⟨0,.zero⟩
 | .sit=>⟨0,.zero,.zero⟩
 | .fa _=>[]
 | .pair s t=>(s.dflt,t.dflt)
def bD.sz:bD->Nat
 | .i _=>1
 | .b=>1
 | .uo=>6
 | .off=>8
 | .need=>2
 | .key=>7
 | .sit=>13
 | .fa _=>1
 | .pair s t=>s.sz+t.sz
@[reducible] def bD.dec:(s:bD)->DecidableEq s.T
 | .i _=>inferInstanceAs (DecidableEq Int)
 | .b=>inferInstanceAs (DecidableEq Bool)
 | .uo=>inferInstanceAs (DecidableEq dp)
 | .off=>inferInstanceAs (DecidableEq Off)
 | .need=>inferInstanceAs (DecidableEq Need)
 | .key=>inferInstanceAs (DecidableEq aaH)
 | .sit=>inferInstanceAs (DecidableEq Sit)
 | .fa s=>@instDecidableEqList _ s.dec
 | .pair s t=>@instDecidableEqProd _ _ s.dec t.dec
instance (s:bD):DecidableEq s.T:=s.dec
def bD.agX:bD->Bool
 | .i _| .b=>true
 |_=>false
def bD.flat:bD->Bool
 | .fa _=>false
 | .pair s t=>s.flat&&t.flat
 |_=>true
def iv (n:Int):Value:=.int .i64 n
def dp.vs (b:dp):List Value:=[iv b.a0,iv b.a1,iv b.a2,iv b.a3,iv b.a4,iv b.a5]
def qb:(s:bD)->s.T->List Value
 | .i k,n=>[.int k n]
 | .b,b=>[.bool b]
 | .uo,x=>[iv x.a0,iv x.a1,iv x.a2,iv x.a3,iv x.a4,iv x.a5]
 | .off,x=>[iv x.iy,iv x.want.a0,iv x.want.a1,iv x.want.a2,iv x.want.a3,iv x.want.a4,iv x.want.a5,iv x.value]
 | .need,x=>[iv x.atf,iv x.least]
 | .key,x=>[iv x.iy,iv x.want.a0,iv x.want.a1,iv x.want.a2,iv x.want.a3,iv x.want.a4,iv x.want.a5]
 | .sit,x=>[iv x.members,iv x.left.a0,iv x.left.a1,iv x.left.a2,iv x.left.a3,iv x.left.a4,iv x.left.a5,iv x.opn.a0,iv x.opn.a1,iv x.opn.a2,iv x.opn.a3,iv x.opn.a4,iv x.opn.a5]
 | .fa _,_=>[.bool false]
 | .pair s t,x=>qb s x.1++qb t x.2
def qd:(s:bD)->s.T->List AV
 | .fa s,l=>[.sl l.length (l.flatMap (qd s))]
 | .pair s t,x=>qd s x.1++qd t x.2
 | .i k,x=>(qb (.i k) x).map .sc
 | .b,x=>(qb .b x).map .sc
 | .uo,x=>(qb .uo x).map .sc
 | .off,x=>(qb .off x).map .sc
 | .need,x=>(qb .need x).map .sc
 | .key,x=>(qb .key x).map .sc
 | .sit,x=>(qb .sit x).map .sc
inductive SV where
 |ud
 |sc (v:Value)
 |il (k:IntKind) (n:Int)
 |si (k:IntKind) (n:Int)
 |bl (b:Bool)
 |sb (b:Bool)
 |agg (cs:List SV)
 |eW (cs:List SV)
 |row (s:bD) (l:List s.T)
 |ep (s:bD) (l:List s.T) (i off:Nat)
 |ptr (id off tot:Nat)
 |ap (id base sz len tot i:Nat)
 |rp (id i off n sz:Nat)
 |ow (id n sz:Nat)
 |os (id off len n sz:Nat)
 |oc (id off len n sz:Nat)
 |mp (id:Nat)
 |fn (f:Fn) (first captured:List SV)
inductive cC where
 |dead
 |cells (cs:List SV) (e:TypeId) (sz:Nat) (pu:Bool)
 |row (s:bD) (l:List s.T) (e:TypeId) (pu:Bool)
 |map (sk sv:bD) (ka:Bool) (es:List (sk.T×sv.T)) (kt:List Nat×Bool) (pu:Bool)
 |abE (s:bD) (l:List s.T) (e:TypeId) (t:List SV)
def jY (s:bD) (l:List s.T):List AV:=l.flatMap (qd s)
def ab7 (s:bD) (a:Bool) (x:s.T):Value:=if a then .agg (qb s x).toArray else(qb s x).headD (.bool false)
def aaI (s:bD) (x:s.T):AV:=.sc ((qb s x).headD (.bool false))
mutual
def SV.g:SV->AV
 | .ud=> .ud
 | .sc v=> .sc v
 | .il k n=> .sc (.int k n)
 | .si k n=> .sc (.int k n)
 | .bl b=> .sc (.bool b)
 | .sb b=> .sc (.bool b)
 | .agg o=> .agg (gL o)
 | .eW o=> .eW (gL o)
 | .row s l=> .sl l.length (jY s l)
 | .ep s l i d=> .ep (jY s l) (i*s.sz+d)
 | .ptr h d m=> .ptr h d m
 | .ap h p e _ m i=> .ptr h (p+i*e) m
 | .rp h i d n e=> .ptr h (i*e+d) (n*e)
 | .ow h n e=> .os h 0 n (n*e)
 | .os h d j n e=> .os h (d*e) j (n*e)
 | .oc h d j n e=> .os h (d*e+(n*e+e)) j (n*e)
 | .mp h=> .mp h
 | .fn f a b=> .fn f (gL a) (gL b)
def gL:List SV->List AV
 |[]=>[]
 |c::o=>c.g::gL o
end
theorem yh:∀(l:List SV),gL l=l.map SV.g
 |[]=>rfl
 |c::a=>by simp[gL,yh a]
def cC.g:cC->fZ
 | .dead=> .dead
 | .cells c e i a=> .cells (gL c) e i a
 | .row s l e a=> .cells (jY s l) e s.sz a
 | .abE s l e t=> .cells (jY s l++gL t) e s.sz false
 | .map f b j h d a=> .map (h.map fun p=>(ab7 f j p.1,aaI b p.2)) d a
def encS:(s:bD)->s.T->List SV
 | .i k,n=>[.si k n]
 | .b,b=>[.sb b]
 | .uo,x=>[.si .i64 x.a0,.si .i64 x.a1,.si .i64 x.a2,.si .i64 x.a3,.si .i64 x.a4,.si .i64 x.a5]
 | .off,x=>[.si .i64 x.iy,.si .i64 x.want.a0,.si .i64 x.want.a1,.si .i64 x.want.a2,.si .i64 x.want.a3,.si .i64 x.want.a4,.si .i64 x.want.a5,.si .i64 x.value]
 | .need,x=>[.si .i64 x.atf,.si .i64 x.least]
 | .key,x=>[.si .i64 x.iy,.si .i64 x.want.a0,.si .i64 x.want.a1,.si .i64 x.want.a2,.si .i64 x.want.a3,.si .i64 x.want.a4,.si .i64 x.want.a5]
 | .sit,x=>[.si .i64 x.members,.si .i64 x.left.a0,.si .i64 x.left.a1,.si .i64 x.left.a2,.si .i64 x.left.a3,.si .i64 x.left.a4,.si .i64 x.left.a5,.si .i64 x.opn.a0,.si .i64 x.opn.a1,.si .i64 x.opn.a2,.si .i64 x.opn.a3,.si .i64 x.opn.a4,.si .i64 x.opn.a5]
 | .fa s,l=>[.row s l]
 | .pair s t,x=>encS s x.1++encS t x.2
def Hj (s s':bD) (l:List s.T):Option (List s'.T):=if h:s=s' then some (h▸l) else none
def J6 (s:bD):SV->Option (List s.T)
 | .row a l=>match Hj a s l with
  |some l=>some l
  |none=>match l with
   |[]=>some []
   |_=>none
 |_=>none
def SV.qn:SV->SV
 | .sc (.slice none 0 0)=> .row (.i .i64) []
 |v=>v
def SV.int:IntKind->SV->Option Int
 |k,.si a n=>if a=k then some n else none
 |k,.il a n=>if a=k then some n else none
 |_,_=>none
def SV.boo:SV->Option Bool
 | .sb b=>some b
 | .bl b=>some b
 |_=>none
def ints:List SV->Option (List Int)
 |[]=>some []
 |c::a=>match c.int .i64,ints a with
  |some n,some l=>some (n::l)
  |_,_=>none
def Kx:(s:bD)->List SV->Option s.T
 | .i k,[c]=>c.int k
 | .b,[c]=>c.boo
 | .uo,d=>match ints d with
  |some [f,e,l,h,g,j]=>some (⟨f,e,l,h,g,j⟩:dp)
  |_=>none
 | .off,d=>match ints d with
  |some [b,f,e,l,h,g,j,v]=>some (⟨b,⟨f,e,l,h,g,j⟩,v⟩:Off)
  |_=>none
 | .need,d=>match ints d with
  |some [a,b]=>some (⟨a,b⟩:Need)
  |_=>none
 | .key,d=>match ints d with
  |some [b,f,e,l,h,g,j]=>some (⟨b,⟨f,e,l,h,g,j⟩⟩:aaH)
  |_=>none
 | .sit,d=>match ints d with
  |some [m,f,e,l,h,g,j,p,u,n,q,r,o]=>some (⟨m,⟨f,e,l,h,g,j⟩,⟨p,u,n,q,r,o⟩⟩:Sit)
  |_=>none
 | .fa s,[c]=>J6 s c
 | .pair s t,d=>match Kx s (d.take s.sz),Kx t (d.drop s.sz) with
  |some x,some y=>some (x,y)
  |_,_=>none
 |_,_=>none
theorem anE:(s:bD)->0<s.sz
 | .i _| .b| .uo| .off| .need| .key| .sit| .fa _=>by simp[bD.sz]
 | .pair s t=>by
  have:=anE s
  grind[bD.sz]
theorem acP:(s:bD)->(x:s.T)->(encS s x).map SV.g=qd s x
 | .fa s,l=>by grind[encS,qd,SV.g,jY]
 | .pair s t,x=>by simp only[encS,qd,List.map_append,acP s x.1,acP t x.2]
 | .i _,x| .b,x| .uo,x| .off,x| .need,x| .key,x| .sit,x=>by simp[encS,qd,qb,SV.g,iv]
theorem anF:(s:bD)->(x:s.T)->(qb s x).length=s.sz
 | .pair s t,x=>by simp only[qb,List.length_append,anF s x.1,anF t x.2,bD.sz]
 | .fa _,x| .i _,x| .b,x| .uo,x| .off,x| .need,x| .key,x| .sit,x=>rfl
theorem X0:(s:bD)->(x:s.T)->(qd s x).length=s.sz
 | .pair s t,x=>by simp only[qd,List.length_append,X0 s x.1,X0 t x.2,bD.sz]
 | .fa _,x| .i _,x| .b,x| .uo,x| .off,x| .need,x| .key,x| .sit,x=>rfl
theorem akM:(s:bD)->s.flat=true->(x:s.T)->qd s x=(qb s x).map .sc
 | .pair s t,h,x=>by
  simp only[bD.flat,Bool.and_eq_true] at h;simp only[qd,qb,List.map_append,akM s h.1,akM t h.2]
 | .fa _,h,x=>by grind[bD.flat]
 | .i _,_,x| .b,_,x| .uo,_,x| .off,_,x| .need,_,x| .key,_,x| .sit,_,x=>rfl
theorem EG {k:IntKind} {c:SV} {n:Int} (h:c.int k=some n):c.g= .sc (.int k n):=by
 cases c<;>simp only[SV.int,reduceCtorEq] at h<;>grind[SV.int,reduceCtorEq,SV.g]
theorem agY {c:SV} {b:Bool} (h:c.boo=some b):c.g= .sc (.bool b):=by
 cases c<;>simp[SV.boo] at h<;>subst h<;>simp[SV.g]
theorem akN:∀{cs:List SV} {l:List Int},ints cs=some l->cs.map SV.g=l.map fun n=> .sc (iv n)
 |[],l,h=>by grind[ints]
 |c::cs,l,h=>by
  simp only[ints] at h;split at h
  ·rename_i n d a b
   simp at h;subst h
   simp[EG a,akN b,iv]
  ·cases h
theorem aaJ {s s':bD} {l:List s.T} {a:List s'.T} (h:Hj s s' l=some a):s=s'/\HEq l a:=by
 unfold Hj at h
 grind
theorem aA9 {s:bD} {v:SV} {l:List s.T} (h:J6 s v=some l):v.g= .sl l.length (jY s l):=by
 cases v<;>simp only[J6,reduceCtorEq] at h
 grind[aaJ,SV.g,jY]
theorem aaK:{s:bD}->{cs:List SV}->{x:s.T}->(h:Kx s cs=some x)->cs.map SV.g=qd s x
 | .i k,[c],_,h=>by grind[Kx,qd,qb,EG]
 | .b,[c],_,h=>by grind[Kx,qd,qb,agY]
 | .fa s,[c],_,h=>by grind[Kx,aA9,qd,jY]
 | .pair s t,cs,_,h=>by
  simp only[Kx] at h;split at h
  ·rename_i x y a d
   simp only[Option.some.injEq] at h;subst h
   have f:=aaK a
   have e:=aaK d
   simp only[qd,<-f,<-e];rw[<-List.map_append,List.take_append_drop]
  ·cases h
 | .uo,cs,_,h| .off,cs,_,h| .need,cs,_,h| .key,cs,_,h| .sit,cs,_,h=>by
  simp only[Kx] at h;split at h
  ·rename_i a
   simp at h;subst h
   rw[akN a]
   simp[qd,qb]
  ·cases h
theorem aBa (v:SV):v.qn.g=v.g.qn:=by
 unfold SV.qn;split
 ·simp[SV.g,AV.qn,jY]
 ·rename_i h
  cases v<;>grind[SV.g,AV.qn,AV.sc.injEq]
theorem akO:(s:bD)->(x:s.T)->∀v∈qb s x,v.oneCell'=true
 | .pair s t,x=>by
  intro v a;simp only[qb] at a
  rcases List.mem_append.1 a with h|h
  ·exact akO s _ v h
  ·exact akO t _ v h
 | .fa _,x| .i _,x| .b,x| .uo,x| .off,x| .need,x| .key,x| .sit,x=>by simp[qb,iv,Value.oneCell']
def Plain (a:AV):Prop:=(∃v,a= .sc v/\v.oneCell'=true/\v≠ .slice none 0 0)\/∃n b,a= .sl n b/\pZ b=true
theorem akP:∀{l:List AV},(∀a∈l,a.pure=true)->pZ l=true
 |[],_=>by simp[pZ]
 |a::l,h=>by simp[pZ,h a (by simp),akP (l:=l) fun b c=>h b (by simp[c])]
theorem anG {k:Nat}:∀{l:List AV},(∀a∈l,a.ig k=true)->sf k l=true
 |[],_=>by simp[sf]
 |a::l,h=>by simp[sf,h a (by simp),anG (l:=l) fun b c=>h b (by simp[c])]
theorem Plain.pure {a:AV} (h:Plain a):a.pure=true:=by
 rcases h with⟨v,rfl,_⟩|⟨n,b,rfl,h⟩<;>grind[AV.pure]
theorem Plain.ig {a:AV} (h:Plain a) (k:Nat):a.ig k=true:=by
 rcases h with⟨v,rfl,_⟩|⟨n,b,rfl,h⟩<;>simp[AV.ig]
theorem Plain.one {a:AV} (h:Plain a):a.one=true:=by
 rcases h with⟨v,rfl,h,_⟩|⟨n,b,rfl,h⟩<;>grind[AV.one]
theorem aiB:(s:bD)->(x:s.T)->∀a∈qd s x,Plain a
 | .pair s t,x=>by
  intro a c;simp only[qd] at c
  rcases List.mem_append.1 c with h|h
  ·exact aiB s _ a h
  ·exact aiB t _ a h
 | .fa s,l=>by
  intro a c;simp only[qd,List.mem_singleton] at c;subst c
  refine .inr ⟨_,_,rfl,akP fun b e=>?_⟩
  obtain⟨y,_,f⟩:=List.mem_flatMap.1 e
  exact(aiB s y b f).pure
 | .i _,x| .b,x| .uo,x| .off,x| .need,x| .key,x| .sit,x=>by
  intro a c;simp only[qd] at c
  obtain⟨v,d,rfl⟩:=List.mem_map.1 c
  refine .inl ⟨v,rfl,akO _ _ v d,?_⟩
  rintro rfl
  simp[qb,iv] at d
theorem aaL {s:bD} {l:List s.T} {a:AV} (h:a∈jY s l):Plain a:=by
 grind[jY,aiB]
theorem acQ (s:bD) (l:List s.T):pZ (jY s l)=true:=akP fun a h=>(aaL h).pure
theorem atg (k:Nat) (s:bD) (l:List s.T):sf k (jY s l)=true:=anG fun a h=>(aaL h).ig k
theorem akQ (s:bD) (l:List s.T):s5 (jY s l)=true:=by
 simp only[s5,List.all_eq_true];intro a h
 exact(aaL h).one
theorem xl (s:bD) (l:List s.T):(jY s l).length=l.length*s.sz:=by
 induction l<;>grind[jY,X0]
theorem ath (s:bD) (l a:List s.T):jY s (l++a)=jY s l++jY s a:=by simp[jY]
theorem anH (s:bD):∀(l:List s.T) (i:Nat),(jY s l).drop (i*s.sz)=jY s (l.drop i)
 |l,0=>by simp
 |[],i+1=>by simp[jY]
 |x::l,i+1=>by
  have h:=anH s l i
  simp only[jY,List.flatMap_cons,List.drop_succ_cons] at h ⊢
  rw[Nat.succ_mul,Nat.add_comm,List.drop_append,X0,Nat.add_sub_cancel_left,h,List.drop_of_length_le (by grind[X0])]
  simp
theorem ati (s:bD):∀(l:List s.T) (i:Nat),(jY s l).take (i*s.sz)=jY s (l.take i)
 |l,0=>by simp[jY]
 |[],i+1=>by simp[jY]
 |x::l,i+1=>by
  have h:=ati s l i
  simp only[jY,List.flatMap_cons,List.take_succ_cons] at h ⊢
  rw[Nat.succ_mul,Nat.add_comm,List.take_append,X0,Nat.add_sub_cancel_left,h,List.take_of_length_le (by grind[X0])]
def bo {a:Type} (l:List a) (i:Nat) (d:a):a:=(l[i]?).getD d
theorem jV {a:Type} {l:List a} {i:Nat} {d:a} (h:i<l.length):bo l i d=l[i]:=by simp[bo,h]
theorem aBb {s:bD} {l:List s.T} {i:Nat} (h:i<l.length):(jY s l).drop (i*s.sz)=qd s (bo l i s.dflt)++jY s (l.drop (i+1)):=by
 rw[anH,List.drop_eq_getElem_cons h,jV h]
 grind[jY]
abbrev xJ:=List (Nat×SV)
abbrev ie:=List cC
structure iz where
 env:xJ
 o:ie
def MD:xJ->Nat->SV
 |[],_=> .ud
 |p::r,s=>bif Nat.beq p.1 s then p.2 else MD r s
def afy (env:xJ) (a:Option Nat) (v:SV):xJ:=
 match a with
 |none=>env
 |some d=>(d,v)::env
def SV.abG:Value->SV
 | .int k n=> .il k n
 | .bool b=> .bl b
 |v=> .sc v
def SV.aff:Value->SV
 | .agg a=>if a.toList.all (·.oneCell') then .agg (a.toList.map .abG) else .ud
 | .tuple _=> .ud
 | .int k n=> .il k n
 | .bool b=> .bl b
 |v=> .sc v
def Ky (env:xJ):Operand->SV
 | .tmp t=>MD env t
 | .const v=> .aff v
 | .global _=> .ud
 | .func f=> .fn (.func f) [] []
def SV.cellsOf:SV->List SV
 | .agg a=>a
 |v=>[v]
def SV.one:SV->Bool
 | .agg _| .eW _| .ud=>false
 | .sc v=>v.oneCell'
 |_=>true
def agZ (l:List SV):Bool:=l.all (·.one)
mutual
def SV.pure:SV->Bool
 | .sc _| .il .. | .si .. | .bl _| .sb _| .row .. =>true
 |_=>false
def akR:List SV->Bool
 |[]=>true
 |c::a=>c.pure&&akR a
end
mutual
def SV.ig (k:Nat):SV->Bool
 | .ud| .sc _| .il .. | .si .. | .bl _| .sb _| .row .. | .ep .. =>true
 | .agg e| .eW e=>ad2 k e
 | .ptr d .. | .ap d .. | .rp d .. | .ow d .. | .os d .. | .oc d .. | .mp d=>decide (d<k)
 | .fn _ a b=>ad2 k a&&ad2 k b
def ad2 (k:Nat):List SV->Bool
 |[]=>true
 |c::e=>c.ig k&&ad2 k e
end
def cC.ig (k:Nat):cC->Bool
 | .cells b _ _ a=>a||ad2 k b
 | .abE _ _ _ t=>ad2 k t
 |_=>true
mutual
def SV.S1:SV->Bool
 | .ud| .sc _| .il .. | .si .. | .bl _| .sb _=>true
 | .agg a| .eW a=>akS a
 |_=>false
def akS:List SV->Bool
 |[]=>true
 |c::a=>c.S1&&akS a
end
def iR (k:IntKind) (n:Int):Prop:=
 match k with
 | .i64=> -9223372036854775808<=n/\n<=9223372036854775807
 |k=>k.wrap n=n
def afz (k:IntKind) (n:Int) (K:Int->Prop):Prop:=
 match k with
 | .u32=>K (n % 4294967296)
 | .u64=>K (n % 18446744073709551616)
 |k=>iR k n/\K n
structure atj where
 pure:FuncId->List SV->(SV->Prop)->Prop
 own:FuncId->List SV->ie->(SV->ie->Prop)->Prop
structure HT where
 C:atj
 ty:TypeId->Option bD
 mt:List Nat×Bool->Option (bD×bD)
 sp:Nat->Option (Nat×Nat×Nat):=fun _=>none
 it:FuncId->Option uC:=fun _=>none
 ro:FuncId->Bool:=fun _=>false
def ad3 (cs:List SV) (a:Nat):Option Nat->Option SV
 |none=>cs[a]?
 |some n=>if a+n<=cs.length then some (.agg ((cs.drop a).take n)) else none
def aeJ (cs:List SV) (a:Nat):List SV->List SV
 |[]=>cs
 |v::b=>aeJ (cs.set a v) (a+1) b
def HU {b:Type} (x:Option b) (K:b->Prop):Prop:=match x with|some a=>K a|none=>False
def afA {b:Type} (f:SV->(b->Prop)->Prop):List SV->(List b->Prop)->Prop
 |[],K=>K []
 |v::c,K=>f v fun a=>afA f c fun d=>K (a::d)
def adl (o:ie):Nat->SV->(SV->Prop)->Prop
 |_,.ud,K=>K .ud
 |_,.sc v,K=>match v with
  | .slice none 0 0=>K (.row (.i .i64) [])
  |v=>K (.sc v)
 |_,.il k n,K=>K (.il k n)
 |_,.si k n,K=>K (.si k n)
 |_,.bl b,K=>K (.bl b)
 |_,.sb b,K=>K (.sb b)
 |_,.row s l,K=>K (.row s l)
 |d+1,.agg j,K=>afA (adl o d) j fun c=>K (.agg c)
 |d+1,.eW j,K=>afA (adl o d) j fun c=>K (.eW c)
 |d+1,.fn f a b,K=>afA (adl o d) a fun p=>afA (adl o d) b fun q=>K (.fn f p q)
 |_+1,.ow m n h,K=>match o[m]? with
  |some (.row s l _ _)=>if h=s.sz then n=l.length/\K (.row s l) else False
  |_=>False
 |_+1,.os m g e n h,K=>match o[m]? with
  |some (.row s l _ _)=>if h=s.sz then n=l.length/\g+e<=n/\K (.row s ((l.drop g).take e)) else False
  |_=>False
 |_,_,_=>False
def ZX (o:ie) (a:SV) (n:Option Nat) (K:SV->Prop):Prop:=
 match a with
 | .ptr h b d=>match o[h]? with
  |some (.cells c _ _ _)=>if c.length=d then HU (ad3 c b n) K else False
  |_=>False
 | .ap h e g f d i=>match o[h]? with
  |some (.cells c _ _ _)=>if c.length=d/\e+g*f<=d then i<f/\aiC ((c.drop e).take (g*f)) g i n K else False
  |_=>False
 | .ep s l i b=>i<l.length/\HU (ad3 (encS s (bo l i s.dflt)) b n) K
 | .rp h i b m g=>match o[h]? with
  |some (.row s l _ _)=>if g=s.sz then m=l.length/\i<l.length/\HU (ad3 (encS s (bo l i s.dflt)) b n) K else False
  |_=>False
 |_=>False
where
 aiC (c:List SV) (g i:Nat) (n:Option Nat) (K:SV->Prop):Prop:=
  match n,g with
  |none,1=>match ints c with
   |some l=>K (.si .i64 (bo l i 0))
   |none=>match rowsOff c with
    |some l=>K (.row .off (bo l i []))
    |none=>False
  |_,_=>False
 rowsOff:List SV->Option (List (List Off))
  |[]=>some []
  | .row .off l::c=>(rowsOff c).map (l::·)
  |_=>none
def mkK (ei:Nat) (x:cC) (o:ie) (K:ie->Prop):Prop:=
 match o[ei]? with
 |some .dead=>K (o.set ei x)
 |_=>False
def ad4 (a:List (Nat×Nat×SV)) (cs:List SV):Option (List SV):=
 match a with
 |[]=>some cs
 |(b,n,v)::c=>
  if v.cellsOf.length=n/\agZ v.cellsOf=true/\b+n<=cs.length then ad4 c (aeJ cs b v.cellsOf) else none
def aeK (s:bD):Nat->List SV->Option (List s.T)
 |0,[]=>some []
 |n+1,a=>match Kx s (a.take s.sz),aeK s n (a.drop s.sz) with
  |some x,some l=>some (x::l)
  |_,_=>none
 |_,_=>none
def afB (o:ie) (s:bD) (x:SV) (K:List s.T->Prop):Prop:=
 match x with
 | .row a l=>HU (Hj a s l) K
 | .ow d n e=>match o[d]? with
  |some (.row a l _ _)=>if e=a.sz then n=l.length/\HU (Hj a s l) K else False
  |_=>False
 | .os d c b n e=>match o[d]? with
  |some (.row a l _ _)=>if e=a.sz then n=l.length/\c+b<=n/\HU (Hj a s ((l.drop c).take b)) K else False
  |_=>False
 | .sc (.slice none 0 0)=>K []
 |_=>False
def atl (o:ie):SV->Option (List SV)
 | .ow j 1 a=>match o[j]? with
  |some (.abE s [] _ t)=>if s.sz=a then some t else none
  |_=>none
 |_=>none
def SV.atm:SV->Bool
 | .ow .. =>true
 |_=>false
def aiD:SV->Option Int
 | .si _ n=>some n
 | .il _ n=>some n
 |_=>none
def isNil:SV->Bool
 | .sc (.slice none 0 0)=>true
 |_=>false
def B2 (e:BinOp) (x y:SV) (K:SV->Prop):Prop:=
 match x,y with
 | .il k a,.il d b=>match BJ e (.int k a) (.int d b) with
  |some (.int k n)=>K (.il k n)
  |some (.bool c)=>K (.bl c)
  |_=>False
 | .si k a,.si d b=>go k a d b
 | .il k a,.si d b=>go k a d b
 | .si k a,.il d b=>go k a d b
 | .sc (.string a),.sc (.string b)=>match e with
  | .eql=>K (.sb (a.toList==b.toList))
  | .neq=>K (.sb (!(a.toList==b.toList)))
  |_=>False
 |_,_=>False
where
 go (k:IntKind) (a:Int) (d:IntKind) (b:Int):Prop:=
  match e with
  | .shl=>0<=b/\b<=k.bits/\afz k (a*2^b.toNat) fun n=>K (.si k n)
  | .shr=>0<=b/\b<=k.bits/\K (.si k (a / 2^b.toNat))
  | .add=>if k=d then afz k (a+b) fun n=>K (.si k n) else False
  | .sub=>if k=d then afz k (a - b) fun n=>K (.si k n) else False
  | .mul=>if k=d then afz k (a*b) fun n=>K (.si k n) else False
  | .quo=>if k=d then b≠0/\iR k (a.tdiv b)/\K (.si k (a.tdiv b)) else False
  | .rem=>if k=d then b≠0/\K (.si k (a.tmod b)) else False
  | .and=>if k=d then K (.si k (afC k a b)) else False
  | .or=>if k=d then K (.si k (orI k a b)) else False
  | .xor=>if k=d then K (.si k (anI k a b)) else False
  | .andNot=>if k=d then K (.si k (akT k a b)) else False
  | .eql=>if k=d then K (.sb (decide (a=b))) else False
  | .neq=>if k=d then K (.sb (decide (a≠b))) else False
  | .lss=>if k=d then K (.sb (decide (a<b))) else False
  | .leq=>if k=d then K (.sb (decide (a<=b))) else False
  | .gtr=>if k=d then K (.sb (decide (b<a))) else False
  | .geq=>if k=d then K (.sb (decide (b<=a))) else False
 afC (k:IntKind) (a b:Int):Int:=um k (BitVec.ofInt k.bits a &&&BitVec.ofInt k.bits b).toNat
 orI (k:IntKind) (a b:Int):Int:=um k (BitVec.ofInt k.bits a |||BitVec.ofInt k.bits b).toNat
 anI (k:IntKind) (a b:Int):Int:=um k (BitVec.ofInt k.bits a ^^^BitVec.ofInt k.bits b).toNat
 akT (k:IntKind) (a b:Int):Int:=um k (BitVec.ofInt k.bits a &&&~~~(BitVec.ofInt k.bits b)).toNat
def anJ:SV->SV->Option Bool
 | .si k a,y=>(y.int k).map fun b=>decide (a=b)
 | .il k a,y=>(y.int k).map fun b=>decide (a=b)
 | .sb a,y=>y.boo.map fun b=>a==b
 | .bl a,y=>y.boo.map fun b=>a==b
 |_,_=>none
def aeL:List SV->List SV->Option Bool
 |[],[]=>some true
 |x::d,y::c=>match anJ x y,aeL d c with
  |some a,some b=>some (a&&b)
  |_,_=>none
 |_,_=>none
def Xx:List Nat->List SV->Bool
 |[],[]=>true
 |0::a,.si _ _::b=>Xx a b
 |0::a,.il _ _::b=>Xx a b
 |1::a,.sb _::b=>Xx a b
 |1::a,.bl _::b=>Xx a b
 |_,_=>false
def abd (a sv:bD) (x:a.T) (es:List (a.T×sv.T)):Option sv.T:=(es.find? fun p=>decide (p.1=x)).map (·.2)
def ad5 (a sv:bD) (x:a.T) (v:sv.T):List (a.T×sv.T)->List (a.T×sv.T)
 |[]=>[(x,v)]
 |p::r=>if p.1=x then(x,v)::r else p::ad5 a sv x v r
def afD (a:Bool):SV->Bool
 | .agg _=>a
 |_=>!a
def bD.keyed:bD->Bool
 | .key| .sit| .i _=>true
 |_=>false
def abe (d:Nat):Option SV->(Nat->Prop)->Prop
 |none,K=>K d
 |some (.il _ n),K=>if 0<=n then K n.toNat else False
 |some (.si _ n),K=>0<=n/\K n.toNat
 |_,_=>False
def aeM:List Int->Nat->Int->Nat->List Int
 |[],_,_,_=>[]
 |a::l,i,v,j=>(if i=j then v else a)::aeM l i v (j+1)
def uq (p:HT) (op:kh) (ρ:Operand->SV) (o:ie) (ei:Nat) (K:SV->ie->Prop):Prop:=
 match op with
 | .mov x=>K (ρ x) o
 | .pick c a b=>match ρ c with
  | .bl true=>K (ρ a) o
  | .bl false=>K (ρ b) o
  | .sb c=>(c=true->K (ρ a) o)/\(c=false->K (ρ b) o)
  |_=>False
 | .alloc z e pu=>mkK ei (.cells (z.map .abG) e z.length pu) o fun o'=>K (.ptr ei 0 z.length) o'
 | .box e x=>if agZ (ρ x).cellsOf then mkK ei (.cells (ρ x).cellsOf e (ρ x).cellsOf.length false) o fun o'=>K (.ptr ei 0 (ρ x).cellsOf.length) o' else False
 | .build z parts=>HU (ad4 (parts.map fun q=>(q.1,q.2.1,ρ q.2.2)) (z.map .abG)) fun cs=>K (.agg cs) o
 | .abZ z len parts e sz=>match p.ty e,ad4 (parts.map fun q=>(q.1,sz,ρ q.2)) ((List.replicate len (z.map SV.abG)).flatten) with
  |some s,some cs=>if s.sz=sz then(if cs.any SV.atm then(if cs.length=len*sz then mkK ei (.abE s [] e cs) o fun o'=>K (.ow ei len sz) o' else False) else HU (aeK s len (cs.map SV.qn)) fun l=>mkK ei (.row s l e true) o fun o'=>K (.ow ei len sz) o') else False
  |_,_=>False
 | .aes z len parts e sz=>match p.ty e,ad4 (parts.map fun q=>(q.1,sz,ρ q.2)) ((List.replicate len (z.map SV.abG)).flatten) with
  |some s,some cs=>if s.sz=sz then HU (aeK s len (cs.map SV.qn)) fun l=>K (.row s l) o else False
  |_,_=>False
 | .load n a=>ZX o (ρ a) n fun v=>K v o
 | .store n a x=>match ρ a with
  | .ptr id off tot=>match o[id]? with
   |some (.cells cs e sz pu)=>
    if cs.length=tot/\(ρ x).cellsOf.length=n/\agZ (ρ x).cellsOf=true/\off+n<=cs.length/\(pu=false\/akR (ρ x).cellsOf=true) then K .ud (o.set id (.cells (aeJ cs off (if pu then(ρ x).cellsOf.map SV.qn else(ρ x).cellsOf)) e sz pu)) else False
   |_=>False
  | .rp id i off m sz=>match o[id]? with
   |some (.row s l e pu)=>
    if sz=s.sz/\(ρ x).cellsOf.length=n/\off+n<=s.sz then m=l.length/\i<l.length/\HU (Kx s (aeJ (encS s (bo l i s.dflt)) off (if pu then(ρ x).cellsOf.map SV.qn else(ρ x).cellsOf))) fun v=>K .ud (o.set id (.row s (l.set i v) e pu)) else False
   |_=>False
  | .ap id base sz len tot i=>match o[id]? with
   |some (.cells cs e sz' pu)=>match n,sz,(ρ x).int .i64 with
    |1,1,some v=>match ints ((cs.drop base).take len) with
     |some l=>if cs.length=tot/\base+len<=tot then i<len/\K .ud (o.set id (.cells (aeJ cs base ((aeM l i v 0).map (SV.si .i64))) e sz' pu)) else False
     |none=>False
    |_,_,_=>False
   |_=>False
  |_=>False
 | .afh x=>match ρ x with
  | .ptr a b c=>K (.ptr a b c) o
  | .rp a b c d e=>K (.rp a b c d e) o
  | .ep s l i f=>K (.ep s l i f) o
  |_=>False
 | .bin op x y=>B2 op (ρ x) (ρ y) fun v=>K v o
 | .beq neg x y=>match(ρ x).boo,(ρ y).boo with
  |some a,some b=>K (.sb (if neg then !(a==b) else a==b)) o
  |_,_=>False
 | .eqf neg ks x y=>match ρ x,ρ y with
  | .agg a,.agg b=>if Xx ks a&&Xx ks b then HU (aeL a b) fun r=>K (.sb (if neg then !r else r)) o else False
  |_,_=>False
 | .un op x=>match op,ρ x with
  | .not,.sb b=>K (.sb !b) o
  | .not,.bl b=>K (.bl !b) o
  | .neg,.si k n=>iR k (-n)/\K (.si k (-n)) o
  | .neg,.il k n=>K (.il k (um k (0 - n))) o
  |_,_=>False
 | .conv k x=>match ρ x with
  | .il _ n=>K (.il k (um k n)) o
  | .si .i64 n=>iR k n/\K (.si k n) o
  | .si _ n=>afz k n fun m=>K (.si k m) o
  |_=>False
 | .afi off x=>match ρ x with
  | .ptr id b tot=>K (.ptr id (b+off) tot) o
  | .ep s l i b=>K (.ep s l i (b+off)) o
  | .rp id i b m sz=>K (.rp id i (b+off) m sz) o
  |_=>False
 | .field off n x=>match ρ x with
  | .agg cs=>HU (ad3 cs off n) fun v=>K v o
  |_=>False
 | .afj len sz x i=>match ρ i with
  | .il _ n=>if 0<=n/\n<len then(match ρ x with
   | .ptr id b tot=>K (.ptr id (b+n.toNat*sz) tot) o
   | .ep s l j b=>K (.ep s l j (b+n.toNat*sz)) o
   | .rp id j b m sz'=>K (.rp id j (b+n.toNat*sz) m sz') o
   |_=>False) else False
  | .si _ n=>match ρ x with
   | .ptr id b tot=>0<=n/\n<len/\K (.ap id b sz len tot n.toNat) o
   |_=>False
  |_=>False
 | .adT sz x i=>match aiD (ρ i) with
  |some n=>match ρ x with
   | .row s l=>if sz=s.sz then 0<=n/\n<l.length/\K (.ep s l n.toNat 0) o else False
   | .ow id m sz'=>match o[id]? with
    |some (.row s l _ _)=>if sz=s.sz/\sz'=s.sz then m=l.length/\0<=n/\n<l.length/\K (.rp id n.toNat 0 m sz) o else False
    |_=>False
   | .os id off len m sz'=>match o[id]? with
    |some (.row s l _ _)=>if sz=s.sz/\sz'=s.sz then m=l.length/\0<=n/\n<len/\off+len<=m/\K (.rp id (off+n.toNat) 0 m sz) o else False
    |_=>False
   | .oc id off len m sz'=>match o[id]? with
    |some (.row s l _ _)=>if sz=s.sz/\sz'=s.sz then m=l.length/\0<=n/\n<len/\off+len<=m/\K (.rp id (off+n.toNat) 0 m sz) o else False
    |_=>False
   |_=>False
  |none=>False
 | .idx len sz n x i=>match ρ i,ρ x with
  | .il _ k,.agg cs=>if 0<=k/\k<len then HU (ad3 cs (k.toNat*sz) n) fun v=>K v o else False
  | .si _ k,.agg cs=>match n,sz,ints cs with
   |none,1,some l=>if l.length=len then 0<=k/\k<len/\K (.si .i64 (bo l k.toNat 0)) o else False
   |_,_,_=>False
  |_,_=>False
 | .acC z e sz bytes l c pu=>match aiD (ρ l),aiD (ρ c),p.ty e with
  |some n,some m,some s=>if s.sz=sz then HU (Kx s (if pu then(z.map SV.abG).map SV.qn else z.map .abG)) fun x=>0<=n/\n<=m/\m*bytes<=140737488355328/\m<=1000000000000/\
    mkK ei (.row s (List.replicate n.toNat x) e pu) o fun o'=>K (.ow ei n.toNat sz) o' else False
  |_,_,_=>False
 | .slice sz x lo hi=>match ρ x with
  | .row s l=>if sz=s.sz then abe 0 (lo.map ρ) fun a=>abe l.length (hi.map ρ) fun b=>a<=b/\b<=l.length/\K (.row s ((l.drop a).take (b - a))) o else False
  | .ow id m sz'=>match o[id]? with
   |some (.row s l _ _)=>if sz=s.sz/\sz'=s.sz then m=l.length/\abe 0 (lo.map ρ) fun a=>abe m (hi.map ρ) fun b=>a<=b/\b<=m/\K (.os id a (b - a) m sz) o else False
   |_=>False
  | .os id off len m sz'=>match o[id]? with
   |some (.row s l _ _)=>if sz=s.sz/\sz'=s.sz then m=l.length/\abe 0 (lo.map ρ) fun a=>abe len (hi.map ρ) fun b=>a<=b/\b<=len/\K (.os id (off+a) (b - a) m sz) o else False
   |_=>False
  |_=>False
 | .slice3 sz x lo hi mx=>match ρ x with
  | .row s l=>if sz=s.sz then abe 0 (lo.map ρ) fun a=>abe l.length (some (ρ hi)) fun b=>abe l.length (some (ρ mx)) fun m=>a<=b/\b<=m/\m<=l.length/\K (.row s ((l.drop a).take (b - a))) o else False
  | .ow id n sz'=>match o[id]? with
   |some (.row s l _ _)=>if sz=s.sz/\sz'=s.sz then n=l.length/\abe 0 (lo.map ρ) fun a=>abe n (some (ρ hi)) fun b=>abe n (some (ρ mx)) fun m=>a<=b/\b<=m/\m<=n/\K (.oc id a (b - a) n sz) o else False
   |_=>False
  |_=>False
 | .append e sz bytes s x pu=>match p.ty e,atl o (ρ x) with
  |some t,some tl=>match ρ s,ρ x with
   | .ow id n sz',.ow _ _ sz2=>match o[id]? with
    |some (.row t' l e' pu')=>if e'=e/\t'.sz=sz/\sz'=sz/\sz2=sz/\t.sz=sz/\pu'=false/\tl.length=sz/\agZ tl=true then n=l.length/\(l.length+1)*bytes<=140737488355328/\l.length+1<=1000000000000/\
      K (.ow id (l.length+1) sz) (o.set id (.abE t' l e tl)) else False
    |_=>False
   |_,_=>False
  |some t,none=>if t.sz=sz then afB o t (ρ x) fun new=>match ρ s with
    | .sc (.slice none 0 0)=>(new.length=0->K (.sc aic) o)/\(new.length≠0->new.length*bytes<=140737488355328/\new.length<=1000000000000/\mkK ei (.row t new e pu) o fun o'=>K (.ow ei new.length sz) o')
    | .ow id n sz'=>match o[id]? with
     |some (.row t' l e' pu')=>if e'=e/\t'.sz=sz/\sz'=sz then n=l.length/\(l.length+new.length)*bytes<=140737488355328/\l.length+new.length<=1000000000000/\
       HU (Hj t' t l) fun l'=>K (.ow id (l'++new).length sz) (o.set id (.row t (l'++new) e pu')) else False
     |_=>False
    | .row t' l=>new.length=0/\K (.row t' l) o
    |_=>False
   else False
  |none,_=>False
 | .len k x=>match k,ρ x with
  |0,.row _ l=>K (.si .i64 l.length) o
  |0,.ow _ n _=>K (.si .i64 n) o
  |0,.os _ _ len _ _=>K (.si .i64 len) o
  |0,.oc _ _ len _ _=>K (.si .i64 len) o
  |0,.sc (.slice none 0 0)=>K (.il .i64 0) o
  |1,.sc (.string s)=>K (.si .i64 s.size) o
  |2,.mp id=>match o[id]? with
   |some (.map _ _ _ es _ _)=>K (.si .i64 es.length) o
   |_=>False
  |_,_=>False
 | .afl n=>K (.il .i64 n) o
 | .mm mx x y=>match ρ x,ρ y with
  | .il k a,.il k' b=>if k=k' then K (.il k (if mx then(if b>a then b else a) else(if b<a then b else a))) o else False
  | .si k a,y=>HU (y.int k) fun b=>K (.si k (if mx then max a b else min a b)) o
  | .il k a,y=>HU (y.int k) fun b=>K (.si k (if mx then max a b else min a b)) o
  |_,_=>False
 | .call f args own=>akU p f (args.map ρ) o own K
 | .MC f args own=>match ρ f with
  | .fn (.func g) first captured=>akU p g (first++args.map ρ++captured) o own K
  |_=>False
 | .extract x i=>match ρ x with
  | .eW vs=>HU vs[i]? fun v=>K v o
  |_=>False
 | .aeu f first captured=>K (.fn f (first.map ρ) (captured.map ρ)) o
 | .acD kt pu=>match p.mt kt with
  |some (sk,sv)=>mkK ei (.map sk sv kt.2 [] kt pu) o fun o'=>K (.mp ei) o'
  |none=>False
 | .lookup z agg ks ka x k ok=>match ρ x with
  | .mp id=>match o[id]? with
   |some (.map sk sv ka' es kt _)=>
    if kt=(ks,ka)/\ka'=ka/\sk.keyed=true/\sv.agX=true/\agg=false/\(ka=false->sk.sz=1)/\Xx ks (ρ k).cellsOf=true/\afD ka (ρ k)=true then
     HU (Kx sk (ρ k).cellsOf) fun kv=>HU (Kx sv (z.map .abG)) fun zv=>
      let r:=(encS sv ((abd sk sv kv es).getD zv)).headD .ud
      K (if ok then .eW [r,.sb (abd sk sv kv es).isSome] else r) o
    else False
   |_=>False
  |_=>False
 | .ac4 ks ka x k v=>match ρ x with
  | .mp id=>match o[id]? with
   |some (.map sk sv ka' es kt pu)=>
    if kt=(ks,ka)/\ka'=ka/\sk.keyed=true/\sv.agX=true/\(ka=false->sk.sz=1)/\Xx ks (ρ k).cellsOf=true/\afD ka (ρ k)=true/\afD false (ρ v)=true then
     HU (Kx sk (ρ k).cellsOf) fun kv=>HU (Kx sv (ρ v).cellsOf) fun vv=>K .ud (o.set id (.map sk sv ka' (ad5 sk sv kv vv es) kt pu))
    else False
   |_=>False
  |_=>False
 |_=>False
where
 akU (p:HT) (f:FuncId) (args:List SV) (o:ie) (own:Bool) (K:SV->ie->Prop):Prop:=
  if own then p.C.own f args o K
  else afA (adl o 6) args fun args'=>p.C.pure f args' fun r=>if(args.flatMap (fun v=>x7 (o.map cC.g) 6 v.g)).isEmpty||r.S1 then K r o else False
def ag1:xJ->Nat->SV->xJ
 |[],_,_=>[]
 |p::r,s,v=>bif Nat.beq p.1 s then(p.1,v)::r else p::ag1 r s v
def anL (env:xJ) (g:Option (Option Nat×Bool)) (K:xJ->Bool->Prop):Prop:=
 match g with
 |none=>K env true
 |some (none,_)=>False
 |some (some s,b)=>match MD env s with
  | .bl c=>K env (c==b)
  | .sb c=>(c=true->K (ag1 env s (.bl true)) (true==b))/\(c=false->K (ag1 env s (.bl false)) (false==b))
  | .eW []=>K env false
  |_=>False
def SV.same (v w:SV):Prop:=v.g=w.g
def cC.same (x y:cC):Prop:=x.g=y.g
def ME:ie->ie->Prop
 |[],[]=>True
 |x::o,y::a=>x.same y/\ME o a
 |_,_=>False
def roK (p:HT) (a:kh) (o o':ie) (K:Bool->Prop):Prop:=
 match a with
 | .call f _ true=>if p.ro f=true then ME o o'/\K true else K false
 |_=>K false
def ag2 (p:HT) (base:Nat):List og->iz->Trace->(iz->Trace->Prop)->Prop
 |[],b,c,K=>K b c
 |i::r,b,c,K=>anL b.env i.guard fun a w=>
   if w then uq p i.op (Ky a) b.o (base+i.ei) fun v d=>roK p i.op b.o d fun e=>ag2 p base r ⟨afy a i.dst v,d⟩ ((i.idx,qq i.op (fun x=>(Ky a x).g) (b.o.map cC.g) (base+i.ei),if e then[] else wrt i.op (fun x=>(Ky a x).g) (b.o.map cC.g) (base+i.ei))::c) K
   else ag2 p base r ⟨afy a i.dst (.eW []),b.o⟩ ((i.idx,[],[])::c) K
def cC.aaB:cC->Bool
 | .dead=>true
 |_=>false
def anM (base:Nat) (o:ie):ie:=if(o.drop base).all (·.aaB) then o.take base else o
def anN (p:HT) (k:Nat) (c:List og) (b:List (Nat×Nat)) (st:iz) (K:iz->Prop):Prop:=
 ag2 p st.o.length c ⟨st.env,st.o++List.replicate k .dead⟩ [] fun a d=>
  if b.isEmpty||aew (st.o.length+k) d.reverse b then K ⟨a.env,if k=0 then a.o else anM st.o.length a.o⟩ else False
mutual
def QU (id:Nat) (s:bD) (l:List s.T):SV->(SV->Prop)->Prop
 | .ow j n m,K=>if j=id then(if m=s.sz then n=l.length/\K (.row s l) else False) else K (.ow j n m)
 | .os j h g n m,K=>if j=id then(if m=s.sz then n=l.length/\h+g<=n/\K (.row s ((l.drop h).take g)) else False) else K (.os j h g n m)
 | .oc j h g n m,K=>if j=id then False else K (.oc j h g n m)
 | .rp j i f n m,K=>if j=id then False else K (.rp j i f n m)
 | .ptr j f t,K=>if j=id then False else K (.ptr j f t)
 | .ap j a b c d e,K=>if j=id then False else K (.ap j a b c d e)
 | .agg o,K=>adn id s l o fun k=>K (.agg k)
 | .eW o,K=>adn id s l o fun k=>K (.eW k)
 | .fn f a b,K=>adn id s l a fun p=>adn id s l b fun r=>K (.fn f p r)
 |v,K=>K v
def adn (id:Nat) (s:bD) (l:List s.T):List SV->(List SV->Prop)->Prop
 |[],K=>K []
 |c::o,K=>QU id s l c fun q=>adn id s l o fun k=>K (q::k)
end
def aiE (id:Nat) (s:bD) (l:List s.T):xJ->(xJ->Prop)->Prop
 |[],K=>K []
 |(k,v)::r,K=>QU id s l v fun a=>aiE id s l r fun b=>K ((k,a)::b)
def abf (id:Nat) (s:bD) (l:List s.T):Nat->ie->(ie->Prop)->Prop
 |_,[],K=>K []
 |i,x::r,K=>match x with
  | .cells g e h b=>if b then(if i=id then False else abf id s l (i+1) r fun a=>K (.cells g e h b::a)) else adn id s l g fun d=>abf id s l (i+1) r fun a=>K (.cells d e h b::a)
  | .abE c f e t=>if i=id then False else adn id s l t fun j=>match aeK c 1 j with
   |some m=>abf id s l (i+1) r fun a=>K (.row c (f++m) e false::a)
   |none=>False
  | .row c f e b=>if i=id then(if b then abf id s l (i+1) r fun a=>K (.dead::a) else False) else abf id s l (i+1) r fun a=>K (.row c f e b::a)
  |x=>abf id s l (i+1) r fun a=>K (x::a)
def aeN (p:HT) (lo:Nat) (h:Sm) (st:iz) (K:iz->Prop):Prop:=
 if h.own then match h.off with
  |none=>if isNil (MD st.env h.slot) then(match p.ty h.e with
    |some s=>if s.sz=h.sz then K ⟨(h.slot,.ow st.o.length 0 h.sz)::st.env,st.o++[.row s [] h.e h.pu]⟩ else False
    |none=>False) else if h.sz=0 then(match MD st.env h.slot with
     | .ow a _ _=>match st.o[a]? with
      |some (.row s l e true)=>K ⟨st.env,st.o.set a (.row s l e false)⟩
      |_=>False
     |_=>False) else K st
  |some k=>match MD st.env h.slot with
   | .ptr a b c=>match st.o[a]? with
    |some (.cells d e i f)=>if(d[b+k]?).any isNil then(if d.length=c/\f=false then(match p.ty h.e with
      |some s=>if s.sz=h.sz then K ⟨st.env,(st.o.set a (.cells (d.set (b+k) (.ow st.o.length 0 h.sz)) e i f))++[.row s [] h.e h.pu]⟩ else False
      |none=>False) else False) else K st
    |_=>False
   |_=>False
 else match ato h st with
  |some (some a)=>if Nat.ble lo a then(match st.o[a]? with
   |some (.row s l e f)=>aiE a s l st.env fun g=>abf a s l 0 (if f then st.o else st.o.set a (.row s l e true)) fun o=>K ⟨g,o⟩
   |_=>False) else K st
  |some none=>K st
  |none=>False
where
 ag3:SV->Option Nat
  | .ow a .. =>some a
  | .os a .. =>some a
  | .oc a .. =>some a
  |_=>none
 ato (h:Sm) (st:iz):Option (Option Nat):=
  match h.off with
  |none=>some (ag3 (MD st.env h.slot))
  |some k=>match MD st.env h.slot with
   | .ptr a b c=>match st.o[a]? with
    |some (.cells d _ _ _)=>if d.length=c then(d[b+k]?).map ag3 else none
    |_=>none
   |_=>none
def aiF (p:HT) (lo:Nat):List Sm->iz->(iz->Prop)->Prop
 |[],st,K=>K st
 |h::hs,st,K=>aeN p lo h st fun st'=>aiF p lo hs st' K
def anO (a:List Nat) (env:xJ):xJ:=a.map fun s=>(s,MD env s)
def trimS (k:Nat) (st:iz):iz:=
 if st.o.length<=k then st
 else if(st.env.all fun p=>p.2.ig k)&&((st.o.take k).all fun x=>x.ig k) then⟨st.env,st.o.take k⟩ else st
def ag4:xJ->xJ->Prop
 |[],[]=>True
 |(k,v)::e,(b,c)::a=>if k=b then v.same c/\ag4 e a else False
 |_,_=>False
def aiG (s t:iz):Prop:=ag4 s.env t.env/\ME s.o t.o
def iS (s:iz) (k:Nat):Int:=match MD s.env k with
 | .si _ n=>n
 | .il _ n=>n
 |_=>0
def bS (s:iz) (k:Nat):Bool:=match MD s.env k with
 | .sb b=>b
 | .bl b=>b
 |_=>false
def rS (t:bD) (s:iz) (k:Nat):List t.T:=match MD s.env k with
 | .row a l=>match Hj a t l with
  |some l=>l
  |none=>[]
 |_=>[]
def oS (t:bD) (s:iz) (id:Nat):List t.T:=match s.o[id]? with
 |some (.row a l _ _)=>match Hj a t l with
  |some l=>l
  |none=>[]
 |_=>[]
def splitN (v:Int) (n:Nat) (K:Nat->Prop):Nat->Prop
 |0=>0<=v/\v<n
 |j+1=>(v=(n - (j+1):Nat)->K (n - (j+1)))/\splitN v n K j
def splitK (x:Option (Nat×Nat×Nat)) (st:iz) (K:iz->Prop):Prop:=
 match x with
 |none=>K st
 |some (b,a,n)=>match st.o[b]? with
  |some (.cells c e f d)=>match c[a]? with
   |some (.si k v)=>splitN v n (fun j=>K ⟨st.env,st.o.set b (.cells (c.set a (.il k j)) e f d)⟩) n
   |_=>False
  |_=>False
inductive jW where
 |ado (n:Nat)
 |look
 |inv (X:Type) (shape:X->iz) (next:iz->X) (J:X->Prop) (m:X->Nat) (inner:X->Nat->jW)
def Look (_:iz):Prop:=False
def afE:IR->Nat
 | .region c .. =>c
 | .seq .skip b=>afE b
 | .seq a _=>afE a
 | .block _ b=>afE b
 | .loop b=>afE b
 | .turns _ b=>afE b
 |_=>0
def anP (W:iz->(Out->iz->Prop)->Prop) (Q:Out->iz->Prop):Nat->iz->Prop
 |0,_=>False
 |n+1,b=>W b fun a s=>match a with
  | .norm=>anP W Q n (trimS b.o.length s)
  |o=>Q o s
def aiH (t:Nat):xJ->xJ
 |[]=>[]
 |p::r=>bif Nat.beq p.1 t then aiH t r else p::aiH t r
def ag5 (x:Operand) (env:xJ):xJ:=
 match x with
 | .tmp t=>aiH t env
 |_=>env
def akV (env:xJ) (x:Operand) (v:SV):xJ:=
 match x with
 | .tmp t=>ag1 env t v
 |_=>env
def wpS (p:HT) (lo:Nat):IR->(Nat->jW)->iz->(Out->iz->Prop)->Prop
 | .skip,_,st,Q=>Q .norm st
 | .region id draw k ops Sr live pre post,_,st,Q=>splitK (p.sp id) st fun st0=>aiF p lo pre st0 fun st1=>anN p k ops Sr st1 fun st2=>aiF p lo post ⟨anO live st2.env,st2.o⟩ fun st3=>Q .norm st3
 | .seq a b,Λ,st,Q=>wpS p lo a Λ st fun out s=>match out with
  | .norm=>wpS p lo b Λ s Q
  |o=>Q o s
 | .cond x a b,Λ,st,Q=>match Ky st.env x with
  | .bl true=>wpS p lo a Λ ⟨ag5 x st.env,st.o⟩ Q
  | .bl false=>wpS p lo b Λ ⟨ag5 x st.env,st.o⟩ Q
  | .sb c=>(c=true->wpS p lo a Λ ⟨ag5 x st.env,st.o⟩ Q)/\(c=false->wpS p lo b Λ ⟨ag5 x st.env,st.o⟩ Q)
  |_=>False
 | .block id b,Λ,st,Q=>wpS p lo b Λ st fun out s=>Q (out.inBlock id) s
 | .loop b,Λ,st,Q=>match Λ (afE b) with
  | .ado n=>anP (wpS p lo b Λ) Q n st
  | .look=>Look st
  | .inv _ shape next J m inner=>(aiG st (shape (next st))/\J (next st))/\∀x,J x->wpS p lo b (inner x) (shape x) fun out s=>match out with
   | .norm=>aiG (trimS (shape x).o.length s) (shape (next (trimS (shape x).o.length s)))/\J (next (trimS (shape x).o.length s))/\m (next (trimS (shape x).o.length s))<m x
   |o=>Q o s
 | .exit id,_,st,Q=>Q (.exit id) st
 | .ret,_,st,Q=>Q .ret st
 | .goto l,_,st,Q=>Q (.goto l) st
 | .aby x a b,Λ,st,Q=>match Ky st.env x with
  | .bl true=>wpS p lo a Λ st Q
  | .bl false=>wpS p lo b Λ st Q
  | .sb c=>(c=true->wpS p lo a Λ ⟨akV st.env x (.bl true),st.o⟩ Q)/\(c=false->wpS p lo b Λ ⟨akV st.env x (.bl false),st.o⟩ Q)
  |_=>False
 | .turns none b,Λ,st,Q=>wpS p lo b Λ st fun out s=>match out with
  | .goto _=>False
  |o=>Q o s
 | .turns (some l) b,Λ,st,Q=>match Λ (afE b) with
  | .inv _ shape next J m inner=>(aiG st (shape (next st))/\J (next st))/\∀x,J x->wpS p lo b (inner x) (shape x) fun out s=>match out with
   | .goto l'=>l'=l/\aiG (trimS (shape x).o.length s) (shape (next (trimS (shape x).o.length s)))/\J (next (trimS (shape x).o.length s))/\m (next (trimS (shape x).o.length s))<m x
   |o=>Q o s
  |_=>Look st
 | .dfr ..,_,_,_=>False
def aaM:Nat->List SV->xJ
 |_,[]=>[]
 |i,v::a=>(i,v)::aaM (i+1) a
def abg (st:iz) (a:List aaD) (K:SV->Prop):Prop:=
 goK a fun l=>match l with
  |[v]=>K v
  |l=>K (.eW l)
where
 goK:List aaD->(List SV->Prop)->Prop
  |[],K=>K []
  |r::a,K=>atp r fun v=>goK a fun l=>K (v::l)
 atp (r:aaD) (K:SV->Prop):Prop:=match r.cell with
  |none=>K (MD st.env r.slot)
  |some n=>ZX st.o (MD st.env r.slot) n K
def fnK (p:HT) (Λ:Nat->jW) (F:uC) (args:List SV) (Q:SV->Prop):Prop:=
 wpS p 0 F.body Λ ⟨aaM 0 args,[]⟩ fun a b=>match a with
  | .exit _=>False
  | .goto _=>False
  |_=>abg b F.res fun r=>adl b.o 6 r Q
def ag6 (p:HT) (Λ:Nat->jW) (F:uC) (args:List SV) (o:ie) (Q:SV->ie->Prop):Prop:=
 wpS p o.length F.body Λ ⟨aaM 0 args,o⟩ fun b a=>match b with
  | .exit _=>False
  | .goto _=>False
  |_=>abg a F.res fun r=>if r.ig o.length&&a.o.all (fun x=>x.ig o.length)&&decide (o.length<=a.o.length) then Q r (a.o.take o.length) else False
end Go.Vi
