/-
  The abstract interpreter: a region whose order is open.
  Conditions: none.
-/
import Derived.Test.YtgejbpobaicgfaaGreatRX03
import Derived.RangeFuncOwn
import Derived.RangeFuncLeaves
import Derived.LoopNIn
import Derived.ControlIn
import Derived.LoopN
import Derived.Scope
import Derived.Tactics
set_option maxRecDepth 100000
set_option maxHeartbeats 4000000
set_option linter.unusedSimpArgs false
set_option linter.unusedVariables false
namespace Go.Vi
theorem Ru {acc:List Nat} {l:List Edge} {m:Nat}:∀{s:Nat},(l.foldl (vp acc) s).testBit m=true→s.testBit m=true∨∃e∈l,Region.binds .any e=true∧(m=e.on∨(acc.getD e.on 0).testBit m=true):=by
 induction l with
 |nil=>intro s h;exact .inl h
 |cons e l ih=>
  intro s h
  simp only[List.foldl_cons] at h
  rcases ih h with h1|⟨e',he,h1,h2⟩
  ·unfold vp at h1
   split at h1
   ·rename_i hb
    simp only[Nat.testBit_or,Bool.or_eq_true,Nat.testBit_two_pow,decide_eq_true_eq] at h1
    rcases h1 with h1|h1|h1
    ·exact .inl h1
    ·exact .inr ⟨e,by simp,hb,.inl h1.symm⟩
    ·exact .inr ⟨e,by simp,hb,.inr h1⟩
   ·exact .inl h1
  ·exact .inr ⟨e',by simp[he],h1,h2⟩
def s8 (acc:List Nat) (o:Oper):Nat:=o.after.toList.foldl (vp acc) 0
theorem Hw:∀(L:List Oper) (acc:List Nat),∃r,L.foldl (fun acc o=>acc++[s8 acc o]) acc=acc++r∧r.length=L.length∧
  ∀(k:Nat) (o:Oper),L[k]?=some o→r[k]?=some (s8 (acc++r.take k) o)
 |[],acc=>⟨[],by simp,rfl,by simp⟩
 |o::L,acc=>by
  obtain⟨r,h1,h2,h3⟩:=Hw L (acc++[s8 acc o])
  refine⟨s8 acc o::r,by simp[h1],by simp[h2],fun k o' hk=>?_⟩
  cases k with
  |zero=>simp at hk;subst hk;simp
  |succ k=>
   simp only[List.getElem?_cons_succ] at hk ⊢
   rw[h3 k o' hk]
   simp
theorem Rw {ops:Array Oper} {k m:Nat} {o:Oper} (ho:ops[k]?=some o) (h:((jJ ops).getD k 0).testBit m=true):
  ∃e∈o.after,Region.binds .any e=true∧(m=e.on∨((jJ ops).getD e.on 0).testBit m=true):=by
 obtain⟨r,h1,h2,h3⟩:=Hw ops.toList []
 have han:jJ ops=r:=by
  unfold jJ
  have:=h1
  simp only[s8,List.nil_append] at this
  exact this
 rw[han] at h ⊢
 have hk:=h3 k o (by simpa using ho)
 rw[List.getD_eq_getElem?_getD,hk] at h
 simp only[Option.getD_some,List.nil_append] at h
 rcases Ru h with h0|⟨e,he,hb,hm⟩
 ·simp at h0
 ·refine⟨e,by simpa using he,hb,hm.imp_right fun hm=>?_⟩
  rw[List.getD_eq_getElem?_getD] at hm ⊢
  rw[List.getElem?_take] at hm
  split at hm
  ·exact hm
  ·simp at hm
theorem Hy:∀(L:List Oper) (i:Nat),qC i L=true→∀(k:Nat) (o:Oper),L[k]?=some o→∀e∈o.after,Region.binds .any e=true→e.on<i+k
 |[],i,_,k,o,hk,_,_,_=>by simp at hk
 |o::L,i,h,k,o',hk,e,he,hb=>by
  simp only[qC,Bool.and_eq_true,List.all_eq_true] at h
  cases k with
  |zero=>
   simp at hk;subst hk
   have:=h.1 e (by simpa using he)
   simpa[hb] using this
  |succ k=>
   have:=Hy L (i+1) h.2 k o' (by simpa using hk) e he hb
   omega
theorem Hz {an:List Nat}:∀{l:List bA},qE an l=true→∀(p q:Nat) (y x:bA),p<q→l[p]?=some y→l[q]?=some x→
  (an.getD x.idx 0).testBit y.idx=true∨(sP y x=true∧(qB y x=true∨vn y x=true))
 |[],_,p,q,y,x,_,hy,_=>by simp at hy
 |a::r,h,p,q,y,x,hpq,hy,hx=>by
  simp only[qE,Bool.and_eq_true,List.all_eq_true] at h
  match q,hpq with
  |q+1,hpq=>
   simp only[List.getElem?_cons_succ] at hx
   cases p with
   |zero=>
    simp at hy;subst hy
    have:=h.1 x (List.mem_of_getElem? hx)
    simpa using this
   |succ p=>exact Hz h.2 p q y x (by omega) (by simpa using hy) hx
theorem HA {an:List Nat}:∀{l:List bA} (p q:Nat) (y x:bA),p<q→l[p]?=some y→l[q]?=some x→¬(an.getD x.idx 0).testBit y.idx=true→qB y x=false→(y.idx,x.idx)∈kT an l
 |[],p,q,y,x,_,hy,_,_,_=>by simp at hy
 |a::r,p,q,y,x,hpq,hy,hx,hb,hf=>by
  simp only[kT,List.mem_append]
  match q,hpq with
  |q+1,hpq=>
   simp only[List.getElem?_cons_succ] at hx
   cases p with
   |zero=>
    simp at hy;subst hy
    left
    refine List.mem_filterMap.2 ⟨x,List.mem_of_getElem? hx,?_⟩
    rw[if_neg]
    simp only[Bool.or_eq_true,not_or]
    exact⟨hb,by simp[hf]⟩
   |succ p=>exact .inr (HA p q y x (by omega) (by simpa using hy) hx hb hf)
section
variable {P:Program} {A:bG} {D:List Deferred} {call:bB} {base:Nat}
theorem Bt:∀{l:List bA} {st:St} {p:Nat} {x:bA} {t:List Nat×List Nat},l[p]?=some x→(ents call base l st)[p]?=some t→∃st',t=entry call base x st'
 |[],st,p,x,t,hx,_=>by simp at hx
 |i::l,st,p,x,t,hx,ht=>by
  simp only[ents] at ht
  cases p with
  |zero=>simp at hx ht;subst hx;exact⟨st,ht.symm⟩
  |succ p=>
   simp only[List.getElem?_cons_succ] at hx ht
   split at ht
   ·exact Bt hx ht
   ·simp at ht
theorem Bv:∀{l:List bA} {st s:St} {p:Nat} {x:bA} {t:List Nat×List Nat},dF call base l st=some s→(l.map (·.idx)).Nodup→l[p]?=some x→(ents call base l st)[p]?=some t→kQ (ix call base l st) x.idx=t
 |[],st,s,p,x,t,_,_,hx,_=>by simp at hx
 |i::l,st,s,p,x,t,hr,hn,hx,ht=>by
  simp only[dF] at hr
  split at hr
  ·rename_i s1 h1
   simp only[List.map_cons,List.nodup_cons] at hn
   have htr:ix call base (i::l) st=(i.idx,entry call base i st)::ix call base l s1:=by
    simp only[ix,h1,entry]
    congr 1
    cases hw:fY st.env i.guard with
    |none=>rfl
    |some b=>cases b<;>rfl
   rw[htr]
   simp only[ents,h1] at ht
   cases p with
   |zero=>simp at hx ht;subst hx;simp[kQ,ht]
   |succ p=>
    simp only[List.getElem?_cons_succ] at hx ht
    have hne:i.idx≠x.idx:=fun h=>hn.1 (h▸List.mem_map_of_mem (f:=fun i:bA=>i.idx) (List.mem_of_getElem? hx))
    simp only[kQ,beq_iff_eq,hne,if_false]
    exact Bv hr hn.2 hx ht
  ·cases hr
theorem HB {i:bA} {st:St} (h:i.op.cls=0):entry call base i st=([],[]):=by
 unfold entry
 split
 ·rw[Bo h,nz (.inl h)]
 ·rfl
theorem HC {i:bA} {st:St} (h:i.op.cls=1):(entry call base i st).2=[]:=by
 unfold entry
 split
 ·simp only;rw[nz (.inr h)]
 ·rfl
theorem HD {a b:List Nat} (h:qx a b=true):∀j∈a,j∉b:=by
 intro j hj hb
 have:=List.all_eq_true.1 h j hj
 simp at this
 exact this hb
theorem Rx {n0:Nat} {an:List Nat} {l:List bA} {st s:St} (hr:dF call base l st=some s) (hn:(l.map (·.idx)).Nodup) (hsw:qE an l=true)
  (nA:((kT an l).isEmpty||nj n0 (ix call base l st) (kT an l))=true) {p q:Nat} {y x:bA} {ty tx:List Nat×List Nat} (hpq:p<q) (hy:l[p]?=some y) (hx:l[q]?=some x)
  (hty:(ents call base l st)[p]?=some ty) (htx:(ents call base l st)[q]?=some tx):(an.getD x.idx 0).testBit y.idx=true∨s7 n0 y ty x tx:=by
 rcases Hz hsw p q y x hpq hy hx with h|⟨h1,h2⟩
 ·exact .inl h
 by_cases hb:(an.getD x.idx 0).testBit y.idx=true
 ·exact .inl hb
 right
 obtain⟨sy,ey⟩:=Bt hy hty
 obtain⟨sx,ex⟩:=Bt hx htx
 cases hf:qB y x with
 |true=>
  unfold qB at hf
  simp only[Bool.or_eq_true,Bool.and_eq_true,beq_iff_eq] at hf
  rcases hf with(hf|hf)|⟨hf,hf2⟩
  ·have:=HB (call:=call) (base:=base) (st:=sy) hf
   rw[this] at ey
   subst ey
   exact⟨h1,by simp,by simp,fun h=>(by rw[hf] at h;cases h),by simp⟩
  ·have:=HB (call:=call) (base:=base) (st:=sx) hf
   rw[this] at ex
   subst ex
   exact⟨h1,by simp,by simp,fun _=>⟨by rw[hf];decide,by simp⟩,fun h=>(by rw[hf] at h;cases h)⟩
  ·have e1:=HC (call:=call) (base:=base) (st:=sy) hf
   have e2:=HC (call:=call) (base:=base) (st:=sx) hf2
   rw[←ey] at e1
   rw[←ex] at e2
   exact⟨h1,by simp[e1],by simp[e2],fun h=>(by rw[hf] at h;cases h),fun h=>(by rw[hf2] at h;cases h)⟩
 |false=>
  have hm:vn y x=true:=h2.resolve_left (by simp[hf])
  have hp:=HA p q y x hpq hy hx hb hf
  have hne:(kT an l).isEmpty=false:=by
   cases hq:kT an l with
   |nil=>rw[hq] at hp;simp at hp
   |cons _ _=>rfl
  rw[hne,Bool.false_or] at nA
  have hc:=List.all_eq_true.1 nA _ hp
  simp only[Bv hr hn hy hty,Bv hr hn hx htx,Bool.and_eq_true,List.all_eq_true,decide_eq_true_eq] at hc
  obtain⟨⟨⟨c1,c2⟩,c3⟩,c4⟩:=hc
  refine⟨h1,HD c1,HD c2,fun h3=>⟨fun h4=>?_,c4⟩,fun _=>c3⟩
  unfold vn at hm
  simp[h3,h4] at hm
theorem bm.eq {nt:Nat} {w0:World} {aK:aV} {o0:Store} {st st':St} {a:Act} {w:World} {σ:aV} (h:bm A nt D w0 aK o0 st a w σ) (he:fu st st'):bm A nt D w0 aK o0 st' a w σ where
 cC:=he.2▸h.cC
 env:=fun s=>by rw[←he.1 s,←he.2];exact h.env s
 size:=h.size
 defers:=h.defers
 ext:=he.2▸h.ext
theorem bm.drew {nt:Nat} {w0:World} {aK:aV} {o0:Store} {st:St} {a:Act} {w:World} {σ:aV} (h:bm A nt D w0 aK o0 st a w σ):bm A nt D w0 aK o0 st a {w with drawn:=w.drawn+1} σ:=by
 have hE:Ext w σ st.o {w with drawn:=w.drawn+1} σ st.o:=⟨Nat.le_refl _,fun _ _ h=>⟨rfl,h⟩,Nat.le_refl _,fun _ _ h=>⟨h,fun _ h=>⟨h,rfl⟩⟩,fun _ h=>⟨h,rfl⟩,rfl,rfl,rfl⟩
 exact⟨⟨h.cC.len,h.cC.dist,h.cC.bnd,fun i x hx=>(h.cC.obj i x hx).ext hE rfl fun _ _ _=>rfl,h.cC.av,h.cC.gw⟩,fun s=>(h.env s).ext hE,h.size,h.defers,h.ext.trans hE⟩
theorem Ry {α:Type} (pre post:List α) (x:α):pre++post=(pre++x::post).eraseIdx pre.length:=by
 rw[List.eraseIdx_append_of_length_le (Nat.le_refl _)]
 simp
structure Bw (P:Program) (nt:Nat) (fl:List Nat) (ops:Array Oper) (call:bB) (base n0:Nat) (st2:St) (l:List bA) (listed:Array Bool) (st:St):Prop where
 run:∃s,dF call base l st=some s∧fu st2 s
 len:n0≤st.o.length
 rel:∀(p q:Nat) (y x:bA) (ty tx:List Nat×List Nat),p<q→l[p]?=some y→l[q]?=some x→(ents call base l st)[p]?=some ty→(ents call base l st)[q]?=some tx→((jJ ops).getD x.idx 0).testBit y.idx=true∨s7 n0 y ty x tx
 comp:∀x∈l,∃am,jI P nt fl ops am x.idx=some x
 nodup:(l.map (·.idx)).Nodup
 sz:listed.size=ops.size
 aY:∀k,k<ops.size→(listed.getD k true=false↔∃x∈l,x.idx=k)
 closed:∀k m,listed.getD k false=true→((jJ ops).getD k 0).testBit m=true→listed.getD m false=true
theorem getD_lt {listed:Array Bool} {k:Nat} (h:k<listed.size) (a b:Bool):listed.getD k a=listed.getD k b:=by
 simp[Array.getD_eq_getD_getElem?,h]
theorem Rz {nt:Nat} {fl:List Nat} {ops:Array Oper} (hcall:jp P call) (hed:qC 0 ops.toList=true) {n0:Nat} {st2:St} {w0:World} {aK:aV} {o0:Store} {Q:Exit→Act→World→Prop}
  (hQ:∀a' w' σ',bm A nt D w0 aK o0 st2 a' w' σ'→Q .normal a' w') {bC:Option Nat}:∀(fuel:Nat) (l:List bA) (listed:Array Bool) (st:St) (a:Act) (w:World) (σ:aV),l.length≤fuel→
   Bw P nt fl ops call base n0 st2 l listed st→bm A nt D w0 aK o0 st a w σ→wpAnyIn (FR bC) 0 P .any ops Q fuel listed a w:=by
 have hdone:∀(listed:Array Bool) (st:St) (a:Act) (w:World) (σ:aV),Bw P nt fl ops call base n0 st2 [] listed st→bm A nt D w0 aK o0 st a w σ→Q .normal a w:=by
  intro listed st a w σ hI hs
  obtain⟨s,h1,h2⟩:=hI.run
  simp only[dF,Option.some.injEq] at h1
  subst h1
  exact hQ _ _ _ (hs.eq h2.symm)
 have hprog:∀(l:List bA) (listed:Array Bool) (st:St),Bw P nt fl ops call base n0 st2 l listed st→∀(k:Nat),(∃x∈l,x.idx=k)→Region.ready .any ops listed≠[]:=by
  intro l listed st hI k
  induction k using Nat.strongRecOn with
  |_ k ih=>
   rintro⟨x,hx,rfl⟩
   obtain⟨am,hc⟩:=hI.comp x hx
   cases ho:ops[x.idx]? with
   |none=>simp[jI,ho] at hc
   |some o=>
    have hk:x.idx<ops.size:=(Array.getElem?_eq_some_iff.1 ho).1
    by_cases hall:∀e∈o.after,Region.binds .any e=true→listed.getD e.on false=true
    ·intro hnil
     have:x.idx∈Region.ready .any ops listed:=mem_ready.2 ⟨(hI.aY _ hk).2 ⟨x,hx,rfl⟩,o,ho,hall⟩
     rw[hnil] at this
     simp at this
    ·simp only[Classical.not_forall] at hall
     obtain⟨e,he,hb,hn⟩:=hall
     have hlt:=Hy ops.toList 0 hed x.idx o (by simpa using ho) e he hb
     simp only[Nat.zero_add] at hlt
     refine ih e.on hlt ((hI.aY e.on (by omega)).1 ?_)
     rw[getD_lt (by rw[hI.sz];omega) true false]
     simpa using hn
 intro fuel
 induction fuel with
 |zero=>
  intro l listed st a w σ hl hI hs
  have:l=[]:=List.eq_nil_of_length_eq_zero (by omega)
  subst this
  refine⟨?_,hdone listed st a w σ hI hs⟩
  rw[List.eq_nil_iff_forall_not_mem]
  intro k hk
  obtain⟨h0,o,ho,_⟩:=mem_ready.1 hk
  obtain⟨x,hx,_⟩:=(hI.aY k (Array.getElem?_eq_some_iff.1 ho).1).1 h0
  simp at hx
 |succ fuel ih=>
  intro l listed st a w σ hl hI hs
  refine⟨fun hnil=>?_,fun k hk=>?_⟩
  ·cases l with
   |nil=>exact hdone listed st a w σ hI hs
   |cons x l=>exact absurd hnil (hprog _ listed st hI x.idx ⟨x,by simp,rfl⟩)
  ·obtain⟨h0,o,ho,hall⟩:=mem_ready.1 hk
   have hks:k<ops.size:=(Array.getElem?_eq_some_iff.1 ho).1
   obtain⟨x,hx,rfl⟩:=(hI.aY k hks).1 h0
   obtain⟨pre,post,rfl⟩:=List.append_of_mem hx
   obtain⟨s,hrun,hseq⟩:=hI.run
   have HE:∀m,((jJ ops).getD x.idx 0).testBit m=true→listed.getD m false=true:=by
    intro m hm
    obtain⟨e,he,hb,h1⟩:=Rw ho hm
    rcases h1 with rfl|h1
    ·exact hall e he hb
    ·exact hI.closed _ _ (hall e he hb) h1
   obtain⟨s1,s',f1,f2,f3,f4,f5⟩:=front (n0:=n0) pre hrun hI.len fun p y ty tx hp h1 h2=>by
    have hpl:p<pre.length:=(List.getElem?_eq_some_iff.1 hp).1
    have hyl:(pre++x::post)[p]?=some y:=by rw[List.getElem?_append_left hpl];exact hp
    rcases hI.rel p pre.length y x ty tx hpl hyl (by simp) h1 h2 with h3|h3
    ·exfalso
     have h4:=HE _ h3
     obtain⟨am,hc⟩:=hI.comp y (List.mem_of_getElem? hyl)
     cases hoy:ops[y.idx]? with
     |none=>simp[jI,hoy] at hc
     |some oy=>
      have hys:y.idx<ops.size:=(Array.getElem?_eq_some_iff.1 hoy).1
      have h5:=(hI.aY _ hys).2 ⟨y,List.mem_of_getElem? hyl,rfl⟩
      rw[getD_lt (by rw[hI.sz];exact hys) true false,h4] at h5
      cases h5
    ·exact h3
   obtain⟨am,hc⟩:=hI.comp x hx
   refine yb hcall hc f1 hs fun a' w' σ' hs'=>?_
   have hnd:=hI.nodup
   have hmid:=Ry pre post x
   have hget:∀(p:Nat) (y:bA),(pre++post)[p]?=some y→(pre++x::post)[if p<pre.length then p else p+1]?=some y:=by
    intro p y hp
    rw[hmid,List.getElem?_eraseIdx] at hp
    split<;>rename_i h<;>simpa[h] using hp
   have hent:∀(p:Nat) (t:List Nat×List Nat),(ents call base (pre++post) s1)[p]?=some t→(ents call base (pre++x::post) st)[if p<pre.length then p else p+1]?=some t:=by
    intro p t hp
    rw[f5,List.getElem?_eraseIdx] at hp
    split<;>rename_i h<;>simpa[h] using hp
   obtain⟨_,_,hlen1,_⟩:=q8 f1
   refine ih (pre++post) _ s1 a' w' σ' (by simp at hl ⊢;omega) ⟨⟨s',f2,hseq.trans f3⟩,Nat.le_trans hI.len hlen1,fun p q y z ty tz hpq hy hz hty htz=>?_,fun y hy=>hI.comp y ?_,?_,by simp[hI.sz],fun k hk=>?_,fun k m hk hm=>?_⟩ hs'
   ·refine hI.rel _ _ y z ty tz ?_ (hget p y hy) (hget q z hz) (hent p ty hty) (hent q tz htz)
    split<;>split<;>omega
   ·rw[List.mem_append] at hy ⊢
    rcases hy with hy|hy<;>simp[hy]
   ·rw[List.map_append,List.map_cons] at hnd
    rw[List.map_append]
    exact hnd.sublist (List.Sublist.append (List.Sublist.refl _) (List.sublist_cons_self _ _))
   ·by_cases hkx:k=x.idx
    ·subst hkx
     have h1:(listed.setIfInBounds x.idx true).getD x.idx true=true:=by simp
     rw[h1]
     constructor
     ·intro h;cases h
     ·rintro⟨y,hy,hyx⟩
      exfalso
      rw[List.map_append,List.map_cons,List.nodup_append] at hnd
      obtain⟨_,h2,h3⟩:=hnd
      rw[List.nodup_cons] at h2
      rcases List.mem_append.1 hy with hy|hy
      ·exact h3 y.idx (List.mem_map_of_mem (f:=fun i:bA=>i.idx) hy) x.idx (by simp) hyx
      ·exact h2.1 (hyx▸List.mem_map_of_mem (f:=fun i:bA=>i.idx) hy)
    ·rw[getD_set_ne true (Ne.symm hkx),hI.aY k hk]
     constructor
     ·rintro⟨y,hy,rfl⟩
      refine⟨y,?_,rfl⟩
      rw[List.mem_append] at hy ⊢
      rcases hy with hy|hy
      ·exact .inl hy
      ·rcases List.mem_cons.1 hy with rfl|hy
       ·exact absurd rfl hkx
       ·exact .inr hy
     ·rintro⟨y,hy,rfl⟩
      refine⟨y,?_,rfl⟩
      rw[List.mem_append] at hy ⊢
      rcases hy with hy|hy<;>simp[hy]
   ·by_cases hkx:k=x.idx
    ·subst hkx
     exact getD_set_true (HE m hm)
    ·rw[getD_set_ne false (Ne.symm hkx)] at hk
     exact getD_set_true (hI.closed k m hk hm)
theorem HF:∀{l:List Nat},nodupB l=true→l.Nodup
 |[],_=>List.nodup_nil
 |a::r,h=>by
  simp only[nodupB,Bool.and_eq_true,Bool.not_eq_true',List.contains_eq_mem,decide_eq_false_iff_not] at h
  exact List.nodup_cons.2 ⟨h.1,HF h.2⟩
theorem HG {nt:Nat} {fl:List Nat} {ops:Array Oper} {am k:Nat} {x:bA} (h:jI P nt fl ops am k=some x):x.idx=k∧k<ops.size:=by
 unfold jI at h
 split at h
 ·cases h
 ·rename_i o ho
  split at h
  ·obtain⟨op,_,rfl⟩:=Option.map_eq_some_iff.1 h
   exact⟨rfl,(Array.getElem?_eq_some_iff.1 ho).1⟩
  ·cases h
theorem RA (hcall:jp P call) {nt:Nat} {fl:List Nat} {ops:Array Oper} {id k:Nat} {perm:List Nat} {l:List bA} (hl:oV P nt fl ops 0 perm=some (l,k)) (RB:P.follows .mixedOrders=true)
  (hlen:perm.length=ops.size) (hnd:nodupB perm=true) (hsw:qE (jJ ops) l=true) (hed:qC 0 ops.toList=true) (hall:(List.range ops.size).all perm.contains=true)
  {st1 st2:St} (hr:dF call st1.o.length l ⟨st1.env,st1.o++di k⟩=some st2)
  (nA:((kT (jJ ops) l).isEmpty||nj (st1.o++di k).length (ix call st1.o.length l ⟨st1.env,st1.o++di k⟩) (kT (jJ ops) l))=true)
  {w0:World} {aK:aV} {o0:Store} {a:Act} {w:World} {σ:aV} {Q:Exit→Act→World→Prop} (hs:bm A nt D w0 aK o0 ⟨st1.env,st1.o++di k⟩ a w σ) (hQ:∀a' w' σ',bm A nt D w0 aK o0 st2 a' w' σ'→Q .normal a' w') {bC:Option Nat}:(Code.region id ops true).wpIn (FR bC) 0 P Q a w:=by
 obtain⟨g1,g2⟩:=yc hl
 have hidx:l.map (·.idx)=perm:=by
  apply List.ext_getElem?
  intro j
  rw[List.getElem?_map]
  cases hj:l[j]? with
  |none=>
   have:=List.getElem?_eq_none_iff.1 hj
   rw[List.getElem?_eq_none (by omega)];rfl
  |some x=>
   have hjl:=(List.getElem?_eq_some_iff.1 hj).1
   have hp:=List.getElem?_eq_getElem (l:=perm) (i:=j) (by omega)
   obtain⟨am,hc⟩:=g2 j x _ hj hp
   rw[hp]
   simp[(HG hc).1]
 have HH:(l.map (·.idx)).Nodup:=by rw[hidx];exact HF hnd
 refine wpIn_region_any RB (Rz (fl:=fl) (base:=st1.o.length) (n0:=(st1.o++di k).length) hcall hed hQ ops.size l _ ⟨st1.env,st1.o++di k⟩ a _ σ (by omega) ⟨⟨st2,hr,fu.refl _⟩,Nat.le_refl _,fun p q y x ty tx hpq hy hx hty htx=>?_,fun x hx=>?_,HH,by simp,fun j hj=>?_,fun j m hj=>?_⟩ hs.drew)
 ·exact Rx hr HH hsw nA hpq hy hx hty htx
 ·obtain⟨j,hj⟩:=List.getElem?_of_mem hx
  have hjl:=(List.getElem?_eq_some_iff.1 hj).1
  have hp:=List.getElem?_eq_getElem (l:=perm) (i:=j) (by omega)
  obtain⟨am,hc⟩:=g2 j x _ hj hp
  exact⟨am,by rw[(HG hc).1];exact hc⟩
 ·have h1:(Array.replicate ops.size false).getD j true=false:=by simp[hj]
  rw[h1]
  refine⟨fun _=>?_,fun _=>rfl⟩
  have:=List.all_eq_true.1 hall j (List.mem_range.2 hj)
  rw[List.contains_iff_mem,←hidx] at this
  obtain⟨x,hx,h2⟩:=List.mem_map.1 this
  exact⟨x,hx,h2⟩
 ·exfalso
  rw[Array.getD_eq_getD_getElem?,Array.getElem?_replicate] at hj
  split at hj<;>simp at hj
end
section
variable {P:Program} {A:bG} {D:List Deferred} {w w':World} {σ σ':aV} {o o':Store}
theorem aU.fresh (hS:aU A w σ o) (e:TypeId) (sz:Nat) (pu:Bool):∃σ',aU A w σ' (o++[.cells [] e sz pu])∧Ext w σ o w σ' (o++[.cells [] e sz pu])∧σ'[o.length]?=some none:=by
 obtain⟨h1,h2⟩:=hS.di 1
 have hget:(o++Go.Vi.di 1)[o.length]?=some .dead:=by simp[Go.Vi.di]
 have hset:(o++Go.Vi.di 1).set o.length (.cells [] e sz pu)=o++[.cells [] e sz pu]:=by
  rw[List.set_append_right _ _ (Nat.le_refl _)]
  simp[Go.Vi.di]
 have hlen:o.length<(σ++List.replicate 1 none).length:=by simp[hS.len]
 obtain⟨k1,k2⟩:=h1.upd (w':=w) (x':=.cells [] e sz pu) (s':=none) hget (Nat.le_refl _) rfl rfl rfl (fun _ _ _=>rfl) (fun _ _ h=>by cases h) trivial (fun hE=>by
  simp only[bI]
  exact⟨fun _=>rfl,rfl,.inl ⟨by rw[List.getElem?_set_self hlen],trivial⟩⟩)
 rw[hset] at k1 k2
 exact⟨_,k1,h2.trans k2,by rw[List.getElem?_set_self hlen]⟩
theorem HI {n:Nat} {e:TypeId} {sz:Nat} {pu:Bool} (ho:o[n]?=some (.cells [] e sz pu)) (hσ:σ[n]?=some none):aj A w σ o (.os n 0 0 0) (.slice none 0 0):=by
 simp only[aj]
 refine⟨⟨[],e,sz,pu,ho,Nat.le_refl _⟩,none,0,rfl,Nat.le_refl _,fun sz' _=>?_⟩
 unfold iO
 rw[hσ]
 exact⟨rfl,rfl,rfl,rfl⟩
theorem bm.RD {nt:Nat} {w0:World} {aK:aV} {o0:Store} {st:St} {a:Act} (h:bm A nt D w0 aK o0 st a w σ) (id:Nat):∃σ',bm A nt D w0 aK o0 (vj id st) a w σ':=by
 unfold vj
 split
 ·rename_i cs e sz ho
  have hid:id<st.o.length:=(List.getElem?_eq_some_iff.1 ho).1
  have cn:id<σ.length:=by rw[h.cC.len];exact hid
  obtain⟨m1,m2⟩:=h.cC.upd (w':=w) (x':=.cells cs e sz false) (s':=σ[id]) ho (Nat.le_refl _) rfl rfl rfl (fun _ _ _=>rfl)
   (fun b c hs=> .inl ⟨c,by rw[List.getElem?_eq_getElem cn,hs]⟩) ⟨_,e,false,rfl,by simp,fun _=>List.getElem?_eq_getElem cn⟩ (fun hE=>by
    have cQ:=h.cC.obj id _ ho
    simp only[bI] at cQ ⊢
    obtain⟨q1,q2,q3⟩:=cQ
    refine⟨fun hh=>(by cases hh),q2,?_⟩
    rcases q3 with⟨h1,h0⟩|⟨b,cap,arr,r1,r2,r3,r4,r5,r6⟩
    ·exact .inl ⟨by rw[List.getElem?_set_self cn,←List.getElem?_eq_getElem cn];exact h1,h0⟩
    ·refine .inr ⟨b,cap,arr,?_,r2,r3,r4,r5,fun j c hj=>?_⟩
     ·rw[List.getElem?_set_self cn,←List.getElem?_eq_getElem cn];exact r1
     ·obtain⟨v,hv,hr⟩:=r6 j c hj
      exact⟨v,hv,hr.ext hE⟩)
  exact⟨_,m1,fun s=>(h.env s).ext m2,h.size,h.defers,h.ext.trans m2⟩
 ·exact⟨σ,h⟩
theorem bm.RE {nt:Nat} {w0:World} {aK:aV} {o0:Store} {st:St} {a:Act} (h:bm A nt D w0 aK o0 st a w σ) (x:gq):∃σ',bm A nt D w0 aK o0 (vk x st) a w σ':=by
 obtain⟨σ1,k1,k2,k3⟩:=h.cC.fresh x.e x.sz x.pu
 have hnew:(st.o++[aP.cells [] x.e x.sz x.pu])[st.o.length]?=some (.cells [] x.e x.sz x.pu):=by simp
 unfold vk
 split
 ·split
  ·rename_i hs
   refine⟨σ1,k1,fun s=>?_,h.size,h.defers,h.ext.trans k2⟩
   simp only[bE]
   cases hq:Nat.beq x.slot s with
   |true=>
    have:=Nat.eq_of_beq_eq_true hq
    subst this
    have:=h.env x.slot
    rw[hs] at this
    rw[dM this]
    exact HI hnew k3
   |false=>exact(h.env s).ext k2
  ·split
   ·exact h.RD _
   ·exact⟨σ,h⟩
  ·exact⟨σ,h⟩
 ·rename_i k _
  split
  ·rename_i id off tot hs
   split
   ·rename_i cs e sz pu ho
    split
    ·rename_i hc
     split
     ·rename_i hcond
      obtain⟨htot,rfl⟩:=hcond
      have hid:id<st.o.length:=(List.getElem?_eq_some_iff.1 ho).1
      have cn:id<σ1.length:=by rw[k1.len];simp;omega
      have ho1:(st.o++[aP.cells [] x.e x.sz x.pu])[id]?=some (.cells cs e sz false):=by rw[List.getElem?_append_left hid];exact ho
      have hkl:off+k<cs.length:=(List.getElem?_eq_some_iff.1 hc).1
      obtain⟨m1,m2⟩:=k1.upd (w':=w) (x':=.cells (cs.set (off+k) (.os st.o.length 0 0 0)) e sz false) (s':=σ1[id]) ho1 (Nat.le_refl _) rfl rfl rfl (fun _ _ _=>rfl)
       (fun b c hs=> .inl ⟨c,by rw[List.getElem?_eq_getElem cn,hs]⟩) ⟨_,e,false,rfl,by simp,fun _=>List.getElem?_eq_getElem cn⟩ (fun hE=>by
        have cQ:=k1.obj id _ ho1
        simp only[bI] at cQ ⊢
        obtain⟨q1,q2,q3⟩:=cQ
        refine⟨fun h=>(by cases h),?_,?_⟩
        ·refine gx.2 fun c hc2=>?_
         rcases List.mem_or_eq_of_mem_set hc2 with h1|h1
         ·exact gx.1 q2 c h1
         ·subst h1;rfl
        ·rcases q3 with⟨_,h0⟩|⟨b,cap,arr,r1,r2,r3,r4,r5,r6⟩
         ·subst h0;simp at hkl
         ·refine .inr ⟨b,cap,arr,?_,r2,r3,r4,by simpa using r5,fun j c hj=>?_⟩
          ·rw[List.getElem?_set_self cn,←List.getElem?_eq_getElem cn];exact r1
          ·rw[List.getElem?_set] at hj
           split at hj
           ·rename_i hjk
            subst hjk
            injection hj with hj;subst hj
            obtain⟨v,hv,hr⟩:=r6 _ _ hc
            refine⟨v,hv,?_⟩
            rw[dM hr]
            exact(HI hnew k3).ext hE
           ·obtain⟨v,hv,hr⟩:=r6 j c hj
            exact⟨v,hv,hr.ext hE⟩)
      have hset:(st.o++[aP.cells [] x.e x.sz x.pu]).set id (.cells (cs.set (off+k) (.os st.o.length 0 0 0)) e sz false)=(st.o.set id (.cells (cs.set (off+k) (.os st.o.length 0 0 0)) e sz false))++[aP.cells [] x.e x.sz x.pu]:=by
       rw[List.set_append_left _ _ hid]
      rw[hset] at m1 m2
      exact⟨_,m1,fun s=>((h.env s).ext k2).ext m2,h.size,h.defers,(h.ext.trans k2).trans m2⟩
     ·exact⟨σ,h⟩
    ·exact⟨σ,h⟩
   ·exact⟨σ,h⟩
  ·exact⟨σ,h⟩
theorem bm.RF {nt:Nat} {w0:World} {aK:aV} {o0:Store} {st:St} {a:Act} (h:bm A nt D w0 aK o0 st a w σ) (id:Nat):∃σ',bm A nt D w0 aK o0 (oP id st) a w σ':=by
 unfold oP
 split
 ·rename_i cs e sz ho
  split
  ·rename_i hp
   have hid:id<st.o.length:=(List.getElem?_eq_some_iff.1 ho).1
   have cn:id<σ.length:=by rw[h.cC.len];exact hid
   obtain⟨m1,m2⟩:=h.cC.upd (w':=w) (x':=.cells cs e sz true) (s':=σ[id]) ho (Nat.le_refl _) rfl rfl rfl (fun _ _ _=>rfl)
    (fun b c hs=> .inl ⟨c,by rw[List.getElem?_eq_getElem cn,hs]⟩) ⟨_,e,true,rfl,by simp,fun _=>List.getElem?_eq_getElem cn⟩ (fun hE=>by
     have cQ:=h.cC.obj id _ ho
     simp only[bI] at cQ ⊢
     obtain⟨q1,q2,q3⟩:=cQ
     refine⟨fun _=>hp,q2,?_⟩
     rcases q3 with⟨h1,h0⟩|⟨b,cap,arr,r1,r2,r3,r4,r5,r6⟩
     ·exact .inl ⟨by rw[List.getElem?_set_self cn,←List.getElem?_eq_getElem cn];exact h1,h0⟩
     ·refine .inr ⟨b,cap,arr,?_,r2,r3,r4,r5,fun j c hj=>?_⟩
      ·rw[List.getElem?_set_self cn,←List.getElem?_eq_getElem cn];exact r1
      ·obtain⟨v,hv,hr⟩:=r6 j c hj
       exact⟨v,hv,hr.ext hE⟩)
   exact⟨_,m1,fun s=>(h.env s).ext m2,h.size,h.defers,h.ext.trans m2⟩
  ·exact⟨σ,h⟩
 ·exact⟨σ,h⟩
theorem bm.hint {nt:Nat} {w0:World} {aK:aV} {o0:Store} {st:St} {a:Act} {lo:Nat} (hlo:o0.length≤lo) (h:bm A nt D w0 aK o0 st a w σ) (x:gq):∃σ',bm A nt D w0 aK o0 (eN lo x st) a w σ':=by
 unfold eN
 split
 ·exact h.RE x
 ·split
  ·rename_i id _ _ _ _
   split
   ·rename_i hb
    have hid:=Nat.le_of_ble_eq_true hb
    obtain⟨σ2,h⟩:=h.RF id
    unfold vl
    simp only
    split
    ·rename_i env o1 he ho
     have hF:=G7 ho
     exact⟨_,h.cC.aX hF,fun s=>aj.aX h.cC hF _ _ _ (G5 he s) (h.env s),h.size,h.defers,h.ext.aX hF fun i hi=>by
      simp only[beq_eq_false_iff_ne];omega⟩
    ·exact⟨σ2,h⟩
   ·exact⟨σ,h⟩
  ·exact⟨σ,h⟩
theorem HJ {w0:World} {aK:aV} {o0:Store} (hS:aU A w σ o) (hE:Ext w0 aK o0 w σ o) {r0 r:AV} {u:Value} (hr:aj A w σ o r0 u) {own:Bool} (hf:finish own o0.length r0 o=some (r,o')):
  ∃σ',aU A w σ' o'∧aj A w σ' o' r u∧Ext w0 aK o0 w σ' o':=by
 unfold finish at hf
 cases own with
 |true=>exact QW hS hE hr hf
 |false=>
  simp only[Bool.false_eq_true,if_false] at hf
  split at hf
  ·rename_i hk
   split at hf
   ·rename_i r' hfr
    simp only[Option.some.injEq,Prod.mk.injEq] at hf
    obtain⟨rfl,rfl⟩:=hf
    have h0:o0=[]:=List.eq_nil_of_length_eq_zero hk
    subst h0
    refine⟨[],xW w hS.gw,Ba hS (fun b _ hf=>hf.2) 6 r0 r' u hfr (fun id _ b c hσ=>hS.av id b c hσ) hr,hE.size,fun b hb hn=>⟨(hE.blk b hb hn).1,fun⟨i,c,hi⟩=>by simp at hi⟩,Nat.le_refl _,fun id tot ha=>?_,fun id ha=>?_,hE.os,hE.tape,hE.output⟩
    ·obtain⟨cs,e,sz,pu,ho,_⟩:=ha;simp at ho
    ·obtain⟨es,kt,pu,ho⟩:=ha;simp at ho
   ·cases hf
  ·cases hf
end
open Go.RowKit
mutual
theorem s9:∀(c:AV),c.pure=true→c.bL=true
 | .sc _,_=>by simp[AV.bL]
 | .sl _ _,_=>by simp[AV.bL]
 | .ud,h| .agg _,h| .aD _,h| .ep _ _,h| .ptr _ _ _,h| .os _ _ _ _,h| .mp _,h| .fn _ _ _,h=>by simp[AV.pure] at h
theorem HK:∀(cs:List AV),bJ cs=true→dX cs=true
 |[],_=>by simp[dX]
 |c::cs,h=>by
  simp only[bJ,Bool.and_eq_true] at h
  simp only[dX,Bool.and_eq_true]
  exact⟨s9 c h.1,HK cs h.2⟩
end
theorem yi:∀{cs:List AV},dX cs=true→∀c∈cs,c.bL=true
 |[],_,c,hc=>by simp at hc
 |x::cs,h,c,hc=>by
  simp only[dX,Bool.and_eq_true] at h
  rcases List.mem_cons.1 hc with rfl|hc
  ·exact h.1
  ·exact yi h.2 c hc
section
variable {A A':bG} {w w':World} {σ:aV} {o:Store}
mutual
theorem aj.to (hc:∀(p:Addr) (v:Value),w.cell? p=some v→w'.cell? p=some v) (hp:∀b,Fr A σ b→Fr A' σ b):
  ∀(c:AV) (v:Value),(A'.l=A.l∨c.bL=true)→aj A w σ o c v→aj A' w' σ o c v
 | .ud,_,_,_=>by simp[aj]
 | .sc u,v,_,hr=>by simpa[aj] using hr
 | .agg cs,v,hy,hr=>by
  simp only[aj,AV.bL] at hr hy ⊢
  obtain⟨vs,rfl,hl⟩:=hr
  exact⟨vs,rfl,aA.to hc hp cs _ hy hl⟩
 | .aD cs,v,hy,hr=>by
  simp only[aj,AV.bL] at hr hy ⊢
  obtain⟨vs,rfl,hl⟩:=hr
  exact⟨vs,rfl,aA.to hc hp cs _ hy hl⟩
 | .sl n cs,v,_,hr=>by
  simp only[aj] at hr ⊢
  obtain⟨a,cap,rfl,hn,hq,hm⟩:=hr
  exact⟨a,cap,rfl,hn,hq,bH.to hc hp cs a 0 hq hm⟩
 | .ep cs off,v,_,hr=>by
  simp only[aj] at hr ⊢
  obtain⟨a,rfl,hq,hm⟩:=hr
  exact⟨a,rfl,hq,bH.to hc hp cs _ 0 hq hm⟩
 | .ptr id off tot,v,_,hr=>by simpa only[aj] using hr
 | .os id off len tot,v,_,hr=>by simpa only[aj] using hr
 | .mp id,v,_,hr=>by simpa only[aj] using hr
 | .fn f a b,v,hy,hr=>by
  simp only[aj] at hr ⊢
  obtain⟨a',b',rfl,ha,hb⟩:=hr
  have hf:qF A'.l f=qF A.l f∧(A'.l=A.l∨(dX a=true∧dX b=true)):=by
   rcases hy with hy|hy
   ·exact⟨by rw[hy],.inl hy⟩
   ·cases f<;>simp only[AV.bL,Bool.and_eq_true,Bool.false_eq_true] at hy<;>first|exact⟨rfl,.inr hy⟩|exact hy.elim
  exact⟨a',b',by rw[hf.1],aA.to hc hp a _ (hf.2.imp id And.left) ha,aA.to hc hp b _ (hf.2.imp id And.right) hb⟩
theorem aA.to (hc:∀(p:Addr) (v:Value),w.cell? p=some v→w'.cell? p=some v) (hp:∀b,Fr A σ b→Fr A' σ b):
  ∀(cs:List AV) (vs:List Value),(A'.l=A.l∨dX cs=true)→aA A w σ o cs vs→aA A' w' σ o cs vs
 |[],_,_,h=>by simpa[aA] using h
 |c::cs,vs,hy,h=>by
  simp only[aA,dX,Bool.and_eq_true] at h hy ⊢
  obtain⟨v,r,rfl,hv,hl⟩:=h
  exact⟨v,r,rfl,aj.to hc hp c v (hy.imp id And.left) hv,aA.to hc hp cs r (hy.imp id And.right) hl⟩
theorem bH.to (hc:∀(p:Addr) (v:Value),w.cell? p=some v→w'.cell? p=some v) (hp:∀b,Fr A σ b→Fr A' σ b):
  ∀(cs:List AV) (a:Option Addr) (j:Nat),bJ cs=true→bH A w σ o cs a j→bH A' w' σ o cs a j
 |[],_,_,_,_=>by simp[bH]
 |c::cs,a,j,hq,h=>by
  simp only[bH] at h ⊢
  simp only[bJ,Bool.and_eq_true] at hq
  obtain⟨⟨b,v,rfl,hf,hv,hr⟩,hl⟩:=h
  exact⟨⟨b,v,rfl,hp _ hf,hc _ _ hv,aj.to hc hp c v (.inr (s9 c hq.1)) hr⟩,bH.to hc hp cs _ (j+1) hq.2 hl⟩
end
theorem bI.to (hc:∀(p:Addr) (v:Value),w.cell? p=some v→w'.cell? p=some v) (hp:∀b,Fr A σ b→Fr A' σ b) (hb:∀(i b c:Nat),σ[i]?=some (some (b,c))→w'.heap[b]?=w.heap[b]?)
  {i:Nat} {x:aP} (hy:A'.l=A.l∨x.bL=true) (h:bI A w σ o i x):bI A' w' σ o i x:=by
 cases x with
 |dead=>simpa only[bI] using h
 |cells cs e sz pu=>
  simp only[bI] at h ⊢
  have hcs:∀c∈cs,A'.l=A.l∨c.bL=true:=fun c hcm=>by
   rcases hy with hy|hy
   ·exact .inl hy
   ·simp only[aP.bL,Bool.or_eq_true] at hy
    rcases hy with hy|hy
    ·exact .inr (yi (HK cs (h.1 hy)) c hcm)
    ·exact .inr (yi hy c hcm)
  refine⟨h.1,h.2.1,?_⟩
  rcases h.2.2 with h0|⟨b,cap,arr,h1,h2,h3,h4,h5,h6⟩
  ·exact .inl h0
  ·refine .inr ⟨b,cap,arr,h1,h2,by rw[hb i b cap h1];exact h3,h4,h5,fun j c hj=>?_⟩
   obtain⟨v,hv,hr⟩:=h6 j c hj
   exact⟨v,hv,hr.to hc hp c v (hcs c (List.mem_of_getElem? hj))⟩
 |map es kt pu=>
  simp only[bI] at h ⊢
  obtain⟨h0,h00,b,c,en,cl,h1,h2,h3,h4⟩:=h
  refine⟨h0,h00,b,c,en,cl,h1,by rw[hb i b c h1];exact h2,h3,fun j e hj=>?_⟩
  obtain⟨m,hm,hk,hr⟩:=h4 j e hj
  refine⟨m,hm,hk,hr.to hc hp e.2 _ ?_⟩
  rcases hy with hy|hy
  ·exact .inl hy
  ·simp only[aP.bL,Bool.or_eq_true] at hy
   rcases hy with hy|hy
   ·exact .inr (s9 _ (h0 hy e (List.mem_of_getElem? hj)))
   ·exact .inr (yi hy _ (List.mem_map_of_mem (List.mem_of_getElem? hj)))
theorem aU.to (hS:aU A w σ o) (hc:∀(p:Addr) (v:Value),w.cell? p=some v→w'.cell? p=some v) (hb:∀(i b c:Nat),σ[i]?=some (some (b,c))→w'.heap[b]?=w.heap[b]?)
  (hsz:w.heap.size≤w'.heap.size) (hpp:A'.p=A.p) (hy:A'.l=A.l∨o.all aP.bL=true):aU A' w' σ o:=by
 have hp:∀b,Fr A σ b→Fr A' σ b:=fun b h=>⟨h.1,by have:=h.2;show ¬A'.p b;rw[hpp];exact this⟩
 refine⟨hS.len,hS.dist,fun i b c h=>Nat.lt_of_lt_of_le (hS.bnd i b c h) hsz,fun i x hx=>(hS.obj i x hx).to hc hp hb ?_,fun i b c h=>by have:=hS.av i b c h;show ¬A'.p b;rw[hpp];exact this,
  fun b h=>Nat.lt_of_lt_of_le (hS.gw b (by have h:A'.p b:=h;rw[hpp] at h;exact h)) hsz⟩
 rcases hy with hy|hy
 ·exact .inl hy
 ·exact .inr (List.all_eq_true.1 hy x (List.mem_of_getElem? hx))
theorem nB {r b:Nat} {y:Obj} (h:b≠r):(w.putObj r y).heap[b]?=w.heap[b]?:=by
 simp only[World.putObj]
 exact Array.getElem?_setIfInBounds_ne (Ne.symm h)
theorem putObj_size {r:Nat} {y:Obj}:(w.putObj r y).heap.size=w.heap.size:=by simp[World.putObj]
theorem HL {r:Nat} {x y:Obj} (h:w.heap[r]?=some x) (hx:x.isCells=false) (p:Addr) (v:Value) (hv:w.cell? p=some v):(w.putObj r y).cell? p=some v:=by
 obtain⟨z,hz,hzc⟩:=cells_of_cell hv
 have hne:p.block≠r:=fun e=>by rw[e,h] at hz;injection hz with hz;subst hz;rw[hx] at hzc;cases hzc
 exact(World.cell?_of_block (nB hne)).trans hv
theorem aU.jL (hS:aU A w σ o) {r:Nat} {x y:Obj} (h:w.heap[r]?=some x) (hx:x.isCells=false) (hn:¬Own σ r):aU A (w.putObj r y) σ o:=
 hS.to (HL h hx) (fun i b c hi=>nB fun e=>hn ⟨i,c,e▸hi⟩) (by rw[putObj_size];exact Nat.le_refl _) rfl (.inl rfl)
theorem aj.jL {c:AV} {v:Value} (hr:aj A w σ o c v) {r:Nat} {x y:Obj} (h:w.heap[r]?=some x) (hx:x.isCells=false):aj A (w.putObj r y) σ o c v:=
 hr.to (HL h hx) (fun _ h=>h) c v (.inl rfl)
theorem Ext.jL {w0:World} {aK:aV} {o0:Store} (h:Ext w0 aK o0 w σ o) {r:Nat} {y:Obj} (hr:w0.heap.size≤r):Ext w0 aK o0 (w.putObj r y) σ o where
 size:=by rw[putObj_size];exact h.size
 blk:=fun b hb hn=>by
  obtain⟨h1,h2⟩:=h.blk b hb hn
  exact⟨by rw[nB (by omega)];exact h1,h2⟩
 len:=h.len
 cur:=h.cur
 isMap:=h.isMap
 os:=h.os
 tape:=h.tape
 output:=h.output
theorem Ext.alloc (w:World) (σ:aV) (o:Store) (hS:aU A w σ o) (x:Obj):Ext w σ o (w.alloc x) σ o where
 size:=by rw[World.size_alloc];omega
 blk:=fun b hb hn=>⟨Below.heap_alloc _ _ _ hb,hn⟩
 len:=Nat.le_refl _
 cur:=fun _ _ h=>⟨h,fun _ h=>⟨h,rfl⟩⟩
 isMap:=fun _ h=>⟨h,rfl⟩
 os:=rfl
 tape:=rfl
 output:=rfl
theorem aU.alloc (hS:aU A w σ o) (x:Obj):aU A (w.alloc x) σ o:=
 have hE:=Ext.alloc w σ o hS x
 hS.to (fun p v hv=>by
  obtain⟨z,hz,_⟩:=cells_of_cell hv
  exact(World.cell?_of_block (Below.heap_alloc _ _ _ (Array.getElem?_eq_some_iff.1 hz).1)).trans hv) (fun i b c hi=>Below.heap_alloc _ _ _ (hS.bnd i b c hi)) hE.size rfl (.inl rfl)
theorem yj {P:Program} {fn:Func} {tmps:Array Value} {w0:World} {D:List Deferred} {R:Ending→World→Prop}:∀(ds:List Deferred) (w:World),nv w0 w ds→aU A w σ o→
  (∀w',aU A w' σ o→(∀{aK:aV} {o0:Store},Ext w0 aK o0 w σ o→Ext w0 aK o0 w' σ o)→(∀s v,aj A w σ o s v→aj A w' σ o s v)→LeavesInM (FR none) 0 P fn tmps R D .returning w')→
  LeavesInM (FR none) 0 P fn tmps R (ds++D) .returning w
 |[],w,_,hS,hk=>hk w hS (fun h=>h) (fun _ _ h=>h)
 |d::ds,w,hM,hS,hk=>by
  obtain⟨r,hd,hr0,hh⟩:=hM.2 d (by simp)
  have hn:=hS.s6 hh (by simp) (by simp)
  simp only[List.cons_append,LeavesInM]
  refine⟨by simp,.inl ⟨r,w.putObj r (.deferred none),by rw[hd],run_takeDeferred hh,?_⟩⟩
  refine yj ds _ ⟨(List.pairwise_cons.1 hM.1).2,fun e he=>?_⟩ (hS.jL hh rfl hn) fun w' q1 q3 q4=>hk w' q1 (fun h=>q3 (h.jL hr0)) (fun s v h=>q4 s v (h.jL hh rfl))
  obtain⟨r',he',By,hh'⟩:=hM.2 e (List.mem_cons_of_mem _ he)
  refine⟨r',he',By,?_⟩
  have:=(List.pairwise_cons.1 hM.1).1 e he
  rw[nB]
  ·exact hh'
  ·rintro rfl
   exact this (by rw[hd,he'])
theorem Bz {P:Program} {w0:World}:∀(ds:List Deferred) (w:World) (fr:Frame) (cs:List Frame),fr.mode= .returning→fr.defers=ds→nv w0 w ds→aU A w σ o→
  ∃w',StepsIn (Machine.fenced P (FR none)) P (lone fr cs w) (lone {fr with defers:=[]} cs w')∧aU A w' σ o∧(∀{aK:aV} {o0:Store},Ext w0 aK o0 w σ o→Ext w0 aK o0 w' σ o)∧∀s v,aj A w σ o s v→aj A w' σ o s v
 |[],w,fr,cs,_,hd,_,hS=>by
  refine⟨w,?_,hS,fun h=>h,fun _ _ h=>h⟩
  have:fr={fr with defers:=[]}:=by rw[←hd]
  rw[←this]
  exact StepsIn.refl _
 |d::ds,w,fr,cs,hm,hd,hM,hS=>by
  obtain⟨r,hdd,hr0,hh⟩:=hM.2 d (by simp)
  have hn:=hS.s6 hh (by simp) (by simp)
  have hm':fr.mode≠ .run:=by rw[hm];simp
  have h1:=step_collected (cs:=cs) hm' hd (by rw[hdd]) (run_takeDeferred (P:=P) hh)
  have i1:(lone fr cs w).fenced P (FR none):=fenced_out (n:=0) trivial (by simp[FR,Fence.wide,Fence.room]) hm' hd (fun g hg=>by rw[hdd] at hg;simp[Target.leads] at hg)
  obtain⟨w',k1,k2,k3,k4⟩:=Bz ds (w.putObj r (.deferred none)) {fr with defers:=[]++ds} cs hm rfl ⟨(List.pairwise_cons.1 hM.1).2,fun e he=>by
   obtain⟨r',he',By,hh'⟩:=hM.2 e (List.mem_cons_of_mem _ he)
   refine⟨r',he',By,?_⟩
   have:=(List.pairwise_cons.1 hM.1).1 e he
   rw[nB]
   ·exact hh'
   ·rintro rfl
    exact this (by rw[hdd,he'])⟩ (hS.jL hh rfl hn)
  exact⟨w',.head i1 h1 k1,k2,fun h=>k3 (h.jL hr0),fun s v h=>k4 s v (h.jL hh rfl)⟩
theorem RG {P:Program} {f:FuncId} {fn:Func} {c:Code} {args:Array Value} {u:FrameMode} {w:World} {R:Ending→World→Prop}
  (hf:P.funcs[f]?=some fn) (hb:fn.body=some c)
  (h:c.wpIn (FR none) 0 P (fun e a w1=>(e= .normal∨e= .ret)∧∃(w0:World) (σ1:aV) (o1:Store),nv w0 w1 a.defers∧aU A w1 σ1 o1∧∀w2,aU A w2 σ1 o1→(∀{aK:aV} {o0:Store},Ext w0 aK o0 w1 σ1 o1→Ext w0 aK o0 w2 σ1 o1)→(∀s v,aj A w1 σ1 o1 s v→aj A w2 σ1 o1 s v)→
   ∃v,(results fn a.tmps).run P w2= .ok v w2∧R (.returned v) w2) {tmps:=args++Array.replicate (fn.ntmps - args.size) undef,defers:=[]} w):
  CallsDIn (FR none) 0 P f args u w fun e u' w'=>u'=u∧R e w':=by
 refine⟨trivial,fun c₀ cs hu hr=>?_⟩
 let b:Frame:={(default:Frame) with fn:=f,kind:=.deferred,roundOf:=none}
 have henter:Frame.enter P f args .deferred=
   b.atR {tmps:=args++Array.replicate (fn.ntmps - args.size) undef,defers:=[]} [.code c]:=by
  simp[Frame.enter,Frame.atR,hf,hb,b]
 have hc:({c₀ with mode:=u}:Frame)=c₀:=by subst hu;rfl
 obtain⟨e,a',w',hq,harr⟩:=h b [] (c₀::cs) rfl trivial hr
 rw[←henter] at harr
 obtain⟨he,w0,σ1,o1,hM,hS,hk⟩:=hq
 rcases he with rfl|rfl
 ·obtain⟨w2,k1,k2,k3,k4⟩:=Bz (P:=P) a'.defers w' {b.atR a' [] with mode:=.returning} (c₀::cs) rfl rfl hM hS
  obtain⟨v,hv,hR⟩:=hk w2 k2 k3 k4
  exact⟨.returned v,u,w2,_,⟨rfl,hR⟩,(by rw[hc];exact StepsIn.trans (StepsIn.trans harr (.one (fenced_calm (fr:=b.atR a' []) trivial hr rfl) (stepR_end rfl))) k1),rfl,rfl,rfl,rfl,fn,hf,hv⟩
 ·obtain⟨todo,hs⟩:=harr.1 rfl
  obtain⟨w2,k1,k2,k3,k4⟩:=Bz (P:=P) a'.defers w' {b.atR a' todo with mode:=.returning} (c₀::cs) rfl rfl hM hS
  obtain⟨v,hv,hR⟩:=hk w2 k2 k3 k4
  exact⟨.returned v,u,w2,_,⟨rfl,hR⟩,(by rw[hc];exact StepsIn.trans hs k1),rfl,rfl,rfl,rfl,fn,hf,hv⟩
end
open Go.RowKit
def Out.nC:Out→Exit
 | .norm=> .normal
 | .exit id=> .exit id
 | .ret=> .ret
 | .goto l=> .goto l
section
variable {P:Program} {A:bG} {D:List Deferred} {w w':World} {σ σ':aV} {o o':Store}
theorem RI (live:List Nat) (env:dI) (s:Nat):bE (prune live env) s=bE env s∨bE (prune live env) s= .ud:=by
 unfold prune
 induction live with
 |nil=>right;rfl
 |cons x live ih=>
  simp only[List.map_cons,bE]
  cases hq:Nat.beq x s with
  |true=>left;have:=Nat.eq_of_beq_eq_true hq;subst this;rfl
  |false=>exact ih
theorem RJ (t:Nat) (env:dI) (s:Nat):bE (lA t env) s=bE env s∨bE (lA t env) s= .ud:=by
 induction env with
 |nil=>left;rfl
 |cons p env ih=>
  simp only[lA]
  cases hq:Nat.beq p.1 t with
  |true=>
   simp only[cond_true]
   by_cases hs:p.1=s
   ·have ht:=Nat.eq_of_beq_eq_true hq
    right
    have:∀env:dI,bE (lA t env) t= .ud:=by
     intro env
     induction env with
     |nil=>rfl
     |cons q env ih=>
      simp only[lA]
      cases hq2:Nat.beq q.1 t with
      |true=>simpa using ih
      |false=>simp only[cond_false,bE,hq2];exact ih
    rw[←hs,ht]
    exact this env
   ·have:bE (p::env) s=bE env s:=by
     simp only[bE]
     have:Nat.beq p.1 s=false:=by
      cases h:Nat.beq p.1 s with
      |true=>exact absurd (Nat.eq_of_beq_eq_true h) hs
      |false=>rfl
     rw[this];rfl
    rw[this]
    exact ih
  |false=>
   simp only[cond_false,bE]
   cases Nat.beq p.1 s with
   |true=>left;rfl
   |false=>exact ih
theorem bm.drop {nt:Nat} {w0:World} {aK:aV} {o0:Store} {st:St} {a:Act} (h:bm A nt D w0 aK o0 st a w σ) (x:Operand):bm A nt D w0 aK o0 ⟨kn x st.env,st.o⟩ a w σ where
 cC:=h.cC
 env:=fun s=>by
  unfold kn
  split
  ·rename_i t
   rcases RJ t st.env s with h1|h1
   ·simp only[h1];exact h.env s
   ·simp only[h1];simp[aj]
  ·exact h.env s
 size:=h.size
 defers:=h.defers
 ext:=h.ext
theorem bm.prune {nt:Nat} {w0:World} {aK:aV} {o0:Store} {st:St} {a:Act} (h:bm A nt D w0 aK o0 st a w σ) (live:List Nat):bm A nt D w0 aK o0 ⟨Go.Vi.prune live st.env,st.o⟩ a w σ where
 cC:=h.cC
 env:=fun s=>by
  rcases RI live st.env s with h1|h1
  ·simp only[h1];exact h.env s
  ·simp only[h1];simp[aj]
 size:=h.size
 defers:=h.defers
 ext:=h.ext
theorem HM {env:dI} {s:Nat}:bE env s= .ud∨∃p∈env,p.2=bE env s:=by
 induction env with
 |nil=>left;rfl
 |cons p env ih=>
  obtain⟨k,v⟩:=p
  simp only[bE]
  cases hq:Nat.beq k s with
  |true=>right;exact⟨(k,v),by simp,by simp⟩
  |false=>
   rcases ih with ih|⟨p,hp,h2⟩
   ·exact .inl ih
   ·exact .inr ⟨p,by simp[hp],h2⟩
theorem bm.trim {nt:Nat} {w0:World} {aK:aV} {o0:Store} {st:St} {a:Act} (h:bm A nt D w0 aK o0 st a w σ) {k:Nat} (hk:o0.length≤k):∃σ',bm A nt D w0 aK o0 (Go.Vi.trim k st) a w σ':=by
 unfold Go.Vi.trim
 split
 ·exact⟨σ,h⟩
 ·split
  ·rename_i hc
   simp only[Bool.and_eq_true,List.all_eq_true] at hc
   refine⟨σ.take k,⟨h.cC.take hc.2,fun s=>?_,h.size,h.defers,h.ext.take hk⟩⟩
   have hr:=h.env s
   simp only
   rcases HM (env:=st.env) (s:=s) with h1|⟨p,hp,h1⟩
   ·rw[h1];simp[aj]
   ·refine aj.take hr ?_
    rw[←h1];exact hc.1 p hp
  ·exact⟨σ,h⟩
theorem bm.di {nt:Nat} {w0:World} {aK:aV} {o0:Store} {st:St} {a:Act} (h:bm A nt D w0 aK o0 st a w σ) (n:Nat):∃σ',bm A nt D w0 aK o0 ⟨st.env,st.o++Go.Vi.di n⟩ a w σ':=by
 obtain⟨h1,h2⟩:=h.cC.di n
 exact⟨_,h1,fun s=>(h.env s).ext h2,h.size,h.defers,h.ext.trans h2⟩
theorem bm.kj {nt:Nat} {w0:World} {aK:aV} {o0:Store} {st:St} {a:Act} (h:bm A nt D w0 aK o0 st a w σ) {k:Nat} (hk:o0.length≤k):∃σ',bm A nt D w0 aK o0 ⟨st.env,Go.Vi.kj k st.o⟩ a w σ':=by
 obtain⟨σ',h1,h2,h3⟩:=QQ h.cC k
 exact⟨σ',h1,fun s=>h2 _ _ (h.env s),h.size,h.defers,h3 _ _ _ hk h.ext⟩
theorem bm.len {nt:Nat} {w0:World} {aK:aV} {o0:Store} {st:St} {a:Act} (h:bm A nt D w0 aK o0 st a w σ):o0.length≤st.o.length:=h.ext.len
theorem bm.hints {nt:Nat} {w0:World} {aK:aV} {o0:Store} {lo:Nat} (hlo:o0.length≤lo) (l:List gq):∀{st:St} {a:Act} {σ:aV},bm A nt D w0 aK o0 st a w σ→∃σ',bm A nt D w0 aK o0 (l.foldl (fun s h=>eN lo h s) st) a w σ':=by
 induction l with
 |nil=>intro st a σ h;exact⟨σ,h⟩
 |cons x l ih=>
  intro st a σ h
  obtain⟨σ1,h1⟩:=bm.hint hlo h x
  exact ih h1
theorem RL {bC:Option Nat} {call:bB} (hcall:jp P call) {lo nt:Nat} {H:List RH} {id:Nat} {ops:Array Oper} {draw:Bool} {c:IR} (hc:oW P nt H id ops draw=some c):
  ∃k l b6 live pre post,c= .region id draw k l b6 live pre post∧∀{st st':St},km call k l b6 (pre.foldl (fun s h=>eN lo h s) st)=some st'→∀{w0:World} {aK:aV} {o0:Store} {a:Act} {w:World} {σ:aV},o0.length≤lo→bm A nt D w0 aK o0 st a w σ→
   (Code.region id ops draw).wpIn (FR bC) 0 P (fun e a' w'=>e= .normal∧∃σ',bm A nt D w0 aK o0 (post.foldl (fun s h=>eN lo h s) ⟨Go.Vi.prune live st'.env,st'.o⟩) a' w' σ') a w:=by
 unfold oW at hc
 split at hc
 ·cases hc
 ·rename_i h hh
  have fin:∀(k:Nat) (l:List bA) (b6:List (Nat×Nat)),(∀{st1 st2:St},dF call st1.o.length l ⟨st1.env,st1.o++di k⟩=some st2→(b6.isEmpty||nj (st1.o++di k).length (ix call st1.o.length l ⟨st1.env,st1.o++di k⟩) b6)=true→
     ∀{w0:World} {aK:aV} {o0:Store} {a:Act} {w:World} {σ:aV} {Q:Exit→Act→World→Prop},bm A nt D w0 aK o0 ⟨st1.env,st1.o++di k⟩ a w σ→(∀a' w' σ',bm A nt D w0 aK o0 st2 a' w' σ'→Q .normal a' w')→(Code.region id ops draw).wpIn (FR bC) 0 P Q a w)→
    ∀{st st':St},km call k l b6 (h.pre.foldl (fun s h=>eN lo h s) st)=some st'→∀{w0:World} {aK:aV} {o0:Store} {a:Act} {w:World} {σ:aV},o0.length≤lo→bm A nt D w0 aK o0 st a w σ→
     (Code.region id ops draw).wpIn (FR bC) 0 P (fun e a' w'=>e= .normal∧∃σ',bm A nt D w0 aK o0 (h.post.foldl (fun s h=>eN lo h s) ⟨Go.Vi.prune h.live st'.env,st'.o⟩) a' w' σ') a w:=by
   intro k l b6 hrun st st' hr w0 aK o0 a w σ hlo hs
   obtain⟨σ1,hs1⟩:=bm.hints hlo h.pre hs
   generalize RN:h.pre.foldl (fun s h=>eN lo h s) st=st1 at hr hs1
   unfold km at hr
   simp only at hr
   split at hr
   ·rename_i st2 h2
    split at hr
    ·rename_i nA
     injection hr with hr
     obtain⟨σ2,hs2⟩:=hs1.di k
     refine hrun h2 nA hs2 fun a' w' σ' h3=>⟨rfl,?_⟩
     have h4:∃ta,bm A nt D w0 aK o0 st' a' w' ta:=by
      subst hr
      by_cases hk:k=0
      ·simp only[hk,if_true];exact⟨σ',h3⟩
      ·simp only[hk,if_false];exact h3.kj hs1.len
     obtain⟨ta,h4⟩:=h4
     exact bm.hints hlo h.post (h4.prune h.live)
    ·cases hr
   ·cases hr
  cases draw with
  |false=>
   simp only[Bool.false_eq_true,if_false] at hc
   obtain⟨⟨l,k⟩,hl,rfl⟩:=Option.map_eq_some_iff.1 hc
   refine⟨k,l,[],h.live,h.pre,h.post,rfl,fin k l [] fun {st1 st2} h2 _ w0 aK o0 a w σ Q hs hQ=>?_⟩
   obtain⟨g1,g2⟩:=yc hl
   exact wpIn_region (Hn hcall l (List.range ops.size) g1 g2 _ _ a w σ h2 hs hQ)
  |true=>
   simp only[if_true] at hc
   generalize (if h.perm.isEmpty=true then List.range ops.size else h.perm)=perm at hc
   split at hc
   ·rename_i l k hl
    split at hc
    ·rename_i hcond
     injection hc with hc
     refine⟨k,l,kT (jJ ops) l,h.live,h.pre,h.post,hc.symm,fin k l _ fun {st1 st2} h2 nA w0 aK o0 a w σ Q hs hQ=>?_⟩
     simp only[Bool.and_eq_true,beq_iff_eq] at hcond
     exact RA hcall hl hcond.1.1.1.1.1 hcond.1.1.1.1.2 hcond.1.1.1.2 hcond.1.1.2 hcond.1.2 hcond.2 h2 nA hs hQ
    ·cases hc
   ·cases hc
def yk (P:Program) (B:bG→World→aV→Store→Prop) (vs:List AV) (o:Store) (r:AV) (o':Store):Prop:=
 ∀(A:bG) (w:World) (σ:aV) (us:List Value),aU A w σ o→B A w σ o→aA A w σ o vs us→
  YieldAt Fence.wide 0 P A.l us.toArray w fun e w'=>∃u σ',e= .returned u∧aU A w' σ' o'∧aj A w' σ' o' r u∧Ext w σ o w' σ' o'
def pw (P:Program) (bC:Option Nat) (B:bG→World→aV→Store→Prop):Md→Prop
 | .plain=>bC=none
 | .round=>True
 | .iter y=>bC=none∧∀vs o r o',y vs o=some (r,o')→yk P B vs o r o'
def Closed (B:bG→World→aV→Store→Prop):Prop:=∀A w σ o w' σ' o',B A w σ o→Ext w σ o w' σ' o'→B A w' σ' o'
theorem RO {call:bB} (hcall:jp P call) {y:YO} {B:bG→World→aV→Store→Prop} (hy:∀vs o r o',y vs o=some (r,o')→yk P B vs o r o') (hB:Closed B)
  {nt:Nat} {fl:List Nat} {ops:Array Oper} {am k:Nat} {i:bA} (hc:jI P nt fl ops am k=some i) {base:Nat} {st st':St} (hr:mj call y base i st=some st')
  {w0:World} {aK:aV} {o0:Store} {a:Act} (hB0:B A w0 aK o0) (h:bm A nt D w0 aK o0 st a w σ) {K:Act→World→Prop} {Q:Exit→Act→World→Prop} (hk:∀a' w' σ',bm A nt D w0 aK o0 st' a' w' σ'→K a' w'):wpOpIn (FR none) 0 P ops Q k K a w:=by
 unfold mj at hr
 split at hr
 ·rename_i x args own hop
  split at hr
  ·rename_i l hx
   have hc0:=hc
   unfold jI at hc
   cases ho:ops[k]? with
   |none=>simp[ho] at hc
   |some oper=>
    simp only[ho] at hc
    split at hc
    ·rename_i hd
     obtain⟨op,RP,rfl⟩:=Option.map_eq_some_iff.1 hc
     simp only at hop hr
     subst hop
     unfold wpOpIn
     simp only[ho]
     split at hr
     ·cases hr
     ·rename_i hw
      have:=ya h hw
      rw[this]
      injection hr with hr
      subst hr
      simp only[Bool.false_eq_true,if_false]
      exact⟨fun _ _=>trivial,hk _ _ σ (h.put h.cC (Ext.refl _ _ _) hd (by simp only[aj];exact⟨#[],rfl,by simp[aA]⟩))⟩
     ·rename_i hw
      have:=ya h hw
      rw[this]
      simp only[if_true]
      split at hr
      ·rename_i v o' tc
       injection hr with hr
       subst hr
       obtain⟨c,RR,hh⟩:=Hk RP rfl
       rcases hh with⟨f,_,hf⟩|⟨x',gy,hf⟩
       ·cases hf
       ·injection hf with hf1 hf2 hf3
        subst hf1
        subst hf2
        have h1:=h.ev x
        rw[hx] at h1
        simp only[aj,aA] at h1
        obtain⟨f',c',hv,hf,hcp⟩:=h1
        have hf0:f'=#[]:=Array.ext' (by simpa using hf)
        have hc0:c'=#[]:=Array.ext' (by simpa using hcp)
        subst hf0
        subst hc0
        obtain⟨fn,tmps,dG,body,hrun,RS⟩:=hy _ _ _ _ tc A w σ (c.args.toList.map a.eval) h.cC (hB _ _ _ _ _ _ _ hB0 h.ext) (o9 (fun x=>h.ev x) _)
        have hrun':(Instr.yield A.l (c.args.map a.eval)).run P w= .ok (.round A.l fn tmps dG body) w:=by
         rw[←hrun];congr 2;exact Array.ext' (by simp)
        unfold Oper.wpIn
        rw[show(FR none).round=none from rfl,Oper.semAt_none]
        refine⟨fun _ _=>trivial,?_⟩
        have he:(execOp a.eval oper).run P w= .ok (.round A.l fn tmps dG body) w:=by
         simp only[execOp,RR,resolve,gy]
         simp[hv,qF,Deferred.ofValue,invoke,hrun']
        rw[he,Oper.uponIn_round]
        refine⟨fun h=>by simp[FR,Fence.wide] at h,RS.mono ?_⟩
        rintro e w' ⟨u,σ',rfl,q1,q2,q3⟩
        exact hk _ _ σ' (h.put q1 q3 hd q2)
      ·cases hr
    ·cases hc
  ·exact yb hcall hc hr h hk
 ·exact yb hcall hc hr h hk
theorem HN {call:bB} (hcall:jp P call) {y:YO} {B:bG→World→aV→Store→Prop} (hy:∀vs o r o',y vs o=some (r,o')→yk P B vs o r o') (hB:Closed B)
  {nt:Nat} {fl:List Nat} {ops:Array Oper} {base:Nat} {w0:World} {aK:aV} {o0:Store} (hB0:B A w0 aK o0) {Q:Exit→Act→World→Prop}:
  ∀(l:List bA) (idx:List Nat),l.length=idx.length→(∀(j:Nat) (i:bA) (k:Nat),l[j]?=some i→idx[j]?=some k→∃am,jI P nt fl ops am k=some i)→∀(st st':St) (a:Act) (w:World) (σ:aV),
   mo call y base l st=some st'→bm A nt D w0 aK o0 st a w σ→(∀a' w' σ',bm A nt D w0 aK o0 st' a' w' σ'→Q .normal a' w')→wpOpsIn (FR none) 0 P ops Q idx a w
 |[],[],_,_,st,st',a,w,σ,hr,h,hQ=>by
  simp only[mo,Option.some.injEq] at hr
  subst hr
  exact hQ a w σ h
 |[],_::_,hl,_,_,_,_,_,_,_,_,_=>by simp at hl
 |_::_,[],hl,_,_,_,_,_,_,_,_,_=>by simp at hl
 |i::l,k::idx,hl,hc,st,st',a,w,σ,hr,h,hQ=>by
  simp only[mo] at hr
  split at hr
  ·rename_i st1 h1
   obtain⟨am,hci⟩:=hc 0 i k (by simp) (by simp)
   rw[wpOpsIn_cons]
   exact RO hcall hy hB hci h1 hB0 h fun a' w' σ' h'=>HN hcall hy hB hB0 l idx (by simpa using hl) (fun j i' k' hi hk=>hc (j+1) i' k' (by simpa using hi) (by simpa using hk)) st1 st' a' w' σ' hr h' hQ
  ·cases hr
theorem RU {call:bB} (hcall:jp P call) {bC:Option Nat} {B:bG→World→aV→Store→Prop} {md:Md} (hm:pw P bC B md) (hB:Closed B) {lo nt:Nat} {H:List RH} {id:Nat} {ops:Array Oper} {draw:Bool} {c:IR} (hc:oW P nt H id ops draw=some c):
  ∃k l b6 live pre post,c= .region id draw k l b6 live pre post∧∀{st st':St},qA md draw call k l b6 (pre.foldl (fun s h=>eN lo h s) st)=some st'→∀{w0:World} {aK:aV} {o0:Store} {a:Act} {w:World} {σ:aV},B A w0 aK o0→o0.length≤lo→bm A nt D w0 aK o0 st a w σ→
   (Code.region id ops draw).wpIn (FR bC) 0 P (fun e a' w'=>e= .normal∧∃σ',bm A nt D w0 aK o0 (post.foldl (fun s h=>eN lo h s) ⟨Go.Vi.prune live st'.env,st'.o⟩) a' w' σ') a w:=by
 by_cases hcase:∃y,md= .iter y∧draw=false
 ·obtain⟨y,rfl,rfl⟩:=hcase
  obtain⟨rfl,hy⟩:=hm
  unfold oW at hc
  split at hc
  ·cases hc
  ·rename_i h hh
   simp only[Bool.false_eq_true,if_false] at hc
   obtain⟨⟨l,k⟩,hl,rfl⟩:=Option.map_eq_some_iff.1 hc
   obtain⟨g1,g2⟩:=yc hl
   refine⟨k,l,[],h.live,h.pre,h.post,rfl,?_⟩
   intro st st' hr w0 aK o0 a w σ hB0 hlo hs
   obtain⟨σ1,hs1⟩:=bm.hints hlo h.pre hs
   generalize RN:h.pre.foldl (fun s h=>eN lo h s) st=st1 at hr hs1
   simp only[qA,sO] at hr
   split at hr
   ·rename_i st2 h2
    injection hr with hr
    obtain⟨σ2,hs2⟩:=hs1.di k
    refine wpIn_region (HN hcall hy hB hB0 l (List.range ops.size) g1 g2 _ _ a w σ2 h2 hs2 fun a' w' σ' h3=>⟨rfl,?_⟩)
    have h4:∃ta,bm A nt D w0 aK o0 st' a' w' ta:=by
     subst hr
     by_cases hk:k=0
     ·simp only[hk,if_true];exact⟨σ',h3⟩
     ·simp only[hk,if_false];exact h3.kj hs1.len
    obtain⟨ta,h4⟩:=h4
    exact bm.hints hlo h.post (h4.prune h.live)
   ·cases hr
 ·obtain⟨k,l,b6,live,pre,post,h1,h2⟩:=RL (bC:=bC) hcall (A:=A) (lo:=lo) hc
  refine⟨k,l,b6,live,pre,post,h1,?_⟩
  intro st st' hr w0 aK o0 a w σ _ hlo hs
  refine h2 ?_ hlo hs
  rw[←hr]
  unfold qA
  cases md with
  |plain=>rfl
  |round=>rfl
  |iter y=>cases draw with
   |false=>exact absurd ⟨y,rfl,rfl⟩ hcase
   |true=>rfl
structure gd (P:Program) (T:Tab):Prop where
 fn:∀f F,T.fn f=some F→∃fn H,P.funcs[f]?=some fn∧aB P H fn=some F∧eG P f=true
 K:∀f args o own r o',T.K f args o own=some (r,o')→eG P f=true∧iQ P f args o r o'∧(own=false→o'=[])
def px (P:Program) (T:Tab) (n:Nat):Prop:=
 ∀(bC:Option Nat) (md:Md) (B:bG→World→aV→Store→Prop),pw P bC B md→Closed B→
 ∀(lo:Nat) (c:IR) (st:St) (out:Out) (st':St),exec T md n lo c st=some (out,st')→∀(nt:Nat) (H:List RH) (code:Code),comp P nt H code=some c→∀(D:List Deferred) (A:bG) (w0:World) (aK:aV) (o0:Store) (a:Act) (w:World) (σ:aV),B A w0 aK o0→o0.length≤lo→bm A nt D w0 aK o0 st a w σ→
  code.wpIn (FR bC) 0 P (fun e a' w'=>e=out.nC∧∃σ',bm A nt D w0 aK o0 st' a' w' σ') a w
def py:bG→World→aV→Store→Prop:=fun _ _ _ _=>True
theorem ra:Closed py:=fun _ _ _ _ _ _ _ _ _=>trivial
theorem HO:∀(k:Nat) (args:List AV) (s:Nat),bE (dW k args) s=if k≤s then(args[s - k]?).getD .ud else .ud
 |k,[],s=>by simp[dW,bE]
 |k,v::vs,s=>by
  simp only[dW,bE]
  by_cases h:k=s
  ·subst h;simp
  ·have hq:Nat.beq k s=false:=by
    cases hq:Nat.beq k s with
    |false=>rfl
    |true=>exact absurd (Nat.eq_of_beq_eq_true hq) h
   simp only[hq,cond_false]
   rw[HO (k+1) vs s]
   by_cases h2:k≤s
   ·rw[if_pos h2,if_pos (by omega),show s - k=(s - (k+1))+1 from by omega];simp
   ·rw[if_neg h2,if_neg (by omega)]
def td (tmps:Array Value):ResultVar→Sem Value
 | .tmp t=>pure (tmps.getD t undef)
 | .cell x t=>do loadVar t (←asAddr (tmps.getD x undef))
theorem RV (fn:Func) (tmps:Array Value):results fn tmps=(do let vs ←fn.results.mapM (td tmps);pure (if h:vs.size=1 then vs[0] else .tuple vs)):=by
 unfold results
 congr 1
theorem RX {nt:Nat} {w0:World} {aK:aV} {o0:Store} {st:St} {a:Act} (h:bm A nt D w0 aK o0 st a w σ) {rv:ResultVar} {ir:iN} (hc:mq P rv=some ir) {r:AV} (hr:lz st ir=some r):
  ∃u,(td a.tmps rv).run P w= .ok u w∧aj A w σ st.o r u:=by
 cases rv with
 |tmp t=>
  simp only[mq,Option.some.injEq] at hc
  subst hc
  simp only[lz,Option.some.injEq] at hr
  subst hr
  exact⟨_,rfl,h.env t⟩
 |cell x t=>
  simp only[mq,Option.map_eq_some_iff] at hc
  obtain⟨n,hn,rfl⟩:=hc
  simp only[lz] at hr
  split at hr
  ·rename_i cs off hb
   obtain⟨p,hp,hcells⟩:=(h.env x).Gh h.cC hb
   obtain⟨u,hu,eW⟩:=Gi (P:=P) hn hcells hr
   exact⟨u,by simp only[td,hp];simp[asAddr,hu],eW⟩
  ·cases hr
theorem BA {nt:Nat} {w0:World} {aK:aV} {o0:Store} {st:St} {a:Act} (h:bm A nt D w0 aK o0 st a w σ) {fn:Func} {rs:List iN} (hc:lC (mq P) fn.results.toList=some rs) {r:AV} (hr:gX st rs=some r):
  ∃u,(results fn a.tmps).run P w= .ok u w∧aj A w σ st.o r u:=by
 obtain⟨h1,h2⟩:=AP hc
 unfold gX at hr
 have key:∀(rb:List ResultVar) (lH:List iN) (vs:List AV),rb.length=lH.length→(∀(i:Nat) (x:ResultVar) (y:iN),rb[i]?=some x→lH[i]?=some y→mq P x=some y)→lH.mapM (lz st)=some vs→
   ∃us:List Value,(rb.mapM (td a.tmps)).run P w= .ok us w∧aA A w σ st.o vs us:=by
  intro rb
  induction rb with
  |nil=>
   intro lH vs hl _ hm
   have:lH=[]:=List.eq_nil_of_length_eq_zero (by simpa using hl.symm)
   subst this
   simp at hm
   subst hm
   exact⟨[],by simp,by simp[aA]⟩
  |cons x rb ih=>
   intro lH vs hl hg hm
   match lH,hl with
   |y::lH,hl=>
    rw[List.mapM_cons] at hm
    cases hy:lz st y with
    |none=>simp[hy] at hm
    |some v=>
     cases hrest:lH.mapM (lz st) with
     |none=>simp[hy,hrest] at hm
     |some vs'=>
      simp[hy,hrest] at hm
      subst hm
      obtain⟨u,hu,eW⟩:=RX h (hg 0 x y (by simp) (by simp)) hy
      obtain⟨us,mA,RY⟩:=ih lH vs' (by simpa using hl) (fun i p q hp hq=>hg (i+1) p q (by simpa using hp) (by simpa using hq)) hrest
      refine⟨u::us,?_,by simp only[aA];exact⟨u,us,rfl,eW,RY⟩⟩
      rw[List.mapM_cons]
      simp only[Sem.run_bind]
      rw[hu]
      simp only[Result.andThen_ok,mA,Sem.run_pure]
 have conv:∀us:List Value,(fn.results.toList.mapM (td a.tmps)).run P w= .ok us w→
   (results fn a.tmps).run P w= .ok (if h:us.length=1 then us[0]'(by omega) else .tuple us.toArray) w:=by
  intro us mA
  rw[RV,Array.mapM_eq_mapM_toList]
  simp only[Sem.run_bind,Sem.run_map,mA,Result.andThen_ok,Sem.run_pure]
  by_cases h1:us.length=1
  ·simp[h1]
  ·simp[h1]
 split at hr
 ·rename_i v hm
  injection hr with hr;subst hr
  obtain⟨us,mA,hl⟩:=key _ _ _ h1 h2 hm
  simp only[aA] at hl
  obtain⟨u,rest,rfl,hu,rfl⟩:=hl
  exact⟨u,by rw[conv _ mA];simp,hu⟩
 ·rename_i vs hne hm
  injection hr with hr;subst hr
  obtain⟨us,mA,hl⟩:=key _ _ _ h1 h2 hm
  have hlen:=aA.length _ _ hl
  have h1':¬us.length=1:=by
   intro h1
   match vs,hlen.trans h1 with
   |[v],_=>exact hne v rfl
  refine⟨.tuple us.toArray,by rw[conv _ mA];simp[h1'],?_⟩
  simp only[aj]
  exact⟨_,rfl,by simpa using hl⟩
 ·cases hr
theorem BB {nt:Nat} {args:List AV} {vs:List Value} (hS:aU A w σ o) (hr:aA A w σ o args vs) (hnt:args.length≤nt):bm A nt [] w σ o ⟨dW 0 args,o⟩ {tmps:=vs.toArray++Array.replicate (nt - vs.toArray.size) undef,defers:=[]} w σ:=by
 have hvl:=aA.length _ _ hr
 refine⟨hS,fun s=>?_,?_,⟨[],rfl,List.Pairwise.nil,by simp⟩,Ext.refl _ _ _⟩
 ·simp only[HO,Nat.zero_le,if_true,Nat.sub_zero]
  cases hs:args[s]? with
  |none=>simp[aj]
  |some c=>
   obtain⟨v,hv,fi⟩:=aA.get _ _ hr s c hs
   have hsl:s<vs.length:=(List.getElem?_eq_some_iff.1 hv).1
   have:(vs.toArray++Array.replicate (nt - vs.toArray.size) undef).getD s undef=v:=by
    rw[Array.getD_eq_getD_getElem?,Array.getElem?_append_left (by simpa using hsl)]
    simp[hv]
   rw[this]
   simpa using fi
 ·simp;omega
theorem HQ {T:Tab} {n:Nat} (ih:px P T n) {md:Md} {B:bG→World→aV→Store→Prop} (hm:pw P none B md) (hB:Closed B) {f:FuncId} {fn:Func} {code:Code} {H:List RH} {b:IR} {rs:List iN}
  (hfn:P.funcs[f]?=some fn) (hcode:fn.body=some code) (hb:comp P fn.ntmps H code=some b) (hrs:lC (mq P) fn.results.toList=some rs) (hnt:¬fn.ntmps<fn.params.size+fn.nfree)
  {args:List AV} {out:Out} {st:St} (hlen:args.length=fn.params.size+fn.nfree) (hout:out= .norm∨out= .ret) (hex:exec T md n o.length b ⟨dW 0 args,o⟩=some (out,st)) {r0 r:AV} (hr0:gX st rs=some r0) {own:Bool} (hfi:finish own o.length r0 st.o=some (r,o'))
  {vs:List Value} (hB0:B A w σ o) (hS:aU A w σ o) (hr:aA A w σ o args vs):
  CallsIn (FR none) 0 P f vs.toArray w fun e w'=>∃u σ',e= .returned u∧aU A w' σ' o'∧aj A w' σ' o' r u∧Ext w σ o w' σ' o':=by
 have hvl:=aA.length _ _ hr
 refine callsIn_of_wp_marks (F:=FR none) hfn hcode trivial (wpIn_mono (ih none md B hm hB _ b _ out st hex fn.ntmps H code hb [] A w σ o {tmps:=vs.toArray++Array.replicate (fn.ntmps - vs.toArray.size) undef,defers:=[]} w σ hB0 (Nat.le_refl _) (BB hS hr (by omega))) ?_)
 ·rintro e a' w' ⟨rfl,σ',hs'⟩
  have key:LeavesInM (FR none) 0 P fn a'.tmps (fun e w'=>∃u σ',e= .returned u∧aU A w' σ' o'∧aj A w' σ' o' r u∧Ext w σ o w' σ' o') a'.defers .returning w':=by
   obtain⟨ms,hms,hM⟩:=hs'.defers
   rw[hms]
   refine yj ms w' hM hs'.cC fun w2 q1 q3 q4=>?_
   simp only[LeavesInM,LeavesIn]
   have hs2:bm A fn.ntmps [] w σ o st {a' with defers:=[]} w2 σ':=⟨q1,fun s=>q4 _ _ (hs'.env s),hs'.size,⟨[],rfl,List.Pairwise.nil,by simp⟩,q3 hs'.ext⟩
   obtain⟨u,hu,eW⟩:=BA hs2 hrs hr0
   have hfin:=HJ hs2.cC hs2.ext eW hfi
   exact⟨u,hu,u,hfin.choose,rfl,hfin.choose_spec⟩
  rcases hout with rfl|rfl
  ·exact key
  ·exact key
theorem HS {out:Out} (h:qy out=true):out= .norm∨out= .ret:=by
 cases out<;>simp[qy] at h<;>simp
theorem RZ {P:Program} {nt:Nat} {H:List RH} {g:FuncId} {caps:List Operand} {d:Nat} {a b:IR} (c:Code):comp P nt H c≠some (.qt g caps d a b):=by
 intro h
 cases c with
 |region id ops draw=>
  simp only[comp] at h
  unfold oW at h
  split at h
  ·cases h
  ·split at h
   ·simp only at h
    repeat' split at h
    all_goals simp at h
   ·obtain⟨x,_,h2⟩:=Option.map_eq_some_iff.1 h
    cases h2
 |seq x y=>simp only[comp] at h;split at h<;>simp at h
 |cond c x y=>
  simp only[comp] at h
  split at h
  ·split at h<;>simp at h
  ·cases h
 |rangeFunc g ps x y=>
  simp only[comp] at h
  split at h
  ·split at h<;>simp at h
  ·cases h
 |_=>simp[comp] at h
theorem R1 {ops:Array Oper} {g:FuncId} {caps:List Operand} {d:Nat} (h:vt ops=some (g,caps,d)):∃mk df a b c,ops.toList=[mk,df]∧mk.dst=some d∧mk.op= .makeFunc (.func g) a b∧mk.guard=none∧df.op= .defer c∧df.dst=none∧df.guard=none∧c.callee= .value (.tmp d)∧a.toList=[]∧c.args.toList=[]∧b.toList=caps:=by
 unfold vt at h
 split at h
 ·rename_i mk df hl
  split at h
  ·rename_i d' g' a b c h1 h2 h3 h4 h5 h6
   split at h
   ·rename_i d2 h7
    split at h
    ·rename_i h8
     obtain⟨rfl,h9,h10⟩:=h8
     simp only[Option.some.injEq,Prod.mk.injEq] at h
     obtain⟨rfl,rfl,rfl⟩:=h
     exact⟨mk,df,a,b,c,hl,h1,h2,h3,h4,h5,h6,h7,h9,h10,rfl⟩
    ·cases h
   ·cases h
  ·cases h
 ·cases h
theorem R7 {nt:Nat} {id:Nat} {ops:Array Oper} {g:FuncId} {caps:List Operand} {d:Nat} (hd:vt ops=some (g,caps,d)) (hnt:d<nt) {st:St} {a:Act} {w0:World} {aK:aV} {o0:Store} (h:bm A nt D w0 aK o0 st a w σ) {Q:Exit→Act→World→Prop}
  (hk:∀(a':Act) (vs:List Value),aA A w σ st.o (caps.map (b8 st.env)) vs→bm A nt ({target:=.fn (.func g) vs.toArray,args:=#[]}::a.defers) w σ st.o ⟨(d,.ud)::st.env,st.o⟩ a' w σ→Q .normal a' w):
  (Code.region id ops false).wpIn (FR none) 0 P Q a w:=by
 obtain⟨mk,df,x,b,c,hl,m1,m2,m3,m4,m5,m6,m7,m8,m9,rfl⟩:=R1 hd
 have e0:ops[0]?=some mk:=by rw[←Array.getElem?_toList,hl];rfl
 have e1:ops[1]?=some df:=by rw[←Array.getElem?_toList,hl];rfl
 have es:ops.size=2:=by rw[←Array.length_toList,hl];rfl
 have hx:x=#[]:=Array.ext' (by simpa using m8)
 have hy:c.args=#[]:=Array.ext' (by simpa using m9)
 refine wpIn_region ?_
 rw[es]
 show wpOpsIn (FR none) 0 P ops Q [0,1] a w
 rw[wpOpsIn_cons]
 unfold wpOpIn
 simp only[e0]
 rw[if_pos (by unfold Region.wanted;rw[m3])]
 unfold Oper.wpIn
 rw[show(FR none).round=none from rfl,Oper.semAt_none]
 refine⟨fun _ _=>trivial,?_⟩
 have r0:(execOp a.eval mk).run P w= .ok (.value (.func (.func g) #[] (b.map a.eval))) w:=by
  simp[execOp,m2,Instr.makeFunc,hx]
 rw[r0,Oper.uponIn_value,wpOpsIn_cons]
 have hdl:d<a.tmps.size:=by rw[h.size];exact hnt
 have hev:(a.put mk.dst (.func (.func g) #[] (b.map a.eval))).eval (.tmp d)= .func (.func g) #[] (b.map a.eval):=by
  rw[m1]
  simp[Act.put,Act.eval,hdl]
 generalize ha1:a.put mk.dst (.func (.func g) #[] (b.map a.eval))=a1 at hev
 unfold wpOpIn
 simp only[e1]
 rw[if_pos (by unfold Region.wanted;rw[m6])]
 unfold Oper.wpIn
 rw[show(FR none).round=none from rfl,Oper.semAt_none]
 refine⟨fun _ _=>trivial,?_⟩
 have r1:(execOp a1.eval df).run P w= .ok (.defer {target:=.fn (.func g) (b.map a.eval),args:=#[]}) w:=by
  simp[execOp,m4,resolve,m7,hev,hy,Deferred.ofValue]
 rw[r1,Oper.uponIn_defer,m5]
 show Q .normal _ w
 have hrep:aA A w σ st.o (b.toList.map (b8 st.env)) (b.toList.map a.eval):=o9 (fun x=>h.ev x) b.toList
 refine hk _ (b.toList.map a.eval) hrep ⟨h.cC,fun s=>?_,?_,⟨[],?_,List.Pairwise.nil,by simp⟩,Ext.refl _ _ _⟩
 ·subst ha1
  by_cases hs:d=s
  ·subst hs
   simp[bE,aj]
  ·have hq:Nat.beq d s=false:=by
    cases hq:Nat.beq d s with
    |false=>rfl
    |true=>exact absurd (Nat.eq_of_beq_eq_true hq) hs
   simp only[bE,hq,cond_false]
   have:=h.env s
   simpa[m1,Act.put,hs] using this
 ·subst ha1
  simp[m1,Act.put,h.size]
 ·subst ha1
  simp[m1,Act.put]
  exact Array.ext' (by simp)
theorem R9 {T:Tab} {n:Nat} (ih:px P T n) {nt:Nat} {H:List RH} {lo:Nat} {w0:World} {aK:aV} {o0:Store} (hlo:o0.length≤lo) {g:FuncId} {caps:List Operand} {d:Nat} {ib:IR} {s0 s2:St} {out:Out}
  (hex:exec T .plain n s0.o.length ib ⟨(d,.ud)::s0.env,s0.o⟩=some (out,s2)):∀(code:Code) (ia:IR) (st:St) (a:Act) (w:World) (σ:aV),oY P nt H code=some (ia,(g,caps,d),ib)→oR (exec T .plain n lo) ia st=some s0→bm A nt [] w0 aK o0 st a w σ→
  code.wpIn (FR none) 0 P (fun e a' w'=>e=out.nC∧eG P g=true∧∃(w1:World) (σ1 σ':aV) (ds:List Deferred) (vs:List Value),nv w0 w1 ds∧aU A w1 σ1 s0.o∧Ext w0 aK o0 w1 σ1 s0.o∧aA A w1 σ1 s0.o (caps.map (b8 s0.env)) vs∧
   bm A nt ({target:=.fn (.func g) vs.toArray,args:=#[]}::ds) w1 σ1 s0.o s2 a' w' σ') a w:=by
 intro code
 induction code with
 |seq c rest _ ihr=>
  intro ia st a w σ hc hsp h
  cases c with
  |region id ops draw=>
   unfold oY at hc
   split at hc
   ·rename_i x hd _
    split at hc
    ·rename_i hnt
     obtain⟨b,hb,he⟩:=Option.map_eq_some_iff.1 hc
     simp only[Prod.mk.injEq] at he
     obtain⟨rfl,rfl,rfl⟩:=he
     simp only[oR,Option.some.injEq] at hsp
     subst hsp
     refine wpIn_seq (R7 hd hnt.1 h fun a1 vs hv hs1=>?_)
     show rest.wpIn _ _ _ _ a1 w
     obtain⟨ms,hms,hM⟩:=h.defers
     refine wpIn_mono (ih none .plain py rfl ra _ b _ out s2 hex nt H rest hb _ A w σ st.o a1 w σ trivial (Nat.le_refl _) hs1) ?_
     rintro e a' w' ⟨rfl,σ',hs'⟩
     exact⟨rfl,hnt.2,w,σ,σ',a.defers,vs,by rw[hms,List.append_nil];exact hM,h.cC,h.ext,hv,hs'⟩
    ·cases hc
   ·split at hc
    ·rename_i r a' x b hr hcd
     simp only[Option.some.injEq,Prod.mk.injEq] at hc
     obtain⟨rfl,rfl,rfl⟩:=hc
     simp only[oR] at hsp
     split at hsp
     ·rename_i st' hst
      refine wpIn_seq (wpIn_mono (ih none .plain py rfl ra lo r st .norm st' hst nt H (.region id ops _) (by simp only[comp];exact hr) [] A w0 aK o0 a w σ trivial hlo h) ?_)
      rintro e a1 w1 ⟨rfl,σ1,hs1⟩
      exact ihr a' st' a1 w1 σ1 hcd hsp hs1
     ·cases hsp
    ·cases hc
  |_=>simp[oY] at hc
 |_=>
  intro ia st a w σ hc
  simp[oY] at hc
theorem Si {T:Tab} (hT:gd P T) {n:Nat} (ih:px P T n) {f:FuncId} {fn:Func} {code:Code} {H:List RH} {ia ib:IR} {g:FuncId} {caps:List Operand} {d:Nat} {rs:List iN}
  (hfn:P.funcs[f]?=some fn) (hcode:fn.body=some code) (hb:oY P fn.ntmps H code=some (ia,(g,caps,d),ib)) (hrs:lC (mq P) fn.results.toList=some rs) (hnt:¬fn.ntmps<fn.params.size+fn.nfree)
  {args:List AV} {out rc:Out} {s0 s2 s3:St} (hlen:args.length=fn.params.size+fn.nfree) (hout:out= .norm∨out= .ret) (h1:oR (exec T .plain n o.length) ia ⟨dW 0 args,o⟩=some s0) (h2:exec T .plain n s0.o.length ib ⟨(d,.ud)::s0.env,s0.o⟩=some (out,s2))
  {F:aT} (hF:T.fn g=some F) (hcl:(caps.map (b8 s0.env)).length=F.params) (hre:F.res=[]) (h3:exec T .plain n s2.o.length F.body ⟨dW 0 (caps.map (b8 s0.env)),s2.o⟩=some (rc,s3)) (Sj:rc= .norm∨rc= .ret)
  {r0 r:AV} (hr0:gX ⟨s2.env,s3.o⟩ rs=some r0) {own:Bool} (hfi:finish own o.length r0 s3.o=some (r,o'))
  {vs:List Value} (hS:aU A w σ o) (hr:aA A w σ o args vs):
  CallsIn (FR none) 0 P f vs.toArray w fun e w'=>∃u σ',e= .returned u∧aU A w' σ' o'∧aj A w' σ' o' r u∧Ext w σ o w' σ' o':=by
 have hvl:=aA.length _ _ hr
 obtain⟨fg,Hg,hfg,hcg,hgg⟩:=hT.fn g F hF
 obtain⟨cg,Sl,Sm,hpg,hrg⟩:∃cg,fg.body=some cg∧comp P fg.ntmps Hg cg=some F.body∧F.params≤fg.ntmps∧lC (mq P) fg.results.toList=some []:=by
  unfold aB at hcg
  split at hcg
  ·cases hcg
  ·rename_i cg Sr
   split at hcg
   ·rename_i b rs' hb' Ss
    split at hcg
    ·cases hcg
    ·rename_i aaA
     injection hcg with hcg
     subst hcg
     simp only at h3 hre ⊢
     subst hre
     unfold vu at hb'
     split at hb'
     ·rename_i b' Su
      injection hb' with hb'
      subst hb'
      exact⟨cg,Sr,Su,by omega,Ss⟩
     ·obtain⟨x,_,rfl⟩:=Option.map_eq_some_iff.1 hb'
      cases n<;>simp[exec] at h3
   ·cases hcg
 refine callsIn_of_wp_marks (F:=FR none) hfn hcode trivial (wpIn_mono (R9 ih (Nat.le_refl _) h2 code ia _ _ w σ hb h1 (BB hS hr (by omega))) ?_)
 rintro e a' w' ⟨rfl,hg,w1,σ1,σ',ds,cv,hM1,hS1,hE1,hcv,hs'⟩
 have key:LeavesInM (FR none) 0 P fn a'.tmps (fun e w'=>∃u σ',e= .returned u∧aU A w' σ' o'∧aj A w' σ' o' r u∧Ext w σ o w' σ' o') a'.defers .returning w':=by
  obtain⟨ms,hms,hM⟩:=hs'.defers
  rw[hms]
  refine yj ms w' hM hs'.cC fun w2 q1 q3 q4=>?_
  simp only[LeavesInM]
  refine⟨by simp,.inr ⟨fun h=>by simp[FR,Fence.wide] at h,.func g,cv.toArray,g,cv.toArray,rfl,by simp[invoke,x8 hg],fun _ _=>trivial,?_⟩⟩
  have HT:aA A w2 σ' s2.o (caps.map (b8 s0.env)) cv:=by
   have e1:Ext w1 σ1 s0.o w' σ' s2.o:=hs'.ext
   have e2:=aA.ext e1 _ _ hcv
   exact aA.gv _ _ (aA.length _ _ e2) fun i c hc=>by
    obtain⟨v,hv,fi⟩:=aA.get _ _ e2 i c hc
    exact⟨v,hv,q4 _ _ fi⟩
  have aaB:=aA.length _ _ HT
  refine CallsDIn.mono (RG (A:=A) hfg Sl (R:=fun e w3=>∃u σ3,e= .returned u∧aU A w3 σ3 s3.o∧Ext w2 σ' s2.o w3 σ3 s3.o) (wpIn_mono (ih none .plain py rfl ra _ F.body _ rc s3 h3 fg.ntmps Hg cg Sm [] A w2 σ' s2.o _ w2 σ' trivial (Nat.le_refl _) (BB q1 HT (by omega))) ?_)) ?_
  ·rintro e a3 w3 ⟨rfl,σ3,hs3⟩
   obtain⟨ms3,HU,Sv⟩:=hs3.defers
   rw[List.append_nil] at HU
   refine⟨by rcases Sj with rfl|rfl<;>simp[Out.nC],w2,σ3,s3.o,by rw[HU];exact Sv,hs3.cC,fun w4 k1 k2 k3=>?_⟩
   have hs4:bm A fg.ntmps [] w2 σ' s2.o s3 {a3 with defers:=[]} w4 σ3:=⟨k1,fun s=>k3 _ _ (hs3.env s),hs3.size,⟨[],rfl,List.Pairwise.nil,by simp⟩,k2 hs3.ext⟩
   obtain⟨u,hu,_⟩:=BA hs4 hrg (r:=.aD []) rfl
   exact⟨u,hu,u,σ3,rfl,k1,k2 hs3.ext⟩
  ·rintro e u' w3 ⟨rfl,u,σ3,rfl,p1,p2⟩
   show LeavesInM (FR none) 0 P fn a'.tmps _ ds (settle .returning) w3
   rw[show settle FrameMode.returning= .returning from rfl,←List.append_nil ds]
   have e13:Ext w1 σ1 s0.o w3 σ3 s3.o:=(q3 hs'.ext).trans p2
   refine yj ds w3 (hM1.ext hS1 e13) p1 fun w4 t1 t3 t4=>?_
   simp only[LeavesInM,LeavesIn]
   have hs4:bm A fn.ntmps [] w σ o ⟨s2.env,s3.o⟩ {a' with defers:=[]} w4 σ3:=⟨t1,fun s=>t4 _ _ ((q4 _ _ (hs'.env s)).ext p2),hs'.size,⟨[],rfl,List.Pairwise.nil,by simp⟩,t3 (hE1.trans e13)⟩
   obtain⟨u,hu,eW⟩:=BA hs4 hrs hr0
   have hfin:=HJ hs4.cC hs4.ext eW hfi
   exact⟨u,hu,u,hfin.choose,rfl,hfin.choose_spec⟩
 rcases hout with rfl|rfl
 ·exact key
 ·exact key
theorem HV {T:Tab} (hT:gd P T) {n:Nat} (ih:px P T n):jp P (kS T (exec T .plain n)):=by
 intro f args o own r o' hc
 unfold kS at hc
 split at hc
 ·rename_i x hK
  injection hc with hc
  subst hc
  exact hT.K _ _ _ _ _ _ hK
 ·split at hc
  ·cases hc
  ·rename_i F hF
   obtain⟨fn,H,hfn,hcomp,hg⟩:=hT.fn f F hF
   split at hc
   ·rename_i hlen
    unfold aB at hcomp
    split at hcomp
    ·cases hcomp
    ·rename_i code hcode
     split at hcomp
     ·rename_i b rs hb0 hrs
      split at hcomp
      ·cases hcomp
      ·rename_i hnt
       injection hcomp with hcomp
       subst hcomp
       simp only at hc hlen
       have HW:∀{r0:AV} {st:St},finish own o.length r0 st.o=some (r,o')→own=false→o'=[]:=fun hfi ho=>by
        subst ho
        unfold finish at hfi
        simp only[Bool.false_eq_true,if_false] at hfi
        split at hfi
        ·split at hfi
         ·simp only[Option.some.injEq,Prod.mk.injEq] at hfi;exact hfi.2.symm
         ·cases hfi
        ·cases hfi
       unfold vu at hb0
       split at hb0
       ·rename_i b' hb
        injection hb0 with hb0
        subst hb0
        have hnd:∀(x:Option (Out×St)),oU T (exec T .plain n) o.length b' ⟨dW 0 args,o⟩=x→exec T .plain n o.length b' ⟨dW 0 args,o⟩=x:=fun x hx=>by
         unfold oU at hx
         split at hx
         ·exact absurd hb (RZ _)
         ·exact hx
        have fin:∀(out:Out) (st:St),(out= .norm∨out= .ret)→oU T (exec T .plain n) o.length b' ⟨dW 0 args,o⟩=some (out,st)→∀r0,gX st rs=some r0→finish own o.length r0 st.o=some (r,o')→
          eG P f=true∧iQ P f args o r o'∧(own=false→o'=[]):=by
         intro out st hout hex r0 hr0 hfi
         exact⟨hg,fun A w σ vs hS hr=>(callsIn_wide (n:=0)).1 (HQ ih (md:=.plain) (B:=py) rfl ra hfn hcode hb hrs hnt hlen hout (hnd _ hex) hr0 hfi trivial hS hr),HW hfi⟩
        split at hc
        ·rename_i st hex
         split at hc
         ·rename_i r0 hr0;exact fin .norm st (.inl rfl) hex r0 hr0 hc
         ·cases hc
        ·rename_i st hex
         split at hc
         ·rename_i r0 hr0;exact fin .ret st (.inr rfl) hex r0 hr0 hc
         ·cases hc
        ·cases hc
       ·obtain⟨⟨ia,⟨g,caps,d⟩,ib⟩,hb,rfl⟩:=Option.map_eq_some_iff.1 hb0
        simp only[oU] at hc
        cases h1:oR (exec T .plain n o.length) ia ⟨dW 0 args,o⟩ with
        |none=>simp only[h1] at hc;cases hc
        |some s0=>
        simp only[h1] at hc
        cases h2:exec T .plain n s0.o.length ib ⟨(d,.ud)::s0.env,s0.o⟩ with
        |none=>simp only[h2] at hc;cases hc
        |some x2=>
        obtain⟨out,s2⟩:=x2
        simp only[h2] at hc
        cases he:qy out with
        |false=>simp only[he,Bool.false_eq_true,if_false] at hc;cases hc
        |true=>
        simp only[he,if_true] at hc
        unfold F3 at hc
        cases hF:T.fn g with
        |none=>simp only[hF] at hc;cases hc
        |some F2=>
        simp only[hF] at hc
        by_cases hq:(caps.map (b8 s0.env)).length=F2.params∧F2.res.isEmpty=true
        ·rw[if_pos hq] at hc
         cases h3:exec T .plain n s2.o.length F2.body ⟨dW 0 (caps.map (b8 s0.env)),s2.o⟩ with
         |none=>simp only[h3] at hc;cases hc
         |some x3=>
         obtain⟨rc,s3⟩:=x3
         simp only[h3] at hc
         cases iR:qy rc with
         |false=>simp only[iR,Bool.false_eq_true,if_false] at hc;cases hc
         |true=>
         simp only[iR,if_true] at hc
         split at hc
         ·rename_i r0 hr0
          exact⟨hg,fun A w σ vs hS hr=>(callsIn_wide (n:=0)).1 (Si hT ih hfn hcode hb hrs hnt hlen (HS he) h1 h2 hF hq.1 (List.isEmpty_iff.1 hq.2) h3 (HS iR) hr0 hc hS hr),HW hc⟩
         ·cases hc
        ·rw[if_neg hq] at hc
         cases hc
     ·cases hcomp
   ·cases hc
end
open Go.RowKit
section
variable {P:Program} {A:bG} {D:List Deferred} {w w':World} {σ σ':aV} {o o':Store}
def te (L:Nat) (R:Loop) (env:dI):bG→World→aV→Store→Prop:=fun A w σ o=>
 A.l=L∧w.heap[L]?=some (.loop R)∧¬Own σ L∧∀s,aj A w σ o (bE env s) (R.tmps.getD s undef)
theorem te.closed {L:Nat} {R:Loop} {env:dI}:Closed (te L R env):=by
 rintro A w σ o w' σ' o' ⟨h1,h2,h3,h4⟩ hE
 obtain⟨h5,h6⟩:=hE.blk L (Array.getElem?_eq_some_iff.1 h2).1 h3
 exact⟨h1,by rw[h5];exact h2,h6,fun s=>(h4 s).ext hE⟩
theorem SA (p:Nat) (v:AV) (env:dI) (s:Nat):bE ((p,v)::env) s=if p=s then v else bE env s:=by
 simp only[bE]
 by_cases h:p=s
 ·subst h;simp
 ·have:Nat.beq p s=false:=by
   cases hq:Nat.beq p s with
   |false=>rfl
   |true=>exact absurd (Nat.eq_of_beq_eq_true hq) h
  simp[this,h]
theorem HY:∀(ps:List Nat) (vs:List AV) (us:List Value) (env:dI) (tmps:Array Value),vs.length=ps.length→aA A w σ o vs us→(∀p∈ps,p<tmps.size)→(∀s,aj A w σ o (bE env s) (tmps.getD s undef))→
  (∀s,aj A w σ o (bE (ko ps vs env) s) (((ps.zip us).foldl (fun t (p:Nat×Value)=>t.setIfInBounds p.1 p.2) tmps).getD s undef))∧((ps.zip us).foldl (fun t (p:Nat×Value)=>t.setIfInBounds p.1 p.2) tmps).size=tmps.size
 |[],[],us,env,tmps,_,_,_,h=>by simpa[ko] using h
 |[],_::_,_,_,_,hl,_,_,_=>by simp at hl
 |_::_,[],_,_,_,hl,_,_,_=>by simp at hl
 |p::ps,v::vs,us,env,tmps,hl,hr,hp,h=>by
  simp only[aA] at hr
  obtain⟨u,r,rfl,hv,hr⟩:=hr
  have hpl:=hp p (by simp)
  have:=HY ps vs r ((p,v)::env) (tmps.setIfInBounds p u) (by simpa using hl) hr (fun q hq=>by simpa using hp q (by simp[hq])) (fun s=>by
   rw[SA]
   by_cases hs:p=s
   ·subst hs
    rw[if_pos rfl]
    simpa[Array.getD_eq_getD_getElem?,hpl] using hv
   ·rw[if_neg hs]
    have e:(tmps.setIfInBounds p u).getD s undef=tmps.getD s undef:=by
     simp[Array.getD_eq_getD_getElem?,Array.getElem?_setIfInBounds_ne hs]
    rw[e]
    exact h s)
  simp only[List.zip_cons_cons,List.foldl_cons,ko]
  simpa using this
theorem SB {T:Tab} {n:Nat} (ih:px P T n) {nt:Nat} {H:List RH} {gB:Array Tmp} {dG body:Code} {az bd:IR} (ha:comp P nt H dG=some az) (hb:comp P nt H body=some bd) (hps:∀p∈gB.toList,p<nt)
  {env:dI} {L:Nat} {R:Loop} (hR:R.state= .ready∧R.pending=none∧R.params=gB∧R.assign=dG∧R.body=body∧R.tmps.size=nt) {vs:List AV} {o:Store} {r:AV} {o':Store}
  (h:(if vs.length=gB.toList.length then
        match exec T .round n o.length az ⟨ko gB.toList vs env,o⟩ with
        |some (.norm,st1)=>match exec T .round n st1.o.length bd st1 with
         |some (.norm,st2)=>some (AV.sc (.bool true),(trim o.length ⟨[],st2.o⟩).o)
         |_=>none
        |_=>none
       else none)=some (r,o')):yk P (te L R env) vs o r o':=by
 obtain⟨BC,HZ,hpar,SC,SD,hsz⟩:=hR
 split at h
 ·rename_i hlen
  split at h
  ·rename_i st1 h1
   split at h
   ·rename_i st2 h2
    simp only[Option.some.injEq,Prod.mk.injEq] at h
    obtain⟨rfl,rfl⟩:=h
    intro A w σ us hS hB hr
    obtain⟨SE,hL,ym,SG⟩:=hB
    have SH:=aA.length _ _ hr
    have H2:=(Array.getElem?_eq_some_iff.1 hL).1
    obtain⟨be,bs⟩:=HY gB.toList vs us env R.tmps (by simpa using hlen) hr (fun p hp=>by rw[hsz];exact hps p hp) SG
    rw[SE]
    have hy:=run_yield (P:=P) (args:=us.toArray) hL (by rw[hpar];simp at hlen ⊢;omega)
    refine⟨_,_,_,_,hy,roundIn_of_wpIn trivial ?_⟩
    have et:(R.params.zip us.toArray).foldl (fun tmps (t,a)=>tmps.setIfInBounds t a) R.tmps=(gB.toList.zip us).foldl (fun t (p:Nat×Value)=>t.setIfInBounds p.1 p.2) R.tmps:=by
     rw[hpar,←Array.foldl_toList];simp
    rw[et,SC,SD]
    have s0:bm A nt [] w σ o ⟨ko gB.toList vs env,o⟩ {tmps:=(gB.toList.zip us).foldl (fun t (p:Nat×Value)=>t.setIfInBounds p.1 p.2) R.tmps,defers:=[]} w σ:=
     ⟨hS,be,by rw[bs];exact hsz,⟨[],rfl,List.Pairwise.nil,by simp⟩,Ext.refl _ _ _⟩
    refine wpIn_mono (ih (some L) .round py trivial ra _ az _ .norm st1 h1 nt H dG ha _ A w σ o _ w σ trivial (Nat.le_refl _) s0) ?_
    rintro e a1 w1 ⟨rfl,σ1,s1⟩
    obtain⟨k1,k2⟩:=s1.ext.blk L H2 ym
    have hL1:w1.heap[L]?=some (.loop R):=by rw[k1];exact hL
    refine⟨_,run_beginRound hL1 BC,?_⟩
    have SI:=(Array.getElem?_eq_some_iff.1 hL1).1
    have hlt1:w.heap.size≤w1.heap.size:=s1.ext.size
    obtain⟨W1,hW1⟩:∃W1,w1.putObj L (.loop {R with state:=.busy})=W1:=⟨_,rfl⟩
    have SJ:W1.heap[L]?=some (.loop {R with state:=.busy}):=by rw[←hW1];exact World.putObj_heap_same SI
    have hne1:∀b,b≠L→W1.heap[b]?=w1.heap[b]?:=fun b hb=>by rw[←hW1];exact nB hb
    have hsz1:W1.heap.size=w1.heap.size:=by rw[←hW1];exact putObj_size
    rw[hW1]
    obtain⟨WB,nD⟩:∃WB,({W1 with heap:=W1.heap.extract 0 w.heap.size}:World)=WB:=⟨_,rfl⟩
    have aaD:WB.heap.size=w.heap.size:=by rw[←nD];simp;omega
    have BD:∀b,b<w.heap.size→W1.heap[b]?=WB.heap[b]?:=fun b hb=>by
     rw[←nD]
     simp only[Array.getElem?_extract]
     rw[if_pos (by omega)]
     simp
    have SK:Ext WB σ1 st1.o W1 σ1 st1.o:=⟨by omega,fun b hb hn=>⟨BD b (by omega),hn⟩,Nat.le_refl _,fun _ _ h=>⟨h,fun _ h=>⟨h,rfl⟩⟩,fun _ h=>⟨h,rfl⟩,by rw[←nD],by rw[←nD],by rw[←nD]⟩
    have s1':bm A nt [] WB σ1 st1.o st1 a1 W1 σ1:=by
     obtain⟨ms,hms,hM⟩:=s1.defers
     refine⟨by rw[←hW1];exact s1.cC.jL hL1 rfl k2,fun s=>by rw[←hW1];exact(s1.env s).jL hL1 rfl,s1.size,⟨ms,hms,hM.1,fun d hd=>?_⟩,SK⟩
     obtain⟨r,q1,q2,q3⟩:=hM.2 d hd
     exact⟨r,q1,by omega,by rw[hne1 r (by omega)];exact q3⟩
    refine wpIn_mono (ih (some L) .round py trivial ra _ bd _ .norm st2 h2 nt H body hb _ A WB σ1 st1.o _ W1 σ1 trivial (Nat.le_refl _) s1') ?_
    rintro e a2 w2 ⟨rfl,σ2,s2⟩
    obtain⟨m1,m2⟩:=s2.ext.blk L (by omega) k2
    have hL2:w2.heap[L]?=some (.loop {R with state:=.busy}):=by rw[m1,←BD L H2];exact SJ
    have hrun:=run_endRound (P:=P) none hL2
    refine⟨_,_,hrun,?_⟩
    have hrec:({({R with state:=.busy}:Loop) with state:=if(none:Option Code).isNone then .ready else .done,pending:=none}:Loop)=R:=by
     cases R;simp at BC HZ ⊢;exact⟨BC.symm,HZ.symm⟩
    rw[hrec]
    have SL:=(Array.getElem?_eq_some_iff.1 hL2).1
    have tf:aU A (w2.putObj L (.loop R)) σ2 st2.o:=s2.cC.jL hL2 rfl m2
    have pz:Ext w σ o (w2.putObj L (.loop R)) σ2 st2.o:=by
     have e1:=s1.ext
     have e2:=s2.ext
     refine⟨by rw[putObj_size];have:=e2.size;omega,fun b hb hn=>?_,Nat.le_trans e1.len e2.len,fun id tot ha=>?_,fun id ha=>?_,?_,?_,?_⟩
     ·obtain⟨p1,p2⟩:=e1.blk b hb hn
      obtain⟨p3,p4⟩:=e2.blk b (by omega) p2
      refine⟨?_,p4⟩
      by_cases hbL:b=L
      ·subst hbL
       rw[World.putObj_heap_same SL];exact hL.symm
      ·rw[nB hbL,p3,←BD b hb,hne1 b hbL,p1]
     ·obtain⟨h1,h2⟩:=e1.cur id tot ha
      obtain⟨k1,k2⟩:=e2.cur id tot h1
      refine⟨k1,fun sz hc=>?_⟩
      obtain⟨k3,k4⟩:=k2 sz hc
      obtain⟨h3,h4⟩:=h2 sz k3
      exact⟨h3,k4.trans h4⟩
     ·obtain⟨h1,h2⟩:=e1.isMap id ha
      obtain⟨k1,k2⟩:=e2.isMap id h1
      exact⟨k1,k2.trans h2⟩
     ·show w2.os=w.os
      rw[e2.os,←nD];show W1.os=w.os;rw[←hW1];exact e1.os
     ·show w2.tape=w.tape
      rw[e2.tape,←nD];show W1.tape=w.tape;rw[←hW1];exact e1.tape
     ·show w2.output=w.output
      rw[e2.output,←nD];show W1.output=w.output;rw[←hW1];exact e1.output
    have hfin:∃σ3,aU A (w2.putObj L (.loop R)) σ3 (trim o.length ⟨[],st2.o⟩).o∧Ext w σ o (w2.putObj L (.loop R)) σ3 (trim o.length ⟨[],st2.o⟩).o:=by
     unfold trim
     split
     ·exact⟨σ2,tf,pz⟩
     ·split
      ·rename_i hc
       simp only[Bool.and_eq_true,List.all_eq_true] at hc
       exact⟨σ2.take o.length,tf.take hc.2,pz.take (Nat.le_refl _)⟩
      ·exact⟨σ2,tf,pz⟩
    obtain⟨σ3,q1,q2⟩:=hfin
    exact⟨_,σ3,rfl,q1,by simp[aj,Value.oneCell'],q2⟩
   ·cases h
  ·cases h
 ·cases h
theorem H3:∀(vs:List Value),dX (vs.map AV.sc)=true
 |[]=>rfl
 |_::vs=>by simp[dX,AV.bL,H3 vs]
theorem SN (v:Value):(AV.l9 v).bL=true:=by
 cases v<;>simp only[AV.l9,AV.bL]
 split
 ·simp only[AV.bL,H3]
 ·simp only[AV.bL]
theorem SO {T:Tab} (hT:gd P T) {n:Nat} (ih:px P T n) {x:Operand} {az bd:IR} {st:St} {f:FuncId} {first captured:List AV} {F:aT} (hx:b8 st.env x= .fn (.func f) first captured) (hF:T.fn f=some F)
  (hlen:first.length+1+captured.length=F.params) (hye:st.env.all (fun p=>p.2.bL)=true) (tc:st.o.all aP.bL=true) {nt:Nat} {H:List RH} {gB:Array Tmp} {dG body:Code} (ha:comp P nt H dG=some az) (hb:comp P nt H body=some bd) (hps:∀p∈gB.toList,p<nt)
  {out:Out} {st2:St} (hex:exec T (.iter fun vs o=>if vs.length=gB.toList.length then
        match exec T .round n o.length az ⟨ko gB.toList vs st.env,o⟩ with
        |some (.norm,st1)=>match exec T .round n st1.o.length bd st1 with
         |some (.norm,st2)=>some (AV.sc (.bool true),(trim o.length ⟨[],st2.o⟩).o)
         |_=>none
        |_=>none
       else none) n st.o.length F.body ⟨dW 0 (first++[.fn (.yield 0) [] []]++captured),st.o⟩=some (out,st2)) (hout:out= .norm∨out= .ret) {r r':AV} (hr:gX st2 F.res=some r) (hfi:fe st.o.length r st2.o=some (r',o')) (hy':o'.all aP.bL=true)
  {w0:World} {aK:aV} {o0:Store} {a:Act} (h:bm A nt D w0 aK o0 st a w σ):
  (Code.rangeFunc x gB dG body).wpIn (FR none) 0 P (fun e a' w'=>e= .normal∧∃σ',bm A nt D w0 aK o0 ⟨st.env,o'⟩ a' w' σ') a w:=by
 obtain⟨fn,H',hfn,hcomp,hg⟩:=hT.fn f F hF
 refine wpIn_rangeFunc fun fid _=>?_
 have h1:=h.ev x
 rw[hx] at h1
 simp only[aj] at h1
 obtain⟨f',c',hv,hfr,hcr⟩:=h1
 have hv:a.eval x= .func (.func f) f' c':=hv
 have hA1:aU A ((w.alloc (.deferred (some [])))) σ st.o:=h.cC.alloc _
 obtain⟨R,hR⟩:∃R:Loop,R={state:=.ready,pending:=none,fn:=fid,tmps:=a.tmps,params:=gB,assign:=dG,body,defers:=w.heap.size}:=⟨_,rfl⟩
 obtain⟨W1,hW1⟩:∃W1,(w.alloc (.deferred (some []))).alloc (.loop R)=W1:=⟨_,rfl⟩
 have hL1:W1.heap[w.heap.size+1]?=some (.loop R):=by
  rw[←hW1];have:=World.alloc_heap_new (w.alloc (.deferred (some []))) (.loop R);rwa [World.size_alloc] at this
 have hK1:W1.heap[w.heap.size]?=some (.deferred (some [])):=by
  rw[←hW1];exact(Below.heap_alloc _ _ _ (by simp)).trans (World.alloc_heap_new w _)
 have hE1:Ext w σ st.o W1 σ st.o:=by rw[←hW1];exact(Ext.alloc w σ st.o h.cC _).trans (Ext.alloc _ σ st.o hA1 _)
 have hS1:aU A W1 σ st.o:=by rw[←hW1];exact hA1.alloc _
 have hall:∀s,(bE st.env s).bL=true:=fun s=>by
  rcases HM (env:=st.env) (s:=s) with h0|⟨p,hp,h0⟩
  ·rw[h0];simp[AV.bL]
  ·rw[←h0];exact List.all_eq_true.1 hye p hp
 let A':bG:=⟨A.p,w.heap.size+1⟩
 have SQ:aU A' W1 σ st.o:=hS1.to (fun _ _ h=>h) (fun _ _ _ _=>rfl) (Nat.le_refl _) rfl (.inr tc)
 have SR:∀s,aj A' W1 σ st.o (bE st.env s) (a.tmps.getD s undef):=fun s=>aj.to (A:=A) (A':=A') (fun _ _ h=>h) (fun _ h=>h) _ _ (.inr (hall s)) ((h.env s).ext hE1)
 have ym:¬Own σ (w.heap.size+1):=hS1.s6 hL1 (by simp) (by simp)
 have BE:(AV.fn (.func f) first captured).bL=true:=by
  rw[←hx]
  cases x with
  |tmp t=>exact hall t
  |const v=>exact SN v
  |global g=>simp[b8,AV.bL]
  |func g=>simp[b8,AV.bL,dX]
 simp only[AV.bL,Bool.and_eq_true] at BE
 have hargs:aA A' W1 σ st.o (first++[.fn (.yield 0) [] []]++captured) (f'.toList++[.func (.yield (w.heap.size+1)) #[] #[]]++c'.toList):=by
  refine aA.append (aA.append (aA.to (A:=A) (A':=A') (fun _ _ h=>h) (fun _ h=>h) _ _ (.inr BE.1) (aA.ext hE1 _ _ hfr)) ?_) (aA.to (A:=A) (A':=A') (fun _ _ h=>h) (fun _ h=>h) _ _ (.inr BE.2) (aA.ext hE1 _ _ hcr))
  simp only[aA]
  exact⟨_,[],rfl,by simp only[aj];exact⟨#[],#[],rfl,by simp[aA],by simp[aA]⟩,rfl⟩
 refine⟨w.heap.size+1,[{target:=.collected w.heap.size,args:=#[]}],W1,{target:=.fn (.func f) c',args:=f'++#[.func (.yield (w.heap.size+1)) #[] #[]]},W1,f,
  f'++#[.func (.yield (w.heap.size+1)) #[] #[]]++c',W1,?_,?_,fun _ _=>trivial,?_,fun h=>by simp[FR,Fence.wide] at h,?_⟩
 ·rw[←hW1,hR];exact run_enterLoop_outer _ _ _ _ _
 ·simp only[resolve,hv]
  simp[go_sem,Act.eval,Deferred.ofValue]
 ·simp[invoke,x8 hg]
 ·unfold aB at hcomp
  split at hcomp
  ·cases hcomp
  ·rename_i code hcode
   split at hcomp
   ·rename_i b rs hb0 hrs
    split at hcomp
    ·cases hcomp
    ·rename_i hnt
     injection hcomp with hcomp
     subst hcomp
     simp only at hlen hr hex
     replace hb0:comp P fn.ntmps H' code=some b:=by
      unfold vu at hb0
      split at hb0
      ·rename_i b' hb'
       injection hb0 with hb0
       rw[←hb0];exact hb'
      ·obtain⟨x,_,rfl⟩:=Option.map_eq_some_iff.1 hb0
       cases n<;>simp[exec] at hex
     have hrun:=HQ (A:=A') (w:=W1) (σ:=σ) ih (md:=.iter fun vs o=>if vs.length=gB.toList.length then
        match exec T .round n o.length az ⟨ko gB.toList vs st.env,o⟩ with
        |some (.norm,st1)=>match exec T .round n st1.o.length bd st1 with
         |some (.norm,st2)=>some (AV.sc (.bool true),(trim o.length ⟨[],st2.o⟩).o)
         |_=>none
        |_=>none
       else none) (B:=te (w.heap.size+1) R st.env) ⟨rfl,fun vs o r o' SS=>SB ih ha hb hps (by rw[hR];exact⟨rfl,rfl,rfl,rfl,rfl,h.size⟩) SS⟩ te.closed hfn hcode hb0 hrs hnt (by simp;omega) hout hex hr (own:=true) (by simpa[finish] using hfi)
      (vs:=f'.toList++[.func (.yield (w.heap.size+1)) #[] #[]]++c'.toList) ⟨rfl,hL1,ym,by rw[hR];exact SR⟩ SQ hargs
     have SU:(f'.toList++[Value.func (.yield (w.heap.size+1)) #[] #[]]++c'.toList).toArray=f'++#[.func (.yield (w.heap.size+1)) #[] #[]]++c':=Array.ext' (by simp)
     rw[SU] at hrun
     refine hrun.mono ?_
     rintro e w2 ⟨u,σ',rfl,q1,q2,q3⟩
     obtain⟨k1,k2⟩:=q3.blk _ (Array.getElem?_eq_some_iff.1 hL1).1 ym
     have hL2:w2.heap[w.heap.size+1]?=some (.loop R):=by rw[k1];exact hL1
     have hK2:w2.heap[w.heap.size]?=some (.deferred (some [])):=by
      rw[(q3.blk _ (Array.getElem?_eq_some_iff.1 hK1).1 (hS1.s6 hK1 (by simp) (by simp))).1];exact hK1
     have hpe:R.pending=none:=by rw[hR]
     have hen:=run_endLoop (P:=P) hL2 (by rw[hR];simp)
     generalize hrec:({R with state:=.exhausted}:Loop)=R2 at hen
     rw[hpe] at hen
     refine⟨none,_,hen,?_⟩
     refine⟨rfl,σ',?_⟩
     have hE2:Ext w σ st.o w2 σ' o':=hE1.trans q3
     have pz:Ext w σ st.o (w2.putObj (w.heap.size+1) (.loop R2)) σ' o':=hE2.jL (by omega)
     have tf:aU A (w2.putObj (w.heap.size+1) (.loop R2)) σ' o':=(q1.to (A':=A) (fun _ _ h=>h) (fun _ _ _ _=>rfl) (Nat.le_refl _) rfl (.inr hy')).jL hL2 rfl k2
     have hw0:=h.ext.size
     obtain⟨ms,hms,hM⟩:=h.defers
     refine⟨tf,fun s=>(h.env s).ext pz,h.size,⟨{target:=.collected w.heap.size,args:=#[]}::ms,by simp only[List.cons_append,List.nil_append,hms],?_,fun d hd=>?_⟩,h.ext.trans pz⟩
     ·refine List.pairwise_cons.2 ⟨fun d hd=>?_,hM.1⟩
      obtain⟨r,p1,p2,p3⟩:=hM.2 d hd
      have:=(Array.getElem?_eq_some_iff.1 p3).1
      rw[p1]
      intro e
      simp only[Target.collected.injEq] at e
      omega
     ·simp only[List.mem_cons] at hd
      rcases hd with rfl|hd
      ·exact⟨_,rfl,hw0,by rw[nB (by omega)];exact hK2⟩
      ·obtain⟨r,p1,p2,p3⟩:=(hM.ext h.cC pz).2 d hd
       exact⟨r,p1,p2,p3⟩
   ·cases hcomp
theorem SX {bC:Option Nat} {Q:Exit→Act→World→Prop} {a:Act} {w:World} {c:Code} (h:c.wpIn (FR bC) 0 P (Exit.noGoto Q) a w):(Code.scope c).wpIn (FR bC) 0 P Q a w:=by
 intro b k cs hro hb hr
 obtain⟨e,a₁,w₁,hq,harr⟩:=h b (.inScope c::k) cs hro hb hr
 have s1:step P (lone (b.atR a (.code (.scope c)::k)) cs w)= .next (lone (b.atR a (.code c:: .inScope c::k)) cs w):=step_lone_go (by simp[stepG,stepG.exec,Frame.atR])
 have s2:step P (lone (b.atR a₁ (.inScope c::k)) cs w₁)= .next (lone (b.atR a₁ k) cs w₁):=step_lone_go (by simp[stepG,stepG.exec,Frame.atR])
 have s1':=StepsIn.one (I:=Machine.fenced P (FR bC)) (fenced_calm (fr:=b.atR a (.code (.scope c)::k)) hb hr rfl) s1
 cases e with
 |normal=>exact⟨.normal,a₁,w₁,hq,(StepsIn.trans s1' (StepsIn.trans harr (.one (fenced_calm (fr:=b.atR a₁ (.inScope c::k)) hb hr rfl) s2)))⟩
 |exit id=>exact⟨.exit id,a₁,w₁,hq,.of_steps s1' ⟨fun k' hk=>harr.1 k' (by simpa[exitTo] using hk),fun hr hk=>by obtain⟨k1,h1,h2⟩:=harr.2 hr (by simpa[exitTo] using hk);exact⟨k1,by simpa[exitTo] using h1,h2⟩⟩⟩
 |goto l=>exact hq.elim
 |ret=>exact⟨_,a₁,w₁,hq,.of_steps s1' harr⟩
 |panic ch=>exact⟨_,a₁,w₁,hq,.of_steps s1' harr⟩
 |outgrown=>exact⟨_,a₁,w₁,hq,.of_steps s1' harr⟩
def tg (bC:Option Nat) (P:Program) (rest:Code) (l:Nat) (Q:Exit→Act→World→Prop):Nat→Code→Act→World→Prop
 |0,_,_,_=>False
 |n+1,x,a,w=>x.wpIn (FR bC) 0 P (fun e a' w'=>match e with
   | .goto l'=>l'=l∧tg bC P rest l Q n rest a' w'
   |e=>Q e a' w') a w
theorem SY {bC:Option Nat} {Q:Exit→Act→World→Prop} {a:Act} {w:World} {c rest:Code} {l:Nat} (hf:findLabel c l=some rest) {n:Nat} (h:tg bC P rest l Q n c a w):(Code.scope c).wpIn (FR bC) 0 P Q a w:=by
 intro b k cs hro hb hr
 have hg:gotoIn l (.inScope c::k)=some (.code rest:: .inScope c::k):=by simp[gotoIn,hf]
 have key:∀n x a w,tg bC P rest l Q n x a w→∃e a' w',Q e a' w'∧ArrivesIn (Machine.fenced P (FR bC)) P (lone (b.atR a (.code x:: .inScope c::k)) cs w) b k cs e a' w':=by
  intro n
  induction n with
  |zero=>intro x a w h;exact h.elim
  |succ n ih=>
   intro x a w h
   obtain⟨e,a₁,w₁,hq,harr⟩:=h b (.inScope c::k) cs hro hb hr
   have s2:step P (lone (b.atR a₁ (.inScope c::k)) cs w₁)= .next (lone (b.atR a₁ k) cs w₁):=step_lone_go (by simp[stepG,stepG.exec,Frame.atR])
   cases e with
   |normal=>exact⟨.normal,a₁,w₁,hq,StepsIn.trans harr (.one (fenced_calm (fr:=b.atR a₁ (.inScope c::k)) hb hr rfl) s2)⟩
   |exit id=>exact⟨.exit id,a₁,w₁,hq,fun k' hk=>harr.1 k' (by simpa[exitTo] using hk),fun hr hk=>by obtain⟨k1,h1,h2⟩:=harr.2 hr (by simpa[exitTo] using hk);exact⟨k1,by simpa[exitTo] using h1,h2⟩⟩
   |goto l'=>
    obtain⟨rfl,hn⟩:=hq
    obtain⟨e₂,a₂,w₂,hq₂,harr₂⟩:=ih rest a₁ w₁ hn
    exact⟨e₂,a₂,w₂,hq₂,.of_steps (harr.1 _ hg) harr₂⟩
   |ret=>exact⟨_,a₁,w₁,hq,harr⟩
   |panic ch=>exact⟨_,a₁,w₁,hq,harr⟩
   |outgrown=>exact⟨_,a₁,w₁,hq,harr⟩
 have s1:step P (lone (b.atR a (.code (.scope c)::k)) cs w)= .next (lone (b.atR a (.code c:: .inScope c::k)) cs w):=step_lone_go (by simp[stepG,stepG.exec,Frame.atR])
 have s1':=StepsIn.one (I:=Machine.fenced P (FR bC)) (fenced_calm (fr:=b.atR a (.code (.scope c)::k)) hb hr rfl) s1
 obtain⟨e,a',w',hq,harr⟩:=key n c a w h
 exact⟨e,a',w',hq,.of_steps s1' harr⟩
theorem SZ {b:Code} {l nt:Nat} {H:List RH} {x:IR} (h:vr b=some l) (hb:comp P nt H b=some x):∃rest,findLabel b l=some rest∧comp P nt H rest=some x:=by
 unfold vr at h
 split at h
 ·rename_i l' c
  split at h
  ·injection h with h
   subst h
   refine⟨.seq .skip c,by simp[findLabel],?_⟩
   rw[←hb]
   simp only[comp]
  ·cases h
 ·cases h
theorem H4 {T:Tab} (hT:gd P T):∀n,px P T n∧(∀(bC:Option Nat) (md:Md) (B:bG→World→aV→Store→Prop),pw P bC B md→Closed B→∀(lo:Nat) (b:IR) (st:St) (out:Out) (st':St),exec T md n lo (.loop b) st=some (out,st')→∀(nt:Nat) (H:List RH) (code:Code),comp P nt H code=some b→∀(D:List Deferred) (A:bG) (w0:World) (aK:aV) (o0:Store) (a:Act) (w:World) (σ:aV),B A w0 aK o0→
   o0.length≤lo→bm A nt D w0 aK o0 st a w σ→Code.roundsIn (FR bC) 0 P code (fun e a' w'=>e=out.nC∧∃σ',bm A nt D w0 aK o0 st' a' w' σ') n a w)∧∀(bC:Option Nat) (md:Md) (B:bG→World→aV→Store→Prop),pw P bC B md→Closed B→∀(lo l:Nat) (b:IR) (st:St) (out:Out) (st':St),exec T md n lo (.turns (some l) b) st=some (out,st')→∀(nt:Nat) (H:List RH) (code rest:Code),comp P nt H code=some b→comp P nt H rest=some b→∀(D:List Deferred) (A:bG) (w0:World) (aK:aV) (o0:Store) (a:Act) (w:World) (σ:aV),B A w0 aK o0→
   o0.length≤lo→bm A nt D w0 aK o0 st a w σ→tg bC P rest l (fun e a' w'=>e=out.nC∧∃σ',bm A nt D w0 aK o0 st' a' w' σ') n code a w
 |0=>⟨fun bC md B _ _ lo c st out st' h=>by cases md<;>simp[exec] at h,fun bC md B _ _ lo b st out st' h=>by cases md<;>simp[exec] at h,fun bC md B _ _ lo l b st out st' h=>by cases md<;>simp[exec] at h⟩
 |n+1=>by
  obtain⟨ih,ihl,S0⟩:=H4 hT n
  have hloop:∀(bC:Option Nat) (md:Md) (B:bG→World→aV→Store→Prop),pw P bC B md→Closed B→∀(lo:Nat) (b:IR) (st:St) (out:Out) (st':St),exec T md (n+1) lo (.loop b) st=some (out,st')→∀(nt:Nat) (H:List RH) (code:Code),comp P nt H code=some b→∀(D:List Deferred) (A:bG) (w0:World) (aK:aV) (o0:Store) (a:Act) (w:World) (σ:aV),B A w0 aK o0→
    o0.length≤lo→bm A nt D w0 aK o0 st a w σ→Code.roundsIn (FR bC) 0 P code (fun e a' w'=>e=out.nC∧∃σ',bm A nt D w0 aK o0 st' a' w' σ') (n+1) a w:=by
   intro bC md B hm hB lo b st out st' h nt H code hc D A w0 aK o0 a w σ hB0 hlo hs
   simp only[exec] at h
   split at h
   ·rename_i st1 h1
    have hb:=ih bC md B hm hB lo b st .norm st1 h1 nt H code hc _ A w0 aK o0 a w σ hB0 hlo hs
    rw[roundsIn_succ]
    refine wpIn_mono hb ?_
    rintro e a' w' ⟨rfl,σ',hs'⟩
    obtain⟨σ2,hs2⟩:=hs'.trim (k:=st.o.length) hs.len
    exact ihl bC md B hm hB lo b _ out st' h nt H code hc _ A w0 aK o0 a' w' σ2 hB0 hlo hs2
   ·rename_i hne
    have hb:=ih bC md B hm hB lo b st out st' h nt H code hc _ A w0 aK o0 a w σ hB0 hlo hs
    rw[roundsIn_succ]
    refine wpIn_mono hb ?_
    rintro e a' w' ⟨rfl,hs'⟩
    cases out with
    |norm=>exact absurd h (hne st')
    |exit id=>exact⟨rfl,hs'⟩
    |ret=>exact⟨rfl,hs'⟩
    |goto l=>exact⟨rfl,hs'⟩
  have hturn:∀(bC:Option Nat) (md:Md) (B:bG→World→aV→Store→Prop),pw P bC B md→Closed B→∀(lo l:Nat) (b:IR) (st:St) (out:Out) (st':St),exec T md (n+1) lo (.turns (some l) b) st=some (out,st')→∀(nt:Nat) (H:List RH) (code rest:Code),comp P nt H code=some b→comp P nt H rest=some b→∀(D:List Deferred) (A:bG) (w0:World) (aK:aV) (o0:Store) (a:Act) (w:World) (σ:aV),B A w0 aK o0→
    o0.length≤lo→bm A nt D w0 aK o0 st a w σ→tg bC P rest l (fun e a' w'=>e=out.nC∧∃σ',bm A nt D w0 aK o0 st' a' w' σ') (n+1) code a w:=by
   intro bC md B hm hB lo l b st out st' h nt H code rest hc hr D A w0 aK o0 a w σ hB0 hlo hs
   simp only[exec] at h
   split at h
   ·rename_i l' st1 h1
    split at h
    ·rename_i hl
     injection hl with hl
     subst hl
     refine wpIn_mono (ih bC md B hm hB lo b st (.goto l) st1 h1 nt H code hc _ A w0 aK o0 a w σ hB0 hlo hs) ?_
     rintro e a' w' ⟨rfl,σ',hs'⟩
     obtain⟨σ2,hs2⟩:=hs'.trim (k:=st.o.length) hs.len
     exact⟨rfl,S0 bC md B hm hB lo l b _ out st' h nt H rest rest hr hr _ A w0 aK o0 a' w' σ2 hB0 hlo hs2⟩
    ·cases h
   ·rename_i hne
    refine wpIn_mono (ih bC md B hm hB lo b st out st' h nt H code hc _ A w0 aK o0 a w σ hB0 hlo hs) ?_
    rintro e a' w' ⟨rfl,hs'⟩
    cases out with
    |norm=>exact⟨rfl,hs'⟩
    |exit id=>exact⟨rfl,hs'⟩
    |ret=>exact⟨rfl,hs'⟩
    |goto l=>exact absurd h (hne l st')
  refine⟨fun bC md B hm hB lo c st out st' h nt H code hc D A w0 aK o0 a w σ hB0 hlo hs=>?_,hloop,hturn⟩
  cases code with
  |skip=>
   simp only[comp,Option.some.injEq] at hc
   subst hc
   simp only[exec,Option.some.injEq,Prod.mk.injEq] at h
   obtain⟨rfl,rfl⟩:=h
   exact wpIn_skip ⟨rfl,σ,hs⟩
  |scope b=>
   simp only[comp] at hc
   obtain⟨x',hx,rfl⟩:=Option.map_eq_some_iff.1 hc
   cases hl:vr b with
   |some l=>
    rw[hl] at h
    obtain⟨rest,hf,hrc⟩:=SZ hl hx
    exact SY hf (hturn bC md B hm hB lo l x' st out st' h nt H b rest hx hrc _ A w0 aK o0 a w σ hB0 hlo hs)
   |none=>
    rw[hl] at h
    simp only[exec] at h
    refine SX ?_
    split at h
    ·rename_i l' st1 h1
     simp at h
    ·rename_i hne
     refine wpIn_mono (ih bC md B hm hB lo x' st out st' h nt H b hx _ A w0 aK o0 a w σ hB0 hlo hs) ?_
     rintro e a' w' ⟨rfl,hs'⟩
     cases out with
     |norm=>exact⟨rfl,hs'⟩
     |exit id=>exact⟨rfl,hs'⟩
     |ret=>exact⟨rfl,hs'⟩
     |goto l=>exact absurd h (hne l st')
  |goto l=>
   simp only[comp,Option.some.injEq] at hc
   subst hc
   simp only[exec,Option.some.injEq,Prod.mk.injEq] at h
   obtain⟨rfl,rfl⟩:=h
   exact wpIn_goto ⟨rfl,σ,hs⟩
  |label l=>
   simp only[comp,Option.some.injEq] at hc
   subst hc
   simp only[exec,Option.some.injEq,Prod.mk.injEq] at h
   obtain⟨rfl,rfl⟩:=h
   exact wpIn_label ⟨rfl,σ,hs⟩
  |region id ops draw=>
   simp only[comp] at hc
   obtain⟨k,l,b6,live,pre,post,rfl,hw⟩:=RU (HV hT ih) hm hB (A:=A) (lo:=lo) hc
   simp only[exec] at h
   split at h
   ·rename_i st2 h2
    simp only[Option.some.injEq,Prod.mk.injEq] at h
    obtain⟨rfl,rfl⟩:=h
    exact hw h2 hB0 hlo hs
   ·cases h
  |seq x y=>
   simp only[comp] at hc
   split at hc
   ·rename_i x' y' hx hy
    injection hc with hc;subst hc
    simp only[exec] at h
    split at h
    ·rename_i st1 h1
     refine wpIn_seq (wpIn_mono (ih bC md B hm hB lo x' st .norm st1 h1 nt H x hx _ A w0 aK o0 a w σ hB0 hlo hs) ?_)
     rintro e a' w' ⟨rfl,σ',hs'⟩
     exact ih bC md B hm hB lo y' st1 out st' h nt H y hy _ A w0 aK o0 a' w' σ' hB0 hlo hs'
    ·rename_i hne
     refine wpIn_seq (wpIn_mono (ih bC md B hm hB lo x' st out st' h nt H x hx _ A w0 aK o0 a w σ hB0 hlo hs) ?_)
     rintro e a' w' ⟨rfl,hs'⟩
     cases out with
     |norm=>exact absurd h (hne st')
     |exit id=>exact⟨rfl,hs'⟩
     |ret=>exact⟨rfl,hs'⟩
     |goto l=>exact⟨rfl,hs'⟩
   ·cases hc
  |cond x y z=>
   simp only[comp] at hc
   split at hc
   ·rename_i y' z' hy hz
    injection hc with hc;subst hc
    by_cases hk:F6 H x=true
    ·rw[if_pos hk] at h
     simp only[exec] at h
     have hx:=hs.ev x
     split at h
     ·rename_i pA
      rw[pA] at hx
      exact wpIn_cond_true (dM hx) (ih bC md B hm hB lo y' _ out st' h nt H y hy _ A w0 aK o0 a w σ hB0 hlo hs)
     ·rename_i pA
      rw[pA] at hx
      exact wpIn_cond_false (dM hx) (ih bC md B hm hB lo z' _ out st' h nt H z hz _ A w0 aK o0 a w σ hB0 hlo hs)
     ·cases h
    rw[if_neg hk] at h
    simp only[exec] at h
    have hx:=hs.ev x
    split at h
    ·rename_i pA
     rw[pA] at hx
     exact wpIn_cond_true (dM hx) (ih bC md B hm hB lo y' _ out st' h nt H y hy _ A w0 aK o0 a w σ hB0 hlo (hs.drop x))
    ·rename_i pA
     rw[pA] at hx
     exact wpIn_cond_false (dM hx) (ih bC md B hm hB lo z' _ out st' h nt H z hz _ A w0 aK o0 a w σ hB0 hlo (hs.drop x))
    ·cases h
   ·cases hc
  |block id b=>
   simp only[comp] at hc
   obtain⟨b',hb,rfl⟩:=Option.map_eq_some_iff.1 hc
   simp only[exec] at h
   split at h
   ·rename_i id' st1 h1
    refine wpIn_block (wpIn_mono (ih bC md B hm hB lo b' st (.exit id') st1 h1 nt H b hb _ A w0 aK o0 a w σ hB0 hlo hs) ?_)
    rintro e a' w' ⟨rfl,hs'⟩
    simp only[Out.nC,Exit.inBlock]
    split at h
    ·rename_i hid
     simp only[Option.some.injEq,Prod.mk.injEq] at h
     obtain⟨rfl,rfl⟩:=h
     rw[if_pos hid]
     exact⟨rfl,hs'⟩
    ·rename_i hid
     simp only[Option.some.injEq,Prod.mk.injEq] at h
     obtain⟨rfl,rfl⟩:=h
     rw[if_neg hid]
     exact⟨rfl,hs'⟩
   ·rename_i hne
    refine wpIn_block (wpIn_mono (ih bC md B hm hB lo b' st out st' h nt H b hb _ A w0 aK o0 a w σ hB0 hlo hs) ?_)
    rintro e a' w' ⟨rfl,hs'⟩
    cases out with
    |norm=>exact⟨rfl,hs'⟩
    |exit id2=>exact absurd h (hne id2 st')
    |ret=>exact⟨rfl,hs'⟩
    |goto l=>exact⟨rfl,hs'⟩
  |loop b=>
   simp only[comp] at hc
   obtain⟨b',hb,rfl⟩:=Option.map_eq_some_iff.1 hc
   exact wpIn_loop_rounds (n+1) (hloop bC md B hm hB lo b' st out st' h nt H b hb _ A w0 aK o0 a w σ hB0 hlo hs)
  |exit id=>
   simp only[comp,Option.some.injEq] at hc
   subst hc
   simp only[exec,Option.some.injEq,Prod.mk.injEq] at h
   obtain⟨rfl,rfl⟩:=h
   exact wpIn_exit ⟨rfl,σ,hs⟩
  |ret=>
   simp only[comp,Option.some.injEq] at hc
   subst hc
   simp only[exec,Option.some.injEq,Prod.mk.injEq] at h
   obtain⟨rfl,rfl⟩:=h
   exact wpIn_ret ⟨rfl,σ,hs⟩
  |rangeFunc x gB dG body=>
   simp only[comp] at hc
   split at hc
   ·rename_i x' y' ha hb
    split at hc
    ·rename_i hps
     injection hc with hc;subst hc
     simp only[exec] at h
     split at h
     ·rename_i f first captured hmd hx
      obtain rfl:bC=none:=hm
      split at h
      ·rename_i F hF
       split at h
       ·rename_i hcond
        have S1:∀p∈gB.toList,p<nt:=fun p hp=>by simpa using List.all_eq_true.1 hps p hp
        have fin:∀(rf:Out) (st2:St),(rf= .norm∨rf= .ret)→_:=fun rf st2 hout hex r hr r' o' hfi hy'=>SO hT ih hx hF hcond.1 hcond.2.1 hcond.2.2 ha hb S1 (out:=rf) (st2:=st2) hex hout (r:=r) hr (r':=r') (o':=o') hfi hy' hs
        split at h
        ·rename_i st2 hex
         split at h
         ·rename_i r hr
          split at h
          ·rename_i r' o' hfi
           split at h
           ·rename_i hy'
            simp only[Option.some.injEq,Prod.mk.injEq] at h
            obtain⟨rfl,rfl⟩:=h
            exact fin _ _ (.inl rfl) hex r hr r' o' hfi hy'
           ·cases h
          ·cases h
         ·cases h
        ·rename_i st2 hex
         split at h
         ·rename_i r hr
          split at h
          ·rename_i r' o' hfi
           split at h
           ·rename_i hy'
            simp only[Option.some.injEq,Prod.mk.injEq] at h
            obtain⟨rfl,rfl⟩:=h
            exact fin _ _ (.inr rfl) hex r hr r' o' hfi hy'
           ·cases h
          ·cases h
         ·cases h
        ·cases h
       ·cases h
      ·cases h
     ·cases h
    ·cases hc
   ·cases hc
  |_=>simp only[comp,reduceCtorEq] at hc
theorem S3 {T:Tab} (hT:gd P T) (n:Nat):jp P (kS T (exec T .plain n)):=HV hT (H4 hT n).1
end
def Ev (T:Tab) (md:Nat→Md) (lo:Nat) (c:IR) (st:St) (r:Out×St):Prop:=∃N,∀m n,N≤m→N≤n→exec T (md m) n lo c st=some r
abbrev ti:Nat→Md:=fun _=> .plain
section
variable {T:Tab} {md:Nat→Md} {lo:Nat} {st st1 st':St} {r:Out×St} {a b:IR} {out:Out}
theorem Ev.mk (N:Nat) (h:∀m n,N≤m→N≤n→exec T (md m) (n+1) lo a st=some r):Ev T md lo a st r:=
 ⟨N+1,fun m n hm hn=>by
  match n,hn with
  |n+1,hn=>exact h m n (by omega) (by omega)⟩
theorem Ev.skip:Ev T md lo .skip st (.norm,st):=.mk 0 fun _ _ _ _=>by simp only[exec]
theorem Ev.ret:Ev T md lo .ret st (.ret,st):=.mk 0 fun _ _ _ _=>by simp only[exec]
theorem Ev.exit {id:Nat}:Ev T md lo (.exit id) st (.exit id,st):=.mk 0 fun _ _ _ _=>by simp only[exec]
theorem Ev.seq (h:Ev T md lo a st (.norm,st1)) (k:Ev T md lo b st1 r):Ev T md lo (.seq a b) st r:=by
 obtain⟨N,h⟩:=h
 obtain⟨M,k⟩:=k
 exact .mk (N+M) fun m n hm hn=>by simp only[exec,h m n (by omega) (by omega),k m n (by omega) (by omega)]
theorem Ev.S4 (h:Ev T md lo a st (out,st1)) (hne:out≠ .norm):Ev T md lo (.seq a b) st (out,st1):=by
 obtain⟨N,h⟩:=h
 exact .mk N fun m n hm hn=>by
  simp only[exec,h m n hm hn]
  cases out<;>first|rfl|exact absurd rfl hne
theorem Ev.S5 {x:Operand} (hx:b8 st.env x= .sc (.bool true)) (h:Ev T md lo a ⟨kn x st.env,st.o⟩ r):Ev T md lo (.cond x a b) st r:=by
 obtain⟨N,h⟩:=h
 exact .mk N fun m n hm hn=>by simp only[exec,hx];exact h m n hm hn
theorem Ev.S7 {x:Operand} (hx:b8 st.env x= .sc (.bool false)) (h:Ev T md lo b ⟨kn x st.env,st.o⟩ r):Ev T md lo (.cond x a b) st r:=by
 obtain⟨N,h⟩:=h
 exact .mk N fun m n hm hn=>by simp only[exec,hx];exact h m n hm hn
theorem Ev.jE {x:Operand} {q:Bool} (hx:b8 st.env x= .sc (.bool q)) (ht:q=true→Ev T md lo a st r) (hf:q=false→Ev T md lo b st r):Ev T md lo (.jE x a b) st r:=by
 cases q with
 |true=>
  obtain⟨N,h⟩:=ht rfl
  exact .mk N fun m n hm hn=>by simp only[exec,hx];exact h m n hm hn
 |false=>
  obtain⟨N,h⟩:=hf rfl
  exact .mk N fun m n hm hn=>by simp only[exec,hx];exact h m n hm hn
def Out.inBlock (id:Nat):Out→Out
 | .exit id'=>if id'=id then .norm else .exit id'
 |o=>o
theorem Ev.block {id:Nat} (h:Ev T md lo a st (out,st1)):Ev T md lo (.block id a) st (out.inBlock id,st1):=by
 obtain⟨N,h⟩:=h
 exact .mk N fun m n hm hn=>by
  simp only[exec,h m n hm hn]
  cases out with
  |exit id'=>simp only[Out.inBlock];split<;>rfl
  |_=>rfl
theorem Ev.S8 (h:Ev T md lo a st (.norm,st1)) (k:Ev T md lo (.loop a) (trim st.o.length st1) r):Ev T md lo (.loop a) st r:=by
 obtain⟨N,h⟩:=h
 obtain⟨M,k⟩:=k
 exact .mk (N+M) fun m n hm hn=>by
  simp only[exec,h m n (by omega) (by omega)]
  exact k m n (by omega) (by omega)
theorem Ev.S9 (h:Ev T md lo a st (out,st1)) (hne:out≠ .norm):Ev T md lo (.loop a) st (out,st1):=by
 obtain⟨N,h⟩:=h
 exact .mk N fun m n hm hn=>by
  simp only[exec,h m n hm hn]
  cases out<;>first|rfl|exact absurd rfl hne
theorem Ev.goto {l:Nat}:Ev T md lo (.goto l) st (.goto l,st):=.mk 0 fun _ _ _ _=>by simp only[exec]
theorem Ev.Ta {l:Nat} (h:Ev T md lo a st (.goto l,st1)) (k:Ev T md lo (.turns (some l) a) (trim st.o.length st1) r):Ev T md lo (.turns (some l) a) st r:=by
 obtain⟨N,h⟩:=h
 obtain⟨M,k⟩:=k
 exact .mk (N+M) fun m n hm hn=>by
  simp only[exec,h m n (by omega) (by omega),if_true]
  exact k m n (by omega) (by omega)
theorem Ev.H5 {l:Option Nat} (h:Ev T md lo a st (out,st1)) (hne:∀l',out≠ .goto l'):Ev T md lo (.turns l a) st (out,st1):=by
 obtain⟨N,h⟩:=h
 exact .mk N fun m n hm hn=>by
  simp only[exec,h m n hm hn]
  cases out<;>first|rfl|exact absurd rfl (hne _)
theorem Ev.region {id k:Nat} {draw:Bool} {ops:List bA} {b6:List (Nat×Nat)} {live:List Nat} {pre post:List gq}
  (h:∃N,∀ex m,N≤m→qA (md m) draw (kS T ex) k ops b6 (pre.foldl (fun s h=>eN lo h s) st)=some st'):
  Ev T md lo (.region id draw k ops b6 live pre post) st (.norm,post.foldl (fun s h=>eN lo h s) ⟨prune live st'.env,st'.o⟩):=by
 obtain⟨N,h⟩:=h
 exact .mk N fun m n hm _=>by simp only[exec,h _ m hm]
theorem Tc {P:Program} (hT:gd P T) {f:FuncId} {F:aT} (hF:T.fn f=some F) {args:List AV} {o:Store} {own:Bool} (hK:T.K f args o own=none) (hlen:args.length=F.params)
  (h:Ev T ti o.length F.body ⟨dW 0 args,o⟩ (out,st')) (hout:out= .norm∨out= .ret) {r0 v:AV} {o':Store} (hr:gX st' F.res=some r0) (hfin:finish own o.length r0 st'.o=some (v,o')):
  eG P f=true∧iQ P f args o v o'∧(own=false→o'=[]):=by
 obtain⟨N,h⟩:=h
 refine S3 hT N f args o own v o' ?_
 unfold kS
 rw[hK]
 have h:=h N N (Nat.le_refl _) (Nat.le_refl _)
 have hb:oU T (exec T .plain N) o.length F.body ⟨dW 0 args,o⟩=some (out,st'):=by
  unfold oU
  split
  ·rename_i hd
   rw[hd] at h
   cases N<;>simp[exec] at h
  ·exact h
 simp only[hF,if_pos hlen,hb]
 rcases hout with rfl|rfl<;>simp only[hr,hfin]
end
section
variable {call call':bB}
def gf (call call':bB):Prop:=∀f args o own r,call f args o own=some r→call' f args o own=some r
theorem gf.kS (T:Tab) (ex:Nat→IR→St→Option (Out×St)):gf T.K (kS T ex):=by
 intro f args o own r h
 unfold Go.Vi.kS
 rw[h]
theorem gf.ee (h:gf call call') {f:FuncId} {args:List AV} {o:Store} {own:Bool} {r:AV×Store} (hc:ee call f args o own=some r):ee call' f args o own=some r:=by
 unfold Go.Vi.ee at hc ⊢
 split at hc
 ·rename_i how
  rw[if_pos how]
  unfold eA at hc ⊢
  simp only at hc ⊢
  split at hc
  ·split at hc
   ·rename_i r1 s1 h1
    rw[h _ _ _ _ _ h1]
    exact hc
   ·cases hc
  ·cases hc
 ·rename_i how
  rw[if_neg how]
  split at hc
  ·cases hc
  ·split at hc
   ·rename_i h1
    rw[h _ _ _ _ _ h1]
    exact hc
   ·cases hc
theorem gf.ly (h:gf call call') {op:bk} {ρ:Operand→AV} {o:Store} {am:Nat} {r:AV×Store} (hc:ly call op ρ o am=some r):ly call' op ρ o am=some r:=by
 cases op with
 |call f args own=>exact h.ee hc
 |eF f args own=>
  simp only[Go.Vi.ly,FZ,FY] at hc ⊢
  split at hc
  ·exact h.ee hc
  ·cases hc
 |_=>exact hc
theorem gf.dh (h:gf call call') {base:Nat} {i:bA} {st st':St} (hc:dh call base i st=some st'):dh call' base i st=some st':=by
 unfold Go.Vi.dh at hc ⊢
 split at hc
 ·cases hc
 ·exact hc
 ·split at hc
  ·rename_i h1
   rw[h.ly h1]
   exact hc
  ·cases hc
theorem gf.cu (h:gf call call') {op:bk} {ρ:Operand→AV} {o:Store} {am:Nat} {r:AV×Store} (hc:Go.Vi.ly call op ρ o am=some r):Go.Vi.cu call' op ρ o am=Go.Vi.cu call op ρ o am:=by
 unfold Go.Vi.cu
 split
 ·rename_i f args
  have h1:Go.Vi.ee call f (args.map ρ) o true=some r:=hc
  have h2:=h.ee h1
  simp only[Go.Vi.ee,if_true] at h1 h2
  rw[h1,h2]
 ·rfl
theorem gf.dF (h:gf call call') {base:Nat}:∀{l:List bA} {st st':St},dF call base l st=some st'→dF call' base l st=some st'∧ix call' base l st=ix call base l st
 |[],_,_,hc=>⟨hc,rfl⟩
 |i::l,st,st',hc=>by
  simp only[Go.Vi.dF] at hc ⊢
  split at hc
  ·rename_i s1 h1
   obtain⟨k1,k2⟩:=h.dF hc
   have h2:=h.dh h1
   refine⟨by rw[h2];exact k1,?_⟩
   simp only[ix,h1,h2,k2]
   congr 1
   split
   ·rename_i hw
    unfold Go.Vi.dh at h1
    rw[hw] at h1
    simp only at h1
    split at h1
    ·rename_i he
     rw[h.cu he]
    ·cases h1
   ·rfl
  ·cases hc
theorem gf.km (h:gf call call') {k:Nat} {ops:List bA} {b6:List (Nat×Nat)} {st st':St} (hc:km call k ops b6 st=some st'):km call' k ops b6 st=some st':=by
 unfold Go.Vi.km at hc ⊢
 simp only at hc ⊢
 split at hc
 ·rename_i s1 h1
  obtain⟨k1,k2⟩:=h.dF h1
  rw[k1,k2]
  exact hc
 ·cases hc
end
def VW (T:Tab) (md:Nat→Md) (lo:Nat) (c:IR) (st:St) (Q:Out→St→Prop):Prop:=∃out st',Ev T md lo c st (out,st')∧Q out st'
def RQ (x:Option St) (Q:St→Prop):Prop:=match x with|some st=>Q st|none=>False
section
variable {T:Tab} {md:Nat→Md} {lo:Nat} {st:St} {a b:IR} {Q Q':Out→St→Prop}
theorem VW.mono (h:VW T md lo a st Q) (hq:∀o s,Q o s→Q' o s):VW T md lo a st Q':=by
 obtain⟨o,s,h1,h2⟩:=h
 exact⟨o,s,h1,hq o s h2⟩
theorem VW.skip (h:Q .norm st):VW T md lo .skip st Q:=⟨_,_,.skip,h⟩
theorem VW.ret (h:Q .ret st):VW T md lo .ret st Q:=⟨_,_,.ret,h⟩
theorem VW.exit {id:Nat} (h:Q (.exit id) st):VW T md lo (.exit id) st Q:=⟨_,_,.exit,h⟩
theorem VW.seq (h:VW T md lo a st fun out s=>if out= .norm then VW T md lo b s Q else Q out s):VW T md lo (.seq a b) st Q:=by
 obtain⟨o,s,h1,h2⟩:=h
 by_cases ho:o= .norm
 ·subst ho
  rw[if_pos rfl] at h2
  obtain⟨o2,s2,k1,k2⟩:=h2
  exact⟨o2,s2,h1.seq k1,k2⟩
 ·rw[if_neg ho] at h2
  exact⟨o,s,h1.S4 ho,h2⟩
theorem VW.cond {x:Operand} {q:Bool} (hx:b8 st.env x= .sc (.bool q)) (h:if q=true then VW T md lo a ⟨kn x st.env,st.o⟩ Q else VW T md lo b ⟨kn x st.env,st.o⟩ Q):VW T md lo (.cond x a b) st Q:=by
 cases q with
 |true=>obtain⟨o,s,h1,h2⟩:=(by simpa using h:VW T md lo a ⟨kn x st.env,st.o⟩ Q);exact⟨o,s,.S5 hx h1,h2⟩
 |false=>obtain⟨o,s,h1,h2⟩:=(by simpa using h:VW T md lo b ⟨kn x st.env,st.o⟩ Q);exact⟨o,s,.S7 hx h1,h2⟩
theorem VW.jE {x:Operand} {q:Bool} (hx:b8 st.env x= .sc (.bool q)) (h:if q=true then VW T md lo a st Q else VW T md lo b st Q):VW T md lo (.jE x a b) st Q:=by
 cases q with
 |true=>obtain⟨o,s,h1,h2⟩:=(by simpa using h:VW T md lo a st Q);exact⟨o,s,.jE hx (fun _=>h1) (fun h=>by cases h),h2⟩
 |false=>obtain⟨o,s,h1,h2⟩:=(by simpa using h:VW T md lo b st Q);exact⟨o,s,.jE hx (fun h=>by cases h) (fun _=>h1),h2⟩
theorem VW.block {id:Nat} (h:VW T md lo a st fun out s=>Q (out.inBlock id) s):VW T md lo (.block id a) st Q:=by
 obtain⟨o,s,h1,h2⟩:=h
 exact⟨_,_,h1.block,h2⟩
theorem VW.Td {id k:Nat} {draw:Bool} (hm:∀m,draw=true∨md m= .plain∨md m= .round) {ops:List bA} {b6:List (Nat×Nat)} {live:List Nat} {pre post:List gq}
  (h:RQ (km T.K k ops b6 (pre.foldl (fun s h=>eN lo h s) st)) fun st'=>Q .norm (post.foldl (fun s h=>eN lo h s) ⟨prune live st'.env,st'.o⟩)):
  VW T md lo (.region id draw k ops b6 live pre post) st Q:=by
 unfold RQ at h
 split at h
 ·rename_i st' hs
  refine⟨_,_,Ev.region ⟨0,fun ex m _=>?_⟩,h⟩
  have:=(gf.kS T ex).km hs
  rcases hm m with e|e|e
  ·subst e;unfold qA;cases md m<;>exact this
  ·rw[e];exact this
  ·rw[e];exact this
 ·exact h.elim
theorem VW.Tf {y:Nat→YO} {id k:Nat} {ops:List bA} {b6:List (Nat×Nat)} {live:List Nat} {pre post:List gq} {st':St}
  (h:∃N,∀m,N≤m→∀call,gf T.K call→sO call (y m) k ops (pre.foldl (fun s h=>eN lo h s) st)=some st') (hq:Q .norm (post.foldl (fun s h=>eN lo h s) ⟨prune live st'.env,st'.o⟩)):
  VW T (fun m=> .iter (y m)) lo (.region id false k ops b6 live pre post) st Q:=by
 obtain⟨N,h⟩:=h
 exact⟨_,_,Ev.region ⟨N,fun ex m hm=>h m hm _ (gf.kS T ex)⟩,hq⟩
noncomputable def yn (T:Tab) (ps:List Nat) (az bd:IR) (env:dI) (m:Nat):YO:=fun vs o=>if vs.length=ps.length then
  match exec T .round m o.length az ⟨ko ps vs env,o⟩ with
  |some (.norm,st1)=>match exec T .round m st1.o.length bd st1 with
   |some (.norm,st2)=>some (.sc (.bool true),(trim o.length ⟨[],st2.o⟩).o)
   |_=>none
  |_=>none
 else none
theorem VW.each {x:Operand} {ps:List Nat} {az bd:IR} {f:FuncId} {first captured:List AV} (hx:b8 st.env x= .fn (.func f) first captured) {F:aT} (hF:T.fn f=some F) (hlen:first.length+1+captured.length=F.params)
  (hye:st.env.all (fun p=>p.2.bL)=true) (tc:st.o.all aP.bL=true)
  (h:VW T (fun m=> .iter (yn T ps az bd st.env m)) st.o.length F.body ⟨dW 0 (first++[.fn (.yield 0) [] []]++captured),st.o⟩ fun out s2=>(out= .norm∨out= .ret)∧
   ∃r r' o',gX s2 F.res=some r∧fe st.o.length r s2.o=some (r',o')∧o'.all aP.bL=true∧Q .norm ⟨st.env,o'⟩):VW T ti lo (.each x ps az bd) st Q:=by
 obtain⟨out,s2,⟨N,h1⟩,hout,r,r',o',hr,hf,hy,hq⟩:=h
 refine⟨.norm,⟨st.env,o'⟩,.mk N fun m n hm hn=>?_,hq⟩
 have h2:=h1 n n hn hn
 simp only[exec,hx,hF]
 rw[if_pos ⟨hlen,hye,tc⟩]
 generalize hE:exec T (.iter _) n _ _ _=R
 have h3:R=some (out,s2):=hE.symm.trans h2
 rw[h3]
 rcases hout with rfl|rfl<;>simp only[hr,hf,if_pos hy]
theorem VW.loop (h:VW T md lo a st fun out s=>if out= .norm then VW T md lo (.loop a) (trim st.o.length s) Q else Q out s):VW T md lo (.loop a) st Q:=by
 obtain⟨o,s,h1,h2⟩:=h
 by_cases ho:o= .norm
 ·subst ho
  rw[if_pos rfl] at h2
  obtain⟨o2,s2,k1,k2⟩:=h2
  exact⟨o2,s2,h1.S8 k1,k2⟩
 ·rw[if_neg ho] at h2
  exact⟨o,s,h1.S9 ho,h2⟩
theorem VW.Ti (I:Nat→St→Prop) (hstep:∀m s,I m s→VW T md lo a s fun out s'=>if out= .norm then ∃m',m'<m∧I m' (trim s.o.length s') else Q out s'):
  ∀(m:Nat) (s:St),I m s→VW T md lo (.loop a) s Q:=by
 intro m
 induction m using Nat.strongRecOn with
 |_ m ih=>
  intro s hs
  refine VW.loop ((hstep m s hs).mono fun o s' h=>?_)
  split
  ·rename_i ho
   rw[if_pos ho] at h
   obtain⟨m',h1,h2⟩:=h
   exact ih m' h1 _ h2
  ·rename_i ho
   rwa [if_neg ho] at h
theorem VW.goto {l:Nat} (h:Q (.goto l) st):VW T md lo (.goto l) st Q:=⟨_,_,.goto,h⟩
theorem VW.Tj {l:Option Nat} (h:VW T md lo a st fun out s=>(∀l',out≠ .goto l')∧Q out s):VW T md lo (.turns l a) st Q:=by
 obtain⟨o,s,h1,h2,h3⟩:=h
 exact⟨o,s,h1.H5 h2,h3⟩
theorem VW.Tm {l:Nat} (I:Nat→St→Prop) (hstep:∀m s,I m s→VW T md lo a s fun out s'=>(out= .goto l∧∃m',m'<m∧I m' (trim s.o.length s'))∨((∀l',out≠ .goto l')∧Q out s')):
  ∀(m:Nat) (s:St),I m s→VW T md lo (.turns (some l) a) s Q:=by
 intro m
 induction m using Nat.strongRecOn with
 |_ m ih=>
  intro s hs
  obtain⟨o,s',h1,h2⟩:=hstep m s hs
  rcases h2 with⟨rfl,m',h3,h4⟩|⟨h3,h4⟩
  ·obtain⟨o2,s2,k1,k2⟩:=ih m' h3 _ h4
   exact⟨o2,s2,h1.Ta k1,k2⟩
  ·exact⟨o,s',h1.H5 h3,h4⟩
theorem yo {P:Program} (hT:gd P T) {f:FuncId} {F:aT} (hF:T.fn f=some F) {args:List AV} {o:Store} {own:Bool} (hK:T.K f args o own=none) (hlen:args.length=F.params) {v:AV} {o':Store}
  (h:VW T ti o.length F.body ⟨dW 0 args,o⟩ fun out st'=>(out= .norm∨out= .ret)∧(gX st' F.res).bind (fun r0=>finish own o.length r0 st'.o)=some (v,o')):
  eG P f=true∧iQ P f args o v o'∧(own=false→o'=[]):=by
 obtain⟨out,st',h1,h2,h3⟩:=h
 obtain⟨r0,hr,hfin⟩:=Option.bind_eq_some_iff.1 h3
 exact Tc hT hF hK hlen h1 h2 hr hfin
end
open Classical in
noncomputable def ans {α:Type} (enc:α→List AV) (dom:α→Prop) (spec:α→AV) (args:List AV):Option AV:=
 if h:∃a,args=enc a∧dom a then some (spec (Classical.choose h)) else none
theorem Tn {α:Type} {enc:α→List AV} {dom:α→Prop} {spec:α→AV} (hinj:∀a b,enc a=enc b→a=b) {a:α} (hd:dom a):ans enc dom spec (enc a)=some (spec a):=by
 have h:∃b,enc a=enc b∧dom b:=⟨a,rfl,hd⟩
 unfold ans
 rw[dif_pos h,←hinj _ _ (Classical.choose_spec h).1]
theorem Tq {α:Type} {enc:α→List AV} {dom:α→Prop} {spec:α→AV} {args:List AV} {v:AV} (h:ans enc dom spec args=some v):∃a,args=enc a∧dom a∧v=spec a:=by
 unfold ans at h
 split at h
 ·rename_i hx
  injection h with h
  exact⟨_,(Classical.choose_spec hx).1,(Classical.choose_spec hx).2,h.symm⟩
 ·cases h
structure bp where
 (a0 a1 a2 a3 a4 a5:Int)
 deriving DecidableEq
structure Off where
 bD:Int
 want:bp
 value:Int
 deriving DecidableEq
structure Need where
 H6:Int
 least:Int
 deriving DecidableEq
structure iC where
 bD:Int
 want:bp
 deriving DecidableEq
structure Sit where
 members:Int
 left:bp
 opn:bp
 deriving DecidableEq
def bp.zero:bp:=⟨0,0,0,0,0,0⟩
inductive ai where
 |i (k:IntKind)
 |b
 |dy
 |off
 |need
 |key
 |sit
 |aY (s:ai)
 |pair (s t:ai)
 deriving DecidableEq
@[reducible] def ai.T:ai→Type
 | .i _=>Int
 | .b=>Bool
 | .dy=>bp
 | .off=>Off
 | .need=>Need
 | .key=>iC
 | .sit=>Sit
 | .aY s=>List s.T
 | .pair s t=>s.T×t.T
def ai.dflt:(s:ai)→s.T
 | .i _=>(0:Int)
 | .b=>false
 | .dy=> .zero
 | .off=>⟨0,.zero,0⟩
 | .need=>⟨0,0⟩
 | .key=>⟨0,.zero⟩
 | .sit=>⟨0,.zero,.zero⟩
 | .aY _=>[]
 | .pair s t=>(s.dflt,t.dflt)
def ai.sz:ai→Nat
 | .i _=>1
 | .b=>1
 | .dy=>6
 | .off=>8
 | .need=>2
 | .key=>7
 | .sit=>13
 | .aY _=>1
 | .pair s t=>s.sz+t.sz
@[reducible] def ai.dec:(s:ai)→DecidableEq s.T
 | .i _=>inferInstanceAs (DecidableEq Int)
 | .b=>inferInstanceAs (DecidableEq Bool)
 | .dy=>inferInstanceAs (DecidableEq bp)
 | .off=>inferInstanceAs (DecidableEq Off)
 | .need=>inferInstanceAs (DecidableEq Need)
 | .key=>inferInstanceAs (DecidableEq iC)
 | .sit=>inferInstanceAs (DecidableEq Sit)
 | .aY s=>@instDecidableEqList _ s.dec
 | .pair s t=>@instDecidableEqProd _ _ s.dec t.dec
instance (s:ai):DecidableEq s.T:=s.dec
def ai.rh:ai→Bool
 | .i _| .b=>true
 |_=>false
def ai.flat:ai→Bool
 | .aY _=>false
 | .pair s t=>s.flat&&t.flat
 |_=>true
def iv (n:Int):Value:=.int .i64 n
def bp.vs (b:bp):List Value:=[iv b.a0,iv b.a1,iv b.a2,iv b.a3,iv b.a4,iv b.a5]
def bN:(s:ai)→s.T→List Value
 | .i k,n=>[.int k n]
 | .b,b=>[.bool b]
 | .dy,x=>[iv x.a0,iv x.a1,iv x.a2,iv x.a3,iv x.a4,iv x.a5]
 | .off,x=>[iv x.bD,iv x.want.a0,iv x.want.a1,iv x.want.a2,iv x.want.a3,iv x.want.a4,iv x.want.a5,iv x.value]
 | .need,x=>[iv x.H6,iv x.least]
 | .key,x=>[iv x.bD,iv x.want.a0,iv x.want.a1,iv x.want.a2,iv x.want.a3,iv x.want.a4,iv x.want.a5]
 | .sit,x=>[iv x.members,iv x.left.a0,iv x.left.a1,iv x.left.a2,iv x.left.a3,iv x.left.a4,iv x.left.a5,iv x.opn.a0,iv x.opn.a1,iv x.opn.a2,iv x.opn.a3,iv x.opn.a4,iv x.opn.a5]
 | .aY _,_=>[.bool false]
 | .pair s t,x=>bN s x.1++bN t x.2
def bP:(s:ai)→s.T→List AV
 | .aY s,l=>[.sl l.length (l.flatMap (bP s))]
 | .pair s t,x=>bP s x.1++bP t x.2
 | .i k,x=>(bN (.i k) x).map .sc
 | .b,x=>(bN .b x).map .sc
 | .dy,x=>(bN .dy x).map .sc
 | .off,x=>(bN .off x).map .sc
 | .need,x=>(bN .need x).map .sc
 | .key,x=>(bN .key x).map .sc
 | .sit,x=>(bN .sit x).map .sc
inductive SV where
 |ud
 |sc (v:Value)
 |il (k:IntKind) (n:Int)
 |si (k:IntKind) (n:Int)
 |bl (b:Bool)
 |sb (b:Bool)
 |agg (cs:List SV)
 |aD (cs:List SV)
 |row (s:ai) (l:List s.T)
 |ep (s:ai) (l:List s.T) (i off:Nat)
 |ptr (id off tot:Nat)
 |ap (id base sz len tot i:Nat)
 |rp (id i off n sz:Nat)
 |ow (id n sz:Nat)
 |os (id off len n sz:Nat)
 |oc (id off len n sz:Nat)
 |mp (id:Nat)
 |fn (f:Fn) (first captured:List SV)
inductive af where
 |dead
 |cells (cs:List SV) (e:TypeId) (sz:Nat) (pu:Bool)
 |row (s:ai) (l:List s.T) (e:TypeId) (pu:Bool)
 |map (sk sv:ai) (ka:Bool) (es:List (sk.T×sv.T)) (kt:List Nat×Bool) (pu:Bool)
 |iT (s:ai) (l:List s.T) (e:TypeId) (t:List SV)
def bn (s:ai) (l:List s.T):List AV:=l.flatMap (bP s)
def kw (s:ai) (ka:Bool) (x:s.T):Value:=if ka then .agg (bN s x).toArray else(bN s x).headD (.bool false)
def iD (s:ai) (x:s.T):AV:=.sc ((bN s x).headD (.bool false))
mutual
def SV.g:SV→AV
 | .ud=> .ud
 | .sc v=> .sc v
 | .il k n=> .sc (.int k n)
 | .si k n=> .sc (.int k n)
 | .bl b=> .sc (.bool b)
 | .sb b=> .sc (.bool b)
 | .agg cs=> .agg (gL cs)
 | .aD cs=> .aD (gL cs)
 | .row s l=> .sl l.length (bn s l)
 | .ep s l i off=> .ep (bn s l) (i*s.sz+off)
 | .ptr id off tot=> .ptr id off tot
 | .ap id base sz _ tot i=> .ptr id (base+i*sz) tot
 | .rp id i off n sz=> .ptr id (i*sz+off) (n*sz)
 | .ow id n sz=> .os id 0 n (n*sz)
 | .os id off len n sz=> .os id (off*sz) len (n*sz)
 | .oc id off len n sz=> .os id (off*sz+(n*sz+sz)) len (n*sz)
 | .mp id=> .mp id
 | .fn f a b=> .fn f (gL a) (gL b)
def gL:List SV→List AV
 |[]=>[]
 |c::cs=>c.g::gL cs
end
theorem dj:∀(l:List SV),gL l=l.map SV.g
 |[]=>rfl
 |c::cs=>by simp[gL,dj cs]
def af.g:af→aP
 | .dead=> .dead
 | .cells cs e sz pu=> .cells (gL cs) e sz pu
 | .row s l e pu=> .cells (bn s l) e s.sz pu
 | .iT s l e t=> .cells (bn s l++gL t) e s.sz false
 | .map sk sv ka es kt pu=> .map (es.map fun p=>(kw sk ka p.1,iD sv p.2)) kt pu
def encS:(s:ai)→s.T→List SV
 | .i k,n=>[.si k n]
 | .b,b=>[.sb b]
 | .dy,x=>[.si .i64 x.a0,.si .i64 x.a1,.si .i64 x.a2,.si .i64 x.a3,.si .i64 x.a4,.si .i64 x.a5]
 | .off,x=>[.si .i64 x.bD,.si .i64 x.want.a0,.si .i64 x.want.a1,.si .i64 x.want.a2,.si .i64 x.want.a3,.si .i64 x.want.a4,.si .i64 x.want.a5,.si .i64 x.value]
 | .need,x=>[.si .i64 x.H6,.si .i64 x.least]
 | .key,x=>[.si .i64 x.bD,.si .i64 x.want.a0,.si .i64 x.want.a1,.si .i64 x.want.a2,.si .i64 x.want.a3,.si .i64 x.want.a4,.si .i64 x.want.a5]
 | .sit,x=>[.si .i64 x.members,.si .i64 x.left.a0,.si .i64 x.left.a1,.si .i64 x.left.a2,.si .i64 x.left.a3,.si .i64 x.left.a4,.si .i64 x.left.a5,.si .i64 x.opn.a0,.si .i64 x.opn.a1,.si .i64 x.opn.a2,.si .i64 x.opn.a3,.si .i64 x.opn.a4,.si .i64 x.opn.a5]
 | .aY s,l=>[.row s l]
 | .pair s t,x=>encS s x.1++encS t x.2
def gh (s s':ai) (l:List s.T):Option (List s'.T):=if h:s=s' then some (h▸l) else none
def jM (s:ai):SV→Option (List s.T)
 | .row s' l=>match gh s' s l with
  |some l=>some l
  |none=>match l with
   |[]=>some []
   |_=>none
 |_=>none
def SV.qn:SV→SV
 | .sc (.slice none 0 0)=> .row (.i .i64) []
 |v=>v
def SV.int:IntKind→SV→Option Int
 |k,.si k' n=>if k'=k then some n else none
 |k,.il k' n=>if k'=k then some n else none
 |_,_=>none
def SV.boo:SV→Option Bool
 | .sb b=>some b
 | .bl b=>some b
 |_=>none
def ints:List SV→Option (List Int)
 |[]=>some []
 |c::cs=>match c.int .i64,ints cs with
  |some n,some l=>some (n::l)
  |_,_=>none
def fj:(s:ai)→List SV→Option s.T
 | .i k,[c]=>c.int k
 | .b,[c]=>c.boo
 | .dy,cs=>match ints cs with
  |some [a0,a1,a2,a3,a4,a5]=>some (⟨a0,a1,a2,a3,a4,a5⟩:bp)
  |_=>none
 | .off,cs=>match ints cs with
  |some [b,a0,a1,a2,a3,a4,a5,v]=>some (⟨b,⟨a0,a1,a2,a3,a4,a5⟩,v⟩:Off)
  |_=>none
 | .need,cs=>match ints cs with
  |some [a,b]=>some (⟨a,b⟩:Need)
  |_=>none
 | .key,cs=>match ints cs with
  |some [b,a0,a1,a2,a3,a4,a5]=>some (⟨b,⟨a0,a1,a2,a3,a4,a5⟩⟩:iC)
  |_=>none
 | .sit,cs=>match ints cs with
  |some [m,a0,a1,a2,a3,a4,a5,b0,b1,b2,b3,b4,b5]=>some (⟨m,⟨a0,a1,a2,a3,a4,a5⟩,⟨b0,b1,b2,b3,b4,b5⟩⟩:Sit)
  |_=>none
 | .aY s,[c]=>jM s c
 | .pair s t,cs=>match fj s (cs.take s.sz),fj t (cs.drop s.sz) with
  |some x,some y=>some (x,y)
  |_,_=>none
 |_,_=>none
theorem BF:(s:ai)→0<s.sz
 | .i _| .b| .dy| .off| .need| .key| .sit| .aY _=>by simp[ai.sz]
 | .pair s t=>by
  have:=BF s
  simp only[ai.sz]
  omega
theorem mC:(s:ai)→(x:s.T)→(encS s x).map SV.g=bP s x
 | .aY s,l=>by simp only[encS,bP,List.map_cons,List.map_nil,SV.g,bn]
 | .pair s t,x=>by simp only[encS,bP,List.map_append,mC s x.1,mC t x.2]
 | .i _,x| .b,x| .dy,x| .off,x| .need,x| .key,x| .sit,x=>by simp[encS,bP,bN,SV.g,iv]
theorem yp:(s:ai)→(x:s.T)→(bN s x).length=s.sz
 | .pair s t,x=>by simp only[bN,List.length_append,yp s x.1,yp t x.2,ai.sz]
 | .aY _,x| .i _,x| .b,x| .dy,x| .off,x| .need,x| .key,x| .sit,x=>rfl
theorem gC:(s:ai)→(x:s.T)→(bP s x).length=s.sz
 | .pair s t,x=>by simp only[bP,List.length_append,gC s x.1,gC t x.2,ai.sz]
 | .aY _,x| .i _,x| .b,x| .dy,x| .off,x| .need,x| .key,x| .sit,x=>rfl
theorem yq:(s:ai)→s.flat=true→(x:s.T)→bP s x=(bN s x).map .sc
 | .pair s t,h,x=>by
  simp only[ai.flat,Bool.and_eq_true] at h
  simp only[bP,bN,List.map_append,yq s h.1,yq t h.2]
 | .aY _,h,x=>by simp[ai.flat] at h
 | .i _,_,x| .b,_,x| .dy,_,x| .off,_,x| .need,_,x| .key,_,x| .sit,_,x=>rfl
theorem jN {k:IntKind} {c:SV} {n:Int} (h:c.int k=some n):c.g= .sc (.int k n):=by
 cases c<;>simp only[SV.int,reduceCtorEq] at h
 all_goals
  split at h
  ·rename_i hk;subst hk;simp at h;subst h;simp[SV.g]
  ·cases h
theorem tj {c:SV} {b:Bool} (h:c.boo=some b):c.g= .sc (.bool b):=by
 cases c<;>simp[SV.boo] at h<;>subst h<;>simp[SV.g]
theorem yr:∀{cs:List SV} {l:List Int},ints cs=some l→cs.map SV.g=l.map fun n=> .sc (iv n)
 |[],l,h=>by simp[ints] at h;subst h;rfl
 |c::cs,l,h=>by
  simp only[ints] at h
  split at h
  ·rename_i n l' h1 h2
   simp at h;subst h
   simp[jN h1,yr h2,iv]
  ·cases h
theorem nE {s s':ai} {l:List s.T} {l':List s'.T} (h:gh s s' l=some l'):s=s'∧HEq l l':=by
 unfold gh at h
 split at h
 ·rename_i hs
  subst hs
  simp only[Option.some.injEq] at h
  exact⟨rfl,heq_of_eq h⟩
 ·cases h
theorem Tt {s:ai} {v:SV} {l:List s.T} (h:jM s v=some l):v.g= .sl l.length (bn s l):=by
 cases v<;>simp only[jM,reduceCtorEq] at h
 rename_i s' l'
 split at h
 ·rename_i l2 hc
  simp only[Option.some.injEq] at h;subst h
  obtain⟨rfl,hh⟩:=nE hc
  cases hh
  rfl
 ·split at h
  ·simp only[Option.some.injEq] at h;subst h
   simp[SV.g,bn]
  ·cases h
theorem js:{s:ai}→{cs:List SV}→{x:s.T}→(h:fj s cs=some x)→cs.map SV.g=bP s x
 | .i k,[c],_,h=>by simp only[fj] at h;simp[bP,bN,jN h]
 | .b,[c],_,h=>by simp only[fj] at h;simp[bP,bN,tj h]
 | .aY s,[c],_,h=>by simp only[fj] at h;simp only[List.map_cons,List.map_nil,Tt h,bP,bn]
 | .pair s t,cs,_,h=>by
  simp only[fj] at h
  split at h
  ·rename_i x y h1 h2
   simp only[Option.some.injEq] at h;subst h
   have g1:=js h1
   have g2:=js h2
   simp only[bP,←g1,←g2]
   rw[←List.map_append,List.take_append_drop]
  ·cases h
 | .dy,cs,_,h| .off,cs,_,h| .need,cs,_,h| .key,cs,_,h| .sit,cs,_,h=>by
  simp only[fj] at h
  split at h
  ·rename_i h1
   simp at h;subst h
   rw[yr h1]
   simp[bP,bN]
  ·cases h
theorem Tu (v:SV):v.qn.g=v.g.qn:=by
 unfold SV.qn
 split
 ·simp[SV.g,AV.qn,bn]
 ·rename_i h
  cases v with
  |sc v=>
   simp only[SV.g]
   unfold AV.qn
   split
   ·rename_i h2
    simp only[AV.sc.injEq] at h2
    exact absurd (by rw[h2]) h
   ·rfl
  |_=>simp only[SV.g,AV.qn]
theorem yt:(s:ai)→(x:s.T)→∀v∈bN s x,v.oneCell'=true
 | .pair s t,x=>by
  intro v hv
  simp only[bN] at hv
  rcases List.mem_append.1 hv with h|h
  ·exact yt s _ v h
  ·exact yt t _ v h
 | .aY _,x| .i _,x| .b,x| .dy,x| .off,x| .need,x| .key,x| .sit,x=>by simp[bN,iv,Value.oneCell']
def Plain (a:AV):Prop:=(∃v,a= .sc v∧v.oneCell'=true∧v≠ .slice none 0 0)∨∃n cs,a= .sl n cs∧bJ cs=true
theorem yu:∀{l:List AV},(∀a∈l,a.pure=true)→bJ l=true
 |[],_=>by simp[bJ]
 |a::l,h=>by simp[bJ,h a (by simp),yu (l:=l) fun b hb=>h b (by simp[hb])]
theorem BG {k:Nat}:∀{l:List AV},(∀a∈l,a.a6 k=true)→b7 k l=true
 |[],_=>by simp[b7]
 |a::l,h=>by simp[b7,h a (by simp),BG (l:=l) fun b hb=>h b (by simp[hb])]
theorem Plain.pure {a:AV} (h:Plain a):a.pure=true:=by
 rcases h with⟨v,rfl,_⟩|⟨n,cs,rfl,h⟩
 ·simp[AV.pure]
 ·simpa[AV.pure] using h
theorem Plain.a6 {a:AV} (h:Plain a) (k:Nat):a.a6 k=true:=by
 rcases h with⟨v,rfl,_⟩|⟨n,cs,rfl,h⟩<;>simp[AV.a6]
theorem Plain.one {a:AV} (h:Plain a):a.one=true:=by
 rcases h with⟨v,rfl,h,_⟩|⟨n,cs,rfl,h⟩
 ·simpa[AV.one] using h
 ·simp[AV.one]
theorem tn:(s:ai)→(x:s.T)→∀a∈bP s x,Plain a
 | .pair s t,x=>by
  intro a ha
  simp only[bP] at ha
  rcases List.mem_append.1 ha with h|h
  ·exact tn s _ a h
  ·exact tn t _ a h
 | .aY s,l=>by
  intro a ha
  simp only[bP,List.mem_singleton] at ha
  subst ha
  refine .inr ⟨_,_,rfl,yu fun b hb=>?_⟩
  obtain⟨y,_,hy⟩:=List.mem_flatMap.1 hb
  exact(tn s y b hy).pure
 | .i _,x| .b,x| .dy,x| .off,x| .need,x| .key,x| .sit,x=>by
  intro a ha
  simp only[bP] at ha
  obtain⟨v,hv,rfl⟩:=List.mem_map.1 ha
  refine .inl ⟨v,rfl,yt _ _ v hv,?_⟩
  rintro rfl
  simp[bN,iv] at hv
theorem hZ {s:ai} {l:List s.T} {a:AV} (h:a∈bn s l):Plain a:=by
 unfold bn at h
 obtain⟨x,_,hx⟩:=List.mem_flatMap.1 h
 exact tn s x a hx
theorem nG (s:ai) (l:List s.T):bJ (bn s l)=true:=yu fun a h=>(hZ h).pure
theorem H7 (k:Nat) (s:ai) (l:List s.T):b7 k (bn s l)=true:=BG fun a h=>(hZ h).a6 k
theorem Tv (s:ai) (l:List s.T):cz (bn s l)=true:=by
 simp only[cz,List.all_eq_true]
 intro a h
 exact(hZ h).one
theorem dD (s:ai) (l:List s.T):(bn s l).length=l.length*s.sz:=by
 induction l with
 |nil=>simp[bn]
 |cons x l ih=>simp only[bn,List.flatMap_cons,List.length_append,gC,List.length_cons] at ih ⊢;rw[ih,Nat.succ_mul];omega
theorem BH (s:ai) (l l':List s.T):bn s (l++l')=bn s l++bn s l':=by simp[bn]
theorem BI (s:ai):∀(l:List s.T) (i:Nat),(bn s l).drop (i*s.sz)=bn s (l.drop i)
 |l,0=>by simp
 |[],i+1=>by simp[bn]
 |x::l,i+1=>by
  have h:=BI s l i
  simp only[bn,List.flatMap_cons,List.drop_succ_cons] at h ⊢
  rw[Nat.succ_mul,Nat.add_comm,List.drop_append,gC,Nat.add_sub_cancel_left,h,List.drop_of_length_le (by rw[gC];omega)]
  simp
theorem H8 (s:ai):∀(l:List s.T) (i:Nat),(bn s l).take (i*s.sz)=bn s (l.take i)
 |l,0=>by simp[bn]
 |[],i+1=>by simp[bn]
 |x::l,i+1=>by
  have h:=H8 s l i
  simp only[bn,List.flatMap_cons,List.take_succ_cons] at h ⊢
  rw[Nat.succ_mul,Nat.add_comm,List.take_append,gC,Nat.add_sub_cancel_left,h,List.take_of_length_le (by rw[gC];omega)]
def ae {α:Type} (l:List α) (i:Nat) (d:α):α:=(l[i]?).getD d
theorem bF {α:Type} {l:List α} {i:Nat} {d:α} (h:i<l.length):ae l i d=l[i]:=by simp[ae,h]
theorem Tz {s:ai} {l:List s.T} {i:Nat} (h:i<l.length):(bn s l).drop (i*s.sz)=bP s (ae l i s.dflt)++bn s (l.drop (i+1)):=by
 rw[BI,List.drop_eq_getElem_cons h,bF h]
 simp only[bn,List.flatMap_cons]
end Go.Vi
