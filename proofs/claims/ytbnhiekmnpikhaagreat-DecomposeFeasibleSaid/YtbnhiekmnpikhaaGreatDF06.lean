/-
  The auction's problems and allocations, and how they lie in values.
  Conditions: none.
-/
import Derived.Test.YtbnhiekmnpikhaaGreatDF05
import Derived.Test.YtbnhiekmnpikhaaGreatDF01
import Derived.KernelRfl
import Derived.Deep.Slices
import Derived.OpenShut
import Derived.ProofKit
import Derived.Test.YtbnhiekmnpikhaaGreatRows
set_option maxRecDepth 100000
set_option maxHeartbeats 4000000
set_option linter.all false
open And renaming intro->γl
open Bool renaming false_eq_true->ψ,not_eq_false->ζo,and_eq_true->θ,eq_false_iff->δI
open Classical renaming choose->δS,choose_spec->εd,not_not->γf
open Go.Vi.AV renaming ren->δw
open Go.Vi.AV.sc renaming injEq->δd
open Go.Vi.AV.sl renaming injEq->δ5
open Go.Vi.SV renaming g->γF,row->Ω,si->γd,same->εT,il->γB,sb->γA,bl->δh,ptr->γQ
open List renaming mem_map->Θ,all_eq_true->τ,take->Δ,map_cons->ξ,length_range->ζq,range->ω,getElem?_eq_getElem->μ,mem_of_mem_take->γo,take_length->φ,forall_mem_cons->εW,map->γb,drop->γ4,drop_length->δB,mem_cons->γr
open List.cons renaming injEq->Γ
open Nat renaming beq->δs
open Option renaming map_eq_some_iff->ε,map_some->ν,bind_some->δP,map->ζr,isSome_iff_exists->γp
open Option.some renaming injEq->γ
open Prod.mk renaming injEq->ι
namespace Go.Vi
structure bn where
 supply:bC
 opn:bC
 cls:bC
 classes:List Int
 offers:List Off
structure Alloc where
 chosen:List Int
 value:Int
def bn.ss (p:bn):List SV:=
 [.si .i64 p.supply.a0,.si .i64 p.supply.a1,.si .i64 p.supply.a2,.si .i64 p.supply.a3,.si .i64 p.supply.a4,.si .i64 p.supply.a5,
  .si .i64 p.opn.a0,.si .i64 p.opn.a1,.si .i64 p.opn.a2,.si .i64 p.opn.a3,.si .i64 p.opn.a4,.si .i64 p.opn.a5,
  .si .i64 p.cls.a0,.si .i64 p.cls.a1,.si .i64 p.cls.a2,.si .i64 p.cls.a3,.si .i64 p.cls.a4,.si .i64 p.cls.a5,
  .row (.i .i64) p.classes,.row .off p.offers]
def vU:List SV->Option bn
 |[g,v,b,q,d,x,a,n,w,h,j,l,t,p,r,u,e,m,k,f]=>match jT .fi [g,v,b,q,d,x],jT .fi [a,n,w,h,j,l],jT .fi [t,p,r,u,e,m],jH (.i .i64) k,jH .off f with
  |some s,some o,some c,some k,some f=>some ⟨s,o,c,k,f⟩
  |_,_,_,_,_=>none
 |_=>none
theorem Ac {cs:List SV} {p:bn} (h:vU cs=some p):gL cs=gL p.ss:=by
 unfold vU at h;split at h
 ·split at h
  ·rename_i s o c k f a i b e d;simp only[γ] at h;subst h;have a:=nX a;have i:=nX i;have b:=nX b;have e:=o8 e;have d:=o8 d;simp_all[dP,dy,bn.ss,gL,γF,iv]
  ·cases h
 ·cases h
def dO:qB bn where
 put p:=.agg p.ss;dec
  | .agg c=>vU c
  |_=>none;ok v a h:=by
  grind[γF,Ac]
 inj a b h:=by
  obtain⟨⟨a0,a1,a2,a3,M,o⟩,⟨A,l,e,b3,I,b5⟩,⟨H,V,Y,J,x,j⟩,k,f⟩:=a;obtain⟨⟨d,t,d2,Z,d4,X⟩,⟨N,R,u,y,S,e5⟩,⟨f0,E,f2,f3,O,q⟩,W,B⟩:=b;simp only[γF,bn.ss,gL,AV.agg.injEq,Γ,and_true,δd,Value.int.injEq,true_and,δ5] at h;obtain⟨h0,h1,F,P,Q,z,C,L,g2,U,G,T,w,K,k2,r,D,k5,m,n⟩:=h;have s:=ly (.i .i64) m.1 m.2;have n2:=ly .off n.1 n.2;simp_all
def nA:qB Alloc where
 put a:=.agg [.row (.i .i64) a.chosen,.si .i64 a.value];dec
  | .agg [r,v]=>match jH (.i .i64) r,v.int .i64 with
   |some c,some v=>some ⟨c,v⟩
   |_,_=>none
  |_=>none;ok v a h:=by
  grind[γF,gL,o8,iO]
 inj a b h:=by
  obtain⟨c,v⟩:=a;obtain⟨e,f⟩:=b;simp only[γF,gL,AV.agg.injEq,Γ,and_true,δd,Value.int.injEq,true_and,δ5] at h;have d:=ly (.i .i64) h.1.1 h.1.2;rw[d,h.2]
def rD:TypeId->Option bp
 |2=>some (.i .i64)
 |3=>some (.i .i64)
 |24=>some (.bB (.i .i64))
 |172=>some (.i .u32)
 |177=>some (.pair .b (.pair (.bB (.i .u32)) (.bB (.i .u32))))
 |40=>some (.pair (.bB (.i .i64)) (.i .i64))
 |106=>some (.bB (.pair .b (.pair (.bB (.i .u32)) (.bB (.i .u32)))))
 |249=>some (.pair (.bB (.pair .b (.pair (.bB (.i .u32)) (.bB (.i .u32))))) (.pair .b (.pair (.bB (.i .u32)) (.bB (.i .u32)))))
 |4=>some .b
 |108=>some (.pair (.i .i64) (.pair (.i .i64) (.pair (.i .i64) (.pair (.i .i64) (.bB (.pair .b (.pair (.bB (.i .u32)) (.bB (.i .u32)))))))))
 |65=>some .off
 |23=>some .fi
 |159=>some (.pair (.i .i64) .b)
 |51=>some (.pair (.bB (.i .i64)) (.pair (.i .i64) (.bB (.pair (.i .i64) (.pair (.i .i64) (.pair (.i .i64) (.pair (.i .i64) (.bB (.pair .b (.pair (.bB (.i .u32)) (.bB (.i .u32))))))))))))
 |_=>none
def rE:List Nat×Bool->Option (bp×bp)
 |([0],false)=>some (.i .i64,.i .i64)
 |([0,0,0,0,0,0,0],true)=>some (.key,.b)
 |([0,0,0,0,0,0,0,0,0,0,0,0,0],true)=>some (.sit,.i .i64)
 |_=>none
mutual
def SV.ren (m:Nat->Option Nat):SV->Option SV
 | .agg h=>(rF m h).map .agg
 | .bI h=>(rF m h).map .bI
 | .ptr g j q=>(m g).map λi=> .ptr i j q
 | .ap g a b c d e=>(m g).map λi=> .ap i a b c d e
 | .rp g a b c d=>(m g).map λi=> .rp i a b c d
 | .ow g n w=>(m g).map λi=> .ow i n w
 | .os g a b c d=>(m g).map λi=> .os i a b c d
 | .oc g a b c d=>(m g).map λi=> .oc i a b c d
 | .mp g=>(m g).map .mp
 | .fn f a b=>match rF m a,rF m b with
  |some r,some u=>some (.fn f r u)
  |_,_=>none
 | .ud=>some .ud
 | .sc v=>some (.sc v)
 | .il k n=>some (.il k n)
 | .si k n=>some (.si k n)
 | .bl b=>some (.bl b)
 | .sb b=>some (.sb b)
 | .row s l=>some (.row s l)
 | .ep s l i o=>some (.ep s l i o)
 | .ia t h=>some (.ia t h)
 | .ite c a b=>some (.ite c a b)
def rF (m:Nat->Option Nat):List SV->Option (List SV)
 |[]=>some []
 |c::h=>match c.ren m,rF m h with
  |some x,some p=>some (x::p)
  |_,_=>none
end
mutual
theorem HN {m:Nat->Option Nat}:∀{v d:SV},v.ren m=some d->v.g.ren m=some d.g
 | .agg p,d,h=>by
  simp only[SV.ren] at h;obtain⟨k,e,rfl⟩:=ε.1 h;simp only[γF,δw,vV e,ν];| .bI p,d,h=>by
  simp only[SV.ren] at h;obtain⟨k,e,rfl⟩:=ε.1 h;simp only[γF,δw,vV e,ν];| .fn f a b,d,h=>by
  simp only[SV.ren] at h;split at h
  ·rename_i r q e o;simp only[γ] at h;subst h;simp only[γF,δw,vV e,vV o]
  ·cases h;| .ptr j _ _,d,h| .ap j _ _ _ _ _,d,h| .rp j _ _ _ _,d,h| .ow j _ _,d,h| .os j _ _ _ _,d,h| .oc j _ _ _ _,d,h| .mp j,d,h=>by
  simp only[SV.ren] at h;obtain⟨i,e,rfl⟩:=ε.1 h;simp only[γF,δw,e,ν];| .ud,d,h| .sc _,d,h| .il _ _,d,h| .si _ _,d,h| .bl _,d,h| .sb _,d,h| .row _ _,d,h| .ep _ _ _ _,d,h| .ia _ _,d,h| .ite _ _ _,d,h=>by
  simp only[SV.ren,γ] at h;subst h;simp only[γF,δw]
theorem vV {m:Nat->Option Nat}:∀{l n:List SV},rF m l=some n->iM m (gL l)=some (gL n)
 |[],n,h=>by grind[rF,gL,iM];|c::p,n,h=>by
  simp only[rF] at h;split at h
  ·rename_i s k e o;simp only[γ] at h;subst h;simp only[gL,iM,HN e,vV o]
  ·cases h
end
def bq.ren (m:Nat->Option Nat):bq->Option bq
 | .cells d e c a=>if a then some (.cells d e c a) else(rF m d).map λb=> .cells b e c a
 | .dead=>some .dead
 | .row s l e a=>some (.row s l e a)
 | .map j f g h i a=>some (.map j f g h i a)
 | .o5 .. =>none
theorem PU {m:Nat->Option Nat}:∀{l:List AV},(∀a∈l,Plain a)->iM m l=some l
 |[],_=>by simp[iM];|a::e,h=>by
  have d:=PU (m:=m) (l:=e) λb c=>h b (by simp[c]);rcases h a (by simp) with⟨v,rfl,_⟩|⟨n,f,rfl,_⟩<;>simp only[iM,δw,d]
theorem PV {m:Nat->Option Nat}:∀{l:List (Value×AV)},(∀a∈l,∃v,a.2= .sc v)->oU m l=some l
 |[],_=>by simp[oU];|(k,c)::e,h=>by
  obtain⟨v,b⟩:=h (k,c) (by simp);simp only at b;subst b;simp only[oU,δw,PV (l:=e) λa d=>h a (by simp[d])]
theorem HO {b sv:bp} {d:Bool} {es:List (b.T×sv.T)}:∀a∈es.map (λp=>(pM b d p.1,nn sv p.2)),∃v,a.2= .sc v:=λa c=>by
 obtain⟨q,_,rfl⟩:=Θ.1 c;exact⟨_,rfl⟩
theorem PW {m:Nat->Option Nat} {x y:bq} (h:x.ren m=some y):x.g.ren m=some y.g:=by
 cases x with
 |dead=>simp[bq.ren] at h;subst h;rfl;|cells o e k a=>
  simp only[bq.ren] at h;cases a with
  |true=>simp only[if_true,γ] at h;subst h;simp only[bq.g,bR.ren,if_true];|false=>
   simp only[ψ,if_false] at h;obtain⟨b,c,rfl⟩:=ε.1 h;simp_all[bq.g,bR.ren,vV]
 |o5 s l e t=>grind[bq.ren];|row s l e a=>
  grind[bq.ren,bq.g,bR.ren,PU,np];|map f n i j d a=>
  simp only[bq.ren,γ] at h;subst h;simp only[bq.g,bR.ren,PV HO,ν];grind
def Ad (m:Nat->Option Nat):cj->Option cj
 |[]=>some []
 |x::r=>match x.ren m,Ad m r with
  |some y,some l=>some (y::l)
  |_,_=>none
theorem PX {m:Nat->Option Nat}:∀{o o':cj},Ad m o=some o'->sw m (gO o)=some (gO o')
 |[],o',h=>by simp[Ad] at h;subst h;rfl;|x::r,o',h=>by
  simp only[Ad] at h;split at h
  ·rename_i y l b a;simp only[γ] at h;subst h;have:=PX a;grind[gO,sw,PW]
  ·cases h
def xM (o:cj) (a:List Nat):List Nat->Option cj
 |[]=>some []
 |i::r=>match o[i]?,xM o a r with
  |some x,some l=>match x.ren (λj=>idxOf a j) with
   |some y=>some (y::l)
   |none=>none
  |_,_=>none
theorem HQ {o:cj} {a:List Nat}:∀{r:List Nat} {o':cj},xM o a r=some o'->kV (gO o) a r=some (gO o')
 |[],o',h=>by simp[xM] at h;subst h;rfl;|i::r,o',h=>by
  simp only[xM] at h;split at h
  ·rename_i x l d b;split at h
   ·rename_i y c;simp only[γ] at h;subst h;simp only[kV,fR d,HQ b,PW c,ν];rfl
   ·cases h
  ·cases h
def xN (o:cj):List Nat->cj->cj
 |[],_=>o
 |_,[]=>o
 |i::r,x::l=>xN (o.set i x) r l
theorem PY:∀{a:List Nat} {o l:cj},gO (xN o a l)=lL (gO o) a (gO l)
 |[],o,l=>by simp[xN,lL];|_::_,o,[]=>by simp[xN,lL,gO];|i::r,o,x::l=>by
  simp only[xN];rw[PY,qA];simp[gO,lL]
def pQ (o:cj):Nat->List SV->List Nat->List Nat
 |0,_,c=>c
 |_,[],c=>c
 |d+1,v::i,c=>
  let f (e:Nat) (c:List Nat):List Nat:=
   if c.contains e then c else
   match o[e]? with
   |some (.cells g _ _ h)=>if h then c++[e] else pQ o d g (c++[e])
   |_=>c++[e];pQ o d i (match v with
   | .agg g| .bI g=>pQ o d g c
   | .ptr e _ _| .ap e _ _ _ _ _| .rp e _ _ _ _| .ow e _ _| .os e _ _ _ _| .oc e _ _ _ _| .mp e=>f e c
   | .fn _ a b=>pQ o d b (pQ o d a c)
   |_=>c)
theorem Ae {o:Store}:∀{d:Nat} {l:List AV} {acc:List Nat},(∀a∈l,Plain a)->cY o d l acc=acc
 |0,_,_,_=>by grind[cY];|d+1,[],_,_=>by grind[cY];|d+1,a::l,acc,h=>by
  have e:=Ae (o:=o) (d:=d) (l:=l) (acc:=acc) λb c=>h b (by simp[c]);rcases h a (by simp) with⟨v,rfl,_⟩|⟨n,f,rfl,_⟩<;>(grind[cY])
theorem PZ {o:Store}:∀{d:Nat} {l:List AV} {acc:List Nat},(∀a∈l,∃v,a= .sc v)->cY o d l acc=acc
 |0,_,_,_=>by simp[cY];|d+1,[],_,_=>by simp[cY];|d+1,a::l,acc,h=>by
  obtain⟨v,rfl⟩:=h a (by simp);simp only[cY];exact PZ λa b=>h a (by simp[b])
theorem Z5 {l:List (Value×AV)} (h:∀a∈l,∃v,a.2= .sc v):∀a∈l.map (·.2),∃v,a= .sc v:=λa b=>by
 grind
def bq.Df:bq->Bool
 | .o5 .. =>false
 |_=>true
theorem P0 {o:cj} (h:o.all bq.Df=true):∀{d:Nat} {vs:List SV} {acc:List Nat},cY (gO o) d (gL vs) acc=pQ o d vs acc:=by
 intro d;induction d with
 |zero=>grind[cY,pQ];|succ d k=>
  intro vs acc;cases vs with
  |nil=>simp[gL,cY,pQ];|cons v vs=>
   have m:∀(b:Nat) (acc:List Nat),(if acc.contains b then acc else
     match(gO o)[b]? with
     |some (.cells f _ _ c)=>if c then acc++[b] else cY (gO o) d f (acc++[b])
     |some (.map j _ c)=>if c then acc++[b] else cY (gO o) d (j.map (·.2)) (acc++[b])
     |_=>acc++[b])=(if acc.contains b then acc else
     match o[b]? with
     |some (.cells f _ _ c)=>if c then acc++[b] else pQ o d f (acc++[b])
     |_=>acc++[b]):=by
    intro b acc;rw[Hj];cases i:o[b]? with
    |none=>rfl;|some x=>
     cases x with
     |o5 s l e t=>
      have:=τ.1 h _ (List.mem_of_getElem? i);grind[bq.Df];|dead=>rfl;|cells f e r c=>grind[bq.g];|row s l e c=>simp only[ν,bq.g,Ae (λa n=>np n),ite_self];|map p u q j w c=>simp only[ν,bq.g,PZ (Z5 HO),ite_self]
   simp only[gL,cY,pQ];rw[k];congr 1;cases v<;>simp only[γF,k]<;>exact m _ _
def HS (C:FuncId->List SV->cj->(SV->cj->Prop)->Prop) (f:FuncId) (args:List SV) (o:cj) (K:SV->cj->Prop):Prop:=
 if o.all bq.Df=false then False else
 let a:=pQ o fO args [];match rF (λj=>idxOf a j) args,xM o a a with
 |some c,some d=>C f c d λr b=>
   if b.length<a.length\/iN.pE a=false then False else
   match r.ren (oV a o.length),Ad (oV a o.length) b with
   |some g,some e=>K g (xN o a (e.take a.length)++e.drop a.length)
   |_,_=>False
 |_,_=>False
theorem Z6 {call:di} {C:FuncId->List SV->cj->(SV->cj->Prop)->Prop}
  (n:∀f args o K,C f args o K->∃(r:SV) (o':cj),call f (gL args) (gO o) true=some (r.g,gO o')/\K r o')
  {f:FuncId} {args:List SV} {o:cj} {K:SV->cj->Prop} (h:HS C f args o K):
  ∃(r:SV) (o':cj),iN call f (gL args) (gO o)=some (r.g,gO o')/\K r o':=by
 unfold HS at h;split at h;·exact h.elim
 rename_i a;simp only[ζo] at a;simp only at h;split at h
 ·rename_i d e i l;obtain⟨r,c,j,b⟩:=n _ _ _ _ h;split at b;·exact b.elim
  ·rename_i p;split at b
   ·rename_i k q m s;refine⟨k,_,?_,b⟩;unfold iN;simp only[P0 a];rw[vV i,HQ l];simp only[j,oh];rw[if_neg p,HN m,PX s];simp only[PI,PY];simp[gO]
   simp_all
 simp_all
section
variable {P:Program} {T:Tab} {p:ja} {Λ:Nat->cG}
theorem Z7 (A:kG P T) (y:pO T.K p.C) (w:∀f F,p.it f=some F->T.fn f=some F) {f:FuncId} {F:fz} (u:T.fn f=some F) {args:List SV} {o:cj} {r:AV} {o':Store} (G:T.K f (gL args) (gO o) true=none) (n:args.length=F.params)
  {Q:SV->cj->Prop} (m:∀v s,Q v s->v.g=r/\gO s=o') (h:zR p Λ F args o Q):gX P f=true/\kF P f (gL args) (gO o) r o':=by
 unfold zR at h;have i:=vP y w h;have e:(cy.mk (nu 0 args) o).g=⟨iw 0 (gL args),gO o⟩:=by simp[cy.g,vQ]
 rw[e] at i;have j:(gO o).length=o.length:=oh o;rw[<-j] at i;have E:∀(a:cy),(od a F.res λv=>if v.bZ (gO o).length&&a.o.all (λx=>x.bZ (gO o).length)&&decide ((gO o).length<=a.o.length) then Q v (a.o.take (gO o).length) else False)->
   (nU a.g F.res).bind (λl=>finish true (gO o).length l a.g.o)=some (r,o'):=by
  intro a t;obtain⟨l,k,b⟩:=xJ t;rw[k];simp only[δP,finish,if_true];split at b
  ·rename_i q;simp only[θ,decide_eq_true_eq,τ] at q;obtain⟨⟨z,D⟩,B⟩:=q;have d:∀x∈a.g.o,x.bZ (gO o).length=true:=by
    grind[cy.g,gO,C2]
   rw[PG (by grind[zT]) d (by grind[cy.g,oh])];rw[<-(m _ _ b).1,<-(m _ _ b).2];simp_all[cy.g,gO]
  ·exact b.elim
 obtain⟨k,b,_⟩:=CN A u (o:=gO o) (own:=true) G (by grind[jW]) (v:=r) (o':=o') (i.mono λc s H=>by
  obtain⟨a,rfl,t⟩:=H;cases c<;>grind);simp_all
end
structure dH where
 f:FuncId
 α:Type
 put:α->List SV
 st:α->cj
 dec:List SV->cj->Option α
 ok:∀v o a,dec v o=some a->gL v=gL (put a)/\gO o=gO (st a)
 inj:∀a b,gL (put a)=gL (put b)->gO (st a)=gO (st b)->a=b
 dom:α->Prop
 res:α->SV
 out:α->cj
def ef (P:Program) (c:dH):Prop:=∀a,c.dom a->gX P c.f=true/\kF P c.f (gL (c.put a)) (gO (c.st a)) (c.res a).g (gO (c.out a))
def oo (f:FuncId):List dH->Option dH
 |[]=>none
 |c::r=>bif δs c.f f then some c else oo f r
theorem P3:∀{L:List dH} {f:FuncId} {c:dH},oo f L=some c->c.f=f/\c∈L
 |[],_,_,h=>by cases h;|d::L,f,c,h=>by
  simp only[oo] at h;cases a:δs d.f f with
  |true=>
   simp_all;|false=>
   rw[a] at h;simp only[cond_false] at h;obtain⟨b,e⟩:=P3 h;simp_all
def P4 (W:List dH) (f:FuncId) (args:List SV) (o:cj) (K:SV->cj->Prop):Prop:=
 match oo f W with
 |some c=>jb (c.dec args o) λa=>c.dom a/\K (c.res a) (c.out a)
 |none=>False
open Classical in
noncomputable def um (W:List dH) (f:FuncId) (args:List AV) (o:Store):Option (AV×Store):=
 match oo f W with
 |some c=>if h:∃a,args=gL (c.put a)/\o=gO (c.st a)/\c.dom a then some ((c.res (δS h)).g,gO (c.out (δS h))) else none
 |none=>none
noncomputable def gP (W:List dH):nz:=⟨um W,λf a o K=>HS (P4 W) f a o K⟩
theorem kY {P:Program} {W:List dH} (u:∀c∈W,ef P c):qE P (gP W) where
 K:=λf d o r w h=>by
  simp only[gP,um] at h;split at h
  ·rename_i c k;obtain⟨rfl,v⟩:=P3 k;split at h
   ·rename_i e;simp only[γ,ι] at h;generalize t:δS e=b at h;have n:=εd e;rw[t] at n;obtain⟨p,s,l⟩:=n;obtain⟨j,m⟩:=u c v _ l;simp_all
   ·cases h
  ·cases h
 C:=λq g f d o K h=>by
  refine Z6 ?_ h;intro f d o K i;simp only[P4] at i;split at i
  ·rename_i c k;obtain⟨a,p,s,l⟩:=jo i;refine⟨_,_,?_,l⟩;rw[g];obtain⟨j,m⟩:=c.ok _ _ _ p;have e:∃b,gL d=gL (c.put b)/\gO o=gO (c.st b)/\c.dom b:=⟨a,j,m,s⟩;simp only[gP,um,k,dif_pos e];have:δS e=a:=c.inj _ _ ((εd e).1.symm.trans j) ((εd e).2.1.symm.trans m);rw[this]
  simp_all
theorem P5 {P:Program} {i:FuncId->Option fz} {L:List bM} {W:List dH} (c:dH) {F:fz} {m:TypeId->Option bp} {j:List Nat×Bool->Option (bp×bp)} {Λ:c.α->Nat->cG}
  (q:kG P ⟨i,λ_ _ _ _=>none⟩) (k:∀c∈W,ef P c) (r:∀c∈L,Holds P c)
  (n:i c.f=some F) (e:∀a,(c.put a).length=F.params)
  (a:c.α) (o:∀d,oo c.f W=some d->∀b,gL (c.put a)=gL (d.put b)->gO (c.st a)=gO (d.st b)->¬d.dom b)
  (h:zR (om L (gP W) m j i) (Λ a) F (c.put a) (c.st a) λv s=>v.same (c.res a)/\kH s (c.out a)):
  gX P c.f=true/\kF P c.f (gL (c.put a)) (gO (c.st a)) (c.res a).g (gO (c.out a)):=by
 refine Z7 (p:=om L (gP W) m j i) (Λ:=Λ a) (Q:=λv s=>v.same (c.res a)/\kH s (c.out a)) (vS (kY k) r q) (vT (kY k)) (λ_ _ h=>h) n ?_ (e a) (λv s l=>⟨l.1,xI l.2⟩) ?_
 ·simp only[qD,sK,if_true,gP,um];grind
 ·exact h
mutual
def kZ (o:cj) (k:Nat):SV->(SV->Prop)->Prop
 | .ow e n h,K=>if k<=e then(match o[e]? with
   |some (.row s l _ true)=>if h=s.sz then n=l.length/\K (.row s l) else False
   |some (.row _ _ _ false)=>K (.ow e n h)
   |_=>False) else K (.ow e n h)
 | .ptr e f t,K=>if k<=e then(match o[e]? with
   |some (.cells _ _ _ false)=>K (.ptr e f t)
   |_=>False) else K (.ptr e f t)
 | .agg g,K=>sM o k g λd=>K (.agg d)
 | .bI g,K=>sM o k g λd=>K (.bI d)
 | .ud,K=>K .ud
 | .sc v,K=>K (.sc v)
 | .il q n,K=>K (.il q n)
 | .si q n,K=>K (.si q n)
 | .bl b,K=>K (.bl b)
 | .sb b,K=>K (.sb b)
 | .row s l,K=>K (.row s l)
 | .mp i,K=>K (.mp i)
 | .ia t g,K=>K (.ia t g)
 | .fn f a b,K=>sM o k a λm=>sM o k b λj=>K (.fn f m j)
 |_,_=>False
def sM (o:cj) (k:Nat):List SV->(List SV->Prop)->Prop
 |[],K=>K []
 |c::g,K=>kZ o k c λp=>sM o k g λd=>K (p::d)
end
section
variable {o:cj} {k:Nat}
mutual
theorem HT:∀{v:SV} {K:SV->Prop},kZ o k v K->∃u:SV,v.g.bU (gO o) (λi=>decide (k<=i))=some u.g/\K u
 | .ow B n A,K,h=>by
  simp only[kZ] at h;split at h
  ·rename_i q;split at h
   ·rename_i s l e w;split at h
    ·rename_i r;subst r;obtain⟨rfl,h⟩:=h;refine⟨_,?_,h⟩;have y:Δ (l.length*s.sz) (cF s l)=cF s l:=List.take_of_length_le (by grind[fe]);simp_all[γF,AV.bU,fR,bq.g,fe]
    simp_all
   ·rename_i s l e w;refine⟨_,?_,h⟩;simp_all[γF,AV.bU,fR,bq.g]
   simp_all
  ·rename_i q;refine⟨_,?_,h⟩;simp_all[γF,AV.bU,if_neg];| .ptr B f t,K,h=>by
  simp only[kZ] at h;split at h
  ·rename_i q;split at h
   ·rename_i j e A w;refine⟨_,?_,h⟩;simp_all[γF,AV.bU,fR,bq.g]
   simp_all
  ·rename_i q;refine⟨_,?_,h⟩;simp_all[γF,AV.bU,if_neg];| .agg j,K,h=>by
  simp only[kZ] at h;obtain⟨d,p,m⟩:=xO h;grind[γF,AV.bU];| .bI j,K,h=>by
  simp only[kZ] at h;obtain⟨d,p,m⟩:=xO h;grind[γF,AV.bU];| .ud,K,h=>⟨.ud,by grind[γF,AV.bU],by grind[kZ]⟩
 | .sc v,K,h=>⟨.sc v,by grind[γF,AV.bU],by grind[kZ]⟩
 | .il k n,K,h=>⟨.il k n,by grind[γF,AV.bU],by grind[kZ]⟩
 | .si k n,K,h=>⟨.si k n,by grind[γF,AV.bU],by grind[kZ]⟩
 | .bl b,K,h=>⟨.bl b,by grind[γF,AV.bU],by grind[kZ]⟩
 | .sb b,K,h=>⟨.sb b,by grind[γF,AV.bU],by grind[kZ]⟩
 | .row s l,K,h=>⟨.row s l,by grind[γF,AV.bU],by grind[kZ]⟩
 | .mp i,K,h=>⟨.mp i,by grind[γF,AV.bU],by grind[kZ]⟩
 | .ia t j,K,h=>⟨.ia t j,by grind[γF,AV.bU],by grind[kZ]⟩
 | .fn f a b,K,h=>by
  simp only[kZ] at h;obtain⟨D,p,m⟩:=xO h;obtain⟨C,z,x⟩:=xO m;grind[γF,AV.bU];| .ep ..,K,h| .ap ..,K,h| .rp ..,K,h| .os ..,K,h| .oc ..,K,h| .ite ..,K,h=>by simp only[kZ] at h
theorem xO:∀{j:List SV} {K:List SV->Prop},sM o k j K->∃d:List SV,gW (gO o) (λi=>decide (k<=i)) (gL j)=some (gL d)/\K d
 |[],K,h=>⟨[],by simp[gL,gW],by grind[sM]⟩
 |c::j,K,h=>by
  simp only[sM] at h;obtain⟨E,p,m⟩:=HT h;obtain⟨d,z,x⟩:=xO m;grind[gL,gW]
end
def o9 (o:cj) (k:Nat):Nat->cj->(cj->Prop)->Prop
 |_,[],K=>K []
 |i,x::r,K=>match x with
  | .cells f e m false=>sM o k f λc=>o9 o k (i+1) r λa=>K (.cells c e m false::a)
  | .row s l e b=>o9 o k (i+1) r λa=>K ((if b&&decide (k<=i) then .dead else .row s l e b)::a)
  | .map g n d j h b=>o9 o k (i+1) r λa=>K (.map g n d j h b::a)
  | .dead=>o9 o k (i+1) r λa=>K (.dead::a)
  |_=>False
theorem xQ:∀{i:Nat} {r:cj} {K:cj->Prop},o9 o k i r K->∃r' mid,jE (gO o) (λi=>decide (k<=i)) (gO r)=some mid/\fQ (λi=>decide (k<=i)) i mid=gO r'/\K r'
 |i,[],K,h=>⟨[],[],rfl,rfl,h⟩
 |i,x::r,K,h=>by
  cases x with
  |dead=>
   simp only[o9] at h;obtain⟨r',mid,m,b,e⟩:=xQ h;grind[gO,bq.g,jE,bR.bU,fQ];|cells A c z a=>
   cases a with
   |true=>grind[o9];|false=>
    simp only[o9] at h;obtain⟨j,y,f⟩:=xO h;obtain⟨r',mid,m,b,e⟩:=xQ f;refine⟨_,.cells (gL j) c z false::mid,?_,?_,e⟩;all_goals simp_all[gO,bq.g,jE,bR.bU,fQ]
  |o5 s l c t=>grind[o9];|row s l c a=>
   simp only[o9] at h;obtain⟨r',mid,m,b,e⟩:=xQ h;refine⟨_,(bq.row s l c a).g::mid,?_,?_,e⟩
   ·have d:(bq.row s l c a).g.bU (gO o) (λi=>decide (k<=i))=some (bq.row s l c a).g:=by
     cases a with
     |true=>simp only[bq.g,bR.bU,if_true];|false=>
      simp only[bq.g,bR.bU,ψ,if_false];grind[Db,np]
    grind[gO,jE]
   ·cases a with
    |true=>
     simp only[bq.g,fQ,Bool.true_and];by_cases n:k<=i
     ·simp only[n,decide_true,if_true];rw[b];rfl
     ·simp only[n,decide_false,ψ,if_false];rw[b];rfl;|false=>simp only[bq.g,fQ,Bool.false_and,ψ,if_false];rw[b];rfl
  |map u p q w v a=>
   simp only[o9] at h;obtain⟨r',mid,m,b,e⟩:=xQ h;have d:(bq.map u p q w v a).g.bU (gO o) (λi=>decide (k<=i))=some (bq.map u p q w v a).g:=by
    cases a with
    |true=>simp only[bq.g,bR.bU,if_true];|false=>
     simp only[bq.g,bR.bU,ψ,if_false];rw[HF HO,ν]
   grind[gO,jE,bq.g,fQ]
end
def Dh (r:SV) (o:cj) (K:SV->cj->Prop):Prop:=
 kZ o 0 r λc=>o9 o 0 0 o λb=>
  if b.all bq.Df=false then False else
  let a:=pQ b fO [c] [];if iN.pE a then match c.ren (λj=>idxOf a j),xM b a a with
   |some e,some d=>K e d
   |_,_=>False
  else False
theorem Z8 {r:SV} {o:cj} {K:SV->cj->Prop} (h:Dh r o K):∃r' o',lM 0 r.g (gO o)=some (r'.g,gO o')/\K r' o':=by
 unfold Dh at h;obtain⟨m,n,k⟩:=HT h;obtain⟨c,i,e,f,a⟩:=xQ k;split at a;·exact a.elim
 rename_i b;simp only[ζo] at b;simp only at a;split at a
 ·rename_i t;split at a
  ·rename_i j l p q;refine⟨j,l,?_,a⟩;unfold lM;rw[n,e];simp only[f,List.take_zero,List.flatMap_nil,List.range_zero];have s:=P0 (o:=c) b (d:=fO) (vs:=[m]) (acc:=[]);simp_all[gL,HN,HQ]
  simp_all
 simp_all
def HU (p:ja) (Λ:Nat->cG) (F:fz) (args:List SV) (Q:SV->cj->Prop):Prop:=
 wpS p 0 F.body Λ ⟨nu 0 args,[]⟩ λa b=>match a with
  | .exit _=>False
  | .goto _=>False
  |_=>od b F.res λr=>Dh r b.o Q
theorem Z9 {P:Program} {T:Tab} {p:ja} {Λ:Nat->cG} (y:kG P T) (t:pO T.K p.C) (x:∀f F,p.it f=some F->T.fn f=some F) {f:FuncId} {F:fz} (m:T.fn f=some F) {args:List SV} {r:AV} {o':Store} (A:T.K f (gL args) [] true=none) (j:args.length=F.params)
  {Q:SV->cj->Prop} (D:∀v s,Q v s->v.g=r/\gO s=o') (h:HU p Λ F args Q):gX P f=true/\kF P f (gL args) [] r o':=by
 unfold HU at h;have k:=vP t x h;have b:(cy.mk (nu 0 args) []).g=⟨iw 0 (gL args),[]⟩:=by simp[cy.g,vQ,gO]
 rw[b] at k;have n:∀(a:cy),(od a F.res λv=>Dh v a.o Q)->(nU a.g F.res).bind (λc=>finish true 0 c a.g.o)=some (r,o'):=by
  intro a l;obtain⟨c,e,i⟩:=xJ l;obtain⟨u,q,w,B⟩:=Z8 i;rw[e];simp only[δP,finish,if_true];have:lM 0 c.g a.g.o=some (u.g,gO q):=w;grind
 obtain⟨e,i,_⟩:=CN y m (o:=[]) (own:=true) A (by grind[jW]) (v:=r) (o':=o') (k.mono λd s z=>by
  obtain⟨a,rfl,l⟩:=z;cases d<;>simp_all);simp_all
theorem aac {W:List dH} {f:FuncId} {args:List AV} {o:Store} (h:oo f W=none):um W f args o=none:=by
 grind[um]
open Go.Proofs.YtbnhiekmnpikhaaGreat.Ir
open Go.Proofs
def Di (f:Nat):List (Nat×List RH)->Option (List RH)
 |[]=>none
 |e::r=>bif δs e.1 f then some e.2 else Di f r
noncomputable def jK (f:FuncId):Option fz:=
 match Di f M8 with
 |none=>none
 |some H=>match Tryz.prog.funcs[f]? with
  |none=>none
  |some g=>BZ Tryz.prog H g
noncomputable def fG (f:FuncId):fz:=(jK f).getD ⟨0,0,.skip,[]⟩
theorem Af {f:FuncId} (h:(jK f).isSome=true):jK f=some (fG f):=by
 unfold fG;cases q:jK f<;>simp_all
theorem P6 {f:Nat} {H:List RH} {p:Nat->Bool}:∀{l:List (Nat×List RH)},Di f l=some H->(l.all λe=>p e.1)=true->p f=true
 |[],h,_=>by cases h;|e::r,h,k=>by
  simp only[Di] at h;simp only[List.all_cons,θ] at k;cases q:δs e.1 f with
  |true=>simp_all;|false=>rw[q] at h;exact P6 h k.2
theorem aad:(M8.all λe=>gX Tryz.prog e.1)=true:=by kernel_rfl
theorem sN:kG Tryz.prog ⟨jK,λ_ _ _ _=>none⟩ where
 fn:=λf F h=>by
  simp only[jK] at h;split at h;·cases h
  ·rename_i H q;split at h;·cases h
   ·rename_i g r;exact⟨g,H,r,h,P6 (p:=gX Tryz.prog) q aad⟩
 K:=λ_ _ _ _ _ _ h=>by cases h
def lk {a:Type}:a->Nat->cG:=λ_ _=> .look
structure Vc (A:Prop):Prop where
 out:A
theorem bQ {A:Prop} (B:Prop) (h:B=A) (a:B):Vc A:=⟨h▸a⟩
theorem con {L:List bM} {W:nz} (c:bM) (i:c.α->Nat->cG) (j:qE Tryz.prog W) (e:∀c∈L,Holds Tryz.prog c)
  
  (h:∀a,c.dom a->Vc (uh (om L W rD rE jK) (i a) (fG c.f) (c.A.put a) λv=>v.sH (c.res a))) (k:(jK c.f).isSome=true:=by kernel_rfl) (d:pP c.f L=none:=by kernel_rfl) (b:∀a,(c.A.put a).length=(fG c.f).params:=by intro _;kernel_rfl):Holds Tryz.prog c:=
 holds_of c sN j e (Af k) d b λa g=>(h a g).out
theorem cH {L:List bM} (c:bM) (e:c.α->Nat->cG) (g:∀c∈L,Holds Tryz.prog c) (h:∀a,c.dom a->Vc (uh (om L nz.none rD rE jK) (e a) (fG c.f) (c.A.put a) λv=>v.sH (c.res a)))
  (i:(jK c.f).isSome=true:=by kernel_rfl) (d:pP c.f L=none:=by kernel_rfl) (b:∀a,(c.A.put a).length=(fG c.f).params:=by intro _;kernel_rfl):Holds Tryz.prog c:=con c e (qE.none _) g h i d b
theorem aae {L:List bM} {W:nz} (c:bM) (l:FuncId->Bool) (i:c.α->Nat->cG) (j:qE Tryz.prog W) (e:∀c∈L,Holds Tryz.prog c)
  
  (h:∀a,c.dom a->Vc (uh (HL L W rD rE jK l) (i a) (fG c.f) (c.A.put a) λv=>v.sH (c.res a))) (k:(jK c.f).isSome=true:=by kernel_rfl) (d:pP c.f L=none:=by kernel_rfl) (b:∀a,(c.A.put a).length=(fG c.f).params:=by intro _;kernel_rfl):Holds Tryz.prog c:=
 Z4 c sN j e (Af k) d b λa g=>(h a g).out
theorem lz {L:List bM} {W:List dH} (c:dH) (Λ:c.α->Nat->cG) (i:∀c∈W,ef Tryz.prog c) (e:∀c∈L,Holds Tryz.prog c)
  
  (h:∀a,c.dom a->Vc (zR (om L (gP W) rD rE jK) (Λ a) (fG c.f) (c.put a) (c.st a) λv s=>v.same (c.res a)/\kH s (c.out a))) (g:(jK c.f).isSome=true:=by kernel_rfl) (b:∀a,(c.put a).length=(fG c.f).params:=by intro _;kernel_rfl) (k:oo c.f W=none:=by kernel_rfl):ef Tryz.prog c:=
 λa j=>P5 c sN i e (Af g) b a (λd l=>by simp_all) (h a j).out
theorem aaf {L:List bM} {W:List dH} (c:dH) (F:fz) (i:c.α->Nat->cG) (k:∀c∈W,ef Tryz.prog c) (e:∀c∈L,Holds Tryz.prog c)
  
  (h:∀a,c.dom a->Vc (zR (om L (gP W) rD rE jK) (i a) F (c.put a) (c.st a) λv s=>v.same (c.res a)/\kH s (c.out a))) (g:jK c.f=some F:=by kernel_rfl) (b:∀a,(c.put a).length=F.params:=by intro _;kernel_rfl) (l:oo c.f W=none:=by kernel_rfl):ef Tryz.prog c:=
 λa j=>P5 c sN k e g b a (λd m=>by simp_all) (h a j).out
theorem HV {L:List bM} {W:List dH} (c:dH) (g:Nat->Option (Nat×Nat×Nat)) (Λ:c.α->Nat->cG) (i:∀c∈W,ef Tryz.prog c) (j:∀c∈L,Holds Tryz.prog c)
  
  (h:∀a,c.dom a->Vc (HU ⟨⟨vR L,(gP W).C⟩,rD,rE,g,λ_=>none,λ_=>false⟩ (Λ a) (fG c.f) (c.put a) λv s=>v.same (c.res a)/\kH s (c.out a))) (l:(jK c.f).isSome=true:=by kernel_rfl) (b:∀a,(c.put a).length=(fG c.f).params:=by intro _;kernel_rfl) (d:∀a,c.st a=[]:=by intro _;rfl) (k:oo c.f W=none:=by kernel_rfl):ef Tryz.prog c:=
 λa m=>by
  rw[d a];refine Z9 (p:=⟨⟨vR L,(gP W).C⟩,rD,rE,g,λ_=>none,λ_=>false⟩) (Λ:=Λ a) (Q:=λv s=>v.same (c.res a)/\kH s (c.out a)) (vS (kY i) j sN) (vT (kY i)) (λ_ _ h=>by cases h) (Af l) ?_ (b a) (λv s e=>⟨e.1,xI e.2⟩) (h a m).out;simp_all[qD,sK,gP,aac]
open Go.ChangeShapes Go.WideShapes Go.RowKit
abbrev kh:dM:=⟨λ_=>False,0⟩
instance (s:bp):Inhabited s.T:=⟨s.dflt⟩
theorem aag (b:Nat):Fr kh [] b:=⟨by rintro⟨i,c,h⟩;simp at h,λh=>h⟩
theorem P7 {A:dM} {w:World} {σ:bY} {o:Store}:∀{vs:List Value},(∀v∈vs,v.oneCell'=true)->bG A w σ o (vs.map .sc) vs
 |[],_=>by simp[bG];|v::vs,h=>by
  simp only[ξ,bG];exact⟨v,vs,rfl,by grind[bw],P7 λu a=>h u (by simp[a])⟩
theorem P8 {A:dM} {w:World} {σ:bY} {o:Store}:∀{a b:List AV} {x:Option Addr} {j:Nat},dr A w σ o a x j->dr A w σ o b x (j+a.length)->dr A w σ o (a++b) x j
 |[],b,x,j,_,h=>by simpa using h;|c::a,b,x,j,h,k=>by
  simp only[List.cons_append,dr] at h ⊢;refine⟨h.1,P8 h.2 ?_⟩;grind
def Reads (P:Program) (t:TypeId) (s:bp):Prop:=
 ∀(H:Type) (e:TypeId×Value->H) (w:World) (d:Nat) (a:Nat->Bool) (c:Bool) (b:Nat) (f:List Value) (x:DataW H×List MemPlace),DataW.trod e P w d a c b t f=some x->∃y:s.T,f=dy s y
theorem aah {P:Program} {t:TypeId} {k:IntKind} (a:P.underlying t=some (.int k)):Reads P t (.i k):=λ_ _ _ _ _ _ _ b _ h=>by
 obtain⟨n,rfl,_,_⟩:=DataW.trod_int a h;exact⟨n,rfl⟩
theorem aai {w:World} {base n:Nat} {a:Addr} {cs:List Value} (h:w.cells? base a n=some cs):cs.length=n/\∀i v,cs[i]?=some v->w.cell? (a.add i)=some v:=by
 unfold World.cells? at h;split at h
 ·obtain⟨c,f⟩:=Ce h;simp only[ζq] at c;refine⟨c,λi v d=>?_⟩;have j:=(List.getElem?_eq_some_iff.1 d).1;obtain⟨b,g,e⟩:=f i i (by simp_all);simp_all
 ·cases h
def Dj (P:Program) (t:TypeId) (s:bp):Prop:=
 ∀(H:Type) (d:TypeId×Value->H) (w:World) (a:Nat->Bool) (c:Bool) (b:Nat) (e:List Value) (x:DataW H×List MemPlace),DataW.trod d P w 0 a c b t e=some x->∃y:s.T,bG kh w [] [] (dP s y) e
theorem Reads.g {P:Program} {t:TypeId} {s:bp} (h:Reads P t s) (i:s.flat=true:=by rfl):Dj P t s:=λH d w a c b e x f=>by
 obtain⟨y,rfl⟩:=h H d w 0 a c b e x f;exact⟨y,by grind[CO,P7,CQ]⟩
theorem P9 {w:World} {a:Addr}:∀{cs:List AV} {vs:List Value} {j:Nat},bG kh w [] [] cs vs->(∀i v,vs[i]?=some v->w.cell? (a.add (j+i))=some v)->dr kh w [] [] cs (some a) j
 |[],_,_,_,_=>by simp[dr];|c::cs,vs,j,b,d=>by
  simp only[bG] at b;obtain⟨v,r,rfl,e,f⟩:=b;simp only[dr];refine⟨⟨a,v,rfl,aag _,by simpa using d 0 v (by simp),e⟩,P9 f λi u g=>?_⟩;have:=d (i+1) u (by simp_all);grind
theorem Qa {w:World} {a:Addr} {s:bp}:∀{l:List s.T} {i0:Nat},(∀i y,l[i]?=some y->∃cs,w.cells? 0 (a.add ((i0+i)*s.sz)) s.sz=some cs/\bG kh w [] [] (dP s y) cs)->dr kh w [] [] (cF s l) (some a) (i0*s.sz)
 |[],_,_=>by simp[cF,dr];|y::l,i0,h=>by
  obtain⟨cs,b,c⟩:=h 0 y (by simp);rw[Nat.add_zero] at b;obtain⟨d,g⟩:=aai b;have e:cF s (y::l)=dP s y++cF s l:=by simp[cF]
  rw[e];refine P8 (P9 c λi v j=>?_) ?_;·grind[add_add]
  ·rw[lT,show i0*s.sz+s.sz=(i0+1)*s.sz from by grind];refine Qa λi z f=>?_;have:=h (i+1) z (by simp_all);grind
theorem aaj {P:Program} {t e:TypeId} {s:bp} (A:P.underlying t=some (.slice e)) (r:Dj P e s) (I:P.cellsOf e=s.sz)
  {H:Type} {enc:TypeId×Value->H} {w:World} {c:Nat->Bool} {j:Bool} {d:Nat} {cs:List Value} {x:DataW H×List MemPlace} (h:DataW.trod enc P w 0 c j d t cs=some x):
  ∃(v:Value) (l:List s.T),cs=[v]/\bw kh w [] [] (Ω s l).g v:=by
 rcases Go.Deep.open_slice A h with⟨rfl,_⟩|⟨a,b,k,m,n,D,F,rfl,M,z,L,o,_,q⟩;·exact⟨_,[],rfl,by grind[γF,bw,cF,dB,dr]⟩
 ·have B:b<=m:=by grind
  have C:∀i,i<b->∃y:s.T,∃cs,w.cells? 0 (a.add (i*s.sz)) s.sz=some cs/\bG kh w [] [] (dP s y) cs:=λi J=>by
   obtain⟨p,K,E⟩:=q i (by omega);obtain⟨y,u⟩:=r _ _ _ _ _ _ _ _ E;grind
  obtain⟨f,G⟩:=Go.Deep.choose_lt C;refine⟨_,(ω b).map f,rfl,?_⟩;simp only[γF,bw,List.length_map,ζq];refine⟨some a,k,rfl,z,o6 _ _,?_⟩;have:=Qa (w:=w) (a:=a) (s:=s) (l:=(ω b).map f) (i0:=0) (λi y u=>by
   grind);simp_all
theorem Qb {P:Program} {t e:TypeId} {s:bp} (i:P.underlying t=some (.slice e)) (f:Reads P e s) (j:P.cellsOf e=s.sz)
  {H:Type} {enc:TypeId×Value->H} {w:World} {a:Nat->Bool} {c:Bool} {b:Nat} {cs:List Value} {x:DataW H×List MemPlace} (h:DataW.trod enc P w 0 a c b t cs=some x) (d:s.flat=true:=by rfl):
  ∃(v:Value) (l:List s.T),cs=[v]/\bw kh w [] [] (Ω s l).g v:=aaj i (f.g d) j h
theorem aak {cs:List Value} {i:Nat} {v:Value} (h:(cs.drop i).take 1=[v]):cs[i]?=some v:=by
 have:((cs.drop i).take 1)[0]?=some v:=by rw[h];rfl
 grind
theorem aal {P:Program} {t e:TypeId} (s:P.underlying t=some (.array 6 e)) (F:P.underlying e=some (.int .i64)) (H:P.cellsOf e=1) (l:P.cellsOf t=6):Reads P t .fi:=λ_ _ _ _ _ _ _ c _ h=>by
 obtain⟨z,m,_,_,b,v,D⟩:=DataW.trod_array s h;have a:∀i,i<6->∃n,c[i]?=some (.int .i64 n):=λi w=>by
  grind[DataW.trod_int,aak]
 rw[l] at b;match c,b,a with
 |[C,A,I,G,B,E],_,a=>
  obtain⟨o,y⟩:=a 0 (by omega);obtain⟨x,d⟩:=a 1 (by omega);obtain⟨p,u⟩:=a 2 (by omega);obtain⟨j,r⟩:=a 3 (by omega);obtain⟨k,f⟩:=a 4 (by omega);obtain⟨q,g⟩:=a 5 (by omega);simp only[List.getElem?_cons_zero,List.getElem?_cons_succ,γ] at y d u r f g;exact⟨⟨o,x,p,j,k,q⟩,by grind[dy,iv]⟩
theorem aam {P:Program} {t b i v:TypeId} {fs:Array Field} (w:P.underlying t=some (.struct fs)) (r:P.cellsOf t=8) (N:(fs[0]?).map (λf=>(f.type,f.offset))=some (i,0)) (O:(fs[1]?).map (λf=>(f.type,f.offset))=some (b,1)) (u:(fs[2]?).map (λf=>(f.type,f.offset))=some (v,7))
  (x:P.underlying i=some (.int .i64)) (e:P.cellsOf i=1) (q:P.underlying v=some (.int .i64)) (k:P.cellsOf v=1) (z:Reads P b .fi) (d:P.cellsOf b=6) (I:fs.size=3):Reads P t .off:=λ_ _ _ _ _ _ _ B _ h=>by
 obtain⟨T,m,_,_,n,K,j⟩:=DataW.trod_struct w h;rw[r] at n;obtain⟨F,C,g⟩:=ε.1 N;obtain⟨s,D,c⟩:=ε.1 O;obtain⟨J,A,a⟩:=ε.1 u;simp only[ι] at g c a;have o:=j 0 F C;have l:=j 1 s D;have p:=j 2 J A;rw[g.1,g.2,e,μ (by omega)] at o;rw[c.1,c.2,d,μ (by omega)] at l;rw[a.1,a.2,k,μ (by omega)] at p;obtain⟨G,M,_⟩:=DataW.trod_int x o;obtain⟨y,E⟩:=z _ _ _ _ _ _ _ _ _ l;obtain⟨H,L,_⟩:=DataW.trod_int q p;match B,n with
 |[S,U,R,V,Y,X,Q,W],_=>
  simp[dy] at M E L;exact⟨⟨G,y,H⟩,by grind[dy,iv]⟩
theorem aan {P:Program} {t b k o:TypeId} {fs:Array Field} (ht:P.underlying t=some (.struct fs)) (hn:P.cellsOf t=20) (a7:fs.size=5)
  (h0:(fs[0]?).map (λf=>(f.type,f.offset))=some (b,0)) (h1:(fs[1]?).map (λf=>(f.type,f.offset))=some (b,6)) (h2:(fs[2]?).map (λf=>(f.type,f.offset))=some (b,12))
  (U:(fs[3]?).map (λf=>(f.type,f.offset))=some (k,18)) (h4:(fs[4]?).map (λf=>(f.type,f.offset))=some (o,19))
  (s:Reads P b .fi) (d:P.cellsOf b=6) {e:TypeId} (hk:P.underlying k=some (.slice e)) (z:Reads P e (.i .i64)) (A:P.cellsOf e=1) (y:P.cellsOf k=1)
  {f:TypeId} (ho:P.underlying o=some (.slice f)) (F:Reads P f .off) (u:P.cellsOf f=8) (v:P.cellsOf o=1)
  {H:Type} {enc:TypeId×Value->H} {w:World} {c:Nat->Bool} {q:Bool} {j:Nat} {cs:List Value} {x:DataW H×List MemPlace} (h:DataW.trod enc P w 0 c q j t cs=some x):
  ∃p:bn,bG kh w [] [] (gL p.ss) cs:=by
 obtain⟨xs,m,_,_,O,a1,l⟩:=DataW.trod_struct ht h;rw[hn] at O;obtain⟨f0,e0,E⟩:=ε.1 h0;obtain⟨f1,e1,D⟩:=ε.1 h1;obtain⟨Z,e2,r⟩:=ε.1 h2;obtain⟨f3,T,B⟩:=ε.1 U;obtain⟨f4,e4,C⟩:=ε.1 h4;simp only[ι] at E D r B C;have S:=l 0 f0 e0;have I:=l 1 f1 e1;have R:=l 2 Z e2;have J:=l 3 f3 T;have M:=l 4 f4 e4;rw[E.1,E.2,d,μ (by omega)] at S;rw[D.1,D.2,d,μ (by omega)] at I;rw[r.1,r.2,d,μ (by omega)] at R;rw[B.1,B.2,y,μ (by omega)] at J;rw[C.1,C.2,v,μ (by omega)] at M;obtain⟨y0,K⟩:=s _ _ _ _ _ _ _ _ _ S;obtain⟨y1,Q⟩:=s _ _ _ _ _ _ _ _ _ I;obtain⟨y2,G⟩:=s _ _ _ _ _ _ _ _ _ R;obtain⟨v3,l3,L,r3⟩:=Qb hk z A J;obtain⟨v4,W,N,r4⟩:=Qb ho F u M;match cs,O with
 |[c0,c1,c2,c3,c4,c5,c6,c7,c8,c9,a0,a5,V,a6,a8,a2,a4,Y,a3,X],_=>
  simp[dy,iv] at K Q G L N;obtain⟨rfl,rfl,rfl,rfl,rfl,rfl⟩:=K;obtain⟨rfl,rfl,rfl,rfl,rfl,rfl⟩:=Q;obtain⟨rfl,rfl,rfl,rfl,rfl,rfl⟩:=G;subst L;subst N;refine⟨⟨y0,y1,y2,l3,W⟩,?_⟩;have a:∀n:Int,bw kh w [] [] (γd .i64 n).g (.int .i64 n):=λn=>by simp[γF,bw,Value.oneCell']
  simp only[bn.ss,gL,bG];exact⟨_,_,rfl,a _,_,_,rfl,a _,_,_,rfl,a _,_,_,rfl,a _,_,_,rfl,a _,_,_,rfl,a _,_,_,rfl,a _,_,_,rfl,a _,_,_,rfl,a _,_,_,rfl,a _,_,_,rfl,a _,_,_,rfl,a _,
   _,_,rfl,a _,_,_,rfl,a _,_,_,rfl,a _,_,_,rfl,a _,_,_,rfl,a _,_,_,rfl,a _,_,_,rfl,r3,_,_,rfl,r4,rfl⟩
theorem aao {P:Program} {w:World} {r:Reach} {base:Nat} {t:TypeId} {v:Value} {fs:Array Field} (a:P.underlying t=some (.struct fs)) (h:Value.okWide P w r base t v):∃cs,v= .agg cs/\v.cells.toList=cs.toList:=by
 unfold Value.okWide at h;rw[a] at h;obtain⟨cs,rfl,_⟩:=h;exact⟨cs,rfl,rfl⟩
theorem aap {P:Program} {w:World} {r:Reach} {base:Nat} {t:TypeId} {k:IntKind} {v:Value} (a:P.underlying t=some (.int k)) (h:Value.okWide P w r base t v):v.cells.toList=[v]:=by
 cases v with
 |agg b=>simp_all[Value.okWide,Cell.okWide,Cell.ok];|_=>rfl
theorem Qc {H:Type} {enc:TypeId×Value->H} {P:Program} (j:laidOutB P=true) {W l:World} (n:Below W.heap.size W l) {m:Nat->Bool}:
  ∀{f:List TypeId} {vs:List Value} {i:List (DataW H)} {g:List MemPlace},DataW.TrodAll enc P W 0 (λ_=>true) true f vs i g->(∀t∈f,P.readableRec t=true/\t<P.types.size)->(∀p∈g,p.block<W.heap.size)->(∀p∈g,m p.block=true)->
   DataW.TrodAll enc P l 0 m true f vs i g
 |[],_,_,_,h,_,_,_=>by
  obtain⟨rfl,rfl,rfl⟩:=trodAll_nil h;exact rfl;|t::f,_,_,_,h,o,e,k=>by
  obtain⟨v,vs,d,i,a,b,rfl,rfl,rfl,r,s⟩:=trodAll_cons h;obtain⟨x,q⟩:=o t (by simp);exact⟨a,b,WideElems.Trod_stays j x q r (λp c=>n.same (e p (by simp[c]))) (λp c=>k p (by simp[c])),
   Qc j n s (λu w=>o u (by simp[w])) (λp c=>e p (by simp[c])) (λp c=>k p (by simp[c])),rfl⟩
theorem Qd {W b:World} {a:bY} {o':Store} (h:Ext W [] [] b a o'):Below W.heap.size W b:=
 ⟨h.os,h.tape,h.output,h.size,λk e=>(h.blk k e (by rintro⟨i,c,d⟩;simp at d)).1⟩
@[simp] theorem aaq {k c:IntKind} {a b:Int}:(γd k a).same (.si c b)↔k=c/\a=b:=by simp[εT,γF]
@[simp] theorem aar {k c:IntKind} {a b:Int}:(γB k a).same (.si c b)↔k=c/\a=b:=by simp[εT,γF]
@[simp] theorem aas {a b:Bool}:(γA a).same (.sb b)↔a=b:=by simp[εT,γF]
@[simp] theorem aat {a b:Bool}:(δh a).same (.sb b)↔a=b:=by simp[εT,γF]
@[simp] theorem aau {s:bp} {a b:List s.T}:(Ω s a).same (.row s b)↔a=b:=by
 constructor;·intro h;simp only[εT,γF,δ5] at h;exact ly s h.1 h.2
 ·rintro rfl;rfl
@[simp] theorem aav {k c:IntKind} {a b:Int}:(γd k a).same (.il c b)↔k=c/\a=b:=by simp[εT,γF]
@[simp] theorem aaw {k c:IntKind} {a b:Int}:(γB k a).same (.il c b)↔k=c/\a=b:=by simp[εT,γF]
theorem aax {v:SV}:v.same v↔True:=iff_true_intro rfl
theorem k9 {v:bq}:v.same v↔True:=iff_true_intro rfl
theorem aay {a b c d:SV}:(SV.bI [a,b]).same (.bI [c,d])↔a.same c/\b.same d:=by simp[εT,γF,gL]
theorem aaz {a b c d e f:SV}:(SV.bI [a,b,c]).same (.bI [d,e,f])↔a.same d/\b.same e/\c.same f:=by simp[εT,γF,gL]
theorem HW {s t:bp}:(Ω s []).same (.row t [])↔True:=iff_true_intro (by simp[εT,γF,cF])
theorem Qe {s:bp} {l:List s.T}:(Ω (.i .i64) []).same (.row s l)↔l=[]:=by
 constructor;·grind[εT,γF]
 ·rintro rfl;exact HW.2 trivial
theorem Dk {a b:bC}:a=b↔a.a0=b.a0/\a.a1=b.a1/\a.a2=b.a2/\a.a3=b.a3/\a.a4=b.a4/\a.a5=b.a5:=by
 obtain⟨k,c,n,f,d,l⟩:=a;obtain⟨g,i,e,h,m,j⟩:=b;simp_all
@[simp] theorem aaA {n:Int}:cu .i64 n↔ -9223372036854775808<=n/\n<=9223372036854775807:=Iff.rfl
theorem vcs:(∀{p:Prop} [h:Decidable p],(decide p=true)=p)/\(∀{p:Prop} {x:Decidable p},decide p=false↔¬p)/\(∀{k g:IntKind} {a b:Int},(γB k a).same (γd g b)↔k=g/\a=b)/\(∀{k g:IntKind} {a b:Int},(γd k a).same (γd g b)↔k=g/\a=b)/\(∀{k g:IntKind} {a b:Int},(γd k a).same (γB g b)↔k=g/\a=b)/\(∀{k g:IntKind} {a b:Int},(γB k a).same (γB g b)↔k=g/\a=b)/\(∀{a b:Bool},(γA a).same (γA b)↔a=b)/\(∀{a b:Bool},(δh a).same (γA b)↔a=b)/\(∀{s:bp} {a b:List s.T},(Ω s a).same (Ω s b)↔a=b)/\(∀{a b c d:SV},(SV.bI [a,b]).same (SV.bI [c,d])↔a.same c/\b.same d)/\(∀{a b c d e f:SV},(SV.bI [a,b,c]).same (SV.bI [d,e,f])↔a.same d/\b.same e/\c.same f)/\(∀{s t:bp},(Ω s []).same (Ω t [])↔True)/\(∀{s:bp} {l:List s.T},(Ω (bp.i IntKind.i64) []).same (Ω s l)↔l=[])/\(∀{v:SV},v.same v↔True)/\(∀{v:bq},v.same v↔True)/\(∀{n:Int},cu IntKind.i64 n↔ -9223372036854775808<=n/\n<=9223372036854775807)/\(∀p:Prop,(True/\p)=p)/\(∀p:Prop,(p/\True)=p)/\(∀a b:Bool,((a&&b)=true)=(a=true/\b=true))/\(∀b:Bool,((!b)=true)=(b=false))/\(∀b:Bool,((!b)=false)=(b=true)):=
 ⟨decide_eq_true_eq,decide_eq_false_iff_not,aar,aaq,aav,aaw,aas,aat,aau,aay,aaz,HW,Qe,aax,k9,aaA,true_and,and_true,θ,Bool.not_eq_true',Bool.not_eq_false'⟩
def bC.ok (b:bC):Bool:=[b.a0,b.a1,b.a2,b.a3,b.a4,b.a5].all λn=>decide (0<=n)&&decide (n<=4)
theorem bC.iP {b:bC}:b.ok=true↔(0<=b.a0/\b.a0<=4)/\(0<=b.a1/\b.a1<=4)/\(0<=b.a2/\b.a2<=4)/\(0<=b.a3/\b.a3<=4)/\(0<=b.a4/\b.a4<=4)/\(0<=b.a5/\b.a5<=4):=by
 simp[bC.ok]
def HY:bM:=⟨65,bC,.one (ei .fi),λ_=>True,λb=> .si .i64 (if b.ok=true then 0 else 4)⟩
theorem h146:Holds Tryz.prog HY:=by
 refine cH (L:=[]) HY (λ_ _=> .qy 7) (by simp) ?_;intro b _;refine bQ (let h:=γB .i64;let p:=(0:Int);let q:=(4:Int);let i:=decide (b.a0<p);let a:=γd .i64 (if bC.ok b=true then p else q);let l:=decide (q<b.a0);let k:=decide (b.a1<p);let m:=decide (q<b.a1);let o:=decide (b.a2<p);let j:=decide (q<b.a2);let n:=decide (b.a3<p);let f:=decide (q<b.a3);let g:=decide (b.a4<p);let d:=decide (q<b.a4);let c:=decide (b.a5<p);let e:=decide (q<b.a5);(i=true->(h 4).same a)/\(i=false->(l=true->(h 4).same a)/\(l=false->(k=true->(h 4).same a)/\(k=false->(m=true->(h 4).same a)/\(m=false->(o=true->(h 4).same a)/\(o=false->(j=true->(h 4).same a)/\(j=false->(n=true->(h 4).same a)/\(n=false->(f=true->(h 4).same a)/\(f=false->(g=true->(h 4).same a)/\(g=false->(d=true->(h 4).same a)/\(d=false->(c=true->(h 4).same a)/\(c=false->(e=true->(h 4).same a)/\(e=false->(h 0).same a))))))))))))) (by kernel_rfl) ?_;conv=>zeta
 have p:=@bC.iP b;by_cases h:b.ok=true<;>simp_all
def bC.l (b:bC):List Int:=[b.a0,b.a1,b.a2,b.a3,b.a4,b.a5]
def dh (p:bn):Int:=p.classes.length+12
def dm (p:bn) (r:Int):Int:=
 if r - p.classes.length<0 then 1
 else if r - p.classes.length<6 then bj [p.supply.a0,p.supply.a1,p.supply.a2,p.supply.a3,p.supply.a4,p.supply.a5] (r - p.classes.length).toNat 0
 else bj [p.opn.a0,p.opn.a1,p.opn.a2,p.opn.a3,p.opn.a4,p.opn.a5] (r - p.classes.length - 6).toNat 0
def dY (p:bn) (r:Int) (o:Off):Int:=
 if r - p.classes.length<0 then(if o.bX=r then 1 else 0)
 else if r - p.classes.length<6 then bj [o.want.a0,o.want.a1,o.want.a2,o.want.a3,o.want.a4,o.want.a5] (r - p.classes.length).toNat 0
 else if bj [p.cls.a0,p.cls.a1,p.cls.a2,p.cls.a3,p.cls.a4,p.cls.a5] (r - p.classes.length - 6).toNat 0=0\/bj [p.cls.a0,p.cls.a1,p.cls.a2,p.cls.a3,p.cls.a4,p.cls.a5] (r - p.classes.length - 6).toNat 0=bj p.classes o.bX.toNat 0 then 0
 else bj [o.want.a0,o.want.a1,o.want.a2,o.want.a3,o.want.a4,o.want.a5] (r - p.classes.length - 6).toNat 0
def xR:bM:=⟨84,bn,.one dO,λp=>p.classes.length<=8,λp=> .si .i64 (dh p)⟩
def xT:bM:=⟨85,bn×Int,.cons dO (.one (eU .i64)),λa=>a.1.classes.length<=8/\0<=a.2/\a.2<dh a.1,λa=> .si .i64 (dm a.1 a.2)⟩
def xU:bM:=⟨83,bn×Int×Off,.cons dO (.cons (eU .i64) (.one (ei .off))),λa=>a.1.classes.length<=8/\0<=a.2.1/\a.2.1<dh a.1/\0<=a.2.2.bX/\a.2.2.bX<a.1.classes.length,λa=> .si .i64 (dY a.1 a.2.1 a.2.2)⟩
theorem h157:Holds Tryz.prog xR:=by
 refine cH (L:=[]) xR (λ_ _=> .qy 7) (by simp) ?_;intro p (b:p.classes.length<=8);refine bQ (let a:=(↑p.classes.length:Int)+(12:Int);cu .i64 a/\(γd .i64 a).same (γd .i64 (dh p))) (by kernel_rfl) ?_;simp only[vcs,dh];omega
theorem h158:Holds Tryz.prog xT:=by
 refine cH (L:=[]) xT (λ_ _=> .qy 7) (by simp) ?_;rintro⟨p,r⟩ ⟨h,j,i⟩;simp only[dh] at h j i;refine bQ (let h:=(6:Int);let i:=(0:Int);let d:=γd .i64 (dm p r);let c:=(↑p.classes.length:Int);let g:=decide (r - c<i);let e:=decide (r - c<h);let f:=λ(u b:Int) (a:bC) ↦i<=u - b/\u - b<h/\(u - b).toNat<6/\(γd .i64 (bj [a.a0,a.a1,a.a2,a.a3,a.a4,a.a5] (u - b).toNat i)).same d;cu .i64 (r - c)/\(g=true->(γB .i64 1).same d)/\(g=false->(e=true->f r c p.supply)/\(e=false->cu .i64 (r - c - h)/\f (r - c) h p.opn))) (by kernel_rfl) ?_;simp only[vcs];grind[dm]
theorem h156:Holds Tryz.prog xU:=by
 refine cH (L:=[]) xU (λ_ _=> .qy 7) (by simp) ?_;rintro⟨p,r,x⟩ ⟨m,q,n,l,o⟩;simp only[dh] at m q n l o;refine bQ (let l:=(0:Int);let m:=(6:Int);let n:=γB .i64;let o:=γB .i64 0;let q:=γd .i64;let b:=(↑p.classes.length:Int);let e:=decide (r - b<l);let c:=q (dY p r x);let h:=decide (r - b<m);let k:=[x.want.a0,x.want.a1,x.want.a2,x.want.a3,x.want.a4,x.want.a5];let a:=r - b - m;let j:=bj [p.cls.a0,p.cls.a1,p.cls.a2,p.cls.a3,p.cls.a4,p.cls.a5] a.toNat l;let i:=decide (j=l);let g:=decide (j=bj p.classes x.bX.toNat l);let d:=decide (x.bX=r);let f:=(e=true->(n 0).same c)/\(e=false->(h=true->l<=r - b/\r - b<m/\(r - b).toNat<6/\(q (bj k (r - b).toNat l)).same c)/\(h=false->cu .i64 a/\l<=a/\a<m/\a.toNat<6/\(i=true->(n 0).same c)/\(i=false->l<=a/\a<m/\a.toNat<6/\l<=x.bX/\x.bX<b/\x.bX.toNat<p.classes.length/\(g=true->(n 0).same c)/\(g=false->l<=a/\a<m/\a.toNat<6/\(q (bj k a.toNat l)).same c))));cu .i64 (r - b)/\(e=true->(d=true->(n 1).same c)/\(d=false->f))/\(e=false->f)) (by kernel_rfl) ?_;simp only[vcs];repeat' (first|refine γl ?_ ?_|intro _)
 all_goals first
  |trivial;|omega;|(simp only[dY];(repeat' split)<;>first|rfl|omega)
def L2:List bM:=[xU,xR,xT]
theorem hL2:∀c∈L2,Holds Tryz.prog c:=by
 simp_all[L2,h156,h157,h158]
def cZ (p:bn) (l:List Off) (r:Int):Int:=(l.map (dY p r)).sum
def fZ (p:bn) (l:List Off):Bool:=(ω (p.classes.length+12)).all λr=>decide (cZ p l r<=dm p r)
def Dl:bM:=⟨59,bn×List Off,.cons dO (.one (dG .off)),λa=>a.1.classes.length<=8/\a.2.length<=1000/\(∀x∈a.2,0<=x.bX/\x.bX<a.1.classes.length/\x.want.ok=true),λa=> .sb (fZ a.1 a.2)⟩
def aaB (a:bn×List Off):Nat->cG
 |3=> .inv Int (λi=>⟨[(1,.row .off a.2),(2,.ptr 0 0 20),(5,.fn (.func 83) [] []),(11,.si .i64 (dh a.1)),(12,.si .i64 i)],[.cells a.1.ss 87 20 false]⟩) (λs=>iS s 12)
  (λi=>0<=i/\i<=dh a.1/\∀r:Nat,r<i->cZ a.1 a.2 r<=dm a.1 r) (λi=>(dh a.1 - i).toNat)
  λi=>λ
   |7=> .inv (Int×Int) (λx=>⟨[(1,.row .off a.2),(2,.ptr 0 0 20),(5,.fn (.func 83) [] []),(6,.si .i64 i),(7,.si .i64 x.2),(11,.si .i64 (dh a.1)),(12,.si .i64 i),(15,.row .off a.2),(16,.si .i64 a.2.length),(17,.si .i64 x.1)],[.cells a.1.ss 87 20 false]⟩)
    (λs=>(iS s 17,iS s 7))
    (λx=>0<=x.1/\x.1<=a.2.length/\x.2=cZ a.1 (a.2.take x.1.toNat) i) (λx=>(a.2.length - x.1).toNat) λ_ _=> .look
   |_=> .look
 |_=> .look
theorem HZ {b:bC} (h:b.ok=true) (k:Nat):0<=bj [b.a0,b.a1,b.a2,b.a3,b.a4,b.a5] k 0/\bj [b.a0,b.a1,b.a2,b.a3,b.a4,b.a5] k 0<=4:=by
 grind[bC.iP,bj]
theorem pR {p:bn} {r:Int} {o:Off} (h:o.want.ok=true):0<=dY p r o/\dY p r o<=4:=by
 unfold dY;have a:=HZ h (r - p.classes.length).toNat;have b:=HZ h (r - p.classes.length - 6).toNat;omega
theorem sO {p:bn} {r:Int}:∀{l:List Off},(∀x∈l,x.want.ok=true)->0<=cZ p l r/\cZ p l r<=4*l.length
 |[],_=>by simp[cZ];|x::l,h=>by
  have b:=@pR p r x (h x (by simp));have c:=@sO p r l λy a=>h y (by simp[a]);grind[cZ]
theorem dn {a:Type} {l:List a} {i:Nat} {d:a} (h:i<l.length):bj l i d∈l:=by grind[cT]
theorem jq {a:Type} {l:List a} {i:Int} {d:a} (b:0<=i) (h:i<l.length):l.take (i+1).toNat=l.take i.toNat++[bj l i.toNat d]:=by
 rw[show(i+1).toNat=i.toNat+1 from by omega,cT (by omega),List.take_succ_eq_append_getElem (by omega)]
theorem H3 {p:bn} {r:Int} {l:List Off} {i:Int} {d:Off} (a:0<=i) (h:i<l.length):cZ p (l.take (i+1).toNat) r=cZ p (l.take i.toNat) r+dY p r (bj l i.toNat d):=by
 grind[jq,cZ]
theorem pd {p:bn} {l:List Off}:fZ p l=true↔∀r:Nat,r<dh p->cZ p l r<=dm p r:=by
 simp only[fZ,dh,τ,List.mem_range,decide_eq_true_eq];grind
theorem h134:Holds Tryz.prog Dl:=by
 refine cH (L:=L2) Dl aaB hL2 ?_;rintro⟨p,l⟩ ⟨hp,hl,hb⟩;simp only at hp hl hb;refine bQ (let a:=γd .i64;let b:=(0:Int);let c:=Ω;let d:=γB .i64 0;let e:=γB .i64;let f:=cu .i64;let g:=γQ 0 0 20;let h:=SV.fn (Fn.func 83) [] [];let i:=a (dh p);let j:=bq.cells (bn.ss p) 87 20 false;let k:=(↑l.length:Int);let q:=a k;p.classes.length<=8/\((((c bp.off l).same (c bp.off l)/\g.same g/\h.same h/\i.same i/\(d).same (a 0)/\True)/\j.same j/\True)/\b<=b/\b<=dh p/\∀(r:Nat),(↑r:Int)<b->cZ p l (↑r:Int)<=dm p (↑r:Int))/\∀(x:Int),let u:=decide (x<dh p);let m:=x+(1:Int);let v:=a m;(b<=x/\x<=dh p/\∀(r:Nat),(↑r:Int)<x->cZ p l (↑r:Int)<=dm p (↑r:Int))->(u=true->((((c bp.off l).same (c bp.off l)/\g.same g/\h.same h/\(a x).same (a x)/\(d).same (a 0)/\i.same i/\(a x).same (a x)/\(c bp.off l).same (c bp.off l)/\(a (↑l.length:Int)).same q/\(d).same (a 0)/\True)/\j.same j/\True)/\b<=b/\b<=k/\b=cZ p [] x)/\∀(x_1:Int×Int),let s:=bj l x_1.fst.toNat bp.off.dflt;let t:=x_1.snd+dY p x s;let n:=x_1.fst+(1:Int);let o:=a x;let w:=a t;let y:=a n;let z:=decide (dm p x<x_1.snd);b<=x_1.fst/\x_1.fst<=k/\x_1.snd=cZ p (Δ x_1.fst.toNat l) x->(decide (x_1.fst<k)=true->b<=x_1.fst/\x_1.fst<(↑l.length:Int)/\x_1.fst.toNat<l.length/\(p.classes.length<=8/\b<=x/\x<dh p/\b<=s.bX/\s.bX<(↑p.classes.length:Int))/\f t/\f n/\(((c bp.off l).same (c bp.off l)/\g.same g/\h.same h/\o.same o/\w.same w/\i.same i/\o.same o/\(c bp.off l).same (c bp.off l)/\q.same q/\y.same y/\True)/\j.same j/\True)/\(b<=n/\n<=k/\t=cZ p (Δ n.toNat l) x)/\(k - n).toNat<(k - x_1.fst).toNat)/\(decide (x_1.fst<k)=false->(p.classes.length<=8/\b<=x/\x<dh p)/\(z=true->(δh false).same (γA (fZ p l)))/\(z=false->f m/\(((c bp.off l).same (c bp.off l)/\g.same g/\h.same h/\i.same i/\v.same v/\True)/\j.same j/\True)/\(b<=m/\m<=dh p/\∀(r:Nat),(↑r:Int)<m->cZ p l (↑r:Int)<=dm p (↑r:Int))/\(dh p - m).toNat<(dh p - x).toNat)))/\(u=false->(δh true).same (γA (fZ p l)))) (by kernel_rfl) ?_;simp only[vcs];have hn:dh p=p.classes.length+12:=rfl;have ho:∀x∈l,x.want.ok=true:=λx hx=>(hb x hx).2.2;refine⟨hp,⟨by omega,by omega,λr hr=>by omega⟩,?_⟩;rintro i ⟨hi0,hi1,hi⟩;refine⟨λhlt=>⟨⟨by omega,by omega,by simp[cZ]⟩,?_⟩,?_⟩
 ·rintro⟨j,s⟩ ⟨hj0,hj1,hs⟩;simp only at hj0 hj1 hs ⊢;have hsb:=@sO p i (l.take j.toNat) λx hx=>ho x (γo hx);have hlen:(l.take j.toNat).length<=l.length:=by simp;omega
  refine⟨λhjl=>?_,λhjl=>?_⟩
  ·have hm:=hb _ (dn (d:=bp.off.dflt) (show j.toNat<l.length by omega));have hc:=@pR p i _ hm.2.2;have hst:=@H3 p i l j bp.off.dflt hj0 hjl;refine⟨by omega,by omega,by omega,⟨hp,by omega,by omega,hm.1,hm.2.1⟩,by omega,by omega,⟨by omega,by omega,by omega⟩,by omega⟩
  ·have:j.toNat=l.length:=by omega
   rw[this,φ] at hs;refine⟨⟨hp,by omega,by omega⟩,λhgt=>?_,λhle=>⟨by omega,⟨by omega,by omega,λr hr=>?_⟩,by omega⟩⟩
   ·symm;rw[δI];intro hf;have:=pd.1 hf i.toNat (by omega);rw[show((i.toNat:Nat):Int)=i from by omega] at this;omega
   ·by_cases hr2:(r:Int)<i;·exact hi r hr2
    ·have:(r:Int)=i:=by omega
     rw[this];omega
 ·intro hge;symm;exact pd.2 λr hr=>hi r (by omega)
def L3:List bM:=[Dl,HY,xU,xR,xT]
theorem hL3:∀c∈L3,Holds Tryz.prog c:=by
 simp only[L3,εW,List.not_mem_nil,false_implies,implies_true,and_true];grind[h134,h146,h156,h157,h158]
def iI (p:bn) (k:Nat):Prop:=
 let c:=bj [p.cls.a0,p.cls.a1,p.cls.a2,p.cls.a3,p.cls.a4,p.cls.a5] k 0;let o:=bj [p.opn.a0,p.opn.a1,p.opn.a2,p.opn.a3,p.opn.a4,p.opn.a5] k 0;let s:=bj [p.supply.a0,p.supply.a1,p.supply.a2,p.supply.a3,p.supply.a4,p.supply.a5] k 0;0<=c/\c<=4/\0<=o/\o<=s/\(c≠0\/o=s)
instance (p:bn) (k:Nat):Decidable (iI p k):=by unfold iI;infer_instance
def Dm (p:bn):Bool:=(ω 6).all λk=>decide (iI p k)
theorem oq {p:bn} {k:Nat}:iI p k↔(0<=bj [p.cls.a0,p.cls.a1,p.cls.a2,p.cls.a3,p.cls.a4,p.cls.a5] k 0/\bj [p.cls.a0,p.cls.a1,p.cls.a2,p.cls.a3,p.cls.a4,p.cls.a5] k 0<=4/\0<=bj [p.opn.a0,p.opn.a1,p.opn.a2,p.opn.a3,p.opn.a4,p.opn.a5] k 0/\
  bj [p.opn.a0,p.opn.a1,p.opn.a2,p.opn.a3,p.opn.a4,p.opn.a5] k 0<=bj [p.supply.a0,p.supply.a1,p.supply.a2,p.supply.a3,p.supply.a4,p.supply.a5] k 0/\
  (bj [p.cls.a0,p.cls.a1,p.cls.a2,p.cls.a3,p.cls.a4,p.cls.a5] k 0≠0\/bj [p.opn.a0,p.opn.a1,p.opn.a2,p.opn.a3,p.opn.a4,p.opn.a5] k 0=bj [p.supply.a0,p.supply.a1,p.supply.a2,p.supply.a3,p.supply.a4,p.supply.a5] k 0)):=Iff.rfl
attribute [irreducible] iI
theorem Ag {p:bn}:Dm p=true↔∀k,k<6->iI p k:=by simp[Dm]
def iQ (p:bn):Int:=
 if p.supply.ok=false then 4
 else if Dm p=false then 4
 else if 8<p.classes.length\/160<p.offers.length then 3
 else if ¬∀c∈p.classes,0<=c/\c<=4 then 4
 else 0
def H4:bM:=⟨46,bn,.one dO,λp=>True,λp=> .si .i64 (iQ p)⟩
def aaC (p:bn):Nat->cG
 |5=> .inv Int (λk=>⟨[(1,.ptr 0 0 20),(16,.si .i64 k)],[.cells p.ss 87 20 false]⟩) (λs=>iS s 16) (λk=>0<=k/\k<=6/\∀j:Nat,j<k->iI p j) (λk=>(6 - k).toNat) λ_ _=> .look
 |14=> .inv Int (λk=>⟨[(76,.row (.i .i64) p.classes),(77,.si .i64 p.classes.length),(78,.si .i64 k)],[.cells p.ss 87 20 false]⟩) (λs=>iS s 78)
  (λk=>0<=k/\k<=p.classes.length/\∀c∈p.classes.take k.toNat,0<=c/\c<=4) (λk=>(p.classes.length - k).toNat) λ_ _=> .look
 |_=> .look
theorem Qf {p:bn} (h:p.supply.ok=false):iQ p=4:=by simp[iQ,h]
theorem Qg {p:bn} (h:p.supply.ok=true) {k:Nat} (b:k<6) (a:¬iI p k):iQ p=4:=by
 grind[Ag,iQ]
theorem Dn {p:bn} (h:p.supply.ok=true) (b:∀j:Nat,j<6->iI p j) (a:8<p.classes.length\/160<p.offers.length):iQ p=3:=by
 grind[iQ,Ag]
theorem Dp {p:bn} (h:p.supply.ok=true) (f:∀j:Nat,j<6->iI p j) (e:¬(8<p.classes.length\/160<p.offers.length)) {c:Int} (b:c∈p.classes) (a:¬(0<=c/\c<=4)):iQ p=4:=by
 have:¬∀c∈p.classes,0<=c/\c<=4:=λd=>a (d c b);simp_all[iQ]
theorem H5 {p:bn} (h:p.supply.ok=true) (b:∀j:Nat,j<6->iI p j) (d:¬(8<p.classes.length\/160<p.offers.length)) (a:∀c∈p.classes,0<=c/\c<=4):iQ p=0:=by
 simp_all[iQ,Ag,if_neg]
theorem uo {p:bn} (h:iQ p=0):p.supply.ok=true/\(∀j:Nat,j<6->iI p j)/\p.classes.length<=8/\p.offers.length<=160/\∀c∈p.classes,0<=c/\c<=4:=by
 unfold iQ at h;split at h;·cases h
 ·split at h;·cases h
  ·split at h;all_goals simp_all[Ag]
theorem Qh {l:List Int} {i:Int} {P:Int->Prop} (d:0<=i) (h:i<l.length) (a:∀c∈l.take i.toNat,P c) (b:P (bj l i.toNat 0)):∀c∈l.take (i+1).toNat,P c:=by
 grind[jq]
theorem h118:Holds Tryz.prog H4:=by
 refine cH (L:=L3) H4 aaC hL3 ?_;intro p _;refine bQ (let a:=γd .i64;let b:=(0:Int);let d:=γB .i64;let e:=(6:Int);let f:=(4:Int);let y:=if p.supply.ok=true then b else f;let g:=a (iQ p);let q:=γQ 0 0 20;let s:=d 0;let n:=Ω (bp.i .i64) p.classes;let h:=bq.cells [a p.supply.a0,a p.supply.a1,a p.supply.a2,a p.supply.a3,a p.supply.a4,a p.supply.a5,a p.opn.a0,a p.opn.a1,a p.opn.a2,a p.opn.a3,a p.opn.a4,a p.opn.a5,a p.cls.a0,a p.cls.a1,a p.cls.a2,a p.cls.a3,a p.cls.a4,a p.cls.a5,n,Ω bp.off p.offers] 87 20 false;let N:=[p.cls.a0,p.cls.a1,p.cls.a2,p.cls.a3,p.cls.a4,p.cls.a5];let O:=[p.opn.a0,p.opn.a1,p.opn.a2,p.opn.a3,p.opn.a4,p.opn.a5];let P:=[p.supply.a0,p.supply.a1,p.supply.a2,p.supply.a3,p.supply.a4,p.supply.a5];let t:=(↑p.classes.length:Int);let z:=decide ((8:Int)<t);let A:=decide ((160:Int)<(↑p.offers.length:Int));let k:=(↑p.classes.length:Int);let v:=a k;let B:=λ(u:Bool) ↦decide (y≠b)=u;True/\(B true->(a y).same g)/\(B false->(((q.same q/\s.same (a 0)/\True)/\h.same h/\True)/\b<=b/\b<=e/\∀(j:Nat),(↑j:Int)<b->iI p j)/\∀(x:Int),let l:=x+(1:Int);let C:=a l;let D:=decide (x<e);let w:=bj N x.toNat b;let E:=decide (w<b);let F:=decide (f<w);let o:=bj O x.toNat b;let G:=decide (o<b);let r:=bj P x.toNat b;let H:=decide (w=b);let I:=cu .i64 l/\((q.same q/\C.same C/\True)/\h.same h/\True)/\(b<=l/\l<=e/\∀(j:Nat),(↑j:Int)<l->iI p j)/\(e - l).toNat<(e - x).toNat;(b<=x/\x<=e/\∀(j:Nat),(↑j:Int)<x->iI p j)->(D=true->b<=x/\x<e/\x.toNat<6/\b<=x/\x<e/\x.toNat<6/\(E=true->(d 4).same g)/\(E=false->(F=true->(d 4).same g)/\(F=false->(G=true->(d 4).same g)/\(G=false->b<=x/\x<e/\x.toNat<6/\(decide (r<o)=true->(d 4).same g)/\(decide (r<o)=false->(H=true->b<=x/\x<e/\x.toNat<6/\(decide (o≠r)=true->(d 4).same g)/\(decide (o≠r)=false->I))/\(H=false->I))))))/\(D=false->(z=true->(d 3).same g)/\(z=false->(A=true->(d 3).same g)/\(A=false->(((n.same n/\(a t).same v/\s.same (a 0)/\True)/\h.same h/\True)/\b<=b/\b<=k/\∀(c:Int),c∈[]->b<=c/\c<=f)/\∀(x:Int),let J:=bj p.classes x.toNat b;let K:=decide (J<b);let L:=decide (f<J);let m:=x+(1:Int);let M:=a m;(b<=x/\x<=k/\∀(c:Int),c∈Δ x.toNat p.classes->b<=c/\c<=f)->(decide (x<k)=true->b<=x/\x<t/\x.toNat<p.classes.length/\(K=true->(d 4).same g)/\(K=false->(L=true->(d 4).same g)/\(L=false->cu .i64 m/\((n.same n/\v.same v/\M.same M/\True)/\h.same h/\True)/\(b<=m/\m<=k/\∀(c:Int),c∈Δ m.toNat p.classes->b<=c/\c<=f)/\(k - m).toNat<(k - x).toNat)))/\(decide (x<k)=false->s.same g)))))) (by kernel_rfl) ?_;simp only[vcs];by_cases hs:bC.ok p.supply=true
 ·simp only[hs,if_true];refine⟨λh=>absurd rfl h,λ_=>⟨⟨by omega,by omega,λj hj=>by omega⟩,?_⟩⟩;rintro k ⟨hk0,hk1,hk⟩;refine⟨λhlt=>?_,λhge=>?_⟩
  ·have bad:¬iI p k.toNat->(4:Int)=iQ p:=λh=>(Qg hs (by omega) h).symm;have H6:iI p k.toNat->∀(j:Nat),(j:Int)<k+1->iI p j:=λh j hj=>by
    by_cases hj2:(j:Int)<k;·exact hk j hj2
    ·rw[show j=k.toNat from by omega];exact h
   repeat' (first|refine γl ?_ ?_|intro _)
   all_goals first
    |omega;|exact bad λhh=>by have h2:=oq.1 hh;omega;|exact H6 (oq.2 (by omega)) _ (by assumption)
  ·have hall:∀j:Nat,j<6->iI p j:=λj hj=>hk j (by omega);refine⟨λh=>(Dn hs hall (.inl (by omega))).symm,λh8=>⟨λh=>(Dn hs hall (.inr (by omega))).symm,λh160=>⟨⟨by omega,by omega,by simp⟩,?_⟩⟩⟩;rintro i ⟨hi0,hi1,hi⟩;refine⟨λhlt=>?_,λhge=>?_⟩
   ·have hm:=dn (d:=0) (show i.toNat<p.classes.length by omega);refine⟨by omega,by omega,by omega,λh=>(Dp hs hall (by omega) hm (by omega)).symm,λh1=>⟨λh=>(Dp hs hall (by omega) hm (by omega)).symm,λh2=>⟨by omega,⟨by omega,by omega,?_⟩,by omega⟩⟩⟩;exact Qh hi0 hlt hi (by omega)
   ·rw[show i.toNat=p.classes.length from by omega,φ] at hi;exact(H5 hs hall (by omega) hi).symm
 ·have hs2:bC.ok p.supply=false:=by simpa using hs
  simp only[hs2,ψ,if_false];exact⟨λ_=>(Qf hs2).symm,λh=>absurd (by decide) h⟩
def kJ (n:Int) (o:Off):Int:=
 if o.bX<0\/n<=o.bX then 6 else if o.value<1\/1000000<o.value then 4 else if o.want.ok then 0 else 4
def H7:bM:=⟨66,Int×Off,.cons (eU .i64) (.one (ei .off)),λp=>True,λp=> .si .i64 (kJ p.1 p.2)⟩
theorem h147:Holds Tryz.prog H7:=by
 refine cH (L:=L3) H7 (λp=>λ_=> .look) hL3 ?_;rintro⟨n,x⟩ _;refine bQ (let f:=γB .i64;let e:=decide (x.bX<(0:Int));let a:=γd .i64 (kJ n x);let c:=decide (n<=x.bX);let b:=decide (x.value<(1:Int));let d:=decide ((1000000:Int)<x.value);(e=true->(f 6).same a)/\(e=false->(c=true->(f 6).same a)/\(c=false->(b=true->(f 4).same a)/\(b=false->(d=true->(f 4).same a)/\(d=false->True/\(γd .i64 (if x.want.ok=true then(0:Int) else(4:Int))).same a))))) (by kernel_rfl) ?_;simp only[vcs];grind[kJ]
def ki (p:bn) (o:Off):Int:=
 if kJ p.classes.length o≠0 then kJ p.classes.length o else if o.want=bC.zero then 4 else if fZ p [o]=false then 14 else 0
def H8:bM:=⟨47,bn×Off,.cons dO (.one (ei .off)),λa=>a.1.classes.length<=8,λa=> .si .i64 (ki a.1 a.2)⟩
def L4:List bM:=H7::L3
theorem hL4:∀c∈L4,Holds Tryz.prog c:=by
 grind[L4,h147,hL3]
theorem Dq {n:Int} {o:Off} (h:kJ n o=0):0<=o.bX/\o.bX<n/\1<=o.value/\o.value<=1000000/\o.want.ok=true:=by
 grind[kJ]
theorem h119:Holds Tryz.prog H8:=by
 refine cH (L:=L4) H8 (λp=>λ_=> .look) hL4 ?_;rintro⟨p,x⟩ (i:p.classes.length<=8);refine bQ (let f:=(0:Int);let g:=γB .i64;let c:=kJ (↑p.classes.length:Int) x;let e:=decide (c≠f);let b:=γd .i64 (ki p x);let d:=λ(u:Bool) ↦(decide (x.want.a0=f)&&(decide (x.want.a1=f)&&(decide (x.want.a2=f)&&(decide (x.want.a3=f)&&(decide (x.want.a4=f)&&(decide (x.want.a5=f)&&true))))))=u;True/\(e=true->(γd .i64 c).same b)/\(e=false->(d true->(g 4).same b)/\(d false->(p.classes.length<=8/\1<=1000/\∀(a:Off),a∈[x]->f<=a.bX/\a.bX<(↑p.classes.length:Int)/\a.want.ok=true)/\((!fZ p [x])=true->(g 14).same b)/\((!fZ p [x])=false->(g 0).same b)))) (by kernel_rfl) ?_;conv=>zeta
 have g:(decide (x.want.a0=0)&&(decide (x.want.a1=0)&&(decide (x.want.a2=0)&&(decide (x.want.a3=0)&&(decide (x.want.a4=0)&&decide (x.want.a5=0))))))=decide (x.want=bC.zero):=by
  simp_all[Dk,bC.zero]
 simp only[Bool.and_true,g];simp only[vcs];refine⟨λh=>by simp_all[ki],λh=>?_⟩;have f:kJ p.classes.length x=0:=γf.1 h;have j:=Dq f;grind[ki]
def L5:List bM:=H4::H8::L4
theorem hL5:∀c∈L5,Holds Tryz.prog c:=by
 grind[L5,h118,h119,hL4]
def Off.key (o:Off):nW:=⟨o.bX,o.want⟩
def jc (p:bn) (a:List nW):List Off->Int
 |[]=>0
 |o::r=>if ki p o≠0 then ki p o else if o.key∈a then 7 else jc p (a++[o.key]) r
def bz (p:bn):Int:=if iQ p≠0 then iQ p else jc p [] p.offers
def pe:bM:=⟨28,bn,.one dO,λp=>True,λp=> .si .i64 (bz p)⟩
def aaD (p:bn):Nat->cG
 |7=> .inv Int (λi=>⟨[(3,.ptr 1 0 20),(5,.mp 2),(19,.row .off p.offers),(20,.si .i64 p.offers.length),(21,.si .i64 i)],
   [.cells p.ss 27 20 false,.cells p.ss 87 20 false,.map .key .b true ((p.offers.take i.toNat).map λo=>(o.key,true)) ([0,0,0,0,0,0,0],true) true]⟩) (λs=>iS s 21)
  (λi=>0<=i/\i<=p.offers.length/\jc p [] p.offers=jc p ((p.offers.take i.toNat).map Off.key) (p.offers.drop i.toNat)) (λi=>(p.offers.length - i).toNat) λ_ _=> .look
 |_=> .look
theorem sP {a:Type} {l:List a} {i:Int} {d:a} (b:0<=i) (h:i<l.length):l.drop i.toNat=bj l i.toNat d::l.drop (i+1).toNat:=by
 rw[show(i+1).toNat=i.toNat+1 from by omega,cT (by omega),List.drop_eq_getElem_cons (by omega)]
theorem Dt (k:nW):∀(l:List Off),(nZ .key .b k (l.map λo=>(o.key,true))).getD false=decide (k∈l.map Off.key)
 |[]=>by simp[nZ];|o::l=>by
  have:=Dt k l;grind[nZ]
theorem aaE {b sv:bp} {c:Bool} {es a:List (b.T×sv.T)} {d:List Nat×Bool} {pu:Bool} (h:es=a):(bq.map b sv c es d pu).same (.map b sv c a d pu):=by rw[h];rfl
theorem aaF {k:nW} {l:List Off} (h:k∉l.map Off.key):sG .key .b k true (l.map λo=>(o.key,true))=(l.map λo=>(o.key,true))++[(k,true)]:=
 Hr λp a=>by
  grind
theorem h79:Holds Tryz.prog pe:=by
 refine cH (L:=L5) pe aaD hL5 ?_;intro p _;refine bQ (let a:=γd .i64;let c:=(0:Int);let f:=Ω bp.off p.offers;let q:=decide (iQ p≠c);let g:=a (bz p);let h:=γQ 1 0 20;let r:=(↑p.offers.length:Int);let d:=(↑p.offers.length:Int);let m:=a d;let s:=γB .i64 0;let n:=([0,0,0,0,0,0,0],true);let t:=bq.map bp.key bp.b true [] n true;let j:=jc p [] p.offers;let E:=bp.off.dflt;let k:=λ(u:Nat) ↦let v:=bq.cells [a p.supply.a0,a p.supply.a1,a p.supply.a2,a p.supply.a3,a p.supply.a4,a p.supply.a5,a p.opn.a0,a p.opn.a1,a p.opn.a2,a p.opn.a3,a p.opn.a4,a p.opn.a5,a p.cls.a0,a p.cls.a1,a p.cls.a2,a p.cls.a3,a p.cls.a4,a p.cls.a5,Ω (bp.i .i64) p.classes,f] u 20 false;v.same v;True/\(q=true->(a (iQ p)).same g)/\(q=false->(((h.same h/\(SV.mp 2).same (SV.mp 2)/\f.same f/\(a r).same m/\s.same (a 0)/\True)/\k 27/\k 87/\t.same t/\True)/\c<=c/\c<=d/\j=j)/\∀(x:Int),let w:=Δ x.toNat p.offers;let l:=bj p.offers x.toNat E;let y:=decide (ki p l≠c);let z:=nW.mk l.bX l.want;let A:=γb (λ(o:Off) ↦(o.key,true)) w;let B:=(nZ bp.key bp.b z A).getD false;let e:=x+(1:Int);let C:=a e;let D:=Δ e.toNat p.offers;c<=x/\x<=d/\j=jc p (γb Off.key w) (γ4 x.toNat p.offers)->(decide (x<d)=true->c<=x/\x<r/\x.toNat<p.offers.length/\p.classes.length<=8/\(y=true->(a (ki p l)).same g)/\(y=false->(B=true->(γB .i64 7).same g)/\(B=false->cu .i64 e/\((h.same h/\(SV.mp 2).same (SV.mp 2)/\f.same f/\m.same m/\C.same C/\True)/\k 27/\k 87/\(bq.map bp.key bp.b true (sG bp.key bp.b z true A) n true).same (bq.map bp.key bp.b true (γb (λ(o:Off) ↦(o.key,true)) D) n true)/\True)/\(c<=e/\e<=d/\j=jc p (γb Off.key D) (γ4 e.toNat p.offers))/\(d - e).toNat<(d - x).toNat)))/\(decide (x<d)=false->s.same g))) (by kernel_rfl) ?_;simp only[vcs];refine⟨λh=>by simp[bz,h],λh=>?_⟩;have hz:iQ p=0:=γf.1 h;obtain⟨f1,f2,f3,f4,f5⟩:=uo hz;refine⟨⟨by omega,by omega⟩,?_⟩;rintro i ⟨hi0,hi1,hi⟩;refine⟨λhlt=>?_,λhge=>?_⟩
 ·rw[sP (d:=bp.off.dflt) hi0 hlt] at hi;generalize hx:bj p.offers i.toNat bp.off.dflt=x at hi ⊢;refine⟨by omega,by omega,by omega,f3,λhe=>?_,λhe=>?_⟩
  ·simp only[jc,if_pos he] at hi;simp[bz,hz,hi]
  ·simp only[jc,if_neg he] at hi;have hk:(⟨x.bX,x.want⟩:nW)=x.key:=rfl;simp only[hk];refine⟨λhm=>?_,λhm=>⟨by omega,?_,⟨by omega,by omega,?_⟩,by omega⟩⟩
   ·have hm2:=of_decide_eq_true ((Dt _ _).symm.trans hm);rw[if_pos hm2] at hi;simp[bz,hz,hi]
   ·have hm2:=of_decide_eq_false ((Dt _ _).symm.trans hm);apply aaE;rw[aaF hm2,jq (d:=bp.off.dflt) hi0 hlt,hx];simp
   ·have hm2:=of_decide_eq_false ((Dt _ _).symm.trans hm);rw[if_neg hm2] at hi;rw[hi,jq (d:=bp.off.dflt) hi0 hlt,hx];simp
 ·rw[show i.toNat=p.offers.length from by omega,δB] at hi;simp only[jc] at hi;simp[bz,hz,hi]
def eh (l:List Off) (a:Int):List Int->Option (List Off)
 |[]=>some []
 |i::r=>if i<=a\/l.length<=i then none else(eh l i r).map (bj l i.toNat bp.off.dflt::·)
def fE (p:bn) (c:List Int):Bool:=(eh p.offers (-1) c).isSome
def dU (p:bn) (c:List Int):List Off:=(eh p.offers (-1) c).getD []
def Du:bM:=⟨58,bn×List Int,.cons dO (.one (dG (.i .i64))),λa=>a.2.length<=9223372036854775807/\a.1.offers.length<=1000,λa=> .bI [.row .off (dU a.1 a.2),.sb (fE a.1 a.2)]⟩
def aaG (a:bn×List Int):Nat->cG
 |4=> .inv (Int×Int×List Off) (λx=>⟨[(2,.ptr 0 0 20),(6,.ow 1 x.2.2.length 8),(7,.si .i64 x.2.1),(10,.row (.i .i64) a.2),(11,.si .i64 a.2.length),(12,.si .i64 x.1)],
   [.cells a.1.ss 27 20 false,.row .off x.2.2 65 true]⟩) (λs=>(iS s 12,iS s 7,oS .off s 1))
  (λx=>0<=x.1/\x.1<=a.2.length/\(x.2.2.length<=x.2.1+1/\x.2.1<1000)/\ -1<=x.2.1/\eh a.1.offers (-1) a.2=(eh a.1.offers x.2.1 (a.2.drop x.1.toNat)).map (x.2.2++·)) (λx=>(a.2.length - x.1).toNat) λ_ _=> .look
 |_=> .look
theorem h133:Holds Tryz.prog Du:=by
 refine cH (L:=L5) Du aaG hL5 ?_;rintro⟨p,c⟩ ⟨hc,hof⟩;have hc:c.length<=9223372036854775807:=hc;have hof:p.offers.length<=1000:=hof;refine bQ (let a:=γd .i64;let b:=(0:Int);let d:=(-1:Int);let e:=Ω;let f:=(1000:Int);let g:=δh false;let h:=SV.bI;let j:=(1:Int);let q:=γQ 0 0 20;let w:=SV.ow 1 0 8;let m:=bp.i .i64;let l:=(↑c.length:Int);let t:=a l;let r:=bq.cells [a p.supply.a0,a p.supply.a1,a p.supply.a2,a p.supply.a3,a p.supply.a4,a p.supply.a5,a p.opn.a0,a p.opn.a1,a p.opn.a2,a p.opn.a3,a p.opn.a4,a p.opn.a5,a p.cls.a0,a p.cls.a1,a p.cls.a2,a p.cls.a3,a p.cls.a4,a p.cls.a5,e m p.classes,e bp.off p.offers] 27 20 false;let y:=bq.row bp.off [] 65 true;let s:=eh p.offers d c;let u:=h [e bp.off (dU p c),γA (fE p c)];let v:=(↑p.offers.length:Int);(((q.same q/\w.same w/\(γB .i64 d).same (a d)/\(e m c).same (e m c)/\(a (↑c.length:Int)).same t/\(γB .i64 0).same (a 0)/\True)/\r.same r/\y.same y/\True)/\b<=b/\b<=l/\(b<=b/\d<f)/\d<=d/\s=ζr (λx ↦(b,d,[]).snd.snd++x) s)/\∀(x:Int×Int×List Off),let k:=bj c x.fst.toNat b;let z:=decide (k<=x.snd.fst);let A:=x.snd.snd.length+1;let n:=x.fst+j;let o:=x.snd.snd++[bj p.offers k.toNat bp.off.dflt];let B:=a k;let C:=a n;let D:=bq.row bp.off o 65 true;b<=x.fst/\x.fst<=l/\((↑x.snd.snd.length:Int)<=x.snd.fst+j/\x.snd.fst<f)/\d<=x.snd.fst/\s=ζr (λx_1 ↦x.snd.snd++x_1) (eh p.offers x.snd.fst (γ4 x.fst.toNat c))->(decide (x.fst<l)=true->b<=x.fst/\x.fst<(↑c.length:Int)/\x.fst.toNat<c.length/\(z=true->(h [e m [],g]).same u)/\(z=false->(decide (v<=k)=true->(h [e m [],g]).same u)/\(decide (v<=k)=false->b<=k/\k<v/\k.toNat<p.offers.length/\x.snd.snd.length=x.snd.snd.length/\A*64<=140737488355328/\A<=1000000000000/\cu .i64 n/\((q.same q/\(SV.ow 1 o.length 8).same (SV.ow 1 o.length 8)/\B.same B/\(e m c).same (e m c)/\t.same t/\C.same C/\True)/\r.same r/\D.same D/\True)/\(b<=n/\n<=l/\((↑o.length:Int)<=k+j/\k<f)/\d<=k/\s=ζr (λx ↦(n,k,o).snd.snd++x) (eh p.offers k (γ4 n.toNat c)))/\(l - n).toNat<(l - x.fst).toNat)))/\(decide (x.fst<l)=false->x.snd.snd.length=x.snd.snd.length/\(h [e bp.off x.snd.snd,δh true]).same u)) (by kernel_rfl) ?_;simp only[vcs];have hrow:∀{l:List Off},l=[]->(Ω (.i .i64) []).same (Ω .off l):=by rintro l rfl;exact HW.2 trivial
 refine⟨⟨by omega,by omega,by omega,by simp⟩,?_⟩;rintro⟨i,last,out⟩ ⟨hi0,hi1,hlen,hla,hi⟩;simp only at hi0 hi1 hlen hla hi ⊢;refine⟨λhlt=>?_,λhge=>?_⟩
 ·rw[sP (d:=0) hi0 hlt] at hi;generalize hx:bj c i.toNat 0=x at hi ⊢;simp only[eh] at hi;refine⟨by omega,by omega,by omega,λh1=>?_,λh1=>⟨λh2=>?_,λh2=>?_⟩⟩
  ·rw[if_pos (.inl h1)] at hi;exact⟨hrow (by simp[dU,hi]),by simp[fE,hi]⟩
  ·rw[if_pos (.inr (by omega))] at hi;exact⟨hrow (by simp[dU,hi]),by simp[fE,hi]⟩
  ·rw[if_neg (by omega)] at hi;simp only[List.length_append,List.length_singleton];refine⟨by omega,by omega,by omega,by omega,by omega,by omega,⟨by omega,by omega,by omega,by omega,?_⟩,by omega⟩;rw[hi,Option.map_map];congr 1;funext r;simp
 ·rw[show i.toNat=c.length from by omega,δB] at hi;simp only[eh,ν,List.append_nil] at hi;exact⟨by simp[dU,hi],by simp[fE,hi]⟩
def L6:List bM:=pe::Du::L5
theorem hL6:∀c∈L6,Holds Tryz.prog c:=by
 grind[L6,h79,h133,hL5]
def cO (p:bn) (c:List Int):Int:=if bz p≠0 then bz p else if fE p c=false then 4 else if fZ p (dU p c)=false then 14 else 0
def xW:bM:=⟨37,bn×List Int,.cons dO (.one (dG (.i .i64))),λa=>a.2.length<=9223372036854775807,λa=> .si .i64 (cO a.1 a.2)⟩
theorem Qi {p:bn}:∀{l:List Off} {a:List nW},jc p a l=0->∀x∈l,ki p x=0
 |[],_,_=>by simp;|o::r,a,h=>by
  simp only[jc] at h;split at h;·omega
  ·rename_i c;split at h;·cases h
   ·intro x b;rcases γr.1 b with rfl|b;·omega
    ·exact Qi h x b
theorem uq {p:bn} (h:bz p=0):iQ p=0/\∀x∈p.offers,ki p x=0:=by
 unfold bz at h;split at h;·omega
 ·rename_i a;exact⟨γf.1 a,Qi h⟩
theorem Dv {p:bn} {o:Off} (h:ki p o=0):kJ p.classes.length o=0/\o.want≠bC.zero/\fZ p [o]=true:=by
 unfold ki at h;grind
theorem Ah {l:List Off}:∀{c:List Int} {a:Int} {r:List Off}, -1<=a->eh l a c=some r->r.length+a+1<=l.length\/r=[]
 |[],a,r,_,h=>by grind[eh];|i::c,a,r,d,h=>by
  simp only[eh] at h;split at h;·cases h
  ·rename_i e;obtain⟨f,b,rfl⟩:=ε.1 h;have:=Ah (by omega) b;grind
theorem Dw {l:List Off}:∀{c:List Int} {a:Int} {r:List Off}, -1<=a->eh l a c=some r->∀x∈r,x∈l
 |[],a,r,_,h=>by grind[eh];|i::c,a,r,f,h=>by
  simp only[eh] at h;split at h;·cases h
  ·rename_i e;obtain⟨g,d,rfl⟩:=ε.1 h;intro x b;rcases γr.1 b with rfl|b;·grind[dn]
   ·exact Dw (by omega) d x b
theorem h100:Holds Tryz.prog xW:=by
 refine cH (L:=L6) xW (λp=>λ_=> .look) hL6 ?_;rintro⟨p,c⟩ (n:c.length<=9223372036854775807);refine bQ (let a:=γB .i64;let e:=decide (bz p≠(0:Int));let d:=γd .i64 (cO p c);let f:=!fZ p (dU p c);True/\(e=true->(γd .i64 (bz p)).same d)/\(e=false->(c.length<=9223372036854775807/\p.offers.length<=1000)/\((!fE p c)=true->(a 4).same d)/\((!fE p c)=false->(p.classes.length<=8/\(dU p c).length<=1000/\∀(x:Off),x∈dU p c->(0:Int)<=x.bX/\x.bX<(↑p.classes.length:Int)/\x.want.ok=true)/\(f=true->(a 14).same d)/\(f=false->(a 0).same d)))) (by kernel_rfl) ?_;simp only[vcs];refine⟨λh=>by simp[cO,h],λh=>?_⟩;have g:bz p=0:=γf.1 h;obtain⟨m,j⟩:=uq g;obtain⟨s,o,l,q,t⟩:=uo m;refine⟨⟨n,by omega⟩,λa=>by grind[cO],λa=>⟨⟨l,?_,?_⟩,λk=>by grind[cO],λk=>by grind[cO]⟩⟩
 ·unfold fE at a;obtain⟨r,b⟩:=γp.1 a;have:=Ah (by omega) b;grind[dU]
 ·unfold fE at a;obtain⟨r,b⟩:=γp.1 a;simp only[dU,b,Option.getD_some];intro x i;have u:=Dq (Dv (j x (Dw (by omega) b x i))).1;simp_all
def bC.sub (a b:bC):bC:=⟨a.a0 - b.a0,a.a1 - b.a1,a.a2 - b.a2,a.a3 - b.a3,a.a4 - b.a4,a.a5 - b.a5⟩
def bC.meet (a b:bC):bC:=⟨min a.a0 b.a0,min a.a1 b.a1,min a.a2 b.a2,min a.a3 b.a3,min a.a4 b.a4,min a.a5 b.a5⟩
def bC.le (a b:bC):Bool:=decide (a.a0<=b.a0)&&decide (a.a1<=b.a1)&&decide (a.a2<=b.a2)&&decide (a.a3<=b.a3)&&decide (a.a4<=b.a4)&&decide (a.a5<=b.a5)
theorem bC.le_iff {a b:bC}:a.le b=true↔a.a0<=b.a0/\a.a1<=b.a1/\a.a2<=b.a2/\a.a3<=b.a3/\a.a4<=b.a4/\a.a5<=b.a5:=by
 simp[bC.le,and_assoc]
theorem aaH {a b:List SV}:(SV.agg a).same (.agg b)↔gL a=gL b:=by simp[εT,γF]
def H9:bM:=⟨67,bC×bC,.cons (ei .fi) (.one (ei .fi)),λ_=>True,λa=> .agg (encS .fi (a.1.meet a.2))⟩
theorem h163:Holds Tryz.prog H9:=by
 refine cH (L:=[]) H9 (λ_=>λ_=> .qy 7) (by simp) ?_;rintro⟨a,b⟩ _;refine bQ (let c:=γd .i64;(SV.agg [c (min a.a0 b.a0),c (min a.a1 b.a1),c (min a.a2 b.a2),c (min a.a3 b.a3),c (min a.a4 b.a4),c (min a.a5 b.a5)]).same (SV.agg [c (a.meet b).a0,c (a.meet b).a1,c (a.meet b).a2,c (a.meet b).a3,c (a.meet b).a4,c (a.meet b).a5])) (by kernel_rfl) ?_;simp only[vcs,aaH,gL,γF,bC.meet,and_self]
def Dx (p:bn) (m:Int):Int:=if bz p≠0 then bz p else if m<0\/2^p.classes.length<=m then 4 else 0
structure L8 where
 (l0 l1 l2 l3 l4 l5 l6 l7:List Off)
structure Qj where
 p:bn
 ls:L8
 es:List (Sit×Int)
def Ai (p:bn) (j:Int):List Off:=p.offers.filter λx=>decide (x.bX=j)
def Qj.o (s:Qj):cj:=
 [.cells [.si .i64 s.p.supply.a0,.si .i64 s.p.supply.a1,.si .i64 s.p.supply.a2,.si .i64 s.p.supply.a3,.si .i64 s.p.supply.a4,.si .i64 s.p.supply.a5,
  .si .i64 s.p.opn.a0,.si .i64 s.p.opn.a1,.si .i64 s.p.opn.a2,.si .i64 s.p.opn.a3,.si .i64 s.p.opn.a4,.si .i64 s.p.opn.a5,
  .si .i64 s.p.cls.a0,.si .i64 s.p.cls.a1,.si .i64 s.p.cls.a2,.si .i64 s.p.cls.a3,.si .i64 s.p.cls.a4,.si .i64 s.p.cls.a5,
  .row (.i .i64) s.p.classes,.row .off s.p.offers,.row .off s.ls.l0,.row .off s.ls.l1,.row .off s.ls.l2,.row .off s.ls.l3,.row .off s.ls.l4,.row .off s.ls.l5,.row .off s.ls.l6,.row .off s.ls.l7,.mp 1] 114 29 false,
  .map .sit (.i .i64) true s.es ([0,0,0,0,0,0,0,0,0,0,0,0,0],true) true]
def oc (c w a j k:Int):Int:=if j<k/\(c=0\/c=a) then 0 else w
def lA (p:bn) (x:Off):Int:=bj p.classes x.bX.toNat 0
def Ia (p:bn) (x:Off) (k:Int):bC:=⟨oc p.cls.a0 x.want.a0 (lA p x) 0 k,oc p.cls.a1 x.want.a1 (lA p x) 1 k,oc p.cls.a2 x.want.a2 (lA p x) 2 k,oc p.cls.a3 x.want.a3 (lA p x) 3 k,oc p.cls.a4 x.want.a4 (lA p x) 4 k,oc p.cls.a5 x.want.a5 (lA p x) 5 k⟩
def eV (p:bn) (x:Off):bC:=Ia p x 6
def Sit.b (a:Sit):Prop:=a.left.ok=true/\a.opn.ok=true
end Go.Vi
namespace Go.Proofs.YtbnhiekmnpikhaaGreat
open Go.ChangeShapes Go.WideShapes Go.ChangeAt Go.RowKit Go.Vi
theorem Tryz.own:ownKnob Tryz.prog.godebug=none:=by kernel_rfl
theorem Tryz.laidOut:laidOutB Tryz.prog=true:=by kernel_rfl
theorem aaI:Reads Tryz.prog 3 (.i .i64):=aah Tryz.underlying3
theorem Qk:Reads Tryz.prog 23 .fi:=aal Tryz.underlying23 Tryz.underlying3 (by kernel_rfl) (by kernel_rfl)
theorem aaJ:Reads Tryz.prog 65 .off:=aam Tryz.underlying65 (by kernel_rfl) rfl rfl rfl Tryz.underlying3 (by kernel_rfl) Tryz.underlying2 (by kernel_rfl) Qk (by kernel_rfl) rfl
theorem aaK {H:Type} {enc:TypeId×Value->H} {w:World} {a:Nat->Bool} {c:Bool} {b:Nat} {cs:List Value} {x:DataW H×List MemPlace} (h:DataW.trod enc Tryz.prog w 0 a c b 27 cs=some x):
  ∃p:bn,bG kh w [] [] (gL p.ss) cs:=
 aan Tryz.underlying27 (by kernel_rfl) rfl rfl rfl rfl rfl rfl Qk (by kernel_rfl) Tryz.underlying24 aaI (by kernel_rfl) (by kernel_rfl) Tryz.underlying25 aaJ (by kernel_rfl) (by kernel_rfl) h
theorem aaL {f:FuncId} {args:List SV} (h:kF Tryz.prog f (gL args) [] (γA true).g []) {W:World} {vs:List Value} (d:bG kh W [] [] (gL args) vs):
  Calls Tryz.prog f vs.toArray W λe c=>e= .returned (.bool true)/\Below W.heap.size W c:=by
 refine(h kh W [] vs (zu W (λb a=>a.elim)) d).mono ?_;grind[γF,bw,Qd]
end Go.Proofs.YtbnhiekmnpikhaaGreat
namespace Go.Vi
open Go.ChangeShapes Go.WideShapes Go.RowKit
def aaM (P:Program) (t:TypeId) (s:bp) (Q:s.T->Prop):Prop:=
 ∀(H:Type) (d:TypeId×Value->H) (w:World) (a:Nat->Bool) (c:Bool) (b:Nat) (e:List Value) (x:DataW H×List MemPlace),DataW.trod d P w 0 a c b t e=some x->∃y:s.T,Q y/\bG kh w [] [] (dP s y) e
theorem Dj.q {P:Program} {t:TypeId} {s:bp} (h:Dj P t s):aaM P t s λ_=>True:=λH d w a c b e x f=>by
 obtain⟨y,g⟩:=h H d w a c b e x f;grind
end Go.Vi
namespace Go.Proofs.YtbnhiekmnpikhaaGreat
open Go.ChangeShapes Go.WideShapes Go.ChangeAt Go.RowKit Go.Vi
end Go.Proofs.YtbnhiekmnpikhaaGreat
namespace Go.Vi
open Go.Proofs.YtbnhiekmnpikhaaGreat.Ir
open Go.Proofs
def aaN (m f:Int):Int:=fY.qx .i64 (m / 2^f.toNat) 1
def aaO (m f:Int):Int:=fY.CW .i64 m (2^f.toNat)
def rG (m:Int):List Int:=[0,1,2,3,4,5,6,7].filter λf=>decide (aaN m f≠0)
def Good (p:bn):Prop:=p.classes.length<=8/\p.offers.length<=160/\p.supply.ok=true/\p.opn.ok=true/\∀x∈p.offers,0<=x.bX/\x.bX<p.classes.length/\x.want.ok=true/\1<=x.value/\x.value<=1000000
def kj (p:bn):List Int->bC->bC->Int
 |[],_,_=>0
 |f::a,l,o=>(Ai p f).foldl (λv x=>if x.want.le l&&(eV p x).le o then max v (x.value+kj p a (l.sub x.want) (o.sub (eV p x))) else v) (kj p a l o)
def pg (p:bn) (a:List Int) (l o:bC) (v:Int) (x:Off):Int:=if x.want.le l&&(eV p x).le o then max v (x.value+kj p a (l.sub x.want) (o.sub (eV p x))) else v
def aaP (p:bn) (a:Sit):Int:=kj p (rG a.members) a.left a.opn
theorem dQ {p:bn} (h:bz p=0):Good p:=by
 obtain⟨e,k⟩:=uq h;obtain⟨b,a,m,g,q⟩:=uo e;refine⟨m,g,b,?_,λx o=>?_⟩
 ·have d:=bC.iP.1 b;have f:=oq.1 (a 0 (by omega));have c:=oq.1 (a 1 (by omega));have i:=oq.1 (a 2 (by omega));have l:=oq.1 (a 3 (by omega));have n:=oq.1 (a 4 (by omega));have j:=oq.1 (a 5 (by omega));simp[bj] at f c i l n j;grind[bC.iP]
 ·have d:=Dq (Dv (k x o)).1;simp_all
theorem Aj {n:Nat} (h:n<=8):(2:Int)^n<=256/\0<(2:Int)^n:=by
 have:n=0\/n=1\/n=2\/n=3\/n=4\/n=5\/n=6\/n=7\/n=8:=by omega
 grind
def rH (p:bn) (m:Int):Int:=if Dx p m=0 then aaP p ⟨m,p.supply,p.opn⟩ else 0
def allM (p:bn):Int:=2^p.classes.length - 1
def Ib (p:bn) (s:Int) (i:Int):Int:=s+(bj p.offers i.toNat bp.off.dflt).value
def Ak (p:bn) (c:List Int):Int:=c.foldl (Ib p) 0
def Ql (p:bn) (c:List Int):Int:=if cO p c≠0 then cO p c else if Ak p c<rH p (allM p) then 13 else 0
def bn.zero:bn:=⟨bC.zero,bC.zero,bC.zero,[],[]⟩
theorem Qm {l:List Off}:∀{c:List Int} {a:Int} {r:List Off}, -1<=a->eh l a c=some r->r.length=c.length/\∀i∈c,0<=i/\i<l.length
 |[],a,r,_,h=>by grind[eh];|i::c,a,r,e,h=>by
  simp only[eh] at h;split at h;·cases h
  ·rename_i d;obtain⟨f,b,rfl⟩:=ε.1 h;obtain⟨g,j⟩:=Qm (by omega) b;grind
def Ic:bM:=⟨40,bC,.one (ei .fi),λ_=>True,λb=> .sb b.ok⟩
theorem h68:Holds Tryz.prog Ic:=by
 refine cH (L:=[]) Ic (λ_ _=> .qy 7) (by simp) ?_;intro b _;refine bQ (let h:=δh false;let o:=γA;let p:=(0:Int);let q:=(4:Int);let i:=decide (b.a0<p);let d:=decide (q<b.a0);let k:=decide (b.a1<p);let e:=decide (q<b.a1);let l:=decide (b.a2<p);let f:=decide (q<b.a2);let j:=decide (b.a3<p);let m:=decide (q<b.a3);let n:=decide (b.a4<p);let g:=decide (q<b.a4);let a:=decide (b.a5<p);let c:=decide (q<b.a5);(i=true->(h).same (o (bC.ok b)))/\(i=false->(d=true->(h).same (o (bC.ok b)))/\(d=false->(k=true->(h).same (o (bC.ok b)))/\(k=false->(e=true->(h).same (o (bC.ok b)))/\(e=false->(l=true->(h).same (o (bC.ok b)))/\(l=false->(f=true->(h).same (o (bC.ok b)))/\(f=false->(j=true->(h).same (o (bC.ok b)))/\(j=false->(m=true->(h).same (o (bC.ok b)))/\(m=false->(n=true->(h).same (o (bC.ok b)))/\(n=false->(g=true->(h).same (o (bC.ok b)))/\(g=false->(a=true->(h).same (o (bC.ok b)))/\(a=false->(c=true->(h).same (o (bC.ok b)))/\(c=false->(δh true).same (o (bC.ok b))))))))))))))) (by kernel_rfl) ?_;conv=>zeta
 have o:=@bC.iP b;by_cases h:b.ok=true<;>simp_all
def qF (p:bn) (r:Int) (o:Off):Int:=
 if r - p.classes.length<0 then(if o.bX=r then 1 else 0)
 else if r - p.classes.length<6 then bj [o.want.a0,o.want.a1,o.want.a2,o.want.a3,o.want.a4,o.want.a5] (r - p.classes.length).toNat 0
 else if bj [p.cls.a0,p.cls.a1,p.cls.a2,p.cls.a3,p.cls.a4,p.cls.a5] (r - p.classes.length - 6).toNat 0=0\/p.classes.length<=o.bX\/bj [p.cls.a0,p.cls.a1,p.cls.a2,p.cls.a3,p.cls.a4,p.cls.a5] (r - p.classes.length - 6).toNat 0=bj p.classes o.bX.toNat 0 then 0
 else bj [o.want.a0,o.want.a1,o.want.a2,o.want.a3,o.want.a4,o.want.a5] (r - p.classes.length - 6).toNat 0
theorem aaQ {p:bn} {r:Int} {o:Off} (h:o.bX<p.classes.length):qF p r o=dY p r o:=by
 unfold qF dY;omega
def Ie:bM:=⟨63,bn×Int×Off,.cons dO (.cons (eU .i64) (.one (ei .off))),λa=>a.1.classes.length<=8/\0<=a.2.1/\a.2.1<dh a.1/\0<=a.2.2.bX,
 λa=> .bI [.si .i64 (qF a.1 a.2.1 a.2.2),.si .i64 (dm a.1 a.2.1)]⟩
theorem h110:Holds Tryz.prog Ie:=by
 refine cH (L:=[]) Ie (λ_ _=> .qy 7) (by simp) ?_;rintro⟨p,r,x⟩ ⟨D,z,B,A⟩;simp only[dh] at D z B A;refine bQ (let h:=(0:Int);let j:=(6:Int);let v:=γd .i64;let w:=cu .i64;let y:=SV.bI;let b:=(↑p.classes.length:Int);let a:=r - b - j;let o:=γB .i64 0;let k:=y [v (qF p r x),v (dm p r)];let q:=bj [p.cls.a0,p.cls.a1,p.cls.a2,p.cls.a3,p.cls.a4,p.cls.a5] a.toNat h;let t:=decide (x.bX=r);let e:=γB .i64 1;let g:=decide (r<b+j);let i:=decide (x.bX<b);let l:=h<=a/\a<j/\a.toNat<6/\(y [o,v (bj [p.opn.a0,p.opn.a1,p.opn.a2,p.opn.a3,p.opn.a4,p.opn.a5] a.toNat h)]).same k;let n:=λ(u f:Int) (c:bC) ↦let d:=(u - f).toNat;h<=u - f/\u - f<j/\d<6/\(y [v (bj [x.want.a0,x.want.a1,x.want.a2,x.want.a3,x.want.a4,x.want.a5] d h),v (bj [c.a0,c.a1,c.a2,c.a3,c.a4,c.a5] d h)]).same k;let m:=λ(u:Bool) ↦decide (q≠bj p.classes x.bX.toNat h)=u;let s:=λ(u:Bool) ↦decide (q≠h)=u;(decide (r<b)=true->(t=true->(y [e,e]).same k)/\(t=false->(y [o,e]).same k))/\(decide (r<b)=false->w (b+j)/\(g=true->w (r - b)/\h<=r - b/\r - b<j/\(r - b).toNat<6/\w (r - b)/\n r b p.supply)/\(g=false->w (r - b)/\w a/\h<=a/\a<j/\a.toNat<6/\(s true->(i=true->h<=a/\a<j/\a.toNat<6/\h<=x.bX/\x.bX<b/\x.bX.toNat<p.classes.length/\(m true->h<=a/\a<j/\a.toNat<6/\n (r - b) j p.opn)/\(m false->l))/\(i=false->l))/\(s false->l)))) (by kernel_rfl) ?_;simp only[vcs];have G:r - p.classes.length<0->dm p r=1:=λh=>by simp_all[dm]
 have E:¬r - p.classes.length<0->r - p.classes.length<6->dm p r=bj [p.supply.a0,p.supply.a1,p.supply.a2,p.supply.a3,p.supply.a4,p.supply.a5] (r - p.classes.length).toNat 0:=λh j=>by simp_all[dm,if_neg]
 have v:¬r - p.classes.length<0->¬r - p.classes.length<6->dm p r=bj [p.opn.a0,p.opn.a1,p.opn.a2,p.opn.a3,p.opn.a4,p.opn.a5] (r - p.classes.length - 6).toNat 0:=λh j=>by simp_all[dm,if_neg]
 have F:r - p.classes.length<0->qF p r x=if x.bX=r then 1 else 0:=λh=>by simp_all[qF]
 have H:¬r - p.classes.length<0->r - p.classes.length<6->qF p r x=bj [x.want.a0,x.want.a1,x.want.a2,x.want.a3,x.want.a4,x.want.a5] (r - p.classes.length).toNat 0:=λh j=>by simp_all[qF,if_neg]
 have y:=λ(h:¬r - p.classes.length<0) (j:¬r - p.classes.length<6)=>(show qF p r x=_ by unfold qF;rw[if_neg h,if_neg j]);refine⟨λw=>?_,λw=>⟨by omega,λC=>?_,λC=>?_⟩⟩;·grind
 ·grind
 ·rw[v (by omega) (by omega),y (by omega) (by omega)];omega
def M1:List bM:=[Ie,Ic]
theorem hM1:∀c∈M1,Holds Tryz.prog c:=by
 simp_all[M1,h110,h68]
def Dy:bM:=⟨41,bn×List Off,.cons dO (.one (dG .off)),λa=>a.1.classes.length<=8/\a.2.length<=1000/\(∀x∈a.2,0<=x.bX/\x.bX<a.1.classes.length/\x.want.ok=true),λa=> .sb (fZ a.1 a.2)⟩
def aaR (a:bn×List Off):Nat->cG
 |2=> .inv Int (λi=>⟨[(1,.row .off a.2),(2,.ptr 0 0 20),(5,.si .i64 i)],[.cells a.1.ss 27 20 false]⟩) (λs=>iS s 5)
  (λi=>0<=i/\i<=dh a.1/\∀r:Nat,r<i->cZ a.1 a.2 r<=dm a.1 r) (λi=>(dh a.1 - i).toNat)
  λi=>λ
   |6=> .inv (Int×Int) (λx=>⟨[(1,.row .off a.2),(2,.ptr 0 0 20),(5,.si .i64 i),(6,.si .i64 x.2),(7,.si .i64 x.1)],[.cells a.1.ss 27 20 false]⟩)
    (λs=>(iS s 7,iS s 6))
    (λx=>0<=x.1/\x.1<=a.2.length/\x.2=cZ a.1 (a.2.take x.1.toNat) i) (λx=>(a.2.length - x.1).toNat) λ_ _=> .look
   |_=> .look
 |_=> .look
theorem h69:Holds Tryz.prog Dy:=by
 refine cH (L:=M1) Dy aaR hM1 ?_;rintro⟨p,l⟩ ⟨A,G,q⟩;simp only at A G q;refine bQ (let d:=(0:Int);let i:=γd .i64;let j:=Ω;let o:=γB .i64 0;let q:=cu .i64;let s:=γB .i64;let b:=γQ 0 0 20;let c:=bq.cells (bn.ss p) 27 20 false;let v:=(↑p.classes.length:Int)+(12:Int);let k:=(↑l.length:Int);((((j bp.off l).same (j bp.off l)/\b.same b/\(o).same (i 0)/\True)/\c.same c/\True)/\d<=d/\d<=dh p/\∀(r:Nat),(↑r:Int)<d->cZ p l (↑r:Int)<=dm p (↑r:Int))/\∀(x:Int),let f:=x+(1:Int);let E:=i f;(d<=x/\x<=dh p/\∀(r:Nat),(↑r:Int)<x->cZ p l (↑r:Int)<=dm p (↑r:Int))->q v/\(decide (x<v)=true->((((j bp.off l).same (j bp.off l)/\b.same b/\(i x).same (i x)/\(o).same (i 0)/\(o).same (i 0)/\True)/\c.same c/\True)/\d<=d/\d<=k/\d=cZ p [] x)/\∀(a:Int×Int),let D:=decide (a.fst<(↑l.length:Int));let C:=bj l a.fst.toNat bp.off.dflt;let w:=a.snd+qF p x C;let e:=a.fst+(1:Int);let n:=i x;let h:=i w;let m:=i e;let g:=decide (dm p x<a.snd);d<=a.fst/\a.fst<=k/\a.snd=cZ p (Δ a.fst.toNat l) x->(D=true->d<=a.fst/\a.fst<(↑l.length:Int)/\a.fst.toNat<l.length/\(p.classes.length<=8/\d<=x/\x<dh p/\d<=C.bX)/\q w/\q e/\(((j bp.off l).same (j bp.off l)/\b.same b/\n.same n/\h.same h/\m.same m/\True)/\c.same c/\True)/\(d<=e/\e<=k/\w=cZ p (Δ e.toNat l) x)/\(k - e).toNat<(k - a.fst).toNat)/\(D=false->(p.classes.length<=8/\d<=x/\x<dh p/\d<=d)/\(g=true->(δh false).same (γA (fZ p l)))/\(g=false->q f/\(((j bp.off l).same (j bp.off l)/\b.same b/\E.same E/\True)/\c.same c/\True)/\(d<=f/\f<=dh p/\∀(r:Nat),(↑r:Int)<f->cZ p l (↑r:Int)<=dm p (↑r:Int))/\(dh p - f).toNat<(dh p - x).toNat)))/\(decide (x<v)=false->(δh true).same (γA (fZ p l)))) (by kernel_rfl) ?_;simp only[vcs];have T:dh p=p.classes.length+12:=rfl;have P:∀x∈l,x.want.ok=true:=λx y=>(q x y).2.2;refine⟨⟨by omega,by omega,λr J=>by omega⟩,?_⟩;rintro i ⟨H,F,S⟩;refine⟨by omega,λN=>⟨⟨by omega,by omega,by simp[cZ]⟩,?_⟩,?_⟩
 ·rintro⟨j,s⟩ ⟨u,o,B⟩;simp only at u o B ⊢;have Q:=@sO p i (l.take j.toNat) λx y=>P x (γo y);have z:(l.take j.toNat).length<=l.length:=by simp;omega
  refine⟨λt=>?_,λt=>?_⟩
  ·have O:=q _ (dn (d:=bp.off.dflt) (show j.toNat<l.length by omega));have R:=@pR p i _ O.2.2;grind[H3,aaQ]
  ·have:j.toNat=l.length:=by omega
   rw[this,φ] at B;refine⟨⟨A,by omega,by omega,by omega⟩,λK=>?_,λM=>⟨by omega,⟨by omega,by omega,λr J=>?_⟩,by omega⟩⟩
   ·symm;rw[δI];intro I;have:=pd.1 I i.toNat (by omega);grind
   grind
 grind[pd]
def Dz:bM:=⟨23,bn,.one dO,λp=>True,λp=> .si .i64 (bz p)⟩
def aaS (p:bn):Nat->cG
 |11=> .inv Int (λk=>⟨[(1,.ptr 0 0 20),(4,.si .i64 k)],[.cells p.ss 27 20 false]⟩) (λs=>iS s 4) (λk=>0<=k/\k<=p.classes.length/\∀c∈p.classes.take k.toNat,0<=c/\c<=4) (λk=>(p.classes.length - k).toNat) λ_ _=> .look
 |16=> .inv Int (λi=>⟨[(1,.ptr 0 0 20),(5,.si .i64 i)],[.cells p.ss 27 20 false]⟩) (λs=>iS s 5)
  (λi=>0<=i/\i<=p.offers.length/\jc p [] p.offers=jc p ((p.offers.take i.toNat).map Off.key) (p.offers.drop i.toNat)) (λi=>(p.offers.length - i).toNat)
  λi=>λ
   |26=> .inv Int (λk=>⟨[(1,.ptr 0 0 20),(5,.si .i64 i),(6,.ptr 1 0 8),(7,.si .i64 k)],[.cells p.ss 27 20 false,.cells (encS .off (bj p.offers i.toNat bp.off.dflt)) 65 8 false]⟩) (λs=>iS s 7)
    (λk=>0<=k/\k<=i/\∀j:Nat,j<k->(bj p.offers j bp.off.dflt).key≠(bj p.offers i.toNat bp.off.dflt).key) (λk=>(i - k).toNat) λ_ _=> .look
   |_=> .look
 |4=> .inv Int (λk=>⟨[(1,.ptr 0 0 20),(3,.si .i64 k)],[.cells p.ss 27 20 false]⟩) (λs=>iS s 3) (λk=>0<=k/\k<=6/\∀j:Nat,j<k->iI p j) (λk=>(6 - k).toNat) λ_ _=> .look
 |_=> .look
theorem aaT {b:bC}:(decide (b.a0=0)&&(decide (b.a1=0)&&(decide (b.a2=0)&&(decide (b.a3=0)&&(decide (b.a4=0)&&(decide (b.a5=0)&&true))))))=decide (b=bC.zero):=by
 simp_all[Dk,bC.zero]
theorem aaU {b c:bC}:(decide (b.a0=c.a0)&&(decide (b.a1=c.a1)&&(decide (b.a2=c.a2)&&(decide (b.a3=c.a3)&&(decide (b.a4=c.a4)&&(decide (b.a5=c.a5)&&true))))))=decide (b=c):=by
 grind[Dk]
theorem aaV {a:Type} {l:List a} {i:Int} {d x:a} (b:i<=l.length) (h:x∈l.take i.toNat):∃j:Nat,(j:Int)<i/\bj l j d=x:=by
 obtain⟨j,c,rfl⟩:=List.mem_iff_getElem.1 h;grind[cT]
theorem h24:Holds Tryz.prog Dz:=by
 refine cH (L:=Dy::M1) Dz aaS (by simp only[εW];exact⟨h69,hM1⟩) ?_;intro p _;refine bQ (let a:=(0:Int);let b:=γd .i64;let d:=γB .i64;let e:=(6:Int);let f:=(1:Int);let g:=(4:Int);let h:=cu .i64;let k:=b (bz p);let l:=γQ 0 0 20;let z:=d 0;let m:=bq.cells (bn.ss p) 27 20 false;let af:=[p.cls.a0,p.cls.a1,p.cls.a2,p.cls.a3,p.cls.a4,p.cls.a5];let ag:=[p.opn.a0,p.opn.a1,p.opn.a2,p.opn.a3,p.opn.a4,p.opn.a5];let ah:=[p.supply.a0,p.supply.a1,p.supply.a2,p.supply.a3,p.supply.a4,p.supply.a5];let J:=p.classes.length;let o:=(↑J:Int);let L:=decide ((8:Int)<o);let E:=p.offers.length;let r:=(↑E:Int);let M:=decide ((160:Int)<r);let s:=(↑p.classes.length:Int);let A:=(↑p.offers.length:Int);let F:=jc p [] p.offers;let B:=bp.off.dflt;let G:=γQ 1 0 8;True/\((!p.supply.ok)=true->(d 4).same k)/\((!p.supply.ok)=false->(((l.same l/\z.same (b 0)/\True)/\m.same m/\True)/\a<=a/\a<=e/\∀(j:Nat),(↑j:Int)<a->iI p j)/\∀(x:Int),let t:=x+f;let N:=b t;let O:=decide (x<e);let K:=bj af x.toNat a;let P:=decide (K<a);let Q:=decide (g<K);let C:=bj ag x.toNat a;let R:=decide (C<a);let H:=bj ah x.toNat a;let S:=decide (K=a);let T:=h t/\((l.same l/\N.same N/\True)/\m.same m/\True)/\(a<=t/\t<=e/\∀(j:Nat),(↑j:Int)<t->iI p j)/\(e - t).toNat<(e - x).toNat;(a<=x/\x<=e/\∀(j:Nat),(↑j:Int)<x->iI p j)->(O=true->a<=x/\x<e/\x.toNat<6/\(P=true->(d 4).same k)/\(P=false->a<=x/\x<e/\x.toNat<6/\(Q=true->(d 4).same k)/\(Q=false->a<=x/\x<e/\x.toNat<6/\(R=true->(d 4).same k)/\(R=false->a<=x/\x<e/\x.toNat<6/\a<=x/\x<e/\x.toNat<6/\(decide (H<C)=true->(d 4).same k)/\(decide (H<C)=false->a<=x/\x<e/\x.toNat<6/\(S=true->a<=x/\x<e/\x.toNat<6/\a<=x/\x<e/\x.toNat<6/\(decide (C≠H)=true->(d 4).same k)/\(decide (C≠H)=false->T))/\(S=false->T))))))/\(O=false->(L=true->(d 3).same k)/\(L=false->(M=true->(d 3).same k)/\(M=false->(((l.same l/\z.same (b 0)/\True)/\m.same m/\True)/\a<=a/\a<=s/\∀(c:Int),c∈[]->a<=c/\c<=g)/\∀(x:Int),let U:=bj p.classes x.toNat a;let V:=decide (U<a);let W:=decide (g<U);let v:=x+f;let X:=b v;(a<=x/\x<=s/\∀(c:Int),c∈Δ x.toNat p.classes->a<=c/\c<=g)->(decide (x<o)=true->a<=x/\x<o/\x.toNat<J/\(V=true->(d 4).same k)/\(V=false->a<=x/\x<o/\x.toNat<J/\(W=true->(d 4).same k)/\(W=false->h v/\((l.same l/\X.same X/\True)/\m.same m/\True)/\(a<=v/\v<=s/\∀(c:Int),c∈Δ v.toNat p.classes->a<=c/\c<=g)/\(s - v).toNat<(s - x).toNat)))/\(decide (x<o)=false->(((l.same l/\z.same (b 0)/\True)/\m.same m/\True)/\a<=a/\a<=A/\F=F)/\∀(x:Int),let n:=bj p.offers x.toNat B;let i:=n.want;let D:=n.bX;let Y:=decide (D<a);let Z:=decide (n.value<f);let a6:=decide ((1000000:Int)<n.value);let I:=bq.cells [b D,b i.a0,b i.a1,b i.a2,b i.a3,b i.a4,b i.a5,b n.value] 65 8 false;let q:=x+f;let a7:=b q;let a8:=λ(u:Bool) ↦(decide (i.a0=a)&&(decide (i.a1=a)&&(decide (i.a2=a)&&(decide (i.a3=a)&&(decide (i.a4=a)&&(decide (i.a5=a)&&true))))))=u;a<=x/\x<=A/\F=jc p (γb Off.key (Δ x.toNat p.offers)) (γ4 x.toNat p.offers)->(decide (x<r)=true->a<=x/\x<r/\x.toNat<E/\(Y=true->(d 6).same k)/\(Y=false->(decide (o<=D)=true->(d 6).same k)/\(decide (o<=D)=false->(Z=true->(d 4).same k)/\(Z=false->(a6=true->(d 4).same k)/\(a6=false->True/\((!i.ok)=true->(d 4).same k)/\((!i.ok)=false->(a8 true->(d 4).same k)/\(a8 false->(p.classes.length<=8/\1<=1000/\∀(x:Off),x∈[n]->a<=x.bX/\x.bX<s/\x.want.ok=true)/\((!fZ p [n])=true->(d 14).same k)/\((!fZ p [n])=false->(((l.same l/\(b x).same (b x)/\G.same G/\z.same (b 0)/\True)/\m.same m/\I.same I/\True)/\a<=a/\a<=x/\∀(j:Nat),(↑j:Int)<a->(bj p.offers j B).key≠n.key)/\∀(x_1:Int),let w:=x_1+f;let a9:=b x;let aa:=b w;let ab:=bj p.offers x_1.toNat B;let y:=ab.want;let ac:=decide (ab.bX=D);let ad:=h w/\((l.same l/\a9.same a9/\G.same G/\aa.same aa/\True)/\m.same m/\I.same I/\True)/\(a<=w/\w<=x/\∀(j:Nat),(↑j:Int)<w->(bj p.offers j B).key≠n.key)/\(x - w).toNat<(x - x_1).toNat;let ae:=λ(u:Bool) ↦(decide (y.a0=i.a0)&&(decide (y.a1=i.a1)&&(decide (y.a2=i.a2)&&(decide (y.a3=i.a3)&&(decide (y.a4=i.a4)&&(decide (y.a5=i.a5)&&true))))))=u;(a<=x_1/\x_1<=x/\∀(j:Nat),(↑j:Int)<x_1->(bj p.offers j B).key≠n.key)->(decide (x_1<x)=true->a<=x_1/\x_1<r/\x_1.toNat<E/\(ac=true->a<=x_1/\x_1<r/\x_1.toNat<E/\(ae true->(d 7).same k)/\(ae false->ad))/\(ac=false->ad))/\(decide (x_1<x)=false->h q/\((l.same l/\a7.same a7/\True)/\m.same m/\True)/\(a<=q/\q<=A/\F=jc p (γb Off.key (Δ q.toNat p.offers)) (γ4 q.toNat p.offers))/\(A - q).toNat<(A - x).toNat)))))))))/\(decide (x<r)=false->z.same k))))))) (by kernel_rfl) ?_;simp only[aaT,aaU];simp only[vcs];have e4:iQ p=4->(4:Int)=bz p:=λh=>by simp[bz,h]
 have e3:iQ p=3->(3:Int)=bz p:=λh=>by simp[bz,h]
 refine⟨λhs=>e4 (Qf hs),λhs=>⟨⟨by omega,by omega,λj hj=>by omega⟩,?_⟩⟩;rintro k ⟨hk0,hk1,hk⟩;refine⟨λhlt=>?_,λhge=>?_⟩
 ·have bad:¬iI p k.toNat->(4:Int)=bz p:=λh=>e4 (Qg hs (by omega) h);have H6:iI p k.toNat->∀(j:Nat),(j:Int)<k+1->iI p j:=λh j hj=>by
   by_cases hj2:(j:Int)<k;·exact hk j hj2
   ·rw[show j=k.toNat from by omega];exact h
  repeat' (first|refine γl ?_ ?_|intro _)
  all_goals first
   |omega;|exact bad λhh=>by have h2:=oq.1 hh;omega;|exact H6 (oq.2 (by omega)) _ (by assumption)
 ·have hall:∀j:Nat,j<6->iI p j:=λj hj=>hk j (by omega);refine⟨λh=>e3 (Dn hs hall (.inl (by omega))),λh8=>⟨λh=>e3 (Dn hs hall (.inr (by omega))),λh160=>⟨⟨by omega,by omega,by simp⟩,?_⟩⟩⟩;rintro i ⟨hi0,hi1,hi⟩;refine⟨λhlt=>?_,λhge=>?_⟩
  ·have hm:=dn (d:=0) (show i.toNat<p.classes.length by omega);refine⟨by omega,by omega,by omega,λh=>e4 (Dp hs hall (by omega) hm (by omega)),λh1=>⟨by omega,by omega,by omega,λh=>e4 (Dp hs hall (by omega) hm (by omega)),λh2=>⟨by omega,⟨by omega,by omega,?_⟩,by omega⟩⟩⟩;exact Qh hi0 hlt hi (by omega)
  ·rw[show i.toNat=p.classes.length from by omega,φ] at hi;have hz:iQ p=0:=H5 hs hall (by omega) hi;have ce:bz p=jc p [] p.offers:=by simp[bz,hz]
   refine⟨⟨by omega,by omega⟩,?_⟩;rintro i ⟨hi0,hi1,hi⟩;refine⟨λhlt=>?_,λhge=>?_⟩
   ·rw[sP (d:=bp.off.dflt) hi0 hlt] at hi;generalize hx:bj p.offers i.toNat bp.off.dflt=x at hi ⊢;have oe:∀c:Int,c≠0->ki p x=c->c=bz p:=λc hc h=>by
     rw[ce,hi];simp only[jc,h];rw[if_pos hc]
    have se:∀c:Int,c≠0->kJ p.classes.length x=c->c=bz p:=λc hc h=>oe c hc (by
     unfold ki;rw[if_pos (by omega),h]);refine⟨by omega,by omega,by omega,λh1=>?_,λh1=>⟨λh2=>?_,λh2=>⟨λh3=>?_,λh3=>⟨λh4=>?_,λh4=>⟨λh5=>?_,λh5=>⟨λh6=>?_,λh6=>?_⟩⟩⟩⟩⟩⟩;·exact se 6 (by decide) (by unfold kJ;rw[if_pos (by omega)])
    ·exact se 6 (by decide) (by unfold kJ;rw[if_pos (by omega)])
    ·exact se 4 (by decide) (by unfold kJ;rw[if_neg (by omega),if_pos (by omega)])
    ·exact se 4 (by decide) (by unfold kJ;rw[if_neg (by omega),if_pos (by omega)])
    ·exact se 4 (by decide) (by unfold kJ;rw[if_neg (by omega),if_neg (by omega),h5];rfl)
    ·have hs0:kJ p.classes.length x=0:=by unfold kJ;rw[if_neg (by omega),if_neg (by omega),h5];rfl
     exact oe 4 (by decide) (by simp[ki,hs0,h6])
    ·have hs0:kJ p.classes.length x=0:=by unfold kJ;rw[if_neg (by omega),if_neg (by omega),h5];rfl
     refine⟨⟨by omega,by omega,λy hy=>?_⟩,λh7=>?_,λh7=>⟨⟨by omega,by omega,λj hj=>by omega⟩,?_⟩⟩
     ·rw[List.mem_singleton.1 hy];exact⟨by omega,by omega,h5⟩
     ·exact oe 14 (by decide) (by simp[ki,hs0,h6,h7])
     ·have ho0:ki p x=0:=by simp[ki,hs0,h6,h7]
      rintro k ⟨hk0,hk1,hk⟩;have hnx:(bj p.offers k.toNat bp.off.dflt).key≠x.key->∀j:Nat,(j:Int)<k+1->(bj p.offers j bp.off.dflt).key≠x.key:=λh j hj=>by
       by_cases hj2:(j:Int)<k;·exact hk j hj2
       ·rw[show j=k.toNat from by omega];exact h
      refine⟨λhlt2=>⟨by omega,by omega,by omega,λh8=>⟨by omega,by omega,by omega,λh9=>?_,λh9=>⟨by omega,⟨by omega,by omega,?_⟩,by omega⟩⟩,λh8=>⟨by omega,⟨by omega,by omega,?_⟩,by omega⟩⟩,λDC=>⟨by omega,⟨by omega,by omega,?_⟩,by omega⟩⟩
      ·have hk9:(bj p.offers k.toNat bp.off.dflt).key=x.key:=by
        show nW.mk _ _=nW.mk _ _;rw[h8,h9]
       have hmem:x.key∈(p.offers.take i.toNat).map Off.key:=by
        rw[<-hk9];refine Θ.2 ⟨_,?_,rfl⟩;rw[cT (by omega)];exact List.mem_take_iff_getElem.2 ⟨k.toNat,by omega,rfl⟩
       rw[ce,hi];simp only[jc,ho0,ne_eq,not_true,if_false,if_pos hmem]
      ·refine hnx λe=>h9 ?_;injection e
      ·refine hnx λe=>h8 ?_;injection e
      ·have hnm:x.key∉(p.offers.take i.toNat).map Off.key:=by
        intro hmem;obtain⟨o,ho,he⟩:=Θ.1 hmem;obtain⟨j,hj,rfl⟩:=aaV (d:=bp.off.dflt) hi1 ho;exact hk j (by omega) he
       rw[hi,jq (d:=bp.off.dflt) hi0 hlt,hx];simp only[jc,ho0,ne_eq,not_true,if_false,if_neg hnm,List.map_append,ξ,List.map_nil]
   ·rw[show i.toNat=p.offers.length from by omega,δB] at hi;rw[ce,hi];rfl
end Go.Vi
