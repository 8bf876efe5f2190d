import Derived.Test.YtbnhiekmnpikhaaGreatDE05
import Derived.Test.YtbnhiekmnpikhaaGreatDE01
import Derived.Deep.Slices
import Derived.OpenShut
import Derived.ProofKit
import Derived.Test.YtbnhiekmnpikhaaGreatRows
set_option maxRecDepth 100000
set_option maxHeartbeats 4000000
set_option linter.all false
open And renaming intro->γm
open Bool renaming false_eq_true->τ,not_eq_false->ζt,and_eq_true->θ,eq_false_iff->δN
open Classical renaming choose->δU,choose_spec->εe,not_not->γe
open Go.Vi.AV renaming bI->δy
open Go.Vi.AV.sc renaming injEq->δe
open Go.Vi.AV.sl renaming injEq->δ7
open Go.Vi.SV renaming g->γF,row->γa,si->γj,bi->εX,il->γC,sb->γB,bl->δj,ptr->γV
open List renaming mem_map->Γ,all_eq_true->ψ,take->Δ,map_cons->ξ,length_range->ζv,range->ω,getElem?_eq_getElem->μ,mem_of_mem_take->γn,take_length->φ,forall_mem_cons->εo,map->γc,drop->γ4,drop_length->δE,mem_cons->γq
open List.cons renaming injEq->Θ
open Nat renaming beq->δu
open Option renaming map_eq_some_iff->ε,map_some->ν,bind_some->δT,map->ζw,isSome_iff_exists->γs
open Option.some renaming injEq->γ
open Prod.mk renaming injEq->ι
namespace Go.Vi
structure cj where
 bm:oz
 bs:oz
 bt:oz
 bk:List Int
 bj:List bC
structure bB where
 bn:List Int
 value:Int
def cj.ss (p:cj):List SV:=
 [.si .i64 p.bm.a0,.si .i64 p.bm.a1,.si .i64 p.bm.a2,.si .i64 p.bm.a3,.si .i64 p.bm.a4,.si .i64 p.bm.a5,
  .si .i64 p.bs.a0,.si .i64 p.bs.a1,.si .i64 p.bs.a2,.si .i64 p.bs.a3,.si .i64 p.bs.a4,.si .i64 p.bs.a5,
  .si .i64 p.bt.a0,.si .i64 p.bt.a1,.si .i64 p.bt.a2,.si .i64 p.bt.a3,.si .i64 p.bt.a4,.si .i64 p.bt.a5,
  .row (.i .i64) p.bk,.row .bu p.bj]
def tK:List SV->Option cj
 |[g,v,b,q,d,x,a,n,w,h,j,l,t,p,r,u,e,m,k,f]=>match jl .bun [g,v,b,q,d,x],jl .bun [a,n,w,h,j,l],jl .bun [t,p,r,u,e,m],iH (.i .i64) k,iH .bu f with
  |some s,some o,some c,some k,some f=>some ⟨s,o,c,k,f⟩
  |_,_,_,_,_=>none
 |_=>none
theorem xp {cs:List SV} {p:cj} (h:tK cs=some p):gL cs=gL p.ss:=by
 unfold tK at h;split at h
 ·split at h
  ·rename_i s o c k f a i b e d;simp only[γ] at h;subst h;have a:=mH a;have i:=mH i;have b:=mH b;have e:=nl e;have d:=nl d;simp_all[df,cI,cj.ss,gL,γF,iv]
  ·cases h
 ·cases h
def cV:o8 cj where
 put p:=.agg p.ss;dec
  | .agg c=>tK c
  |_=>none;ok v a h:=by
  grind[γF,xp]
 inj a b h:=by
  obtain⟨⟨a0,a1,a2,a3,M,o⟩,⟨A,l,e,b3,I,b5⟩,⟨H,V,Y,J,x,j⟩,k,f⟩:=a;obtain⟨⟨d,t,d2,Z,d4,X⟩,⟨N,R,u,y,S,e5⟩,⟨f0,E,f2,f3,O,q⟩,W,B⟩:=b;simp only[γF,cj.ss,gL,AV.agg.injEq,Θ,and_true,δe,Value.int.injEq,true_and,δ7] at h;obtain⟨h0,h1,F,P,Q,z,C,L,g2,U,G,T,w,K,k2,r,D,k5,m,n⟩:=h;have s:=kq (.i .i64) m.1 m.2;have n2:=kq .bu n.1 n.2;simp_all
def kp:o8 bB where
 put a:=.agg [.row (.i .i64) a.bn,.si .i64 a.value];dec
  | .agg [r,v]=>match iH (.i .i64) r,v.int .i64 with
   |some c,some v=>some ⟨c,v⟩
   |_,_=>none
  |_=>none;ok v a h:=by
  grind[γF,gL,nl,gT]
 inj a b h:=by
  obtain⟨c,v⟩:=a;obtain⟨e,f⟩:=b;simp only[γF,gL,AV.agg.injEq,Θ,and_true,δe,Value.int.injEq,true_and,δ7] at h;have d:=kq (.i .i64) h.1.1 h.1.2;rw[d,h.2]
def mi:TypeId->Option ew
 |2=>some (.i .i64)
 |3=>some (.i .i64)
 |24=>some (.Ap (.i .i64))
 |172=>some (.i .u32)
 |177=>some (.pair .b (.pair (.Ap (.i .u32)) (.Ap (.i .u32))))
 |40=>some (.pair (.Ap (.i .i64)) (.i .i64))
 |106=>some (.Ap (.pair .b (.pair (.Ap (.i .u32)) (.Ap (.i .u32)))))
 |249=>some (.pair (.Ap (.pair .b (.pair (.Ap (.i .u32)) (.Ap (.i .u32))))) (.pair .b (.pair (.Ap (.i .u32)) (.Ap (.i .u32)))))
 |4=>some .b
 |108=>some (.pair (.i .i64) (.pair (.i .i64) (.pair (.i .i64) (.pair (.i .i64) (.Ap (.pair .b (.pair (.Ap (.i .u32)) (.Ap (.i .u32)))))))))
 |65=>some .bu
 |23=>some .bun
 |159=>some (.pair (.i .i64) .b)
 |51=>some (.pair (.Ap (.i .i64)) (.pair (.i .i64) (.Ap (.pair (.i .i64) (.pair (.i .i64) (.pair (.i .i64) (.pair (.i .i64) (.Ap (.pair .b (.pair (.Ap (.i .u32)) (.Ap (.i .u32))))))))))))
 |_=>none
def ml:List Nat×Bool->Option (ew×ew)
 |([0],false)=>some (.i .i64,.i .i64)
 |([0,0,0,0,0,0,0],true)=>some (.key,.b)
 |([0,0,0,0,0,0,0,0,0,0,0,0,0],true)=>some (.sit,.i .i64)
 |_=>none
mutual
def SV.bI (m:Nat->Option Nat):SV->Option SV
 | .agg h=>(pV m h).map .agg
 | .Gz h=>(pV m h).map .Gz
 | .ptr g j q=>(m g).map λi=> .ptr i j q
 | .ap g a b c d e=>(m g).map λi=> .ap i a b c d e
 | .rp g a b c d=>(m g).map λi=> .rp i a b c d
 | .ow g n w=>(m g).map λi=> .ow i n w
 | .os g a b c d=>(m g).map λi=> .os i a b c d
 | .oc g a b c d=>(m g).map λi=> .oc i a b c d
 | .mp g=>(m g).map .mp
 | .fn f a b=>match pV m a,pV m b with
  |some r,some u=>some (.fn f r u)
  |_,_=>none
 | .ud=>some .ud
 | .sc v=>some (.sc v)
 | .il k n=>some (.il k n)
 | .si k n=>some (.si k n)
 | .bl b=>some (.bl b)
 | .sb b=>some (.sb b)
 | .row s l=>some (.row s l)
 | .ep s l i o=>some (.ep s l i o)
 | .ia t h=>some (.ia t h)
 | .ite c a b=>some (.ite c a b)
def pV (m:Nat->Option Nat):List SV->Option (List SV)
 |[]=>some []
 |c::h=>match c.bI m,pV m h with
  |some x,some p=>some (x::p)
  |_,_=>none
end
mutual
theorem Fz {m:Nat->Option Nat}:∀{v d:SV},v.bI m=some d->v.g.bI m=some d.g
 | .agg p,d,h=>by
  simp only[SV.bI] at h;obtain⟨k,e,rfl⟩:=ε.1 h;simp only[γF,δy,tJ e,ν];| .Gz p,d,h=>by
  simp only[SV.bI] at h;obtain⟨k,e,rfl⟩:=ε.1 h;simp only[γF,δy,tJ e,ν];| .fn f a b,d,h=>by
  simp only[SV.bI] at h;split at h
  ·rename_i r q e o;simp only[γ] at h;subst h;simp only[γF,δy,tJ e,tJ o]
  ·cases h;| .ptr j _ _,d,h| .ap j _ _ _ _ _,d,h| .rp j _ _ _ _,d,h| .ow j _ _,d,h| .os j _ _ _ _,d,h| .oc j _ _ _ _,d,h| .mp j,d,h=>by
  simp only[SV.bI] at h;obtain⟨i,e,rfl⟩:=ε.1 h;simp only[γF,δy,e,ν];| .ud,d,h| .sc _,d,h| .il _ _,d,h| .si _ _,d,h| .bl _,d,h| .sb _,d,h| .row _ _,d,h| .ep _ _ _ _,d,h| .ia _ _,d,h| .ite _ _ _,d,h=>by
  simp only[SV.bI,γ] at h;subst h;simp only[γF,δy]
theorem tJ {m:Nat->Option Nat}:∀{l n:List SV},pV m l=some n->gV m (gL l)=some (gL n)
 |[],n,h=>by grind[pV,gL,gV];|c::p,n,h=>by
  simp only[pV] at h;split at h
  ·rename_i s k e o;simp only[γ] at h;subst h;simp only[gL,gV,Fz e,tJ o]
  ·cases h
end
def iZ.bI (m:Nat->Option Nat):iZ->Option iZ
 | .cells d e c a=>if a then some (.cells d e c a) else(pV m d).map λb=> .cells b e c a
 | .dead=>some .dead
 | .row s l e a=>some (.row s l e a)
 | .map j f g h i a=>some (.map j f g h i a)
 | .aol .. =>none
theorem Nl {m:Nat->Option Nat}:∀{l:List AV},(∀a∈l,Plain a)->gV m l=some l
 |[],_=>by simp[gV];|a::e,h=>by
  have d:=Nl (m:=m) (l:=e) λb c=>h b (by simp[c]);rcases h a (by simp) with⟨v,rfl,_⟩|⟨n,f,rfl,_⟩<;>simp only[gV,δy,d]
theorem Nk {m:Nat->Option Nat}:∀{l:List (Value×AV)},(∀a∈l,∃v,a.2= .sc v)->nv m l=some l
 |[],_=>by simp[nv];|(k,c)::e,h=>by
  obtain⟨v,b⟩:=h (k,c) (by simp);simp only at b;subst b;simp only[nv,δy,Nk (l:=e) λa d=>h a (by simp[d])]
theorem Fy {b sv:ew} {d:Bool} {es:List (b.T×sv.T)}:∀a∈es.map (λp=>(nU b d p.1,lR sv p.2)),∃v,a.2= .sc v:=λa c=>by
 obtain⟨q,_,rfl⟩:=Γ.1 c;exact⟨_,rfl⟩
theorem Nj {m:Nat->Option Nat} {x y:iZ} (h:x.bI m=some y):x.g.bI m=some y.g:=by
 cases x with
 |dead=>simp[iZ.bI] at h;subst h;rfl;|cells o e k a=>
  simp only[iZ.bI] at h;cases a with
  |true=>simp only[if_true,γ] at h;subst h;simp only[iZ.g,OL.bI,if_true];|false=>
   simp only[τ,if_false] at h;obtain⟨b,c,rfl⟩:=ε.1 h;simp_all[iZ.g,OL.bI,tJ]
 |aol s l e t=>grind[iZ.bI];|row s l e a=>
  grind[iZ.bI,iZ.g,OL.bI,Nl,lQ];|map f n i j d a=>
  simp only[iZ.bI,γ] at h;subst h;simp only[iZ.g,OL.bI,Nk Fy,ν];grind
def xo (m:Nat->Option Nat):TP->Option TP
 |[]=>some []
 |x::r=>match x.bI m,xo m r with
  |some y,some l=>some (y::l)
  |_,_=>none
theorem Ni {m:Nat->Option Nat}:∀{o o':TP},xo m o=some o'->qG m (gO o)=some (gO o')
 |[],o',h=>by simp[xo] at h;subst h;rfl;|x::r,o',h=>by
  simp only[xo] at h;split at h
  ·rename_i y l b a;simp only[γ] at h;subst h;have:=Ni a;grind[gO,qG,Nj]
  ·cases h
def u_ (o:TP) (a:List Nat):List Nat->Option TP
 |[]=>some []
 |i::r=>match o[i]?,u_ o a r with
  |some x,some l=>match x.bI (λj=>idxOf a j) with
   |some y=>some (y::l)
   |none=>none
  |_,_=>none
theorem Fx {o:TP} {a:List Nat}:∀{r:List Nat} {o':TP},u_ o a r=some o'->j7 (gO o) a r=some (gO o')
 |[],o',h=>by simp[u_] at h;subst h;rfl;|i::r,o',h=>by
  simp only[u_] at h;split at h
  ·rename_i x l d b;split at h
   ·rename_i y c;simp only[γ] at h;subst h;simp only[j7,eY d,Fx b,Nj c,ν];rfl
   ·cases h
  ·cases h
def u7 (o:TP):List Nat->TP->TP
 |[],_=>o
 |_,[]=>o
 |i::r,x::l=>u7 (o.set i x) r l
theorem Nh:∀{a:List Nat} {o l:TP},gO (u7 o a l)=kJ (gO o) a (gO l)
 |[],o,l=>by simp[u7,kJ];|_::_,o,[]=>by simp[u7,kJ,gO];|i::r,o,x::l=>by
  simp only[u7];rw[Nh,oB];simp[gO,kJ]
def nP (o:TP):Nat->List SV->List Nat->List Nat
 |0,_,c=>c
 |_,[],c=>c
 |d+1,v::i,c=>
  let f (e:Nat) (c:List Nat):List Nat:=
   if c.contains e then c else
   match o[e]? with
   |some (.cells g _ _ h)=>if h then c++[e] else nP o d g (c++[e])
   |_=>c++[e];nP o d i (match v with
   | .agg g| .Gz g=>nP o d g c
   | .ptr e _ _| .ap e _ _ _ _ _| .rp e _ _ _ _| .ow e _ _| .os e _ _ _ _| .oc e _ _ _ _| .mp e=>f e c
   | .fn _ a b=>nP o d b (nP o d a c)
   |_=>c)
theorem xn {o:a_}:∀{d:Nat} {l:List AV} {acc:List Nat},(∀a∈l,Plain a)->b_ o d l acc=acc
 |0,_,_,_=>by grind[b_];|d+1,[],_,_=>by grind[b_];|d+1,a::l,acc,h=>by
  have e:=xn (o:=o) (d:=d) (l:=l) (acc:=acc) λb c=>h b (by simp[c]);rcases h a (by simp) with⟨v,rfl,_⟩|⟨n,f,rfl,_⟩<;>(grind[b_])
theorem Ng {o:a_}:∀{d:Nat} {l:List AV} {acc:List Nat},(∀a∈l,∃v,a= .sc v)->b_ o d l acc=acc
 |0,_,_,_=>by simp[b_];|d+1,[],_,_=>by simp[b_];|d+1,a::l,acc,h=>by
  obtain⟨v,rfl⟩:=h a (by simp);simp only[b_];exact Ng λa b=>h a (by simp[b])
theorem Yg {l:List (Value×AV)} (h:∀a∈l,∃v,a.2= .sc v):∀a∈l.map (·.2),∃v,a= .sc v:=λa b=>by
 grind
def iZ.AZ:iZ->Bool
 | .aol .. =>false
 |_=>true
theorem N7 {o:TP} (h:o.all iZ.AZ=true):∀{d:Nat} {vs:List SV} {acc:List Nat},b_ (gO o) d (gL vs) acc=nP o d vs acc:=by
 intro d;induction d with
 |zero=>grind[b_,nP];|succ d k=>
  intro vs acc;cases vs with
  |nil=>simp[gL,b_,nP];|cons v vs=>
   have m:∀(b:Nat) (acc:List Nat),(if acc.contains b then acc else
     match(gO o)[b]? with
     |some (.cells f _ _ c)=>if c then acc++[b] else b_ (gO o) d f (acc++[b])
     |some (.map j _ c)=>if c then acc++[b] else b_ (gO o) d (j.map (·.2)) (acc++[b])
     |_=>acc++[b])=(if acc.contains b then acc else
     match o[b]? with
     |some (.cells f _ _ c)=>if c then acc++[b] else nP o d f (acc++[b])
     |_=>acc++[b]):=by
    intro b acc;rw[GJ];cases i:o[b]? with
    |none=>rfl;|some x=>
     cases x with
     |aol s l e t=>
      have:=ψ.1 h _ (List.mem_of_getElem? i);grind[iZ.AZ];|dead=>rfl;|cells f e r c=>grind[iZ.g];|row s l e c=>simp only[ν,iZ.g,xn (λa n=>lQ n),ite_self];|map p u q j w c=>simp only[ν,iZ.g,Ng (Yg Fy),ite_self]
   simp only[gL,b_,nP];rw[k];congr 1;cases v<;>simp only[γF,k]<;>exact m _ _
def Fw (C:FuncId->List SV->TP->(SV->TP->Prop)->Prop) (f:FuncId) (args:List SV) (o:TP) (K:SV->TP->Prop):Prop:=
 if o.all iZ.AZ=false then False else
 let a:=nP o e_ args [];match pV (λj=>idxOf a j) args,u_ o a a with
 |some c,some d=>C f c d λr b=>
   if b.length<a.length\/gU.aoF a=false then False else
   match r.bI (nu a o.length),xo (nu a o.length) b with
   |some g,some e=>K g (u7 o a (e.take a.length)++e.drop a.length)
   |_,_=>False
 |_,_=>False
theorem Yf {call:cw} {C:FuncId->List SV->TP->(SV->TP->Prop)->Prop}
  (n:∀f args o K,C f args o K->∃(r:SV) (o':TP),call f (gL args) (gO o) true=some (r.g,gO o')/\K r o')
  {f:FuncId} {args:List SV} {o:TP} {K:SV->TP->Prop} (h:Fw C f args o K):
  ∃(r:SV) (o':TP),gU call f (gL args) (gO o)=some (r.g,gO o')/\K r o':=by
 unfold Fw at h;split at h;·exact h.elim
 rename_i a;simp only[ζt] at a;simp only at h;split at h
 ·rename_i d e i l;obtain⟨r,c,j,b⟩:=n _ _ _ _ h;split at b;·exact b.elim
  ·rename_i p;split at b
   ·rename_i k q m s;refine⟨k,_,?_,b⟩;unfold gU;simp only[N7 a];rw[tJ i,Fx l];simp only[j,mA];rw[if_neg p,Fz m,Ni s];simp only[Nu,Nh];simp[gO]
   simp_all
 simp_all
section
variable {P:Program} {T:jm} {p:ig} {Λ:Nat->bJ}
theorem Ye (A:jX P T) (y:nS T.K p.C) (w:∀f F,p.it f=some F->T.fn f=some F) {f:FuncId} {F:el} (u:T.fn f=some F) {args:List SV} {o:TP} {r:AV} {o':a_} (G:T.K f (gL args) (gO o) true=none) (n:args.length=F.params)
  {Q:SV->TP->Prop} (m:∀v s,Q v s->v.g=r/\gO s=o') (h:xB p Λ F args o Q):fU P f=true/\jB P f (gL args) (gO o) r o':=by
 unfold xB at h;have i:=tN y w h;have e:(bE.mk (lP 0 args) o).g=⟨gn 0 (gL args),gO o⟩:=by simp[bE.g,tM]
 rw[e] at i;have j:(gO o).length=o.length:=mA o;rw[<-j] at i;have E:∀(a:bE),(mC a F.res λv=>if v.VI (gO o).length&&a.o.all (λx=>x.VI (gO o).length)&&decide ((gO o).length<=a.o.length) then Q v (a.o.take (gO o).length) else False)->
   (mJ a.g F.res).bind (λl=>finish true (gO o).length l a.g.o)=some (r,o'):=by
  intro a t;obtain⟨l,k,b⟩:=ve t;rw[k];simp only[δT,finish,if_true];split at b
  ·rename_i q;simp only[θ,decide_eq_true_eq,ψ] at q;obtain⟨⟨z,D⟩,B⟩:=q;have d:∀x∈a.g.o,x.VI (gO o).length=true:=by
    grind[bE.g,gO,Al]
   rw[Nw (by grind[xz]) d (by grind[bE.g,mA])];rw[<-(m _ _ b).1,<-(m _ _ b).2];simp_all[bE.g,gO]
  ·exact b.elim
 obtain⟨k,b,_⟩:=Az A u (o:=gO o) (own:=true) G (by grind[jj]) (v:=r) (o':=o') (i.mono λc s H=>by
  obtain⟨a,rfl,t⟩:=H;cases c<;>grind);simp_all
end
structure cU where
 f:FuncId
 α:Type
 put:α->List SV
 st:α->TP
 dec:List SV->TP->Option α
 ok:∀v o a,dec v o=some a->gL v=gL (put a)/\gO o=gO (st a)
 inj:∀a b,gL (put a)=gL (put b)->gO (st a)=gO (st b)->a=b
 dom:α->Prop
 res:α->SV
 out:α->TP
def dB (P:Program) (c:cU):Prop:=∀a,c.dom a->fU P c.f=true/\jB P c.f (gL (c.put a)) (gO (c.st a)) (c.res a).g (gO (c.out a))
def my (f:FuncId):List cU->Option cU
 |[]=>none
 |c::r=>bif δu c.f f then some c else my f r
theorem N6:∀{L:List cU} {f:FuncId} {c:cU},my f L=some c->c.f=f/\c∈L
 |[],_,_,h=>by cases h;|d::L,f,c,h=>by
  simp only[my] at h;cases a:δu d.f f with
  |true=>
   simp_all;|false=>
   rw[a] at h;simp only[cond_false] at h;obtain⟨b,e⟩:=N6 h;simp_all
def N5 (W:List cU) (f:FuncId) (args:List SV) (o:TP) (K:SV->TP->Prop):Prop:=
 match my f W with
 |some c=>ic (c.dec args o) λa=>c.dom a/\K (c.res a) (c.out a)
 |none=>False
open Classical in
noncomputable def rK (W:List cU) (f:FuncId) (args:List AV) (o:a_):Option (AV×a_):=
 match my f W with
 |some c=>if h:∃a,args=gL (c.put a)/\o=gO (c.st a)/\c.dom a then some ((c.res (δU h)).g,gO (c.out (δU h))) else none
 |none=>none
noncomputable def fT (W:List cU):ku:=⟨rK W,λf a o K=>Fw (N5 W) f a o K⟩
theorem kd {P:Program} {W:List cU} (u:∀c∈W,dB P c):mz P (fT W) where
 K:=λf d o r w h=>by
  simp only[fT,rK] at h;split at h
  ·rename_i c k;obtain⟨rfl,v⟩:=N6 k;split at h
   ·rename_i e;simp only[γ,ι] at h;generalize t:δU e=b at h;have n:=εe e;rw[t] at n;obtain⟨p,s,l⟩:=n;obtain⟨j,m⟩:=u c v _ l;simp_all
   ·cases h
  ·cases h
 C:=λq g f d o K h=>by
  refine Yf ?_ h;intro f d o K i;simp only[N5] at i;split at i
  ·rename_i c k;obtain⟨a,p,s,l⟩:=iG i;refine⟨_,_,?_,l⟩;rw[g];obtain⟨j,m⟩:=c.ok _ _ _ p;have e:∃b,gL d=gL (c.put b)/\gO o=gO (c.st b)/\c.dom b:=⟨a,j,m,s⟩;simp only[fT,rK,k,dif_pos e];have:δU e=a:=c.inj _ _ ((εe e).1.symm.trans j) ((εe e).2.1.symm.trans m);rw[this]
  simp_all
theorem N4 {P:Program} {i:FuncId->Option el} {L:List NG} {W:List cU} (c:cU) {F:el} {m:TypeId->Option ew} {j:List Nat×Bool->Option (ew×ew)} {Λ:c.α->Nat->bJ}
  (q:jX P ⟨i,λ_ _ _ _=>none⟩) (k:∀c∈W,dB P c) (r:∀c∈L,Holds P c)
  (n:i c.f=some F) (e:∀a,(c.put a).length=F.params)
  (a:c.α) (o:∀d,my c.f W=some d->∀b,gL (c.put a)=gL (d.put b)->gO (c.st a)=gO (d.st b)->¬d.dom b)
  (h:xB (kr L (fT W) m j i) (Λ a) F (c.put a) (c.st a) λv s=>v.bi (c.res a)/\jW s (c.out a)):
  fU P c.f=true/\jB P c.f (gL (c.put a)) (gO (c.st a)) (c.res a).g (gO (c.out a)):=by
 refine Ye (p:=kr L (fT W) m j i) (Λ:=Λ a) (Q:=λv s=>v.bi (c.res a)/\jW s (c.out a)) (rM (kd k) r q) (rL (kd k)) (λ_ _ h=>h) n ?_ (e a) (λv s l=>⟨l.1,vf l.2⟩) ?_
 ·simp only[nQ,pW,if_true,fT,rK];grind
 ·exact h
mutual
def kc (o:TP) (k:Nat):SV->(SV->Prop)->Prop
 | .ow e n h,K=>if k<=e then(match o[e]? with
   |some (.row s l _ true)=>if h=s.sz then n=l.length/\K (.row s l) else False
   |some (.row _ _ _ false)=>K (.ow e n h)
   |_=>False) else K (.ow e n h)
 | .ptr e f t,K=>if k<=e then(match o[e]? with
   |some (.cells _ _ _ false)=>K (.ptr e f t)
   |_=>False) else K (.ptr e f t)
 | .agg g,K=>qw o k g λd=>K (.agg d)
 | .Gz g,K=>qw o k g λd=>K (.Gz d)
 | .ud,K=>K .ud
 | .sc v,K=>K (.sc v)
 | .il q n,K=>K (.il q n)
 | .si q n,K=>K (.si q n)
 | .bl b,K=>K (.bl b)
 | .sb b,K=>K (.sb b)
 | .row s l,K=>K (.row s l)
 | .mp i,K=>K (.mp i)
 | .ia t g,K=>K (.ia t g)
 | .fn f a b,K=>qw o k a λm=>qw o k b λj=>K (.fn f m j)
 |_,_=>False
def qw (o:TP) (k:Nat):List SV->(List SV->Prop)->Prop
 |[],K=>K []
 |c::g,K=>kc o k c λp=>qw o k g λd=>K (p::d)
end
section
variable {o:TP} {k:Nat}
mutual
theorem Fv:∀{v:SV} {K:SV->Prop},kc o k v K->∃u:SV,v.g.Q5 (gO o) (λi=>decide (k<=i))=some u.g/\K u
 | .ow B n A,K,h=>by
  simp only[kc] at h;split at h
  ·rename_i q;split at h
   ·rename_i s l e w;split at h
    ·rename_i r;subst r;obtain⟨rfl,h⟩:=h;refine⟨_,?_,h⟩;have y:Δ (l.length*s.sz) (bP s l)=bP s l:=List.take_of_length_le (by grind[ec]);simp_all[γF,AV.Q5,eY,iZ.g,ec]
    simp_all
   ·rename_i s l e w;refine⟨_,?_,h⟩;simp_all[γF,AV.Q5,eY,iZ.g]
   simp_all
  ·rename_i q;refine⟨_,?_,h⟩;simp_all[γF,AV.Q5,if_neg];| .ptr B f t,K,h=>by
  simp only[kc] at h;split at h
  ·rename_i q;split at h
   ·rename_i j e A w;refine⟨_,?_,h⟩;simp_all[γF,AV.Q5,eY,iZ.g]
   simp_all
  ·rename_i q;refine⟨_,?_,h⟩;simp_all[γF,AV.Q5,if_neg];| .agg j,K,h=>by
  simp only[kc] at h;obtain⟨d,p,m⟩:=uZ h;grind[γF,AV.Q5];| .Gz j,K,h=>by
  simp only[kc] at h;obtain⟨d,p,m⟩:=uZ h;grind[γF,AV.Q5];| .ud,K,h=>⟨.ud,by grind[γF,AV.Q5],by grind[kc]⟩
 | .sc v,K,h=>⟨.sc v,by grind[γF,AV.Q5],by grind[kc]⟩
 | .il k n,K,h=>⟨.il k n,by grind[γF,AV.Q5],by grind[kc]⟩
 | .si k n,K,h=>⟨.si k n,by grind[γF,AV.Q5],by grind[kc]⟩
 | .bl b,K,h=>⟨.bl b,by grind[γF,AV.Q5],by grind[kc]⟩
 | .sb b,K,h=>⟨.sb b,by grind[γF,AV.Q5],by grind[kc]⟩
 | .row s l,K,h=>⟨.row s l,by grind[γF,AV.Q5],by grind[kc]⟩
 | .mp i,K,h=>⟨.mp i,by grind[γF,AV.Q5],by grind[kc]⟩
 | .ia t j,K,h=>⟨.ia t j,by grind[γF,AV.Q5],by grind[kc]⟩
 | .fn f a b,K,h=>by
  simp only[kc] at h;obtain⟨D,p,m⟩:=uZ h;obtain⟨C,z,x⟩:=uZ m;grind[γF,AV.Q5];| .ep ..,K,h| .ap ..,K,h| .rp ..,K,h| .os ..,K,h| .oc ..,K,h| .ite ..,K,h=>by simp only[kc] at h
theorem uZ:∀{j:List SV} {K:List SV->Prop},qw o k j K->∃d:List SV,gf (gO o) (λi=>decide (k<=i)) (gL j)=some (gL d)/\K d
 |[],K,h=>⟨[],by simp[gL,gf],by grind[qw]⟩
 |c::j,K,h=>by
  simp only[qw] at h;obtain⟨E,p,m⟩:=Fv h;obtain⟨d,z,x⟩:=uZ m;grind[gL,gf]
end
def nj (o:TP) (k:Nat):Nat->TP->(TP->Prop)->Prop
 |_,[],K=>K []
 |i,x::r,K=>match x with
  | .cells f e m false=>qw o k f λc=>nj o k (i+1) r λa=>K (.cells c e m false::a)
  | .row s l e b=>nj o k (i+1) r λa=>K ((if b&&decide (k<=i) then .dead else .row s l e b)::a)
  | .map g n d j h b=>nj o k (i+1) r λa=>K (.map g n d j h b::a)
  | .dead=>nj o k (i+1) r λa=>K (.dead::a)
  |_=>False
theorem uY:∀{i:Nat} {r:TP} {K:TP->Prop},nj o k i r K->∃r' mid,iR (gO o) (λi=>decide (k<=i)) (gO r)=some mid/\e6 (λi=>decide (k<=i)) i mid=gO r'/\K r'
 |i,[],K,h=>⟨[],[],rfl,rfl,h⟩
 |i,x::r,K,h=>by
  cases x with
  |dead=>
   simp only[nj] at h;obtain⟨r',mid,m,b,e⟩:=uY h;grind[gO,iZ.g,iR,OL.Q5,e6];|cells A c z a=>
   cases a with
   |true=>grind[nj];|false=>
    simp only[nj] at h;obtain⟨j,y,f⟩:=uZ h;obtain⟨r',mid,m,b,e⟩:=uY f;refine⟨_,.cells (gL j) c z false::mid,?_,?_,e⟩;all_goals simp_all[gO,iZ.g,iR,OL.Q5,e6]
  |aol s l c t=>grind[nj];|row s l c a=>
   simp only[nj] at h;obtain⟨r',mid,m,b,e⟩:=uY h;refine⟨_,(iZ.row s l c a).g::mid,?_,?_,e⟩
   ·have d:(iZ.row s l c a).g.Q5 (gO o) (λi=>decide (k<=i))=some (iZ.row s l c a).g:=by
     cases a with
     |true=>simp only[iZ.g,OL.Q5,if_true];|false=>
      simp only[iZ.g,OL.Q5,τ,if_false];grind[A2,lQ]
    grind[gO,iR]
   ·cases a with
    |true=>
     simp only[iZ.g,e6,Bool.true_and];by_cases n:k<=i
     ·simp only[n,decide_true,if_true];rw[b];rfl
     ·simp only[n,decide_false,τ,if_false];rw[b];rfl;|false=>simp only[iZ.g,e6,Bool.false_and,τ,if_false];rw[b];rfl
  |map u p q w v a=>
   simp only[nj] at h;obtain⟨r',mid,m,b,e⟩:=uY h;have d:(iZ.map u p q w v a).g.Q5 (gO o) (λi=>decide (k<=i))=some (iZ.map u p q w v a).g:=by
    cases a with
    |true=>simp only[iZ.g,OL.Q5,if_true];|false=>
     simp only[iZ.g,OL.Q5,τ,if_false];rw[GZ Fy,ν]
   grind[gO,iR,iZ.g,e6]
end
def AY (r:SV) (o:TP) (K:SV->TP->Prop):Prop:=
 kc o 0 r λc=>nj o 0 0 o λb=>
  if b.all iZ.AZ=false then False else
  let a:=nP b e_ [c] [];if gU.aoF a then match c.bI (λj=>idxOf a j),u_ b a a with
   |some e,some d=>K e d
   |_,_=>False
  else False
theorem Yd {r:SV} {o:TP} {K:SV->TP->Prop} (h:AY r o K):∃r' o',kI 0 r.g (gO o)=some (r'.g,gO o')/\K r' o':=by
 unfold AY at h;obtain⟨m,n,k⟩:=Fv h;obtain⟨c,i,e,f,a⟩:=uY k;split at a;·exact a.elim
 rename_i b;simp only[ζt] at b;simp only at a;split at a
 ·rename_i t;split at a
  ·rename_i j l p q;refine⟨j,l,?_,a⟩;unfold kI;rw[n,e];simp only[f,List.take_zero,List.flatMap_nil,List.range_zero];have s:=N7 (o:=c) b (d:=e_) (vs:=[m]) (acc:=[]);simp_all[gL,Fz,Fx]
  simp_all
 simp_all
def Fu (p:ig) (Λ:Nat->bJ) (F:el) (args:List SV) (Q:SV->TP->Prop):Prop:=
 wpS p 0 F.body Λ ⟨lP 0 args,[]⟩ λa b=>match a with
  | .exit _=>False
  | .goto _=>False
  |_=>mC b F.res λr=>AY r b.o Q
theorem Yc {P:Program} {T:jm} {p:ig} {Λ:Nat->bJ} (y:jX P T) (t:nS T.K p.C) (x:∀f F,p.it f=some F->T.fn f=some F) {f:FuncId} {F:el} (m:T.fn f=some F) {args:List SV} {r:AV} {o':a_} (A:T.K f (gL args) [] true=none) (j:args.length=F.params)
  {Q:SV->TP->Prop} (D:∀v s,Q v s->v.g=r/\gO s=o') (h:Fu p Λ F args Q):fU P f=true/\jB P f (gL args) [] r o':=by
 unfold Fu at h;have k:=tN t x h;have b:(bE.mk (lP 0 args) []).g=⟨gn 0 (gL args),[]⟩:=by simp[bE.g,tM,gO]
 rw[b] at k;have n:∀(a:bE),(mC a F.res λv=>AY v a.o Q)->(mJ a.g F.res).bind (λc=>finish true 0 c a.g.o)=some (r,o'):=by
  intro a l;obtain⟨c,e,i⟩:=ve l;obtain⟨u,q,w,B⟩:=Yd i;rw[e];simp only[δT,finish,if_true];have:kI 0 c.g a.g.o=some (u.g,gO q):=w;grind
 obtain⟨e,i,_⟩:=Az y m (o:=[]) (own:=true) A (by grind[jj]) (v:=r) (o':=o') (k.mono λd s z=>by
  obtain⟨a,rfl,l⟩:=z;cases d<;>simp_all);simp_all
theorem Yb {W:List cU} {f:FuncId} {args:List AV} {o:a_} (h:my f W=none):rK W f args o=none:=by
 grind[rK]
open Go.Proofs.YtbnhiekmnpikhaaGreat.Ir
open Go.Proofs
def AX (f:Nat):List (Nat×List RH)->Option (List RH)
 |[]=>none
 |e::r=>bif δu e.1 f then some e.2 else AX f r
noncomputable def fQ (f:FuncId):Option el:=
 match AX f Pr with
 |none=>none
 |some H=>match Tryz.prog.funcs[f]? with
  |none=>none
  |some g=>Bg Tryz.prog H g
noncomputable def fG (f:FuncId):el:=(fQ f).getD ⟨0,0,.skip,[]⟩
theorem xm {f:FuncId} (h:(fQ f).isSome=true):fQ f=some (fG f):=by
 unfold fG;cases q:fQ f<;>simp_all
theorem N3 {f:Nat} {H:List RH} {p:Nat->Bool}:∀{l:List (Nat×List RH)},AX f l=some H->(l.all λe=>p e.1)=true->p f=true
 |[],h,_=>by cases h;|e::r,h,k=>by
  simp only[AX] at h;simp only[List.all_cons,θ] at k;cases q:δu e.1 f with
  |true=>simp_all;|false=>rw[q] at h;exact N3 h k.2
theorem Ya:(Pr.all λe=>fU Tryz.prog e.1)=true:=by kernel_rfl
theorem pU:jX Tryz.prog ⟨fQ,λ_ _ _ _=>none⟩ where
 fn:=λf F h=>by
  simp only[fQ] at h;split at h;·cases h
  ·rename_i H q;split at h;·cases h
   ·rename_i g r;exact⟨g,H,r,h,N3 (p:=fU Tryz.prog) q Ya⟩
 K:=λ_ _ _ _ _ _ h=>by cases h
def lk {a:Type}:a->Nat->bJ:=λ_ _=> .look
structure Vc (A:Prop):Prop where
 out:A
theorem NI {A:Prop} (B:Prop) (h:B=A) (a:B):Vc A:=⟨h▸a⟩
theorem j6 {L:List NG} {W:ku} (c:NG) (i:c.α->Nat->bJ) (j:mz Tryz.prog W) (e:∀c∈L,Holds Tryz.prog c)
  
  (h:∀a,c.dom a->Vc (oj (kr L W mi ml fQ) (i a) (fG c.f) (c.A.put a) λv=>v.pY (c.res a))) (k:(fQ c.f).isSome=true:=by kernel_rfl) (d:lj c.f L=none:=by kernel_rfl) (b:∀a,(c.A.put a).length=(fG c.f).params:=by intro _;kernel_rfl):Holds Tryz.prog c:=
 holds_of c pU j e (xm k) d b λa g=>(h a g).out
theorem bM {L:List NG} (c:NG) (e:c.α->Nat->bJ) (g:∀c∈L,Holds Tryz.prog c) (h:∀a,c.dom a->Vc (oj (kr L ku.none mi ml fQ) (e a) (fG c.f) (c.A.put a) λv=>v.pY (c.res a)))
  (i:(fQ c.f).isSome=true:=by kernel_rfl) (d:lj c.f L=none:=by kernel_rfl) (b:∀a,(c.A.put a).length=(fG c.f).params:=by intro _;kernel_rfl):Holds Tryz.prog c:=j6 c e (mz.none _) g h i d b
theorem X_ {L:List NG} {W:ku} (c:NG) (l:FuncId->Bool) (i:c.α->Nat->bJ) (j:mz Tryz.prog W) (e:∀c∈L,Holds Tryz.prog c)
  
  (h:∀a,c.dom a->Vc (oj (FB L W mi ml fQ l) (i a) (fG c.f) (c.A.put a) λv=>v.pY (c.res a))) (k:(fQ c.f).isSome=true:=by kernel_rfl) (d:lj c.f L=none:=by kernel_rfl) (b:∀a,(c.A.put a).length=(fG c.f).params:=by intro _;kernel_rfl):Holds Tryz.prog c:=
 XJ c pU j e (xm k) d b λa g=>(h a g).out
theorem ko {L:List NG} {W:List cU} (c:cU) (Λ:c.α->Nat->bJ) (i:∀c∈W,dB Tryz.prog c) (e:∀c∈L,Holds Tryz.prog c)
  
  (h:∀a,c.dom a->Vc (xB (kr L (fT W) mi ml fQ) (Λ a) (fG c.f) (c.put a) (c.st a) λv s=>v.bi (c.res a)/\jW s (c.out a))) (g:(fQ c.f).isSome=true:=by kernel_rfl) (b:∀a,(c.put a).length=(fG c.f).params:=by intro _;kernel_rfl) (k:my c.f W=none:=by kernel_rfl):dB Tryz.prog c:=
 λa j=>N4 c pU i e (xm g) b a (λd l=>by simp_all) (h a j).out
theorem X9 {L:List NG} {W:List cU} (c:cU) (F:el) (i:c.α->Nat->bJ) (k:∀c∈W,dB Tryz.prog c) (e:∀c∈L,Holds Tryz.prog c)
  
  (h:∀a,c.dom a->Vc (xB (kr L (fT W) mi ml fQ) (i a) F (c.put a) (c.st a) λv s=>v.bi (c.res a)/\jW s (c.out a))) (g:fQ c.f=some F:=by kernel_rfl) (b:∀a,(c.put a).length=F.params:=by intro _;kernel_rfl) (l:my c.f W=none:=by kernel_rfl):dB Tryz.prog c:=
 λa j=>N4 c pU k e g b a (λd m=>by simp_all) (h a j).out
theorem Ft {L:List NG} {W:List cU} (c:cU) (g:Nat->Option (Nat×Nat×Nat)) (Λ:c.α->Nat->bJ) (i:∀c∈W,dB Tryz.prog c) (j:∀c∈L,Holds Tryz.prog c)
  
  (h:∀a,c.dom a->Vc (Fu ⟨⟨tL L,(fT W).C⟩,mi,ml,g,λ_=>none,λ_=>false⟩ (Λ a) (fG c.f) (c.put a) λv s=>v.bi (c.res a)/\jW s (c.out a))) (l:(fQ c.f).isSome=true:=by kernel_rfl) (b:∀a,(c.put a).length=(fG c.f).params:=by intro _;kernel_rfl) (d:∀a,c.st a=[]:=by intro _;rfl) (k:my c.f W=none:=by kernel_rfl):dB Tryz.prog c:=
 λa m=>by
  rw[d a];refine Yc (p:=⟨⟨tL L,(fT W).C⟩,mi,ml,g,λ_=>none,λ_=>false⟩) (Λ:=Λ a) (Q:=λv s=>v.bi (c.res a)/\jW s (c.out a)) (rM (kd i) j pU) (rL (kd i)) (λ_ _ h=>by cases h) (xm l) ?_ (b a) (λv s e=>⟨e.1,vf e.2⟩) (h a m).out;simp_all[nQ,pW,fT,Yb]
open Go.ChangeShapes Go.WideShapes Go.RowKit
abbrev jK:de:=⟨λ_=>False,0⟩
instance (s:ew):Inhabited s.T:=⟨s.bw⟩
theorem X8 (b:Nat):Fr jK [] b:=⟨by rintro⟨i,c,h⟩;simp at h,λh=>h⟩
theorem N2 {A:de} {w:World} {σ:TN} {o:a_}:∀{vs:List Value},(∀v∈vs,v.oneCell'=true)->Aq A w σ o (vs.map .sc) vs
 |[],_=>by simp[Aq];|v::vs,h=>by
  simp only[ξ,Aq];exact⟨v,vs,rfl,by grind[nA],N2 λu a=>h u (by simp[a])⟩
theorem N1 {A:de} {w:World} {σ:TN} {o:a_}:∀{a b:List AV} {x:Option Addr} {j:Nat},cF A w σ o a x j->cF A w σ o b x (j+a.length)->cF A w σ o (a++b) x j
 |[],b,x,j,_,h=>by simpa using h;|c::a,b,x,j,h,k=>by
  simp only[List.cons_append,cF] at h ⊢;refine⟨h.1,N1 h.2 ?_⟩;grind
def Reads (P:Program) (t:TypeId) (s:ew):Prop:=
 ∀(H:Type) (e:TypeId×Value->H) (w:World) (d:Nat) (a:Nat->Bool) (c:Bool) (b:Nat) (f:List Value) (x:DataW H×List MemPlace),DataW.trod e P w d a c b t f=some x->∃y:s.T,f=cI s y
theorem WI {P:Program} {t:TypeId} {k:IntKind} (a:P.underlying t=some (.int k)):Reads P t (.i k):=λ_ _ _ _ _ _ _ b _ h=>by
 obtain⟨n,rfl,_,_⟩:=DataW.trod_int a h;exact⟨n,rfl⟩
theorem WH {w:World} {base n:Nat} {a:Addr} {cs:List Value} (h:w.cells? base a n=some cs):cs.length=n/\∀i v,cs[i]?=some v->w.cell? (a.add i)=some v:=by
 unfold World.cells? at h;split at h
 ·obtain⟨c,f⟩:=AI h;simp only[ζv] at c;refine⟨c,λi v d=>?_⟩;have j:=(List.getElem?_eq_some_iff.1 d).1;obtain⟨b,g,e⟩:=f i i (by simp_all);simp_all
 ·cases h
def AW (P:Program) (t:TypeId) (s:ew):Prop:=
 ∀(H:Type) (d:TypeId×Value->H) (w:World) (a:Nat->Bool) (c:Bool) (b:Nat) (e:List Value) (x:DataW H×List MemPlace),DataW.trod d P w 0 a c b t e=some x->∃y:s.T,Aq jK w [] [] (df s y) e
theorem Reads.g {P:Program} {t:TypeId} {s:ew} (h:Reads P t s) (i:s.flat=true:=by rfl):AW P t s:=λH d w a c b e x f=>by
 obtain⟨y,rfl⟩:=h H d w 0 a c b e x f;exact⟨y,by grind[Ay,N2,Aw]⟩
theorem N0 {w:World} {a:Addr}:∀{cs:List AV} {vs:List Value} {j:Nat},Aq jK w [] [] cs vs->(∀i v,vs[i]?=some v->w.cell? (a.add (j+i))=some v)->cF jK w [] [] cs (some a) j
 |[],_,_,_,_=>by simp[cF];|c::cs,vs,j,b,d=>by
  simp only[Aq] at b;obtain⟨v,r,rfl,e,f⟩:=b;simp only[cF];refine⟨⟨a,v,rfl,X8 _,by simpa using d 0 v (by simp),e⟩,N0 f λi u g=>?_⟩;have:=d (i+1) u (by simp_all);grind
theorem NZ {w:World} {a:Addr} {s:ew}:∀{l:List s.T} {i0:Nat},(∀i y,l[i]?=some y->∃cs,w.cells? 0 (a.add ((i0+i)*s.sz)) s.sz=some cs/\Aq jK w [] [] (df s y) cs)->cF jK w [] [] (bP s l) (some a) (i0*s.sz)
 |[],_,_=>by simp[bP,cF];|y::l,i0,h=>by
  obtain⟨cs,b,c⟩:=h 0 y (by simp);rw[Nat.add_zero] at b;obtain⟨d,g⟩:=WH b;have e:bP s (y::l)=df s y++bP s l:=by simp[bP]
  rw[e];refine N1 (N0 c λi v j=>?_) ?_;·grind[add_add]
  ·rw[kD,show i0*s.sz+s.sz=(i0+1)*s.sz from by grind];refine NZ λi z f=>?_;have:=h (i+1) z (by simp_all);grind
theorem WG {P:Program} {t e:TypeId} {s:ew} (A:P.underlying t=some (.slice e)) (r:AW P e s) (I:P.cellsOf e=s.sz)
  {H:Type} {enc:TypeId×Value->H} {w:World} {c:Nat->Bool} {j:Bool} {d:Nat} {cs:List Value} {x:DataW H×List MemPlace} (h:DataW.trod enc P w 0 c j d t cs=some x):
  ∃(v:Value) (l:List s.T),cs=[v]/\nA jK w [] [] (γa s l).g v:=by
 rcases Go.Deep.open_slice A h with⟨rfl,_⟩|⟨a,b,k,m,n,D,F,rfl,M,z,L,o,_,q⟩;·exact⟨_,[],rfl,by grind[γF,nA,bP,cJ,cF]⟩
 ·have B:b<=m:=by grind
  have C:∀i,i<b->∃y:s.T,∃cs,w.cells? 0 (a.add (i*s.sz)) s.sz=some cs/\Aq jK w [] [] (df s y) cs:=λi J=>by
   obtain⟨p,K,E⟩:=q i (by omega);obtain⟨y,u⟩:=r _ _ _ _ _ _ _ _ E;grind
  obtain⟨f,G⟩:=Go.Deep.choose_lt C;refine⟨_,(ω b).map f,rfl,?_⟩;simp only[γF,nA,List.length_map,ζv];refine⟨some a,k,rfl,z,np _ _,?_⟩;have:=NZ (w:=w) (a:=a) (s:=s) (l:=(ω b).map f) (i0:=0) (λi y u=>by
   grind);simp_all
theorem NY {P:Program} {t e:TypeId} {s:ew} (i:P.underlying t=some (.slice e)) (f:Reads P e s) (j:P.cellsOf e=s.sz)
  {H:Type} {enc:TypeId×Value->H} {w:World} {a:Nat->Bool} {c:Bool} {b:Nat} {cs:List Value} {x:DataW H×List MemPlace} (h:DataW.trod enc P w 0 a c b t cs=some x) (d:s.flat=true:=by rfl):
  ∃(v:Value) (l:List s.T),cs=[v]/\nA jK w [] [] (γa s l).g v:=WG i (f.g d) j h
theorem WE {cs:List Value} {i:Nat} {v:Value} (h:(cs.drop i).take 1=[v]):cs[i]?=some v:=by
 have:((cs.drop i).take 1)[0]?=some v:=by rw[h];rfl
 grind
theorem WC {P:Program} {t e:TypeId} (s:P.underlying t=some (.array 6 e)) (F:P.underlying e=some (.int .i64)) (H:P.cellsOf e=1) (l:P.cellsOf t=6):Reads P t .bun:=λ_ _ _ _ _ _ _ c _ h=>by
 obtain⟨z,m,_,_,b,v,D⟩:=DataW.trod_array s h;have a:∀i,i<6->∃n,c[i]?=some (.int .i64 n):=λi w=>by
  grind[DataW.trod_int,WE]
 rw[l] at b;match c,b,a with
 |[C,A,I,G,B,E],_,a=>
  obtain⟨o,y⟩:=a 0 (by omega);obtain⟨x,d⟩:=a 1 (by omega);obtain⟨p,u⟩:=a 2 (by omega);obtain⟨j,r⟩:=a 3 (by omega);obtain⟨k,f⟩:=a 4 (by omega);obtain⟨q,g⟩:=a 5 (by omega);simp only[List.getElem?_cons_zero,List.getElem?_cons_succ,γ] at y d u r f g;exact⟨⟨o,x,p,j,k,q⟩,by grind[cI,iv]⟩
theorem WA {P:Program} {t b i v:TypeId} {fs:Array Field} (w:P.underlying t=some (.struct fs)) (r:P.cellsOf t=8) (N:(fs[0]?).map (λf=>(f.type,f.offset))=some (i,0)) (O:(fs[1]?).map (λf=>(f.type,f.offset))=some (b,1)) (u:(fs[2]?).map (λf=>(f.type,f.offset))=some (v,7))
  (x:P.underlying i=some (.int .i64)) (e:P.cellsOf i=1) (q:P.underlying v=some (.int .i64)) (k:P.cellsOf v=1) (z:Reads P b .bun) (d:P.cellsOf b=6) (I:fs.size=3):Reads P t .bu:=λ_ _ _ _ _ _ _ B _ h=>by
 obtain⟨T,m,_,_,n,K,j⟩:=DataW.trod_struct w h;rw[r] at n;obtain⟨F,C,g⟩:=ε.1 N;obtain⟨s,D,c⟩:=ε.1 O;obtain⟨J,A,a⟩:=ε.1 u;simp only[ι] at g c a;have o:=j 0 F C;have l:=j 1 s D;have p:=j 2 J A;rw[g.1,g.2,e,μ (by omega)] at o;rw[c.1,c.2,d,μ (by omega)] at l;rw[a.1,a.2,k,μ (by omega)] at p;obtain⟨G,M,_⟩:=DataW.trod_int x o;obtain⟨y,E⟩:=z _ _ _ _ _ _ _ _ _ l;obtain⟨H,L,_⟩:=DataW.trod_int q p;match B,n with
 |[S,U,R,V,Y,X,Q,W],_=>
  simp[cI] at M E L;exact⟨⟨G,y,H⟩,by grind[cI,iv]⟩
theorem Wz {P:Program} {t b k o:TypeId} {fs:Array Field} (ht:P.underlying t=some (.struct fs)) (hn:P.cellsOf t=20) (a7:fs.size=5)
  (h0:(fs[0]?).map (λf=>(f.type,f.offset))=some (b,0)) (h1:(fs[1]?).map (λf=>(f.type,f.offset))=some (b,6)) (h2:(fs[2]?).map (λf=>(f.type,f.offset))=some (b,12))
  (U:(fs[3]?).map (λf=>(f.type,f.offset))=some (k,18)) (h4:(fs[4]?).map (λf=>(f.type,f.offset))=some (o,19))
  (s:Reads P b .bun) (d:P.cellsOf b=6) {e:TypeId} (hk:P.underlying k=some (.slice e)) (z:Reads P e (.i .i64)) (A:P.cellsOf e=1) (y:P.cellsOf k=1)
  {f:TypeId} (ho:P.underlying o=some (.slice f)) (F:Reads P f .bu) (u:P.cellsOf f=8) (v:P.cellsOf o=1)
  {H:Type} {enc:TypeId×Value->H} {w:World} {c:Nat->Bool} {q:Bool} {j:Nat} {cs:List Value} {x:DataW H×List MemPlace} (h:DataW.trod enc P w 0 c q j t cs=some x):
  ∃p:cj,Aq jK w [] [] (gL p.ss) cs:=by
 obtain⟨xs,m,_,_,O,a1,l⟩:=DataW.trod_struct ht h;rw[hn] at O;obtain⟨f0,e0,E⟩:=ε.1 h0;obtain⟨f1,e1,D⟩:=ε.1 h1;obtain⟨Z,e2,r⟩:=ε.1 h2;obtain⟨f3,T,B⟩:=ε.1 U;obtain⟨f4,e4,C⟩:=ε.1 h4;simp only[ι] at E D r B C;have S:=l 0 f0 e0;have I:=l 1 f1 e1;have R:=l 2 Z e2;have J:=l 3 f3 T;have M:=l 4 f4 e4;rw[E.1,E.2,d,μ (by omega)] at S;rw[D.1,D.2,d,μ (by omega)] at I;rw[r.1,r.2,d,μ (by omega)] at R;rw[B.1,B.2,y,μ (by omega)] at J;rw[C.1,C.2,v,μ (by omega)] at M;obtain⟨y0,K⟩:=s _ _ _ _ _ _ _ _ _ S;obtain⟨y1,Q⟩:=s _ _ _ _ _ _ _ _ _ I;obtain⟨y2,G⟩:=s _ _ _ _ _ _ _ _ _ R;obtain⟨v3,l3,L,r3⟩:=NY hk z A J;obtain⟨v4,W,N,r4⟩:=NY ho F u M;match cs,O with
 |[c0,c1,c2,c3,c4,c5,c6,c7,c8,c9,a0,a5,V,a6,a8,a2,a4,Y,a3,X],_=>
  simp[cI,iv] at K Q G L N;obtain⟨rfl,rfl,rfl,rfl,rfl,rfl⟩:=K;obtain⟨rfl,rfl,rfl,rfl,rfl,rfl⟩:=Q;obtain⟨rfl,rfl,rfl,rfl,rfl,rfl⟩:=G;subst L;subst N;refine⟨⟨y0,y1,y2,l3,W⟩,?_⟩;have a:∀n:Int,nA jK w [] [] (γj .i64 n).g (.int .i64 n):=λn=>by simp[γF,nA,Value.oneCell']
  simp only[cj.ss,gL,Aq];exact⟨_,_,rfl,a _,_,_,rfl,a _,_,_,rfl,a _,_,_,rfl,a _,_,_,rfl,a _,_,_,rfl,a _,_,_,rfl,a _,_,_,rfl,a _,_,_,rfl,a _,_,_,rfl,a _,_,_,rfl,a _,_,_,rfl,a _,
   _,_,rfl,a _,_,_,rfl,a _,_,_,rfl,a _,_,_,rfl,a _,_,_,rfl,a _,_,_,rfl,a _,_,_,rfl,r3,_,_,rfl,r4,rfl⟩
theorem Wy {P:Program} {w:World} {r:Reach} {base:Nat} {t:TypeId} {v:Value} {fs:Array Field} (a:P.underlying t=some (.struct fs)) (h:Value.okWide P w r base t v):∃cs,v= .agg cs/\v.cells.toList=cs.toList:=by
 unfold Value.okWide at h;rw[a] at h;obtain⟨cs,rfl,_⟩:=h;exact⟨cs,rfl,rfl⟩
theorem NX {H:Type} {enc:TypeId×Value->H} {P:Program} (j:laidOutB P=true) {W l:World} (n:Below W.heap.size W l) {m:Nat->Bool}:
  ∀{f:List TypeId} {vs:List Value} {i:List (DataW H)} {g:List MemPlace},DataW.TrodAll enc P W 0 (λ_=>true) true f vs i g->(∀t∈f,P.readableRec t=true/\t<P.types.size)->(∀p∈g,p.block<W.heap.size)->(∀p∈g,m p.block=true)->
   DataW.TrodAll enc P l 0 m true f vs i g
 |[],_,_,_,h,_,_,_=>by
  obtain⟨rfl,rfl,rfl⟩:=trodAll_nil h;exact rfl;|t::f,_,_,_,h,o,e,k=>by
  obtain⟨v,vs,d,i,a,b,rfl,rfl,rfl,r,s⟩:=trodAll_cons h;obtain⟨x,q⟩:=o t (by simp);exact⟨a,b,WideElems.Trod_stays j x q r (λp c=>n.same (e p (by simp[c]))) (λp c=>k p (by simp[c])),
   NX j n s (λu w=>o u (by simp[w])) (λp c=>e p (by simp[c])) (λp c=>k p (by simp[c])),rfl⟩
theorem NW {W b:World} {a:TN} {o':a_} (h:Ext W [] [] b a o'):Below W.heap.size W b:=
 ⟨h.os,h.tape,h.output,h.size,λk e=>(h.blk k e (by rintro⟨i,c,d⟩;simp at d)).1⟩
@[simp] theorem Wx {k c:IntKind} {a b:Int}:(γj k a).bi (.si c b)↔k=c/\a=b:=by simp[εX,γF]
@[simp] theorem Ww {k c:IntKind} {a b:Int}:(γC k a).bi (.si c b)↔k=c/\a=b:=by simp[εX,γF]
@[simp] theorem Wv {a b:Bool}:(γB a).bi (.sb b)↔a=b:=by simp[εX,γF]
@[simp] theorem Wu {a b:Bool}:(δj a).bi (.sb b)↔a=b:=by simp[εX,γF]
@[simp] theorem Wt {s:ew} {a b:List s.T}:(γa s a).bi (.row s b)↔a=b:=by
 constructor;·intro h;simp only[εX,γF,δ7] at h;exact kq s h.1 h.2
 ·rintro rfl;rfl
@[simp] theorem Ws {k c:IntKind} {a b:Int}:(γj k a).bi (.il c b)↔k=c/\a=b:=by simp[εX,γF]
@[simp] theorem Wr {k c:IntKind} {a b:Int}:(γC k a).bi (.il c b)↔k=c/\a=b:=by simp[εX,γF]
theorem Wq {v:SV}:v.bi v↔True:=iff_true_intro rfl
theorem kb {v:iZ}:v.bi v↔True:=iff_true_intro rfl
theorem Wp {a b c d:SV}:(SV.Gz [a,b]).bi (.Gz [c,d])↔a.bi c/\b.bi d:=by simp[εX,γF,gL]
theorem Wo {a b c d e f:SV}:(SV.Gz [a,b,c]).bi (.Gz [d,e,f])↔a.bi d/\b.bi e/\c.bi f:=by simp[εX,γF,gL]
theorem Fs {s t:ew}:(γa s []).bi (.row t [])↔True:=iff_true_intro (by simp[εX,γF,bP])
theorem NV {s:ew} {l:List s.T}:(γa (.i .i64) []).bi (.row s l)↔l=[]:=by
 constructor;·grind[εX,γF]
 ·rintro rfl;exact Fs.2 trivial
theorem AU {a b:oz}:a=b↔a.a0=b.a0/\a.a1=b.a1/\a.a2=b.a2/\a.a3=b.a3/\a.a4=b.a4/\a.a5=b.a5:=by
 obtain⟨k,c,n,f,d,l⟩:=a;obtain⟨g,i,e,h,m,j⟩:=b;simp_all
@[simp] theorem Wn {n:Int}:VL .i64 n↔ -9223372036854775808<=n/\n<=9223372036854775807:=Iff.rfl
theorem vcs:(∀{p:Prop} [h:Decidable p],(decide p=true)=p)/\(∀{p:Prop} {x:Decidable p},decide p=false↔¬p)/\(∀{k g:IntKind} {a b:Int},(γC k a).bi (γj g b)↔k=g/\a=b)/\(∀{k g:IntKind} {a b:Int},(γj k a).bi (γj g b)↔k=g/\a=b)/\(∀{k g:IntKind} {a b:Int},(γj k a).bi (γC g b)↔k=g/\a=b)/\(∀{k g:IntKind} {a b:Int},(γC k a).bi (γC g b)↔k=g/\a=b)/\(∀{a b:Bool},(γB a).bi (γB b)↔a=b)/\(∀{a b:Bool},(δj a).bi (γB b)↔a=b)/\(∀{s:ew} {a b:List s.T},(γa s a).bi (γa s b)↔a=b)/\(∀{a b c d:SV},(SV.Gz [a,b]).bi (SV.Gz [c,d])↔a.bi c/\b.bi d)/\(∀{a b c d e f:SV},(SV.Gz [a,b,c]).bi (SV.Gz [d,e,f])↔a.bi d/\b.bi e/\c.bi f)/\(∀{s t:ew},(γa s []).bi (γa t [])↔True)/\(∀{s:ew} {l:List s.T},(γa (ew.i IntKind.i64) []).bi (γa s l)↔l=[])/\(∀{v:SV},v.bi v↔True)/\(∀{v:iZ},v.bi v↔True)/\(∀{n:Int},VL IntKind.i64 n↔ -9223372036854775808<=n/\n<=9223372036854775807)/\(∀p:Prop,(True/\p)=p)/\(∀p:Prop,(p/\True)=p)/\(∀a b:Bool,((a&&b)=true)=(a=true/\b=true))/\(∀b:Bool,((!b)=true)=(b=false))/\(∀b:Bool,((!b)=false)=(b=true)):=
 ⟨decide_eq_true_eq,decide_eq_false_iff_not,Ww,Wx,Ws,Wr,Wv,Wu,Wt,Wp,Wo,Fs,NV,Wq,kb,Wn,true_and,and_true,θ,Bool.not_eq_true',Bool.not_eq_false'⟩
def oz.ok (b:oz):Bool:=[b.a0,b.a1,b.a2,b.a3,b.a4,b.a5].all λn=>decide (0<=n)&&decide (n<=4)
theorem oz.gS {b:oz}:b.ok=true↔(0<=b.a0/\b.a0<=4)/\(0<=b.a1/\b.a1<=4)/\(0<=b.a2/\b.a2<=4)/\(0<=b.a3/\b.a3<=4)/\(0<=b.a4/\b.a4<=4)/\(0<=b.a5/\b.a5<=4):=by
 simp[oz.ok]
def Fq:NG:=⟨65,oz,.one (dD .bun),λ_=>True,λb=> .si .i64 (if b.ok=true then 0 else 4)⟩
theorem IM:Holds Tryz.prog Fq:=by
 refine bM (L:=[]) Fq (λ_ _=> .apl 7) (by simp) ?_;intro b _;refine NI (let h:=γC .i64;let p:=(0:Int);let q:=(4:Int);let i:=decide (b.a0<p);let a:=γj .i64 (if oz.ok b=true then p else q);let l:=decide (q<b.a0);let k:=decide (b.a1<p);let m:=decide (q<b.a1);let o:=decide (b.a2<p);let j:=decide (q<b.a2);let n:=decide (b.a3<p);let f:=decide (q<b.a3);let g:=decide (b.a4<p);let d:=decide (q<b.a4);let c:=decide (b.a5<p);let e:=decide (q<b.a5);(i=true->(h 4).bi a)/\(i=false->(l=true->(h 4).bi a)/\(l=false->(k=true->(h 4).bi a)/\(k=false->(m=true->(h 4).bi a)/\(m=false->(o=true->(h 4).bi a)/\(o=false->(j=true->(h 4).bi a)/\(j=false->(n=true->(h 4).bi a)/\(n=false->(f=true->(h 4).bi a)/\(f=false->(g=true->(h 4).bi a)/\(g=false->(d=true->(h 4).bi a)/\(d=false->(c=true->(h 4).bi a)/\(c=false->(e=true->(h 4).bi a)/\(e=false->(h 0).bi a))))))))))))) (by kernel_rfl) ?_;conv=>zeta
 have p:=@oz.gS b;by_cases h:b.ok=true<;>simp_all
def oz.l (b:oz):List Int:=[b.a0,b.a1,b.a2,b.a3,b.a4,b.a5]
def cq (p:cj):Int:=p.bk.length+12
def cC (p:cj) (r:Int):Int:=
 if r - p.bk.length<0 then 1
 else if r - p.bk.length<6 then bN [p.bm.a0,p.bm.a1,p.bm.a2,p.bm.a3,p.bm.a4,p.bm.a5] (r - p.bk.length).toNat 0
 else bN [p.bs.a0,p.bs.a1,p.bs.a2,p.bs.a3,p.bs.a4,p.bs.a5] (r - p.bk.length - 6).toNat 0
def dz (p:cj) (r:Int) (o:bC):Int:=
 if r - p.bk.length<0 then(if o.TM=r then 1 else 0)
 else if r - p.bk.length<6 then bN [o.bx.a0,o.bx.a1,o.bx.a2,o.bx.a3,o.bx.a4,o.bx.a5] (r - p.bk.length).toNat 0
 else if bN [p.bt.a0,p.bt.a1,p.bt.a2,p.bt.a3,p.bt.a4,p.bt.a5] (r - p.bk.length - 6).toNat 0=0\/bN [p.bt.a0,p.bt.a1,p.bt.a2,p.bt.a3,p.bt.a4,p.bt.a5] (r - p.bk.length - 6).toNat 0=bN p.bk o.TM.toNat 0 then 0
 else bN [o.bx.a0,o.bx.a1,o.bx.a2,o.bx.a3,o.bx.a4,o.bx.a5] (r - p.bk.length - 6).toNat 0
def uX:NG:=⟨84,cj,.one cV,λp=>p.bk.length<=8,λp=> .si .i64 (cq p)⟩
def uW:NG:=⟨85,cj×Int,.cons cV (.one (dX .i64)),λa=>a.1.bk.length<=8/\0<=a.2/\a.2<cq a.1,λa=> .si .i64 (cC a.1 a.2)⟩
def uV:NG:=⟨83,cj×Int×bC,.cons cV (.cons (dX .i64) (.one (dD .bu))),λa=>a.1.bk.length<=8/\0<=a.2.1/\a.2.1<cq a.1/\0<=a.2.2.TM/\a.2.2.TM<a.1.bk.length,λa=> .si .i64 (dz a.1 a.2.1 a.2.2)⟩
theorem qS:Holds Tryz.prog uX:=by
 refine bM (L:=[]) uX (λ_ _=> .apl 7) (by simp) ?_;intro p (b:p.bk.length<=8);refine NI (let a:=(↑p.bk.length:Int)+(12:Int);VL .i64 a/\(γj .i64 a).bi (γj .i64 (cq p))) (by kernel_rfl) ?_;simp only[vcs,cq];omega
theorem qR:Holds Tryz.prog uW:=by
 refine bM (L:=[]) uW (λ_ _=> .apl 7) (by simp) ?_;rintro⟨p,r⟩ ⟨h,j,i⟩;simp only[cq] at h j i;refine NI (let h:=(6:Int);let i:=(0:Int);let d:=γj .i64 (cC p r);let c:=(↑p.bk.length:Int);let g:=decide (r - c<i);let e:=decide (r - c<h);let f:=λ(u b:Int) (a:oz) ↦i<=u - b/\u - b<h/\(u - b).toNat<6/\(γj .i64 (bN [a.a0,a.a1,a.a2,a.a3,a.a4,a.a5] (u - b).toNat i)).bi d;VL .i64 (r - c)/\(g=true->(γC .i64 1).bi d)/\(g=false->(e=true->f r c p.bm)/\(e=false->VL .i64 (r - c - h)/\f (r - c) h p.bs))) (by kernel_rfl) ?_;simp only[vcs];grind[cC]
theorem qT:Holds Tryz.prog uV:=by
 refine bM (L:=[]) uV (λ_ _=> .apl 7) (by simp) ?_;rintro⟨p,r,x⟩ ⟨m,q,n,l,o⟩;simp only[cq] at m q n l o;refine NI (let l:=(0:Int);let m:=(6:Int);let n:=γC .i64;let o:=γC .i64 0;let q:=γj .i64;let b:=(↑p.bk.length:Int);let e:=decide (r - b<l);let c:=q (dz p r x);let h:=decide (r - b<m);let k:=[x.bx.a0,x.bx.a1,x.bx.a2,x.bx.a3,x.bx.a4,x.bx.a5];let a:=r - b - m;let j:=bN [p.bt.a0,p.bt.a1,p.bt.a2,p.bt.a3,p.bt.a4,p.bt.a5] a.toNat l;let i:=decide (j=l);let g:=decide (j=bN p.bk x.TM.toNat l);let d:=decide (x.TM=r);let f:=(e=true->(n 0).bi c)/\(e=false->(h=true->l<=r - b/\r - b<m/\(r - b).toNat<6/\(q (bN k (r - b).toNat l)).bi c)/\(h=false->VL .i64 a/\l<=a/\a<m/\a.toNat<6/\(i=true->(n 0).bi c)/\(i=false->l<=a/\a<m/\a.toNat<6/\l<=x.TM/\x.TM<b/\x.TM.toNat<p.bk.length/\(g=true->(n 0).bi c)/\(g=false->l<=a/\a<m/\a.toNat<6/\(q (bN k a.toNat l)).bi c))));VL .i64 (r - b)/\(e=true->(d=true->(n 1).bi c)/\(d=false->f))/\(e=false->f)) (by kernel_rfl) ?_;simp only[vcs];repeat' (first|refine γm ?_ ?_|intro _)
 all_goals first
  |trivial;|omega;|(simp only[dz];(repeat' split)<;>first|rfl|omega)
def L2:List NG:=[uV,uX,uW]
theorem IZ:∀c∈L2,Holds Tryz.prog c:=by
 simp_all[L2,qT,qS,qR]
def bZ (p:cj) (l:List bC) (r:Int):Int:=(l.map (dz p r)).sum
def fi (p:cj) (l:List bC):Bool:=(ω (p.bk.length+12)).all λr=>decide (bZ p l r<=cC p r)
def AT:NG:=⟨59,cj×List bC,.cons cV (.one (cO .bu)),λa=>a.1.bk.length<=8/\a.2.length<=1000/\(∀x∈a.2,0<=x.TM/\x.TM<a.1.bk.length/\x.bx.ok=true),λa=> .sb (fi a.1 a.2)⟩
def Wm (a:cj×List bC):Nat->bJ
 |3=> .inv Int (λi=>⟨[(1,.row .bu a.2),(2,.ptr 0 0 20),(5,.fn (.func 83) [] []),(11,.si .i64 (cq a.1)),(12,.si .i64 i)],[.cells a.1.ss 87 20 false]⟩) (λs=>iS s 12)
  (λi=>0<=i/\i<=cq a.1/\∀r:Nat,r<i->bZ a.1 a.2 r<=cC a.1 r) (λi=>(cq a.1 - i).toNat)
  λi=>λ
   |7=> .inv (Int×Int) (λx=>⟨[(1,.row .bu a.2),(2,.ptr 0 0 20),(5,.fn (.func 83) [] []),(6,.si .i64 i),(7,.si .i64 x.2),(11,.si .i64 (cq a.1)),(12,.si .i64 i),(15,.row .bu a.2),(16,.si .i64 a.2.length),(17,.si .i64 x.1)],[.cells a.1.ss 87 20 false]⟩)
    (λs=>(iS s 17,iS s 7))
    (λx=>0<=x.1/\x.1<=a.2.length/\x.2=bZ a.1 (a.2.take x.1.toNat) i) (λx=>(a.2.length - x.1).toNat) λ_ _=> .look
   |_=> .look
 |_=> .look
theorem Fp {b:oz} (h:b.ok=true) (k:Nat):0<=bN [b.a0,b.a1,b.a2,b.a3,b.a4,b.a5] k 0/\bN [b.a0,b.a1,b.a2,b.a3,b.a4,b.a5] k 0<=4:=by
 grind[oz.gS,bN]
theorem nO {p:cj} {r:Int} {o:bC} (h:o.bx.ok=true):0<=dz p r o/\dz p r o<=4:=by
 unfold dz;have a:=Fp h (r - p.bk.length).toNat;have b:=Fp h (r - p.bk.length - 6).toNat;omega
theorem qv {p:cj} {r:Int}:∀{l:List bC},(∀x∈l,x.bx.ok=true)->0<=bZ p l r/\bZ p l r<=4*l.length
 |[],_=>by simp[bZ];|x::l,h=>by
  have b:=@nO p r x (h x (by simp));have c:=@qv p r l λy a=>h y (by simp[a]);grind[bZ]
theorem cA {a:Type} {l:List a} {i:Nat} {d:a} (h:i<l.length):bN l i d∈l:=by grind[bV]
theorem ji {a:Type} {l:List a} {i:Int} {d:a} (b:0<=i) (h:i<l.length):l.take (i+1).toNat=l.take i.toNat++[bN l i.toNat d]:=by
 rw[show(i+1).toNat=i.toNat+1 from by omega,bV (by omega),List.take_succ_eq_append_getElem (by omega)]
theorem Fo {p:cj} {r:Int} {l:List bC} {i:Int} {d:bC} (a:0<=i) (h:i<l.length):bZ p (l.take (i+1).toNat) r=bZ p (l.take i.toNat) r+dz p r (bN l i.toNat d):=by
 grind[ji,bZ]
theorem ni {p:cj} {l:List bC}:fi p l=true↔∀r:Nat,r<cq p->bZ p l r<=cC p r:=by
 simp only[fi,cq,ψ,List.mem_range,decide_eq_true_eq];grind
theorem yV:Holds Tryz.prog AT:=by
 refine bM (L:=L2) AT Wm IZ ?_;rintro⟨p,l⟩ ⟨hp,hl,hb⟩;simp only at hp hl hb;refine NI (let a:=γj .i64;let b:=(0:Int);let c:=γa;let d:=γC .i64 0;let e:=γC .i64;let f:=VL .i64;let g:=γV 0 0 20;let h:=SV.fn (Fn.func 83) [] [];let i:=a (cq p);let j:=iZ.cells (cj.ss p) 87 20 false;let k:=(↑l.length:Int);let q:=a k;p.bk.length<=8/\((((c ew.bu l).bi (c ew.bu l)/\g.bi g/\h.bi h/\i.bi i/\(d).bi (a 0)/\True)/\j.bi j/\True)/\b<=b/\b<=cq p/\∀(r:Nat),(↑r:Int)<b->bZ p l (↑r:Int)<=cC p (↑r:Int))/\∀(x:Int),let u:=decide (x<cq p);let m:=x+(1:Int);let v:=a m;(b<=x/\x<=cq p/\∀(r:Nat),(↑r:Int)<x->bZ p l (↑r:Int)<=cC p (↑r:Int))->(u=true->((((c ew.bu l).bi (c ew.bu l)/\g.bi g/\h.bi h/\(a x).bi (a x)/\(d).bi (a 0)/\i.bi i/\(a x).bi (a x)/\(c ew.bu l).bi (c ew.bu l)/\(a (↑l.length:Int)).bi q/\(d).bi (a 0)/\True)/\j.bi j/\True)/\b<=b/\b<=k/\b=bZ p [] x)/\∀(x_1:Int×Int),let s:=bN l x_1.1.toNat ew.bu.bw;let t:=x_1.2+dz p x s;let n:=x_1.1+(1:Int);let o:=a x;let w:=a t;let y:=a n;let z:=decide (cC p x<x_1.2);b<=x_1.1/\x_1.1<=k/\x_1.2=bZ p (Δ x_1.1.toNat l) x->(decide (x_1.1<k)=true->b<=x_1.1/\x_1.1<(↑l.length:Int)/\x_1.1.toNat<l.length/\(p.bk.length<=8/\b<=x/\x<cq p/\b<=s.TM/\s.TM<(↑p.bk.length:Int))/\f t/\f n/\(((c ew.bu l).bi (c ew.bu l)/\g.bi g/\h.bi h/\o.bi o/\w.bi w/\i.bi i/\o.bi o/\(c ew.bu l).bi (c ew.bu l)/\q.bi q/\y.bi y/\True)/\j.bi j/\True)/\(b<=n/\n<=k/\t=bZ p (Δ n.toNat l) x)/\(k - n).toNat<(k - x_1.1).toNat)/\(decide (x_1.1<k)=false->(p.bk.length<=8/\b<=x/\x<cq p)/\(z=true->(δj false).bi (γB (fi p l)))/\(z=false->f m/\(((c ew.bu l).bi (c ew.bu l)/\g.bi g/\h.bi h/\i.bi i/\v.bi v/\True)/\j.bi j/\True)/\(b<=m/\m<=cq p/\∀(r:Nat),(↑r:Int)<m->bZ p l (↑r:Int)<=cC p (↑r:Int))/\(cq p - m).toNat<(cq p - x).toNat)))/\(u=false->(δj true).bi (γB (fi p l)))) (by kernel_rfl) ?_;simp only[vcs];have hn:cq p=p.bk.length+12:=rfl;have ho:∀x∈l,x.bx.ok=true:=λx hx=>(hb x hx).2.2;refine⟨hp,⟨by omega,by omega,λr hr=>by omega⟩,?_⟩;rintro i ⟨hi0,hi1,hi⟩;refine⟨λhlt=>⟨⟨by omega,by omega,by simp[bZ]⟩,?_⟩,?_⟩
 ·rintro⟨j,s⟩ ⟨hj0,hj1,hs⟩;simp only at hj0 hj1 hs ⊢;have hsb:=@qv p i (l.take j.toNat) λx hx=>ho x (γn hx);have hlen:(l.take j.toNat).length<=l.length:=by simp;omega
  refine⟨λhjl=>?_,λhjl=>?_⟩
  ·have hm:=hb _ (cA (d:=ew.bu.bw) (show j.toNat<l.length by omega));have hc:=@nO p i _ hm.2.2;have hst:=@Fo p i l j ew.bu.bw hj0 hjl;refine⟨by omega,by omega,by omega,⟨hp,by omega,by omega,hm.1,hm.2.1⟩,by omega,by omega,⟨by omega,by omega,by omega⟩,by omega⟩
  ·have:j.toNat=l.length:=by omega
   rw[this,φ] at hs;refine⟨⟨hp,by omega,by omega⟩,λhgt=>?_,λhle=>⟨by omega,⟨by omega,by omega,λr hr=>?_⟩,by omega⟩⟩
   ·symm;rw[δN];intro hf;have:=ni.1 hf i.toNat (by omega);rw[show((i.toNat:Nat):Int)=i from by omega] at this;omega
   ·by_cases hr2:(r:Int)<i;·exact hi r hr2
    ·have:(r:Int)=i:=by omega
     rw[this];omega
 ·intro hge;symm;exact ni.2 λr hr=>hi r (by omega)
def L3:List NG:=[AT,Fq,uV,uX,uW]
theorem Ci:∀c∈L3,Holds Tryz.prog c:=by
 simp only[L3,εo,List.not_mem_nil,false_implies,implies_true,and_true];grind[yV,IM,qT,qS,qR]
def gD (p:cj) (k:Nat):Prop:=
 let c:=bN [p.bt.a0,p.bt.a1,p.bt.a2,p.bt.a3,p.bt.a4,p.bt.a5] k 0;let o:=bN [p.bs.a0,p.bs.a1,p.bs.a2,p.bs.a3,p.bs.a4,p.bs.a5] k 0;let s:=bN [p.bm.a0,p.bm.a1,p.bm.a2,p.bm.a3,p.bm.a4,p.bm.a5] k 0;0<=c/\c<=4/\0<=o/\o<=s/\(c≠0\/o=s)
instance (p:cj) (k:Nat):Decidable (gD p k):=by unfold gD;infer_instance
def AS (p:cj):Bool:=(ω 6).all λk=>decide (gD p k)
theorem mw {p:cj} {k:Nat}:gD p k↔(0<=bN [p.bt.a0,p.bt.a1,p.bt.a2,p.bt.a3,p.bt.a4,p.bt.a5] k 0/\bN [p.bt.a0,p.bt.a1,p.bt.a2,p.bt.a3,p.bt.a4,p.bt.a5] k 0<=4/\0<=bN [p.bs.a0,p.bs.a1,p.bs.a2,p.bs.a3,p.bs.a4,p.bs.a5] k 0/\
  bN [p.bs.a0,p.bs.a1,p.bs.a2,p.bs.a3,p.bs.a4,p.bs.a5] k 0<=bN [p.bm.a0,p.bm.a1,p.bm.a2,p.bm.a3,p.bm.a4,p.bm.a5] k 0/\
  (bN [p.bt.a0,p.bt.a1,p.bt.a2,p.bt.a3,p.bt.a4,p.bt.a5] k 0≠0\/bN [p.bs.a0,p.bs.a1,p.bs.a2,p.bs.a3,p.bs.a4,p.bs.a5] k 0=bN [p.bm.a0,p.bm.a1,p.bm.a2,p.bm.a3,p.bm.a4,p.bm.a5] k 0)):=Iff.rfl
attribute [irreducible] gD
theorem xl {p:cj}:AS p=true↔∀k,k<6->gD p k:=by simp[AS]
def gR (p:cj):Int:=
 if p.bm.ok=false then 4
 else if AS p=false then 4
 else if 8<p.bk.length\/160<p.bj.length then 3
 else if ¬∀c∈p.bk,0<=c/\c<=4 then 4
 else 0
def Fm:NG:=⟨46,cj,.one cV,λp=>True,λp=> .si .i64 (gR p)⟩
def Wl (p:cj):Nat->bJ
 |5=> .inv Int (λk=>⟨[(1,.ptr 0 0 20),(16,.si .i64 k)],[.cells p.ss 87 20 false]⟩) (λs=>iS s 16) (λk=>0<=k/\k<=6/\∀j:Nat,j<k->gD p j) (λk=>(6 - k).toNat) λ_ _=> .look
 |14=> .inv Int (λk=>⟨[(76,.row (.i .i64) p.bk),(77,.si .i64 p.bk.length),(78,.si .i64 k)],[.cells p.ss 87 20 false]⟩) (λs=>iS s 78)
  (λk=>0<=k/\k<=p.bk.length/\∀c∈p.bk.take k.toNat,0<=c/\c<=4) (λk=>(p.bk.length - k).toNat) λ_ _=> .look
 |_=> .look
theorem NU {p:cj} (h:p.bm.ok=false):gR p=4:=by simp[gR,h]
theorem NT {p:cj} (h:p.bm.ok=true) {k:Nat} (b:k<6) (a:¬gD p k):gR p=4:=by
 grind[xl,gR]
theorem AR {p:cj} (h:p.bm.ok=true) (b:∀j:Nat,j<6->gD p j) (a:8<p.bk.length\/160<p.bj.length):gR p=3:=by
 grind[gR,xl]
theorem AQ {p:cj} (h:p.bm.ok=true) (f:∀j:Nat,j<6->gD p j) (e:¬(8<p.bk.length\/160<p.bj.length)) {c:Int} (b:c∈p.bk) (a:¬(0<=c/\c<=4)):gR p=4:=by
 have:¬∀c∈p.bk,0<=c/\c<=4:=λd=>a (d c b);simp_all[gR]
theorem Fl {p:cj} (h:p.bm.ok=true) (b:∀j:Nat,j<6->gD p j) (d:¬(8<p.bk.length\/160<p.bj.length)) (a:∀c∈p.bk,0<=c/\c<=4):gR p=0:=by
 simp_all[gR,xl,if_neg]
theorem rJ {p:cj} (h:gR p=0):p.bm.ok=true/\(∀j:Nat,j<6->gD p j)/\p.bk.length<=8/\p.bj.length<=160/\∀c∈p.bk,0<=c/\c<=4:=by
 unfold gR at h;split at h;·cases h
 ·split at h;·cases h
  ·split at h;all_goals simp_all[xl]
theorem NS {l:List Int} {i:Int} {P:Int->Prop} (d:0<=i) (h:i<l.length) (a:∀c∈l.take i.toNat,P c) (b:P (bN l i.toNat 0)):∀c∈l.take (i+1).toNat,P c:=by
 grind[ji]
theorem IP:Holds Tryz.prog Fm:=by
 refine bM (L:=L3) Fm Wl Ci ?_;intro p _;refine NI (let a:=γj .i64;let b:=(0:Int);let d:=γC .i64;let e:=(6:Int);let f:=(4:Int);let y:=if p.bm.ok=true then b else f;let g:=a (gR p);let q:=γV 0 0 20;let s:=d 0;let n:=γa (ew.i .i64) p.bk;let h:=iZ.cells [a p.bm.a0,a p.bm.a1,a p.bm.a2,a p.bm.a3,a p.bm.a4,a p.bm.a5,a p.bs.a0,a p.bs.a1,a p.bs.a2,a p.bs.a3,a p.bs.a4,a p.bs.a5,a p.bt.a0,a p.bt.a1,a p.bt.a2,a p.bt.a3,a p.bt.a4,a p.bt.a5,n,γa ew.bu p.bj] 87 20 false;let N:=[p.bt.a0,p.bt.a1,p.bt.a2,p.bt.a3,p.bt.a4,p.bt.a5];let O:=[p.bs.a0,p.bs.a1,p.bs.a2,p.bs.a3,p.bs.a4,p.bs.a5];let P:=[p.bm.a0,p.bm.a1,p.bm.a2,p.bm.a3,p.bm.a4,p.bm.a5];let t:=(↑p.bk.length:Int);let z:=decide ((8:Int)<t);let A:=decide ((160:Int)<(↑p.bj.length:Int));let k:=(↑p.bk.length:Int);let v:=a k;let B:=λ(u:Bool) ↦decide (y≠b)=u;True/\(B true->(a y).bi g)/\(B false->(((q.bi q/\s.bi (a 0)/\True)/\h.bi h/\True)/\b<=b/\b<=e/\∀(j:Nat),(↑j:Int)<b->gD p j)/\∀(x:Int),let l:=x+(1:Int);let C:=a l;let D:=decide (x<e);let w:=bN N x.toNat b;let E:=decide (w<b);let F:=decide (f<w);let o:=bN O x.toNat b;let G:=decide (o<b);let r:=bN P x.toNat b;let H:=decide (w=b);let I:=VL .i64 l/\((q.bi q/\C.bi C/\True)/\h.bi h/\True)/\(b<=l/\l<=e/\∀(j:Nat),(↑j:Int)<l->gD p j)/\(e - l).toNat<(e - x).toNat;(b<=x/\x<=e/\∀(j:Nat),(↑j:Int)<x->gD p j)->(D=true->b<=x/\x<e/\x.toNat<6/\b<=x/\x<e/\x.toNat<6/\(E=true->(d 4).bi g)/\(E=false->(F=true->(d 4).bi g)/\(F=false->(G=true->(d 4).bi g)/\(G=false->b<=x/\x<e/\x.toNat<6/\(decide (r<o)=true->(d 4).bi g)/\(decide (r<o)=false->(H=true->b<=x/\x<e/\x.toNat<6/\(decide (o≠r)=true->(d 4).bi g)/\(decide (o≠r)=false->I))/\(H=false->I))))))/\(D=false->(z=true->(d 3).bi g)/\(z=false->(A=true->(d 3).bi g)/\(A=false->(((n.bi n/\(a t).bi v/\s.bi (a 0)/\True)/\h.bi h/\True)/\b<=b/\b<=k/\∀(c:Int),c∈[]->b<=c/\c<=f)/\∀(x:Int),let J:=bN p.bk x.toNat b;let K:=decide (J<b);let L:=decide (f<J);let m:=x+(1:Int);let M:=a m;(b<=x/\x<=k/\∀(c:Int),c∈Δ x.toNat p.bk->b<=c/\c<=f)->(decide (x<k)=true->b<=x/\x<t/\x.toNat<p.bk.length/\(K=true->(d 4).bi g)/\(K=false->(L=true->(d 4).bi g)/\(L=false->VL .i64 m/\((n.bi n/\v.bi v/\M.bi M/\True)/\h.bi h/\True)/\(b<=m/\m<=k/\∀(c:Int),c∈Δ m.toNat p.bk->b<=c/\c<=f)/\(k - m).toNat<(k - x).toNat)))/\(decide (x<k)=false->s.bi g)))))) (by kernel_rfl) ?_;simp only[vcs];by_cases hs:oz.ok p.bm=true
 ·simp only[hs,if_true];refine⟨λh=>absurd rfl h,λ_=>⟨⟨by omega,by omega,λj hj=>by omega⟩,?_⟩⟩;rintro k ⟨hk0,hk1,hk⟩;refine⟨λhlt=>?_,λhge=>?_⟩
  ·have bad:¬gD p k.toNat->(4:Int)=gR p:=λh=>(NT hs (by omega) h).symm;have nxt:gD p k.toNat->∀(j:Nat),(j:Int)<k+1->gD p j:=λh j hj=>by
    by_cases hj2:(j:Int)<k;·exact hk j hj2
    ·rw[show j=k.toNat from by omega];exact h
   repeat' (first|refine γm ?_ ?_|intro _)
   all_goals first
    |omega;|exact bad λhh=>by have h2:=mw.1 hh;omega;|exact nxt (mw.2 (by omega)) _ (by assumption)
  ·have hall:∀j:Nat,j<6->gD p j:=λj hj=>hk j (by omega);refine⟨λh=>(AR hs hall (.inl (by omega))).symm,λh8=>⟨λh=>(AR hs hall (.inr (by omega))).symm,λh160=>⟨⟨by omega,by omega,by simp⟩,?_⟩⟩⟩;rintro i ⟨hi0,hi1,hi⟩;refine⟨λhlt=>?_,λhge=>?_⟩
   ·have hm:=cA (d:=0) (show i.toNat<p.bk.length by omega);refine⟨by omega,by omega,by omega,λh=>(AQ hs hall (by omega) hm (by omega)).symm,λh1=>⟨λh=>(AQ hs hall (by omega) hm (by omega)).symm,λh2=>⟨by omega,⟨by omega,by omega,?_⟩,by omega⟩⟩⟩;exact NS hi0 hlt hi (by omega)
   ·rw[show i.toNat=p.bk.length from by omega,φ] at hi;exact(Fl hs hall (by omega) hi).symm
 ·have hs2:oz.ok p.bm=false:=by simpa using hs
  simp only[hs2,τ,if_false];exact⟨λ_=>(NU hs2).symm,λh=>absurd (by decide) h⟩
def jU (n:Int) (o:bC):Int:=
 if o.TM<0\/n<=o.TM then 6 else if o.value<1\/1000000<o.value then 4 else if o.bx.ok then 0 else 4
def Fk:NG:=⟨66,Int×bC,.cons (dX .i64) (.one (dD .bu)),λp=>True,λp=> .si .i64 (jU p.1 p.2)⟩
theorem IK:Holds Tryz.prog Fk:=by
 refine bM (L:=L3) Fk (λp=>λ_=> .look) Ci ?_;rintro⟨n,x⟩ _;refine NI (let f:=γC .i64;let e:=decide (x.TM<(0:Int));let a:=γj .i64 (jU n x);let c:=decide (n<=x.TM);let b:=decide (x.value<(1:Int));let d:=decide ((1000000:Int)<x.value);(e=true->(f 6).bi a)/\(e=false->(c=true->(f 6).bi a)/\(c=false->(b=true->(f 4).bi a)/\(b=false->(d=true->(f 4).bi a)/\(d=false->True/\(γj .i64 (if x.bx.ok=true then(0:Int) else(4:Int))).bi a))))) (by kernel_rfl) ?_;simp only[vcs];grind[jU]
def jz (p:cj) (o:bC):Int:=
 if jU p.bk.length o≠0 then jU p.bk.length o else if o.bx=oz.zero then 4 else if fi p [o]=false then 14 else 0
def Fj:NG:=⟨47,cj×bC,.cons cV (.one (dD .bu)),λa=>a.1.bk.length<=8,λa=> .si .i64 (jz a.1 a.2)⟩
def L4:List NG:=Fk::L3
theorem IY:∀c∈L4,Holds Tryz.prog c:=by
 grind[L4,IK,Ci]
theorem AP {n:Int} {o:bC} (h:jU n o=0):0<=o.TM/\o.TM<n/\1<=o.value/\o.value<=1000000/\o.bx.ok=true:=by
 grind[jU]
theorem IN:Holds Tryz.prog Fj:=by
 refine bM (L:=L4) Fj (λp=>λ_=> .look) IY ?_;rintro⟨p,x⟩ (i:p.bk.length<=8);refine NI (let f:=(0:Int);let g:=γC .i64;let c:=jU (↑p.bk.length:Int) x;let e:=decide (c≠f);let b:=γj .i64 (jz p x);let d:=λ(u:Bool) ↦(decide (x.bx.a0=f)&&(decide (x.bx.a1=f)&&(decide (x.bx.a2=f)&&(decide (x.bx.a3=f)&&(decide (x.bx.a4=f)&&(decide (x.bx.a5=f)&&true))))))=u;True/\(e=true->(γj .i64 c).bi b)/\(e=false->(d true->(g 4).bi b)/\(d false->(p.bk.length<=8/\1<=1000/\∀(a:bC),a∈[x]->f<=a.TM/\a.TM<(↑p.bk.length:Int)/\a.bx.ok=true)/\((!fi p [x])=true->(g 14).bi b)/\((!fi p [x])=false->(g 0).bi b)))) (by kernel_rfl) ?_;conv=>zeta
 have g:(decide (x.bx.a0=0)&&(decide (x.bx.a1=0)&&(decide (x.bx.a2=0)&&(decide (x.bx.a3=0)&&(decide (x.bx.a4=0)&&decide (x.bx.a5=0))))))=decide (x.bx=oz.zero):=by
  simp_all[AU,oz.zero]
 simp only[Bool.and_true,g];simp only[vcs];refine⟨λh=>by simp_all[jz],λh=>?_⟩;have f:jU p.bk.length x=0:=γe.1 h;have j:=AP f;grind[jz]
def L5:List NG:=Fm::Fj::L4
theorem Ch:∀c∈L5,Holds Tryz.prog c:=by
 grind[L5,IP,IN,IY]
def bC.key (o:bC):mI:=⟨o.TM,o.bx⟩
def h_ (p:cj) (a:List mI):List bC->Int
 |[]=>0
 |o::r=>if jz p o≠0 then jz p o else if o.key∈a then 7 else h_ p (a++[o.key]) r
def nW (p:cj):Int:=if gR p≠0 then gR p else h_ p [] p.bj
def mV:NG:=⟨28,cj,.one cV,λp=>True,λp=> .si .i64 (nW p)⟩
def Wk (p:cj):Nat->bJ
 |7=> .inv Int (λi=>⟨[(3,.ptr 1 0 20),(5,.mp 2),(19,.row .bu p.bj),(20,.si .i64 p.bj.length),(21,.si .i64 i)],
   [.cells p.ss 27 20 false,.cells p.ss 87 20 false,.map .key .b true ((p.bj.take i.toNat).map λo=>(o.key,true)) ([0,0,0,0,0,0,0],true) true]⟩) (λs=>iS s 21)
  (λi=>0<=i/\i<=p.bj.length/\h_ p [] p.bj=h_ p ((p.bj.take i.toNat).map bC.key) (p.bj.drop i.toNat)) (λi=>(p.bj.length - i).toNat) λ_ _=> .look
 |_=> .look
theorem qu {a:Type} {l:List a} {i:Int} {d:a} (b:0<=i) (h:i<l.length):l.drop i.toNat=bN l i.toNat d::l.drop (i+1).toNat:=by
 rw[show(i+1).toNat=i.toNat+1 from by omega,bV (by omega),List.drop_eq_getElem_cons (by omega)]
theorem AO (k:mI):∀(l:List bC),(mG .key .b k (l.map λo=>(o.key,true))).getD false=decide (k∈l.map bC.key)
 |[]=>by simp[mG];|o::l=>by
  have:=AO k l;grind[mG]
theorem Wj {b sv:ew} {c:Bool} {es a:List (b.T×sv.T)} {d:List Nat×Bool} {pu:Bool} (h:es=a):(iZ.map b sv c es d pu).bi (.map b sv c a d pu):=by rw[h];rfl
theorem Wi {k:mI} {l:List bC} (h:k∉l.map bC.key):qz .key .b k true (l.map λo=>(o.key,true))=(l.map λo=>(o.key,true))++[(k,true)]:=
 GC λp a=>by
  grind
theorem oi:Holds Tryz.prog mV:=by
 refine bM (L:=L5) mV Wk Ch ?_;intro p _;refine NI (let a:=γj .i64;let c:=(0:Int);let f:=γa ew.bu p.bj;let q:=decide (gR p≠c);let g:=a (nW p);let h:=γV 1 0 20;let r:=(↑p.bj.length:Int);let d:=(↑p.bj.length:Int);let m:=a d;let s:=γC .i64 0;let n:=([0,0,0,0,0,0,0],true);let t:=iZ.map ew.key ew.b true [] n true;let j:=h_ p [] p.bj;let E:=ew.bu.bw;let k:=λ(u:Nat) ↦let v:=iZ.cells [a p.bm.a0,a p.bm.a1,a p.bm.a2,a p.bm.a3,a p.bm.a4,a p.bm.a5,a p.bs.a0,a p.bs.a1,a p.bs.a2,a p.bs.a3,a p.bs.a4,a p.bs.a5,a p.bt.a0,a p.bt.a1,a p.bt.a2,a p.bt.a3,a p.bt.a4,a p.bt.a5,γa (ew.i .i64) p.bk,f] u 20 false;v.bi v;True/\(q=true->(a (gR p)).bi g)/\(q=false->(((h.bi h/\(SV.mp 2).bi (SV.mp 2)/\f.bi f/\(a r).bi m/\s.bi (a 0)/\True)/\k 27/\k 87/\t.bi t/\True)/\c<=c/\c<=d/\j=j)/\∀(x:Int),let w:=Δ x.toNat p.bj;let l:=bN p.bj x.toNat E;let y:=decide (jz p l≠c);let z:=mI.mk l.TM l.bx;let A:=γc (λ(o:bC) ↦(o.key,true)) w;let B:=(mG ew.key ew.b z A).getD false;let e:=x+(1:Int);let C:=a e;let D:=Δ e.toNat p.bj;c<=x/\x<=d/\j=h_ p (γc bC.key w) (γ4 x.toNat p.bj)->(decide (x<d)=true->c<=x/\x<r/\x.toNat<p.bj.length/\p.bk.length<=8/\(y=true->(a (jz p l)).bi g)/\(y=false->(B=true->(γC .i64 7).bi g)/\(B=false->VL .i64 e/\((h.bi h/\(SV.mp 2).bi (SV.mp 2)/\f.bi f/\m.bi m/\C.bi C/\True)/\k 27/\k 87/\(iZ.map ew.key ew.b true (qz ew.key ew.b z true A) n true).bi (iZ.map ew.key ew.b true (γc (λ(o:bC) ↦(o.key,true)) D) n true)/\True)/\(c<=e/\e<=d/\j=h_ p (γc bC.key D) (γ4 e.toNat p.bj))/\(d - e).toNat<(d - x).toNat)))/\(decide (x<d)=false->s.bi g))) (by kernel_rfl) ?_;simp only[vcs];refine⟨λh=>by simp[nW,h],λh=>?_⟩;have hz:gR p=0:=γe.1 h;obtain⟨f1,f2,f3,f4,f5⟩:=rJ hz;refine⟨⟨by omega,by omega⟩,?_⟩;rintro i ⟨hi0,hi1,hi⟩;refine⟨λhlt=>?_,λhge=>?_⟩
 ·rw[qu (d:=ew.bu.bw) hi0 hlt] at hi;generalize hx:bN p.bj i.toNat ew.bu.bw=x at hi ⊢;refine⟨by omega,by omega,by omega,f3,λhe=>?_,λhe=>?_⟩
  ·simp only[h_,if_pos he] at hi;simp[nW,hz,hi]
  ·simp only[h_,if_neg he] at hi;have hk:(⟨x.TM,x.bx⟩:mI)=x.key:=rfl;simp only[hk];refine⟨λhm=>?_,λhm=>⟨by omega,?_,⟨by omega,by omega,?_⟩,by omega⟩⟩
   ·have hm2:=of_decide_eq_true ((AO _ _).symm.trans hm);rw[if_pos hm2] at hi;simp[nW,hz,hi]
   ·have hm2:=of_decide_eq_false ((AO _ _).symm.trans hm);apply Wj;rw[Wi hm2,ji (d:=ew.bu.bw) hi0 hlt,hx];simp
   ·have hm2:=of_decide_eq_false ((AO _ _).symm.trans hm);rw[if_neg hm2] at hi;rw[hi,ji (d:=ew.bu.bw) hi0 hlt,hx];simp
 ·rw[show i.toNat=p.bj.length from by omega,δE] at hi;simp only[h_] at hi;simp[nW,hz,hi]
def dA (l:List bC) (a:Int):List Int->Option (List bC)
 |[]=>some []
 |i::r=>if i<=a\/l.length<=i then none else(dA l i r).map (bN l i.toNat ew.bu.bw::·)
def eG (p:cj) (c:List Int):Bool:=(dA p.bj (-1) c).isSome
def cK (p:cj) (c:List Int):List bC:=(dA p.bj (-1) c).getD []
def AN:NG:=⟨58,cj×List Int,.cons cV (.one (cO (.i .i64))),λa=>a.2.length<=9223372036854775807/\a.1.bj.length<=1000,λa=> .Gz [.row .bu (cK a.1 a.2),.sb (eG a.1 a.2)]⟩
def Wh (a:cj×List Int):Nat->bJ
 |4=> .inv (Int×Int×List bC) (λx=>⟨[(2,.ptr 0 0 20),(6,.ow 1 x.2.2.length 8),(7,.si .i64 x.2.1),(10,.row (.i .i64) a.2),(11,.si .i64 a.2.length),(12,.si .i64 x.1)],
   [.cells a.1.ss 27 20 false,.row .bu x.2.2 65 true]⟩) (λs=>(iS s 12,iS s 7,oS .bu s 1))
  (λx=>0<=x.1/\x.1<=a.2.length/\(x.2.2.length<=x.2.1+1/\x.2.1<1000)/\ -1<=x.2.1/\dA a.1.bj (-1) a.2=(dA a.1.bj x.2.1 (a.2.drop x.1.toNat)).map (x.2.2++·)) (λx=>(a.2.length - x.1).toNat) λ_ _=> .look
 |_=> .look
theorem yW:Holds Tryz.prog AN:=by
 refine bM (L:=L5) AN Wh Ch ?_;rintro⟨p,c⟩ ⟨hc,hof⟩;have hc:c.length<=9223372036854775807:=hc;have hof:p.bj.length<=1000:=hof;refine NI (let a:=γj .i64;let b:=(0:Int);let d:=(-1:Int);let e:=γa;let f:=(1000:Int);let g:=δj false;let h:=SV.Gz;let j:=(1:Int);let q:=γV 0 0 20;let w:=SV.ow 1 0 8;let m:=ew.i .i64;let l:=(↑c.length:Int);let t:=a l;let r:=iZ.cells [a p.bm.a0,a p.bm.a1,a p.bm.a2,a p.bm.a3,a p.bm.a4,a p.bm.a5,a p.bs.a0,a p.bs.a1,a p.bs.a2,a p.bs.a3,a p.bs.a4,a p.bs.a5,a p.bt.a0,a p.bt.a1,a p.bt.a2,a p.bt.a3,a p.bt.a4,a p.bt.a5,e m p.bk,e ew.bu p.bj] 27 20 false;let y:=iZ.row ew.bu [] 65 true;let s:=dA p.bj d c;let u:=h [e ew.bu (cK p c),γB (eG p c)];let v:=(↑p.bj.length:Int);(((q.bi q/\w.bi w/\(γC .i64 d).bi (a d)/\(e m c).bi (e m c)/\(a (↑c.length:Int)).bi t/\(γC .i64 0).bi (a 0)/\True)/\r.bi r/\y.bi y/\True)/\b<=b/\b<=l/\(b<=b/\d<f)/\d<=d/\s=ζw (λx ↦(b,d,[]).2.2++x) s)/\∀(x:Int×Int×List bC),let k:=bN c x.1.toNat b;let z:=decide (k<=x.2.1);let A:=x.2.2.length+1;let n:=x.1+j;let o:=x.2.2++[bN p.bj k.toNat ew.bu.bw];let B:=a k;let C:=a n;let D:=iZ.row ew.bu o 65 true;b<=x.1/\x.1<=l/\((↑x.2.2.length:Int)<=x.2.1+j/\x.2.1<f)/\d<=x.2.1/\s=ζw (λx_1 ↦x.2.2++x_1) (dA p.bj x.2.1 (γ4 x.1.toNat c))->(decide (x.1<l)=true->b<=x.1/\x.1<(↑c.length:Int)/\x.1.toNat<c.length/\(z=true->(h [e m [],g]).bi u)/\(z=false->(decide (v<=k)=true->(h [e m [],g]).bi u)/\(decide (v<=k)=false->b<=k/\k<v/\k.toNat<p.bj.length/\x.2.2.length=x.2.2.length/\A*64<=140737488355328/\A<=1000000000000/\VL .i64 n/\((q.bi q/\(SV.ow 1 o.length 8).bi (SV.ow 1 o.length 8)/\B.bi B/\(e m c).bi (e m c)/\t.bi t/\C.bi C/\True)/\r.bi r/\D.bi D/\True)/\(b<=n/\n<=l/\((↑o.length:Int)<=k+j/\k<f)/\d<=k/\s=ζw (λx ↦(n,k,o).2.2++x) (dA p.bj k (γ4 n.toNat c)))/\(l - n).toNat<(l - x.1).toNat)))/\(decide (x.1<l)=false->x.2.2.length=x.2.2.length/\(h [e ew.bu x.2.2,δj true]).bi u)) (by kernel_rfl) ?_;simp only[vcs];have hrow:∀{l:List bC},l=[]->(γa (.i .i64) []).bi (γa .bu l):=by rintro l rfl;exact Fs.2 trivial
 refine⟨⟨by omega,by omega,by omega,by simp⟩,?_⟩;rintro⟨i,last,out⟩ ⟨hi0,hi1,hlen,hla,hi⟩;simp only at hi0 hi1 hlen hla hi ⊢;refine⟨λhlt=>?_,λhge=>?_⟩
 ·rw[qu (d:=0) hi0 hlt] at hi;generalize hx:bN c i.toNat 0=x at hi ⊢;simp only[dA] at hi;refine⟨by omega,by omega,by omega,λh1=>?_,λh1=>⟨λh2=>?_,λh2=>?_⟩⟩
  ·rw[if_pos (.inl h1)] at hi;exact⟨hrow (by simp[cK,hi]),by simp[eG,hi]⟩
  ·rw[if_pos (.inr (by omega))] at hi;exact⟨hrow (by simp[cK,hi]),by simp[eG,hi]⟩
  ·rw[if_neg (by omega)] at hi;simp only[List.length_append,List.length_singleton];refine⟨by omega,by omega,by omega,by omega,by omega,by omega,⟨by omega,by omega,by omega,by omega,?_⟩,by omega⟩;rw[hi,Option.map_map];congr 1;funext r;simp
 ·rw[show i.toNat=c.length from by omega,δE] at hi;simp only[dA,ν,List.append_nil] at hi;exact⟨by simp[cK,hi],by simp[eG,hi]⟩
def L6:List NG:=mV::AN::L5
theorem Qn:∀c∈L6,Holds Tryz.prog c:=by
 grind[L6,oi,yW,Ch]
def bT (p:cj) (c:List Int):Int:=if nW p≠0 then nW p else if eG p c=false then 4 else if fi p (cK p c)=false then 14 else 0
def vQ:NG:=⟨37,cj×List Int,.cons cV (.one (cO (.i .i64))),λa=>a.2.length<=9223372036854775807,λa=> .si .i64 (bT a.1 a.2)⟩
theorem NR {p:cj}:∀{l:List bC} {a:List mI},h_ p a l=0->∀x∈l,jz p x=0
 |[],_,_=>by simp;|o::r,a,h=>by
  simp only[h_] at h;split at h;·omega
  ·rename_i c;split at h;·cases h
   ·intro x b;rcases γq.1 b with rfl|b;·omega
    ·exact NR h x b
theorem rI {p:cj} (h:nW p=0):gR p=0/\∀x∈p.bj,jz p x=0:=by
 unfold nW at h;split at h;·omega
 ·rename_i a;exact⟨γe.1 a,NR h⟩
theorem AM {p:cj} {o:bC} (h:jz p o=0):jU p.bk.length o=0/\o.bx≠oz.zero/\fi p [o]=true:=by
 unfold jz at h;grind
theorem xk {l:List bC}:∀{c:List Int} {a:Int} {r:List bC}, -1<=a->dA l a c=some r->r.length+a+1<=l.length\/r=[]
 |[],a,r,_,h=>by grind[dA];|i::c,a,r,d,h=>by
  simp only[dA] at h;split at h;·cases h
  ·rename_i e;obtain⟨f,b,rfl⟩:=ε.1 h;have:=xk (by omega) b;grind
theorem AL {l:List bC}:∀{c:List Int} {a:Int} {r:List bC}, -1<=a->dA l a c=some r->∀x∈r,x∈l
 |[],a,r,_,h=>by grind[dA];|i::c,a,r,f,h=>by
  simp only[dA] at h;split at h;·cases h
  ·rename_i e;obtain⟨g,d,rfl⟩:=ε.1 h;intro x b;rcases γq.1 b with rfl|b;·grind[cA]
   ·exact AL (by omega) d x b
theorem qZ:Holds Tryz.prog vQ:=by
 refine bM (L:=L6) vQ (λp=>λ_=> .look) Qn ?_;rintro⟨p,c⟩ (n:c.length<=9223372036854775807);refine NI (let a:=γC .i64;let e:=decide (nW p≠(0:Int));let d:=γj .i64 (bT p c);let f:=!fi p (cK p c);True/\(e=true->(γj .i64 (nW p)).bi d)/\(e=false->(c.length<=9223372036854775807/\p.bj.length<=1000)/\((!eG p c)=true->(a 4).bi d)/\((!eG p c)=false->(p.bk.length<=8/\(cK p c).length<=1000/\∀(x:bC),x∈cK p c->(0:Int)<=x.TM/\x.TM<(↑p.bk.length:Int)/\x.bx.ok=true)/\(f=true->(a 14).bi d)/\(f=false->(a 0).bi d)))) (by kernel_rfl) ?_;simp only[vcs];refine⟨λh=>by simp[bT,h],λh=>?_⟩;have g:nW p=0:=γe.1 h;obtain⟨m,j⟩:=rI g;obtain⟨s,o,l,q,t⟩:=rJ m;refine⟨⟨n,by omega⟩,λa=>by grind[bT],λa=>⟨⟨l,?_,?_⟩,λk=>by grind[bT],λk=>by grind[bT]⟩⟩
 ·unfold eG at a;obtain⟨r,b⟩:=γs.1 a;have:=xk (by omega) b;grind[cK]
 ·unfold eG at a;obtain⟨r,b⟩:=γs.1 a;simp only[cK,b,Option.getD_some];intro x i;have u:=AP (AM (j x (AL (by omega) b x i))).1;simp_all
def oz.sub (a b:oz):oz:=⟨a.a0 - b.a0,a.a1 - b.a1,a.a2 - b.a2,a.a3 - b.a3,a.a4 - b.a4,a.a5 - b.a5⟩
def oz.meet (a b:oz):oz:=⟨min a.a0 b.a0,min a.a1 b.a1,min a.a2 b.a2,min a.a3 b.a3,min a.a4 b.a4,min a.a5 b.a5⟩
def oz.le (a b:oz):Bool:=decide (a.a0<=b.a0)&&decide (a.a1<=b.a1)&&decide (a.a2<=b.a2)&&decide (a.a3<=b.a3)&&decide (a.a4<=b.a4)&&decide (a.a5<=b.a5)
theorem oz.le_iff {a b:oz}:a.le b=true↔a.a0<=b.a0/\a.a1<=b.a1/\a.a2<=b.a2/\a.a3<=b.a3/\a.a4<=b.a4/\a.a5<=b.a5:=by
 simp[oz.le,and_assoc]
theorem Wg {a b:List SV}:(SV.agg a).bi (.agg b)↔gL a=gL b:=by simp[εX,γF]
def Fi:NG:=⟨67,oz×oz,.cons (dD .bun) (.one (dD .bun)),λ_=>True,λa=> .agg (cR .bun (a.1.meet a.2))⟩
theorem II:Holds Tryz.prog Fi:=by
 refine bM (L:=[]) Fi (λ_=>λ_=> .apl 7) (by simp) ?_;rintro⟨a,b⟩ _;refine NI (let c:=γj .i64;(SV.agg [c (min a.a0 b.a0),c (min a.a1 b.a1),c (min a.a2 b.a2),c (min a.a3 b.a3),c (min a.a4 b.a4),c (min a.a5 b.a5)]).bi (SV.agg [c (a.meet b).a0,c (a.meet b).a1,c (a.meet b).a2,c (a.meet b).a3,c (a.meet b).a4,c (a.meet b).a5])) (by kernel_rfl) ?_;simp only[vcs,Wg,gL,γF,oz.meet,and_self]
def AK (p:cj) (m:Int):Int:=if nW p≠0 then nW p else if m<0\/2^p.bk.length<=m then 4 else 0
structure L8 where
 (l0 l1 l2 l3 l4 l5 l6 l7:List bC)
structure P5 where
 p:cj
 ls:L8
 es:List (tT×Int)
def wH (p:cj) (j:Int):List bC:=p.bj.filter λx=>decide (x.TM=j)
def P5.o (s:P5):TP:=
 [.cells [.si .i64 s.p.bm.a0,.si .i64 s.p.bm.a1,.si .i64 s.p.bm.a2,.si .i64 s.p.bm.a3,.si .i64 s.p.bm.a4,.si .i64 s.p.bm.a5,
  .si .i64 s.p.bs.a0,.si .i64 s.p.bs.a1,.si .i64 s.p.bs.a2,.si .i64 s.p.bs.a3,.si .i64 s.p.bs.a4,.si .i64 s.p.bs.a5,
  .si .i64 s.p.bt.a0,.si .i64 s.p.bt.a1,.si .i64 s.p.bt.a2,.si .i64 s.p.bt.a3,.si .i64 s.p.bt.a4,.si .i64 s.p.bt.a5,
  .row (.i .i64) s.p.bk,.row .bu s.p.bj,.row .bu s.ls.l0,.row .bu s.ls.l1,.row .bu s.ls.l2,.row .bu s.ls.l3,.row .bu s.ls.l4,.row .bu s.ls.l5,.row .bu s.ls.l6,.row .bu s.ls.l7,.mp 1] 114 29 false,
  .map .sit (.i .i64) true s.es ([0,0,0,0,0,0,0,0,0,0,0,0,0],true) true]
def oc (c w a j k:Int):Int:=if j<k/\(c=0\/c=a) then 0 else w
def kn (p:cj) (x:bC):Int:=bN p.bk x.TM.toNat 0
def Fh (p:cj) (x:bC) (k:Int):oz:=⟨oc p.bt.a0 x.bx.a0 (kn p x) 0 k,oc p.bt.a1 x.bx.a1 (kn p x) 1 k,oc p.bt.a2 x.bx.a2 (kn p x) 2 k,oc p.bt.a3 x.bx.a3 (kn p x) 3 k,oc p.bt.a4 x.bx.a4 (kn p x) 4 k,oc p.bt.a5 x.bx.a5 (kn p x) 5 k⟩
def dT (p:cj) (x:bC):oz:=Fh p x 6
def tT.b (a:tT):Prop:=a.left.ok=true/\a.bs.ok=true
end Go.Vi
namespace Go.Proofs.YtbnhiekmnpikhaaGreat
open Go.ChangeShapes Go.WideShapes Go.ChangeAt Go.RowKit Go.Vi
theorem Tryz.own:ownKnob Tryz.prog.godebug=none:=by kernel_rfl
theorem Tryz.laidOut:laidOutB Tryz.prog=true:=by kernel_rfl
theorem W_:Reads Tryz.prog 3 (.i .i64):=WI Tryz.underlying3
theorem NQ:Reads Tryz.prog 23 .bun:=WC Tryz.underlying23 Tryz.underlying3 (by kernel_rfl) (by kernel_rfl)
theorem W8:Reads Tryz.prog 65 .bu:=WA Tryz.underlying65 (by kernel_rfl) rfl rfl rfl Tryz.underlying3 (by kernel_rfl) Tryz.underlying2 (by kernel_rfl) NQ (by kernel_rfl) rfl
theorem W7 {H:Type} {enc:TypeId×Value->H} {w:World} {a:Nat->Bool} {c:Bool} {b:Nat} {cs:List Value} {x:DataW H×List MemPlace} (h:DataW.trod enc Tryz.prog w 0 a c b 27 cs=some x):
  ∃p:cj,Aq jK w [] [] (gL p.ss) cs:=
 Wz Tryz.underlying27 (by kernel_rfl) rfl rfl rfl rfl rfl rfl NQ (by kernel_rfl) Tryz.underlying24 W_ (by kernel_rfl) (by kernel_rfl) Tryz.underlying25 W8 (by kernel_rfl) (by kernel_rfl) h
theorem W6 {f:FuncId} {args:List SV} (h:jB Tryz.prog f (gL args) [] (γB true).g []) {W:World} {vs:List Value} (d:Aq jK W [] [] (gL args) vs):
  Calls Tryz.prog f vs.toArray W λe c=>e= .returned (.bool true)/\Below W.heap.size W c:=by
 refine(h jK W [] vs (yj W (λb a=>a.elim)) d).mono ?_;grind[γF,nA,NW]
end Go.Proofs.YtbnhiekmnpikhaaGreat
namespace Go.Vi
open Go.ChangeShapes Go.WideShapes Go.RowKit
def W5 (P:Program) (t:TypeId) (s:ew) (Q:s.T->Prop):Prop:=
 ∀(H:Type) (d:TypeId×Value->H) (w:World) (a:Nat->Bool) (c:Bool) (b:Nat) (e:List Value) (x:DataW H×List MemPlace),DataW.trod d P w 0 a c b t e=some x->∃y:s.T,Q y/\Aq jK w [] [] (df s y) e
theorem AW.q {P:Program} {t:TypeId} {s:ew} (h:AW P t s):W5 P t s λ_=>True:=λH d w a c b e x f=>by
 obtain⟨y,g⟩:=h H d w a c b e x f;grind
end Go.Vi
namespace Go.Proofs.YtbnhiekmnpikhaaGreat
open Go.ChangeShapes Go.WideShapes Go.ChangeAt Go.RowKit Go.Vi
end Go.Proofs.YtbnhiekmnpikhaaGreat
namespace Go.Vi
open Go.Proofs.YtbnhiekmnpikhaaGreat.Ir
open Go.Proofs
def W4 (m f:Int):Int:=gd.asV .i64 (m / 2^f.toNat) 1
def W3 (m f:Int):Int:=gd.ays .i64 m (2^f.toNat)
def pT (m:Int):List Int:=[0,1,2,3,4,5,6,7].filter λf=>decide (W4 m f≠0)
def Good (p:cj):Prop:=p.bk.length<=8/\p.bj.length<=160/\p.bm.ok=true/\p.bs.ok=true/\∀x∈p.bj,0<=x.TM/\x.TM<p.bk.length/\x.bx.ok=true/\1<=x.value/\x.value<=1000000
def jy (p:cj):List Int->oz->oz->Int
 |[],_,_=>0
 |f::a,l,o=>(wH p f).foldl (λv x=>if x.bx.le l&&(dT p x).le o then max v (x.value+jy p a (l.sub x.bx) (o.sub (dT p x))) else v) (jy p a l o)
def nh (p:cj) (a:List Int) (l o:oz) (v:Int) (x:bC):Int:=if x.bx.le l&&(dT p x).le o then max v (x.value+jy p a (l.sub x.bx) (o.sub (dT p x))) else v
def W1 (p:cj) (a:tT):Int:=jy p (pT a.members) a.left a.bs
theorem cL {p:cj} (h:nW p=0):Good p:=by
 obtain⟨e,k⟩:=rI h;obtain⟨b,a,m,g,q⟩:=rJ e;refine⟨m,g,b,?_,λx o=>?_⟩
 ·have d:=oz.gS.1 b;have f:=mw.1 (a 0 (by omega));have c:=mw.1 (a 1 (by omega));have i:=mw.1 (a 2 (by omega));have l:=mw.1 (a 3 (by omega));have n:=mw.1 (a 4 (by omega));have j:=mw.1 (a 5 (by omega));simp[bN] at f c i l n j;grind[oz.gS]
 ·have d:=AP (AM (k x o)).1;simp_all
theorem xX {n:Nat} (h:n<=8):(2:Int)^n<=256/\0<(2:Int)^n:=by
 have:n=0\/n=1\/n=2\/n=3\/n=4\/n=5\/n=6\/n=7\/n=8:=by omega
 grind
def pI (p:cj) (m:Int):Int:=if AK p m=0 then W1 p ⟨m,p.bm,p.bs⟩ else 0
def allM (p:cj):Int:=2^p.bk.length - 1
def Fg (p:cj) (s:Int) (i:Int):Int:=s+(bN p.bj i.toNat ew.bu.bw).value
def xW (p:cj) (c:List Int):Int:=c.foldl (Fg p) 0
def NP (p:cj) (c:List Int):Int:=if bT p c≠0 then bT p c else if xW p c<pI p (allM p) then 13 else 0
def cj.zero:cj:=⟨oz.zero,oz.zero,oz.zero,[],[]⟩
theorem NO {l:List bC}:∀{c:List Int} {a:Int} {r:List bC}, -1<=a->dA l a c=some r->r.length=c.length/\∀i∈c,0<=i/\i<l.length
 |[],a,r,_,h=>by grind[dA];|i::c,a,r,e,h=>by
  simp only[dA] at h;split at h;·cases h
  ·rename_i d;obtain⟨f,b,rfl⟩:=ε.1 h;obtain⟨g,j⟩:=NO (by omega) b;grind
def Ca:NG:=⟨40,oz,.one (dD .bun),λ_=>True,λb=> .sb b.ok⟩
theorem Qo:Holds Tryz.prog Ca:=by
 refine bM (L:=[]) Ca (λ_ _=> .apl 7) (by simp) ?_;intro b _;refine NI (let h:=δj false;let o:=γB;let p:=(0:Int);let q:=(4:Int);let i:=decide (b.a0<p);let d:=decide (q<b.a0);let k:=decide (b.a1<p);let e:=decide (q<b.a1);let l:=decide (b.a2<p);let f:=decide (q<b.a2);let j:=decide (b.a3<p);let m:=decide (q<b.a3);let n:=decide (b.a4<p);let g:=decide (q<b.a4);let a:=decide (b.a5<p);let c:=decide (q<b.a5);(i=true->(h).bi (o (oz.ok b)))/\(i=false->(d=true->(h).bi (o (oz.ok b)))/\(d=false->(k=true->(h).bi (o (oz.ok b)))/\(k=false->(e=true->(h).bi (o (oz.ok b)))/\(e=false->(l=true->(h).bi (o (oz.ok b)))/\(l=false->(f=true->(h).bi (o (oz.ok b)))/\(f=false->(j=true->(h).bi (o (oz.ok b)))/\(j=false->(m=true->(h).bi (o (oz.ok b)))/\(m=false->(n=true->(h).bi (o (oz.ok b)))/\(n=false->(g=true->(h).bi (o (oz.ok b)))/\(g=false->(a=true->(h).bi (o (oz.ok b)))/\(a=false->(c=true->(h).bi (o (oz.ok b)))/\(c=false->(δj true).bi (o (oz.ok b))))))))))))))) (by kernel_rfl) ?_;conv=>zeta
 have o:=@oz.gS b;by_cases h:b.ok=true<;>simp_all
def ox (p:cj) (r:Int) (o:bC):Int:=
 if r - p.bk.length<0 then(if o.TM=r then 1 else 0)
 else if r - p.bk.length<6 then bN [o.bx.a0,o.bx.a1,o.bx.a2,o.bx.a3,o.bx.a4,o.bx.a5] (r - p.bk.length).toNat 0
 else if bN [p.bt.a0,p.bt.a1,p.bt.a2,p.bt.a3,p.bt.a4,p.bt.a5] (r - p.bk.length - 6).toNat 0=0\/p.bk.length<=o.TM\/bN [p.bt.a0,p.bt.a1,p.bt.a2,p.bt.a3,p.bt.a4,p.bt.a5] (r - p.bk.length - 6).toNat 0=bN p.bk o.TM.toNat 0 then 0
 else bN [o.bx.a0,o.bx.a1,o.bx.a2,o.bx.a3,o.bx.a4,o.bx.a5] (r - p.bk.length - 6).toNat 0
theorem W0 {p:cj} {r:Int} {o:bC} (h:o.TM<p.bk.length):ox p r o=dz p r o:=by
 unfold ox dz;omega
def Ff:NG:=⟨63,cj×Int×bC,.cons cV (.cons (dX .i64) (.one (dD .bu))),λa=>a.1.bk.length<=8/\0<=a.2.1/\a.2.1<cq a.1/\0<=a.2.2.TM,
 λa=> .Gz [.si .i64 (ox a.1 a.2.1 a.2.2),.si .i64 (cC a.1 a.2.1)]⟩
theorem IQ:Holds Tryz.prog Ff:=by
 refine bM (L:=[]) Ff (λ_ _=> .apl 7) (by simp) ?_;rintro⟨p,r,x⟩ ⟨D,z,B,A⟩;simp only[cq] at D z B A;refine NI (let h:=(0:Int);let j:=(6:Int);let v:=γj .i64;let w:=VL .i64;let y:=SV.Gz;let b:=(↑p.bk.length:Int);let a:=r - b - j;let o:=γC .i64 0;let k:=y [v (ox p r x),v (cC p r)];let q:=bN [p.bt.a0,p.bt.a1,p.bt.a2,p.bt.a3,p.bt.a4,p.bt.a5] a.toNat h;let t:=decide (x.TM=r);let e:=γC .i64 1;let g:=decide (r<b+j);let i:=decide (x.TM<b);let l:=h<=a/\a<j/\a.toNat<6/\(y [o,v (bN [p.bs.a0,p.bs.a1,p.bs.a2,p.bs.a3,p.bs.a4,p.bs.a5] a.toNat h)]).bi k;let n:=λ(u f:Int) (c:oz) ↦let d:=(u - f).toNat;h<=u - f/\u - f<j/\d<6/\(y [v (bN [x.bx.a0,x.bx.a1,x.bx.a2,x.bx.a3,x.bx.a4,x.bx.a5] d h),v (bN [c.a0,c.a1,c.a2,c.a3,c.a4,c.a5] d h)]).bi k;let m:=λ(u:Bool) ↦decide (q≠bN p.bk x.TM.toNat h)=u;let s:=λ(u:Bool) ↦decide (q≠h)=u;(decide (r<b)=true->(t=true->(y [e,e]).bi k)/\(t=false->(y [o,e]).bi k))/\(decide (r<b)=false->w (b+j)/\(g=true->w (r - b)/\h<=r - b/\r - b<j/\(r - b).toNat<6/\w (r - b)/\n r b p.bm)/\(g=false->w (r - b)/\w a/\h<=a/\a<j/\a.toNat<6/\(s true->(i=true->h<=a/\a<j/\a.toNat<6/\h<=x.TM/\x.TM<b/\x.TM.toNat<p.bk.length/\(m true->h<=a/\a<j/\a.toNat<6/\n (r - b) j p.bs)/\(m false->l))/\(i=false->l))/\(s false->l)))) (by kernel_rfl) ?_;simp only[vcs];have G:r - p.bk.length<0->cC p r=1:=λh=>by simp_all[cC]
 have E:¬r - p.bk.length<0->r - p.bk.length<6->cC p r=bN [p.bm.a0,p.bm.a1,p.bm.a2,p.bm.a3,p.bm.a4,p.bm.a5] (r - p.bk.length).toNat 0:=λh j=>by simp_all[cC,if_neg]
 have v:¬r - p.bk.length<0->¬r - p.bk.length<6->cC p r=bN [p.bs.a0,p.bs.a1,p.bs.a2,p.bs.a3,p.bs.a4,p.bs.a5] (r - p.bk.length - 6).toNat 0:=λh j=>by simp_all[cC,if_neg]
 have F:r - p.bk.length<0->ox p r x=if x.TM=r then 1 else 0:=λh=>by simp_all[ox]
 have H:¬r - p.bk.length<0->r - p.bk.length<6->ox p r x=bN [x.bx.a0,x.bx.a1,x.bx.a2,x.bx.a3,x.bx.a4,x.bx.a5] (r - p.bk.length).toNat 0:=λh j=>by simp_all[ox,if_neg]
 have y:=λ(h:¬r - p.bk.length<0) (j:¬r - p.bk.length<6)=>(show ox p r x=_ by unfold ox;rw[if_neg h,if_neg j]);refine⟨λw=>?_,λw=>⟨by omega,λC=>?_,λC=>?_⟩⟩;·grind
 ·grind
 ·rw[v (by omega) (by omega),y (by omega) (by omega)];omega
def M1:List NG:=[Ff,Ca]
theorem wG:∀c∈M1,Holds Tryz.prog c:=by
 simp_all[M1,IQ,Qo]
def y9:NG:=⟨41,cj×List bC,.cons cV (.one (cO .bu)),λa=>a.1.bk.length<=8/\a.2.length<=1000/\(∀x∈a.2,0<=x.TM/\x.TM<a.1.bk.length/\x.bx.ok=true),λa=> .sb (fi a.1 a.2)⟩
def WZ (a:cj×List bC):Nat->bJ
 |2=> .inv Int (λi=>⟨[(1,.row .bu a.2),(2,.ptr 0 0 20),(5,.si .i64 i)],[.cells a.1.ss 27 20 false]⟩) (λs=>iS s 5)
  (λi=>0<=i/\i<=cq a.1/\∀r:Nat,r<i->bZ a.1 a.2 r<=cC a.1 r) (λi=>(cq a.1 - i).toNat)
  λi=>λ
   |6=> .inv (Int×Int) (λx=>⟨[(1,.row .bu a.2),(2,.ptr 0 0 20),(5,.si .i64 i),(6,.si .i64 x.2),(7,.si .i64 x.1)],[.cells a.1.ss 27 20 false]⟩)
    (λs=>(iS s 7,iS s 6))
    (λx=>0<=x.1/\x.1<=a.2.length/\x.2=bZ a.1 (a.2.take x.1.toNat) i) (λx=>(a.2.length - x.1).toNat) λ_ _=> .look
   |_=> .look
 |_=> .look
theorem I0:Holds Tryz.prog y9:=by
 refine bM (L:=M1) y9 WZ wG ?_;rintro⟨p,l⟩ ⟨A,G,q⟩;simp only at A G q;refine NI (let d:=(0:Int);let i:=γj .i64;let j:=γa;let o:=γC .i64 0;let q:=VL .i64;let s:=γC .i64;let b:=γV 0 0 20;let c:=iZ.cells (cj.ss p) 27 20 false;let v:=(↑p.bk.length:Int)+(12:Int);let k:=(↑l.length:Int);((((j ew.bu l).bi (j ew.bu l)/\b.bi b/\(o).bi (i 0)/\True)/\c.bi c/\True)/\d<=d/\d<=cq p/\∀(r:Nat),(↑r:Int)<d->bZ p l (↑r:Int)<=cC p (↑r:Int))/\∀(x:Int),let f:=x+(1:Int);let E:=i f;(d<=x/\x<=cq p/\∀(r:Nat),(↑r:Int)<x->bZ p l (↑r:Int)<=cC p (↑r:Int))->q v/\(decide (x<v)=true->((((j ew.bu l).bi (j ew.bu l)/\b.bi b/\(i x).bi (i x)/\(o).bi (i 0)/\(o).bi (i 0)/\True)/\c.bi c/\True)/\d<=d/\d<=k/\d=bZ p [] x)/\∀(a:Int×Int),let D:=decide (a.1<(↑l.length:Int));let C:=bN l a.1.toNat ew.bu.bw;let w:=a.2+ox p x C;let e:=a.1+(1:Int);let n:=i x;let h:=i w;let m:=i e;let g:=decide (cC p x<a.2);d<=a.1/\a.1<=k/\a.2=bZ p (Δ a.1.toNat l) x->(D=true->d<=a.1/\a.1<(↑l.length:Int)/\a.1.toNat<l.length/\(p.bk.length<=8/\d<=x/\x<cq p/\d<=C.TM)/\q w/\q e/\(((j ew.bu l).bi (j ew.bu l)/\b.bi b/\n.bi n/\h.bi h/\m.bi m/\True)/\c.bi c/\True)/\(d<=e/\e<=k/\w=bZ p (Δ e.toNat l) x)/\(k - e).toNat<(k - a.1).toNat)/\(D=false->(p.bk.length<=8/\d<=x/\x<cq p/\d<=d)/\(g=true->(δj false).bi (γB (fi p l)))/\(g=false->q f/\(((j ew.bu l).bi (j ew.bu l)/\b.bi b/\E.bi E/\True)/\c.bi c/\True)/\(d<=f/\f<=cq p/\∀(r:Nat),(↑r:Int)<f->bZ p l (↑r:Int)<=cC p (↑r:Int))/\(cq p - f).toNat<(cq p - x).toNat)))/\(decide (x<v)=false->(δj true).bi (γB (fi p l)))) (by kernel_rfl) ?_;simp only[vcs];have T:cq p=p.bk.length+12:=rfl;have P:∀x∈l,x.bx.ok=true:=λx y=>(q x y).2.2;refine⟨⟨by omega,by omega,λr J=>by omega⟩,?_⟩;rintro i ⟨H,F,S⟩;refine⟨by omega,λN=>⟨⟨by omega,by omega,by simp[bZ]⟩,?_⟩,?_⟩
 ·rintro⟨j,s⟩ ⟨u,o,B⟩;simp only at u o B ⊢;have Q:=@qv p i (l.take j.toNat) λx y=>P x (γn y);have z:(l.take j.toNat).length<=l.length:=by simp;omega
  refine⟨λt=>?_,λt=>?_⟩
  ·have O:=q _ (cA (d:=ew.bu.bw) (show j.toNat<l.length by omega));have R:=@nO p i _ O.2.2;grind[Fo,W0]
  ·have:j.toNat=l.length:=by omega
   rw[this,φ] at B;refine⟨⟨A,by omega,by omega,by omega⟩,λK=>?_,λM=>⟨by omega,⟨by omega,by omega,λr J=>?_⟩,by omega⟩⟩
   ·symm;rw[δN];intro I;have:=ni.1 I i.toNat (by omega);grind
   grind
 grind[ni]
def za:NG:=⟨23,cj,.one cV,λp=>True,λp=> .si .i64 (nW p)⟩
def WY (p:cj):Nat->bJ
 |11=> .inv Int (λk=>⟨[(1,.ptr 0 0 20),(4,.si .i64 k)],[.cells p.ss 27 20 false]⟩) (λs=>iS s 4) (λk=>0<=k/\k<=p.bk.length/\∀c∈p.bk.take k.toNat,0<=c/\c<=4) (λk=>(p.bk.length - k).toNat) λ_ _=> .look
 |16=> .inv Int (λi=>⟨[(1,.ptr 0 0 20),(5,.si .i64 i)],[.cells p.ss 27 20 false]⟩) (λs=>iS s 5)
  (λi=>0<=i/\i<=p.bj.length/\h_ p [] p.bj=h_ p ((p.bj.take i.toNat).map bC.key) (p.bj.drop i.toNat)) (λi=>(p.bj.length - i).toNat)
  λi=>λ
   |26=> .inv Int (λk=>⟨[(1,.ptr 0 0 20),(5,.si .i64 i),(6,.ptr 1 0 8),(7,.si .i64 k)],[.cells p.ss 27 20 false,.cells (cR .bu (bN p.bj i.toNat ew.bu.bw)) 65 8 false]⟩) (λs=>iS s 7)
    (λk=>0<=k/\k<=i/\∀j:Nat,j<k->(bN p.bj j ew.bu.bw).key≠(bN p.bj i.toNat ew.bu.bw).key) (λk=>(i - k).toNat) λ_ _=> .look
   |_=> .look
 |4=> .inv Int (λk=>⟨[(1,.ptr 0 0 20),(3,.si .i64 k)],[.cells p.ss 27 20 false]⟩) (λs=>iS s 3) (λk=>0<=k/\k<=6/\∀j:Nat,j<k->gD p j) (λk=>(6 - k).toNat) λ_ _=> .look
 |_=> .look
theorem WX {b:oz}:(decide (b.a0=0)&&(decide (b.a1=0)&&(decide (b.a2=0)&&(decide (b.a3=0)&&(decide (b.a4=0)&&(decide (b.a5=0)&&true))))))=decide (b=oz.zero):=by
 simp_all[AU,oz.zero]
theorem WW {b c:oz}:(decide (b.a0=c.a0)&&(decide (b.a1=c.a1)&&(decide (b.a2=c.a2)&&(decide (b.a3=c.a3)&&(decide (b.a4=c.a4)&&(decide (b.a5=c.a5)&&true))))))=decide (b=c):=by
 grind[AU]
theorem WV {a:Type} {l:List a} {i:Int} {d x:a} (b:i<=l.length) (h:x∈l.take i.toNat):∃j:Nat,(j:Int)<i/\bN l j d=x:=by
 obtain⟨j,c,rfl⟩:=List.mem_iff_getElem.1 h;grind[bV]
theorem I2:Holds Tryz.prog za:=by
 refine bM (L:=y9::M1) za WY (by simp only[εo];exact⟨I0,wG⟩) ?_;intro p _;refine NI (let a:=(0:Int);let b:=γj .i64;let d:=γC .i64;let e:=(6:Int);let f:=(1:Int);let g:=(4:Int);let h:=VL .i64;let k:=b (nW p);let l:=γV 0 0 20;let z:=d 0;let m:=iZ.cells (cj.ss p) 27 20 false;let af:=[p.bt.a0,p.bt.a1,p.bt.a2,p.bt.a3,p.bt.a4,p.bt.a5];let ag:=[p.bs.a0,p.bs.a1,p.bs.a2,p.bs.a3,p.bs.a4,p.bs.a5];let ah:=[p.bm.a0,p.bm.a1,p.bm.a2,p.bm.a3,p.bm.a4,p.bm.a5];let J:=p.bk.length;let o:=(↑J:Int);let L:=decide ((8:Int)<o);let E:=p.bj.length;let r:=(↑E:Int);let M:=decide ((160:Int)<r);let s:=(↑p.bk.length:Int);let A:=(↑p.bj.length:Int);let F:=h_ p [] p.bj;let B:=ew.bu.bw;let G:=γV 1 0 8;True/\((!p.bm.ok)=true->(d 4).bi k)/\((!p.bm.ok)=false->(((l.bi l/\z.bi (b 0)/\True)/\m.bi m/\True)/\a<=a/\a<=e/\∀(j:Nat),(↑j:Int)<a->gD p j)/\∀(x:Int),let t:=x+f;let N:=b t;let O:=decide (x<e);let K:=bN af x.toNat a;let P:=decide (K<a);let Q:=decide (g<K);let C:=bN ag x.toNat a;let R:=decide (C<a);let H:=bN ah x.toNat a;let S:=decide (K=a);let T:=h t/\((l.bi l/\N.bi N/\True)/\m.bi m/\True)/\(a<=t/\t<=e/\∀(j:Nat),(↑j:Int)<t->gD p j)/\(e - t).toNat<(e - x).toNat;(a<=x/\x<=e/\∀(j:Nat),(↑j:Int)<x->gD p j)->(O=true->a<=x/\x<e/\x.toNat<6/\(P=true->(d 4).bi k)/\(P=false->a<=x/\x<e/\x.toNat<6/\(Q=true->(d 4).bi k)/\(Q=false->a<=x/\x<e/\x.toNat<6/\(R=true->(d 4).bi k)/\(R=false->a<=x/\x<e/\x.toNat<6/\a<=x/\x<e/\x.toNat<6/\(decide (H<C)=true->(d 4).bi k)/\(decide (H<C)=false->a<=x/\x<e/\x.toNat<6/\(S=true->a<=x/\x<e/\x.toNat<6/\a<=x/\x<e/\x.toNat<6/\(decide (C≠H)=true->(d 4).bi k)/\(decide (C≠H)=false->T))/\(S=false->T))))))/\(O=false->(L=true->(d 3).bi k)/\(L=false->(M=true->(d 3).bi k)/\(M=false->(((l.bi l/\z.bi (b 0)/\True)/\m.bi m/\True)/\a<=a/\a<=s/\∀(c:Int),c∈[]->a<=c/\c<=g)/\∀(x:Int),let U:=bN p.bk x.toNat a;let V:=decide (U<a);let W:=decide (g<U);let v:=x+f;let X:=b v;(a<=x/\x<=s/\∀(c:Int),c∈Δ x.toNat p.bk->a<=c/\c<=g)->(decide (x<o)=true->a<=x/\x<o/\x.toNat<J/\(V=true->(d 4).bi k)/\(V=false->a<=x/\x<o/\x.toNat<J/\(W=true->(d 4).bi k)/\(W=false->h v/\((l.bi l/\X.bi X/\True)/\m.bi m/\True)/\(a<=v/\v<=s/\∀(c:Int),c∈Δ v.toNat p.bk->a<=c/\c<=g)/\(s - v).toNat<(s - x).toNat)))/\(decide (x<o)=false->(((l.bi l/\z.bi (b 0)/\True)/\m.bi m/\True)/\a<=a/\a<=A/\F=F)/\∀(x:Int),let n:=bN p.bj x.toNat B;let i:=n.bx;let D:=n.TM;let Y:=decide (D<a);let Z:=decide (n.value<f);let a6:=decide ((1000000:Int)<n.value);let I:=iZ.cells [b D,b i.a0,b i.a1,b i.a2,b i.a3,b i.a4,b i.a5,b n.value] 65 8 false;let q:=x+f;let a7:=b q;let a8:=λ(u:Bool) ↦(decide (i.a0=a)&&(decide (i.a1=a)&&(decide (i.a2=a)&&(decide (i.a3=a)&&(decide (i.a4=a)&&(decide (i.a5=a)&&true))))))=u;a<=x/\x<=A/\F=h_ p (γc bC.key (Δ x.toNat p.bj)) (γ4 x.toNat p.bj)->(decide (x<r)=true->a<=x/\x<r/\x.toNat<E/\(Y=true->(d 6).bi k)/\(Y=false->(decide (o<=D)=true->(d 6).bi k)/\(decide (o<=D)=false->(Z=true->(d 4).bi k)/\(Z=false->(a6=true->(d 4).bi k)/\(a6=false->True/\((!i.ok)=true->(d 4).bi k)/\((!i.ok)=false->(a8 true->(d 4).bi k)/\(a8 false->(p.bk.length<=8/\1<=1000/\∀(x:bC),x∈[n]->a<=x.TM/\x.TM<s/\x.bx.ok=true)/\((!fi p [n])=true->(d 14).bi k)/\((!fi p [n])=false->(((l.bi l/\(b x).bi (b x)/\G.bi G/\z.bi (b 0)/\True)/\m.bi m/\I.bi I/\True)/\a<=a/\a<=x/\∀(j:Nat),(↑j:Int)<a->(bN p.bj j B).key≠n.key)/\∀(x_1:Int),let w:=x_1+f;let a9:=b x;let aa:=b w;let ab:=bN p.bj x_1.toNat B;let y:=ab.bx;let ac:=decide (ab.TM=D);let ad:=h w/\((l.bi l/\a9.bi a9/\G.bi G/\aa.bi aa/\True)/\m.bi m/\I.bi I/\True)/\(a<=w/\w<=x/\∀(j:Nat),(↑j:Int)<w->(bN p.bj j B).key≠n.key)/\(x - w).toNat<(x - x_1).toNat;let ae:=λ(u:Bool) ↦(decide (y.a0=i.a0)&&(decide (y.a1=i.a1)&&(decide (y.a2=i.a2)&&(decide (y.a3=i.a3)&&(decide (y.a4=i.a4)&&(decide (y.a5=i.a5)&&true))))))=u;(a<=x_1/\x_1<=x/\∀(j:Nat),(↑j:Int)<x_1->(bN p.bj j B).key≠n.key)->(decide (x_1<x)=true->a<=x_1/\x_1<r/\x_1.toNat<E/\(ac=true->a<=x_1/\x_1<r/\x_1.toNat<E/\(ae true->(d 7).bi k)/\(ae false->ad))/\(ac=false->ad))/\(decide (x_1<x)=false->h q/\((l.bi l/\a7.bi a7/\True)/\m.bi m/\True)/\(a<=q/\q<=A/\F=h_ p (γc bC.key (Δ q.toNat p.bj)) (γ4 q.toNat p.bj))/\(A - q).toNat<(A - x).toNat)))))))))/\(decide (x<r)=false->z.bi k))))))) (by kernel_rfl) ?_;simp only[WX,WW];simp only[vcs];have e4:gR p=4->(4:Int)=nW p:=λh=>by simp[nW,h]
 have e3:gR p=3->(3:Int)=nW p:=λh=>by simp[nW,h]
 refine⟨λhs=>e4 (NU hs),λhs=>⟨⟨by omega,by omega,λj hj=>by omega⟩,?_⟩⟩;rintro k ⟨hk0,hk1,hk⟩;refine⟨λhlt=>?_,λhge=>?_⟩
 ·have bad:¬gD p k.toNat->(4:Int)=nW p:=λh=>e4 (NT hs (by omega) h);have nxt:gD p k.toNat->∀(j:Nat),(j:Int)<k+1->gD p j:=λh j hj=>by
   by_cases hj2:(j:Int)<k;·exact hk j hj2
   ·rw[show j=k.toNat from by omega];exact h
  repeat' (first|refine γm ?_ ?_|intro _)
  all_goals first
   |omega;|exact bad λhh=>by have h2:=mw.1 hh;omega;|exact nxt (mw.2 (by omega)) _ (by assumption)
 ·have hall:∀j:Nat,j<6->gD p j:=λj hj=>hk j (by omega);refine⟨λh=>e3 (AR hs hall (.inl (by omega))),λh8=>⟨λh=>e3 (AR hs hall (.inr (by omega))),λh160=>⟨⟨by omega,by omega,by simp⟩,?_⟩⟩⟩;rintro i ⟨hi0,hi1,hi⟩;refine⟨λhlt=>?_,λhge=>?_⟩
  ·have hm:=cA (d:=0) (show i.toNat<p.bk.length by omega);refine⟨by omega,by omega,by omega,λh=>e4 (AQ hs hall (by omega) hm (by omega)),λh1=>⟨by omega,by omega,by omega,λh=>e4 (AQ hs hall (by omega) hm (by omega)),λh2=>⟨by omega,⟨by omega,by omega,?_⟩,by omega⟩⟩⟩;exact NS hi0 hlt hi (by omega)
  ·rw[show i.toNat=p.bk.length from by omega,φ] at hi;have hz:gR p=0:=Fl hs hall (by omega) hi;have ce:nW p=h_ p [] p.bj:=by simp[nW,hz]
   refine⟨⟨by omega,by omega⟩,?_⟩;rintro i ⟨hi0,hi1,hi⟩;refine⟨λhlt=>?_,λhge=>?_⟩
   ·rw[qu (d:=ew.bu.bw) hi0 hlt] at hi;generalize hx:bN p.bj i.toNat ew.bu.bw=x at hi ⊢;have oe:∀c:Int,c≠0->jz p x=c->c=nW p:=λc hc h=>by
     rw[ce,hi];simp only[h_,h];rw[if_pos hc]
    have se:∀c:Int,c≠0->jU p.bk.length x=c->c=nW p:=λc hc h=>oe c hc (by
     unfold jz;rw[if_pos (by omega),h]);refine⟨by omega,by omega,by omega,λh1=>?_,λh1=>⟨λh2=>?_,λh2=>⟨λh3=>?_,λh3=>⟨λh4=>?_,λh4=>⟨λh5=>?_,λh5=>⟨λh6=>?_,λh6=>?_⟩⟩⟩⟩⟩⟩;·exact se 6 (by decide) (by unfold jU;rw[if_pos (by omega)])
    ·exact se 6 (by decide) (by unfold jU;rw[if_pos (by omega)])
    ·exact se 4 (by decide) (by unfold jU;rw[if_neg (by omega),if_pos (by omega)])
    ·exact se 4 (by decide) (by unfold jU;rw[if_neg (by omega),if_pos (by omega)])
    ·exact se 4 (by decide) (by unfold jU;rw[if_neg (by omega),if_neg (by omega),h5];rfl)
    ·have hs0:jU p.bk.length x=0:=by unfold jU;rw[if_neg (by omega),if_neg (by omega),h5];rfl
     exact oe 4 (by decide) (by simp[jz,hs0,h6])
    ·have hs0:jU p.bk.length x=0:=by unfold jU;rw[if_neg (by omega),if_neg (by omega),h5];rfl
     refine⟨⟨by omega,by omega,λy hy=>?_⟩,λh7=>?_,λh7=>⟨⟨by omega,by omega,λj hj=>by omega⟩,?_⟩⟩
     ·rw[List.mem_singleton.1 hy];exact⟨by omega,by omega,h5⟩
     ·exact oe 14 (by decide) (by simp[jz,hs0,h6,h7])
     ·have ho0:jz p x=0:=by simp[jz,hs0,h6,h7]
      rintro k ⟨hk0,hk1,hk⟩;have hnx:(bN p.bj k.toNat ew.bu.bw).key≠x.key->∀j:Nat,(j:Int)<k+1->(bN p.bj j ew.bu.bw).key≠x.key:=λh j hj=>by
       by_cases hj2:(j:Int)<k;·exact hk j hj2
       ·rw[show j=k.toNat from by omega];exact h
      refine⟨λhlt2=>⟨by omega,by omega,by omega,λh8=>⟨by omega,by omega,by omega,λh9=>?_,λh9=>⟨by omega,⟨by omega,by omega,?_⟩,by omega⟩⟩,λh8=>⟨by omega,⟨by omega,by omega,?_⟩,by omega⟩⟩,λayY=>⟨by omega,⟨by omega,by omega,?_⟩,by omega⟩⟩
      ·have hk9:(bN p.bj k.toNat ew.bu.bw).key=x.key:=by
        show mI.mk _ _=mI.mk _ _;rw[h8,h9]
       have hmem:x.key∈(p.bj.take i.toNat).map bC.key:=by
        rw[<-hk9];refine Γ.2 ⟨_,?_,rfl⟩;rw[bV (by omega)];exact List.mem_take_iff_getElem.2 ⟨k.toNat,by omega,rfl⟩
       rw[ce,hi];simp only[h_,ho0,ne_eq,not_true,if_false,if_pos hmem]
      ·refine hnx λe=>h9 ?_;injection e
      ·refine hnx λe=>h8 ?_;injection e
      ·have hnm:x.key∉(p.bj.take i.toNat).map bC.key:=by
        intro hmem;obtain⟨o,ho,he⟩:=Γ.1 hmem;obtain⟨j,hj,rfl⟩:=WV (d:=ew.bu.bw) hi1 ho;exact hk j (by omega) he
       rw[hi,ji (d:=ew.bu.bw) hi0 hlt,hx];simp only[h_,ho0,ne_eq,not_true,if_false,if_neg hnm,List.map_append,ξ,List.map_nil]
   ·rw[show i.toNat=p.bj.length from by omega,δE] at hi;rw[ce,hi];rfl
end Go.Vi
