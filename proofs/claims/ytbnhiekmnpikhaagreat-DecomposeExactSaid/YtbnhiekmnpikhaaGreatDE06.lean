import Derived.Test.YtbnhiekmnpikhaaGreatDE05
import Derived.Test.YtbnhiekmnpikhaaGreatDE01
import Derived.Deep.Slices
import Derived.OpenShut
import Derived.ProofKit
import Derived.Test.YtbnhiekmnpikhaaGreatRows
set_option maxRecDepth 100000
set_option maxHeartbeats 4000000
set_option linter.all false
open And renaming intro->γm
open Bool renaming false_eq_true->τ,not_eq_false->ζt,and_eq_true->θ,eq_false_iff->δN
open Classical renaming choose->δU,choose_spec->εe,not_not->γe
open Go.Vi.AV renaming bJ->δy
open Go.Vi.AV.sc renaming injEq->δe
open Go.Vi.AV.sl renaming injEq->δ7
open Go.Vi.SV renaming g->γF,row->γa,si->γj,as->εX,il->γC,sb->γB,bl->δj,ptr->γV
open List renaming mem_map->Γ,all_eq_true->ψ,take->Δ,map_cons->ξ,length_range->ζv,range->ω,getElem?_eq_getElem->μ,mem_of_mem_take->γn,take_length->φ,forall_mem_cons->εo,map->γc,drop->γ4,drop_length->δE,mem_cons->γq
open List.cons renaming injEq->Θ
open Nat renaming beq->δu
open Option renaming map_eq_some_iff->ε,map_some->ν,bind_some->δT,map->ζw,isSome_iff_exists->γs
open Option.some renaming injEq->γ
open Prod.mk renaming injEq->ι
namespace Go.Vi
structure cj where
 bk:oz
 bq:oz
 bs:oz
 bj:List Int
 bi:List bD
structure bC where
 bm:List Int
 value:Int
def cj.ss (p:cj):List SV:=
 [.si .i64 p.bk.a0,.si .i64 p.bk.a1,.si .i64 p.bk.a2,.si .i64 p.bk.a3,.si .i64 p.bk.a4,.si .i64 p.bk.a5,
  .si .i64 p.bq.a0,.si .i64 p.bq.a1,.si .i64 p.bq.a2,.si .i64 p.bq.a3,.si .i64 p.bq.a4,.si .i64 p.bq.a5,
  .si .i64 p.bs.a0,.si .i64 p.bs.a1,.si .i64 p.bs.a2,.si .i64 p.bs.a3,.si .i64 p.bs.a4,.si .i64 p.bs.a5,
  .row (.i .i64) p.bj,.row .bt p.bi]
def tK:List SV->Option cj
 |[g,v,b,q,d,x,a,n,w,h,j,l,t,p,r,u,e,m,k,f]=>match jm .bun [g,v,b,q,d,x],jm .bun [a,n,w,h,j,l],jm .bun [t,p,r,u,e,m],iI (.i .i64) k,iI .bt f with
  |some s,some o,some c,some k,some f=>some ⟨s,o,c,k,f⟩
  |_,_,_,_,_=>none
 |_=>none
theorem xt {cs:List SV} {p:cj} (h:tK cs=some p):gL cs=gL p.ss:=by
 unfold tK at h;split at h
 ·split at h
  ·rename_i s o c k f a i b e d;simp only[γ] at h;subst h;have a:=mJ a;have i:=mJ i;have b:=mJ b;have e:=nn e;have d:=nn d;simp_all[dh,cK,cj.ss,gL,γF,iv]
  ·cases h
 ·cases h
def cX:o_ cj where
 put p:=.agg p.ss;dec
  | .agg c=>tK c
  |_=>none;ok v a h:=by
  grind[γF,xt]
 inj a b h:=by
  obtain⟨⟨a0,a1,a2,a3,M,o⟩,⟨A,l,e,b3,I,b5⟩,⟨H,V,Y,J,x,j⟩,k,f⟩:=a;obtain⟨⟨d,t,d2,Z,d4,X⟩,⟨N,R,u,y,S,e5⟩,⟨f0,E,f2,f3,O,q⟩,W,B⟩:=b;simp only[γF,cj.ss,gL,AV.agg.injEq,Θ,and_true,δe,Value.int.injEq,true_and,δ7] at h;obtain⟨h0,h1,F,P,Q,z,C,L,g2,U,G,T,w,K,k2,r,D,k5,m,n⟩:=h;have s:=ku (.i .i64) m.1 m.2;have n2:=ku .bt n.1 n.2;simp_all
def kr:o_ bC where
 put a:=.agg [.row (.i .i64) a.bm,.si .i64 a.value];dec
  | .agg [r,v]=>match iI (.i .i64) r,v.int .i64 with
   |some c,some v=>some ⟨c,v⟩
   |_,_=>none
  |_=>none;ok v a h:=by
  grind[γF,gL,nn,gU]
 inj a b h:=by
  obtain⟨c,v⟩:=a;obtain⟨e,f⟩:=b;simp only[γF,gL,AV.agg.injEq,Θ,and_true,δe,Value.int.injEq,true_and,δ7] at h;have d:=ku (.i .i64) h.1.1 h.1.2;rw[d,h.2]
def ml:TypeId->Option ew
 |2=>some (.i .i64)
 |3=>some (.i .i64)
 |24=>some (.Ap (.i .i64))
 |172=>some (.i .u32)
 |177=>some (.pair .b (.pair (.Ap (.i .u32)) (.Ap (.i .u32))))
 |40=>some (.pair (.Ap (.i .i64)) (.i .i64))
 |106=>some (.Ap (.pair .b (.pair (.Ap (.i .u32)) (.Ap (.i .u32)))))
 |249=>some (.pair (.Ap (.pair .b (.pair (.Ap (.i .u32)) (.Ap (.i .u32))))) (.pair .b (.pair (.Ap (.i .u32)) (.Ap (.i .u32)))))
 |4=>some .b
 |108=>some (.pair (.i .i64) (.pair (.i .i64) (.pair (.i .i64) (.pair (.i .i64) (.Ap (.pair .b (.pair (.Ap (.i .u32)) (.Ap (.i .u32)))))))))
 |65=>some .bt
 |23=>some .bun
 |159=>some (.pair (.i .i64) .b)
 |51=>some (.pair (.Ap (.i .i64)) (.pair (.i .i64) (.Ap (.pair (.i .i64) (.pair (.i .i64) (.pair (.i .i64) (.pair (.i .i64) (.Ap (.pair .b (.pair (.Ap (.i .u32)) (.Ap (.i .u32))))))))))))
 |_=>none
def mq:List Nat×Bool->Option (ew×ew)
 |([0],false)=>some (.i .i64,.i .i64)
 |([0,0,0,0,0,0,0],true)=>some (.key,.b)
 |([0,0,0,0,0,0,0,0,0,0,0,0,0],true)=>some (.sit,.i .i64)
 |_=>none
mutual
def SV.bJ (m:Nat->Option Nat):SV->Option SV
 | .agg h=>(pU m h).map .agg
 | .Gz h=>(pU m h).map .Gz
 | .ptr g j q=>(m g).map λi=> .ptr i j q
 | .ap g a b c d e=>(m g).map λi=> .ap i a b c d e
 | .rp g a b c d=>(m g).map λi=> .rp i a b c d
 | .ow g n w=>(m g).map λi=> .ow i n w
 | .os g a b c d=>(m g).map λi=> .os i a b c d
 | .oc g a b c d=>(m g).map λi=> .oc i a b c d
 | .mp g=>(m g).map .mp
 | .fn f a b=>match pU m a,pU m b with
  |some r,some u=>some (.fn f r u)
  |_,_=>none
 | .ud=>some .ud
 | .sc v=>some (.sc v)
 | .il k n=>some (.il k n)
 | .si k n=>some (.si k n)
 | .bl b=>some (.bl b)
 | .sb b=>some (.sb b)
 | .row s l=>some (.row s l)
 | .ep s l i o=>some (.ep s l i o)
 | .ia t h=>some (.ia t h)
 | .ite c a b=>some (.ite c a b)
def pU (m:Nat->Option Nat):List SV->Option (List SV)
 |[]=>some []
 |c::h=>match c.bJ m,pU m h with
  |some x,some p=>some (x::p)
  |_,_=>none
end
mutual
theorem FB {m:Nat->Option Nat}:∀{v d:SV},v.bJ m=some d->v.g.bJ m=some d.g
 | .agg p,d,h=>by
  simp only[SV.bJ] at h;obtain⟨k,e,rfl⟩:=ε.1 h;simp only[γF,δy,tJ e,ν];| .Gz p,d,h=>by
  simp only[SV.bJ] at h;obtain⟨k,e,rfl⟩:=ε.1 h;simp only[γF,δy,tJ e,ν];| .fn f a b,d,h=>by
  simp only[SV.bJ] at h;split at h
  ·rename_i r q e o;simp only[γ] at h;subst h;simp only[γF,δy,tJ e,tJ o]
  ·cases h;| .ptr j _ _,d,h| .ap j _ _ _ _ _,d,h| .rp j _ _ _ _,d,h| .ow j _ _,d,h| .os j _ _ _ _,d,h| .oc j _ _ _ _,d,h| .mp j,d,h=>by
  simp only[SV.bJ] at h;obtain⟨i,e,rfl⟩:=ε.1 h;simp only[γF,δy,e,ν];| .ud,d,h| .sc _,d,h| .il _ _,d,h| .si _ _,d,h| .bl _,d,h| .sb _,d,h| .row _ _,d,h| .ep _ _ _ _,d,h| .ia _ _,d,h| .ite _ _ _,d,h=>by
  simp only[SV.bJ,γ] at h;subst h;simp only[γF,δy]
theorem tJ {m:Nat->Option Nat}:∀{l n:List SV},pU m l=some n->gW m (gL l)=some (gL n)
 |[],n,h=>by grind[pU,gL,gW];|c::p,n,h=>by
  simp only[pU] at h;split at h
  ·rename_i s k e o;simp only[γ] at h;subst h;simp only[gL,gW,FB e,tJ o]
  ·cases h
end
def iZ.bJ (m:Nat->Option Nat):iZ->Option iZ
 | .cells d e c a=>if a then some (.cells d e c a) else(pU m d).map λb=> .cells b e c a
 | .dead=>some .dead
 | .row s l e a=>some (.row s l e a)
 | .map j f g h i a=>some (.map j f g h i a)
 | .aol .. =>none
theorem Nn {m:Nat->Option Nat}:∀{l:List AV},(∀a∈l,Plain a)->gW m l=some l
 |[],_=>by simp[gW];|a::e,h=>by
  have d:=Nn (m:=m) (l:=e) λb c=>h b (by simp[c]);rcases h a (by simp) with⟨v,rfl,_⟩|⟨n,f,rfl,_⟩<;>simp only[gW,δy,d]
theorem Nm {m:Nat->Option Nat}:∀{l:List (Value×AV)},(∀a∈l,∃v,a.2= .sc v)->nw m l=some l
 |[],_=>by simp[nw];|(k,c)::e,h=>by
  obtain⟨v,b⟩:=h (k,c) (by simp);simp only at b;subst b;simp only[nw,δy,Nm (l:=e) λa d=>h a (by simp[d])]
theorem FA {b sv:ew} {d:Bool} {es:List (b.T×sv.T)}:∀a∈es.map (λp=>(nV b d p.1,lT sv p.2)),∃v,a.2= .sc v:=λa c=>by
 obtain⟨q,_,rfl⟩:=Γ.1 c;exact⟨_,rfl⟩
theorem Nl {m:Nat->Option Nat} {x y:iZ} (h:x.bJ m=some y):x.g.bJ m=some y.g:=by
 cases x with
 |dead=>simp[iZ.bJ] at h;subst h;rfl;|cells o e k a=>
  simp only[iZ.bJ] at h;cases a with
  |true=>simp only[if_true,γ] at h;subst h;simp only[iZ.g,OL.bJ,if_true];|false=>
   simp only[τ,if_false] at h;obtain⟨b,c,rfl⟩:=ε.1 h;simp_all[iZ.g,OL.bJ,tJ]
 |aol s l e t=>grind[iZ.bJ];|row s l e a=>
  grind[iZ.bJ,iZ.g,OL.bJ,Nn,lS];|map f n i j d a=>
  simp only[iZ.bJ,γ] at h;subst h;simp only[iZ.g,OL.bJ,Nm FA,ν];grind
def xp (m:Nat->Option Nat):TP->Option TP
 |[]=>some []
 |x::r=>match x.bJ m,xp m r with
  |some y,some l=>some (y::l)
  |_,_=>none
theorem Nk {m:Nat->Option Nat}:∀{o o':TP},xp m o=some o'->qF m (gO o)=some (gO o')
 |[],o',h=>by simp[xp] at h;subst h;rfl;|x::r,o',h=>by
  simp only[xp] at h;split at h
  ·rename_i y l b a;simp only[γ] at h;subst h;have:=Nk a;grind[gO,qF,Nl]
  ·cases h
def vc (o:TP) (a:List Nat):List Nat->Option TP
 |[]=>some []
 |i::r=>match o[i]?,vc o a r with
  |some x,some l=>match x.bJ (λj=>idxOf a j) with
   |some y=>some (y::l)
   |none=>none
  |_,_=>none
theorem Fz {o:TP} {a:List Nat}:∀{r:List Nat} {o':TP},vc o a r=some o'->j8 (gO o) a r=some (gO o')
 |[],o',h=>by simp[vc] at h;subst h;rfl;|i::r,o',h=>by
  simp only[vc] at h;split at h
  ·rename_i x l d b;split at h
   ·rename_i y c;simp only[γ] at h;subst h;simp only[j8,e6 d,Fz b,Nl c,ν];rfl
   ·cases h
  ·cases h
def u_ (o:TP):List Nat->TP->TP
 |[],_=>o
 |_,[]=>o
 |i::r,x::l=>u_ (o.set i x) r l
theorem Nj:∀{a:List Nat} {o l:TP},gO (u_ o a l)=kL (gO o) a (gO l)
 |[],o,l=>by simp[u_,kL];|_::_,o,[]=>by simp[u_,kL,gO];|i::r,o,x::l=>by
  simp only[u_];rw[Nj,oD];simp[gO,kL]
def nQ (o:TP):Nat->List SV->List Nat->List Nat
 |0,_,c=>c
 |_,[],c=>c
 |d+1,v::i,c=>
  let f (e:Nat) (c:List Nat):List Nat:=
   if c.contains e then c else
   match o[e]? with
   |some (.cells g _ _ h)=>if h then c++[e] else nQ o d g (c++[e])
   |_=>c++[e];nQ o d i (match v with
   | .agg g| .Gz g=>nQ o d g c
   | .ptr e _ _| .ap e _ _ _ _ _| .rp e _ _ _ _| .ow e _ _| .os e _ _ _ _| .oc e _ _ _ _| .mp e=>f e c
   | .fn _ a b=>nQ o d b (nQ o d a c)
   |_=>c)
theorem xo {o:a_}:∀{d:Nat} {l:List AV} {acc:List Nat},(∀a∈l,Plain a)->cd o d l acc=acc
 |0,_,_,_=>by grind[cd];|d+1,[],_,_=>by grind[cd];|d+1,a::l,acc,h=>by
  have e:=xo (o:=o) (d:=d) (l:=l) (acc:=acc) λb c=>h b (by simp[c]);rcases h a (by simp) with⟨v,rfl,_⟩|⟨n,f,rfl,_⟩<;>(grind[cd])
theorem Ni {o:a_}:∀{d:Nat} {l:List AV} {acc:List Nat},(∀a∈l,∃v,a= .sc v)->cd o d l acc=acc
 |0,_,_,_=>by simp[cd];|d+1,[],_,_=>by simp[cd];|d+1,a::l,acc,h=>by
  obtain⟨v,rfl⟩:=h a (by simp);simp only[cd];exact Ni λa b=>h a (by simp[b])
theorem Yi {l:List (Value×AV)} (h:∀a∈l,∃v,a.2= .sc v):∀a∈l.map (·.2),∃v,a= .sc v:=λa b=>by
 grind
def iZ.A1:iZ->Bool
 | .aol .. =>false
 |_=>true
theorem N9 {o:TP} (h:o.all iZ.A1=true):∀{d:Nat} {vs:List SV} {acc:List Nat},cd (gO o) d (gL vs) acc=nQ o d vs acc:=by
 intro d;induction d with
 |zero=>grind[cd,nQ];|succ d k=>
  intro vs acc;cases vs with
  |nil=>simp[gL,cd,nQ];|cons v vs=>
   have m:∀(b:Nat) (acc:List Nat),(if acc.contains b then acc else
     match(gO o)[b]? with
     |some (.cells f _ _ c)=>if c then acc++[b] else cd (gO o) d f (acc++[b])
     |some (.map j _ c)=>if c then acc++[b] else cd (gO o) d (j.map (·.2)) (acc++[b])
     |_=>acc++[b])=(if acc.contains b then acc else
     match o[b]? with
     |some (.cells f _ _ c)=>if c then acc++[b] else nQ o d f (acc++[b])
     |_=>acc++[b]):=by
    intro b acc;rw[GL];cases i:o[b]? with
    |none=>rfl;|some x=>
     cases x with
     |aol s l e t=>
      have:=ψ.1 h _ (List.mem_of_getElem? i);grind[iZ.A1];|dead=>rfl;|cells f e r c=>grind[iZ.g];|row s l e c=>simp only[ν,iZ.g,xo (λa n=>lS n),ite_self];|map p u q j w c=>simp only[ν,iZ.g,Ni (Yi FA),ite_self]
   simp only[gL,cd,nQ];rw[k];congr 1;cases v<;>simp only[γF,k]<;>exact m _ _
def Fy (C:FuncId->List SV->TP->(SV->TP->Prop)->Prop) (f:FuncId) (args:List SV) (o:TP) (K:SV->TP->Prop):Prop:=
 if o.all iZ.A1=false then False else
 let a:=nQ o fc args [];match pU (λj=>idxOf a j) args,vc o a a with
 |some c,some d=>C f c d λr b=>
   if b.length<a.length\/gV.aoF a=false then False else
   match r.bJ (nv a o.length),xp (nv a o.length) b with
   |some g,some e=>K g (u_ o a (e.take a.length)++e.drop a.length)
   |_,_=>False
 |_,_=>False
theorem Yh {call:cy} {C:FuncId->List SV->TP->(SV->TP->Prop)->Prop}
  (n:∀f args o K,C f args o K->∃(r:SV) (o':TP),call f (gL args) (gO o) true=some (r.g,gO o')/\K r o')
  {f:FuncId} {args:List SV} {o:TP} {K:SV->TP->Prop} (h:Fy C f args o K):
  ∃(r:SV) (o':TP),gV call f (gL args) (gO o)=some (r.g,gO o')/\K r o':=by
 unfold Fy at h;split at h;·exact h.elim
 rename_i a;simp only[ζt] at a;simp only at h;split at h
 ·rename_i d e i l;obtain⟨r,c,j,b⟩:=n _ _ _ _ h;split at b;·exact b.elim
  ·rename_i p;split at b
   ·rename_i k q m s;refine⟨k,_,?_,b⟩;unfold gV;simp only[N9 a];rw[tJ i,Fz l];simp only[j,mC];rw[if_neg p,FB m,Nk s];simp only[Nw,Nj];simp[gO]
   simp_all
 simp_all
section
variable {P:Program} {T:jn} {p:ik} {Λ:Nat->bK}
theorem Yg (A:jY P T) (y:nT T.K p.C) (w:∀f F,p.it f=some F->T.fn f=some F) {f:FuncId} {F:eu} (u:T.fn f=some F) {args:List SV} {o:TP} {r:AV} {o':a_} (G:T.K f (gL args) (gO o) true=none) (n:args.length=F.params)
  {Q:SV->TP->Prop} (m:∀v s,Q v s->v.g=r/\gO s=o') (h:xC p Λ F args o Q):fU P f=true/\jD P f (gL args) (gO o) r o':=by
 unfold xC at h;have i:=tN y w h;have e:(bF.mk (lR 0 args) o).g=⟨gp 0 (gL args),gO o⟩:=by simp[bF.g,tM]
 rw[e] at i;have j:(gO o).length=o.length:=mC o;rw[<-j] at i;have E:∀(a:bF),(mE a F.res λv=>if v.VI (gO o).length&&a.o.all (λx=>x.VI (gO o).length)&&decide ((gO o).length<=a.o.length) then Q v (a.o.take (gO o).length) else False)->
   (mL a.g F.res).bind (λl=>finish true (gO o).length l a.g.o)=some (r,o'):=by
  intro a t;obtain⟨l,k,b⟩:=vf t;rw[k];simp only[δT,finish,if_true];split at b
  ·rename_i q;simp only[θ,decide_eq_true_eq,ψ] at q;obtain⟨⟨z,D⟩,B⟩:=q;have d:∀x∈a.g.o,x.VI (gO o).length=true:=by
    grind[bF.g,gO,An]
   rw[Ny (by grind[xA]) d (by grind[bF.g,mC])];rw[<-(m _ _ b).1,<-(m _ _ b).2];simp_all[bF.g,gO]
  ·exact b.elim
 obtain⟨k,b,_⟩:=AB A u (o:=gO o) (own:=true) G (by grind[jk]) (v:=r) (o':=o') (i.mono λc s H=>by
  obtain⟨a,rfl,t⟩:=H;cases c<;>grind);simp_all
end
structure cW where
 f:FuncId
 α:Type
 put:α->List SV
 st:α->TP
 dec:List SV->TP->Option α
 ok:∀v o a,dec v o=some a->gL v=gL (put a)/\gO o=gO (st a)
 inj:∀a b,gL (put a)=gL (put b)->gO (st a)=gO (st b)->a=b
 dom:α->Prop
 res:α->SV
 out:α->TP
def dD (P:Program) (c:cW):Prop:=∀a,c.dom a->fU P c.f=true/\jD P c.f (gL (c.put a)) (gO (c.st a)) (c.res a).g (gO (c.out a))
def mA (f:FuncId):List cW->Option cW
 |[]=>none
 |c::r=>bif δu c.f f then some c else mA f r
theorem N8:∀{L:List cW} {f:FuncId} {c:cW},mA f L=some c->c.f=f/\c∈L
 |[],_,_,h=>by cases h;|d::L,f,c,h=>by
  simp only[mA] at h;cases a:δu d.f f with
  |true=>
   simp_all;|false=>
   rw[a] at h;simp only[cond_false] at h;obtain⟨b,e⟩:=N8 h;simp_all
def N7 (W:List cW) (f:FuncId) (args:List SV) (o:TP) (K:SV->TP->Prop):Prop:=
 match mA f W with
 |some c=>ig (c.dec args o) λa=>c.dom a/\K (c.res a) (c.out a)
 |none=>False
open Classical in
noncomputable def rJ (W:List cW) (f:FuncId) (args:List AV) (o:a_):Option (AV×a_):=
 match mA f W with
 |some c=>if h:∃a,args=gL (c.put a)/\o=gO (c.st a)/\c.dom a then some ((c.res (δU h)).g,gO (c.out (δU h))) else none
 |none=>none
noncomputable def fT (W:List cW):ky:=⟨rJ W,λf a o K=>Fy (N7 W) f a o K⟩
theorem ke {P:Program} {W:List cW} (u:∀c∈W,dD P c):mB P (fT W) where
 K:=λf d o r w h=>by
  simp only[fT,rJ] at h;split at h
  ·rename_i c k;obtain⟨rfl,v⟩:=N8 k;split at h
   ·rename_i e;simp only[γ,ι] at h;generalize t:δU e=b at h;have n:=εe e;rw[t] at n;obtain⟨p,s,l⟩:=n;obtain⟨j,m⟩:=u c v _ l;simp_all
   ·cases h
  ·cases h
 C:=λq g f d o K h=>by
  refine Yh ?_ h;intro f d o K i;simp only[N7] at i;split at i
  ·rename_i c k;obtain⟨a,p,s,l⟩:=iH i;refine⟨_,_,?_,l⟩;rw[g];obtain⟨j,m⟩:=c.ok _ _ _ p;have e:∃b,gL d=gL (c.put b)/\gO o=gO (c.st b)/\c.dom b:=⟨a,j,m,s⟩;simp only[fT,rJ,k,dif_pos e];have:δU e=a:=c.inj _ _ ((εe e).1.symm.trans j) ((εe e).2.1.symm.trans m);rw[this]
  simp_all
theorem N6 {P:Program} {i:FuncId->Option eu} {L:List NG} {W:List cW} (c:cW) {F:eu} {m:TypeId->Option ew} {j:List Nat×Bool->Option (ew×ew)} {Λ:c.α->Nat->bK}
  (q:jY P ⟨i,λ_ _ _ _=>none⟩) (k:∀c∈W,dD P c) (r:∀c∈L,Holds P c)
  (n:i c.f=some F) (e:∀a,(c.put a).length=F.params)
  (a:c.α) (o:∀d,mA c.f W=some d->∀b,gL (c.put a)=gL (d.put b)->gO (c.st a)=gO (d.st b)->¬d.dom b)
  (h:xC (kx L (fT W) m j i) (Λ a) F (c.put a) (c.st a) λv s=>v.as (c.res a)/\jX s (c.out a)):
  fU P c.f=true/\jD P c.f (gL (c.put a)) (gO (c.st a)) (c.res a).g (gO (c.out a)):=by
 refine Yg (p:=kx L (fT W) m j i) (Λ:=Λ a) (Q:=λv s=>v.as (c.res a)/\jX s (c.out a)) (rL (ke k) r q) (rK (ke k)) (λ_ _ h=>h) n ?_ (e a) (λv s l=>⟨l.1,vg l.2⟩) ?_
 ·simp only[nS,pV,if_true,fT,rJ];grind
 ·exact h
mutual
def kd (o:TP) (k:Nat):SV->(SV->Prop)->Prop
 | .ow e n h,K=>if k<=e then(match o[e]? with
   |some (.row s l _ true)=>if h=s.sz then n=l.length/\K (.row s l) else False
   |some (.row _ _ _ false)=>K (.ow e n h)
   |_=>False) else K (.ow e n h)
 | .ptr e f t,K=>if k<=e then(match o[e]? with
   |some (.cells _ _ _ false)=>K (.ptr e f t)
   |_=>False) else K (.ptr e f t)
 | .agg g,K=>qv o k g λd=>K (.agg d)
 | .Gz g,K=>qv o k g λd=>K (.Gz d)
 | .ud,K=>K .ud
 | .sc v,K=>K (.sc v)
 | .il q n,K=>K (.il q n)
 | .si q n,K=>K (.si q n)
 | .bl b,K=>K (.bl b)
 | .sb b,K=>K (.sb b)
 | .row s l,K=>K (.row s l)
 | .mp i,K=>K (.mp i)
 | .ia t g,K=>K (.ia t g)
 | .fn f a b,K=>qv o k a λm=>qv o k b λj=>K (.fn f m j)
 |_,_=>False
def qv (o:TP) (k:Nat):List SV->(List SV->Prop)->Prop
 |[],K=>K []
 |c::g,K=>kd o k c λp=>qv o k g λd=>K (p::d)
end
section
variable {o:TP} {k:Nat}
mutual
theorem Fx:∀{v:SV} {K:SV->Prop},kd o k v K->∃u:SV,v.g.Q5 (gO o) (λi=>decide (k<=i))=some u.g/\K u
 | .ow B n A,K,h=>by
  simp only[kd] at h;split at h
  ·rename_i q;split at h
   ·rename_i s l e w;split at h
    ·rename_i r;subst r;obtain⟨rfl,h⟩:=h;refine⟨_,?_,h⟩;have y:Δ (l.length*s.sz) (bQ s l)=bQ s l:=List.take_of_length_le (by grind[ee]);simp_all[γF,AV.Q5,e6,iZ.g,ee]
    simp_all
   ·rename_i s l e w;refine⟨_,?_,h⟩;simp_all[γF,AV.Q5,e6,iZ.g]
   simp_all
  ·rename_i q;refine⟨_,?_,h⟩;simp_all[γF,AV.Q5,if_neg];| .ptr B f t,K,h=>by
  simp only[kd] at h;split at h
  ·rename_i q;split at h
   ·rename_i j e A w;refine⟨_,?_,h⟩;simp_all[γF,AV.Q5,e6,iZ.g]
   simp_all
  ·rename_i q;refine⟨_,?_,h⟩;simp_all[γF,AV.Q5,if_neg];| .agg j,K,h=>by
  simp only[kd] at h;obtain⟨d,p,m⟩:=u7 h;grind[γF,AV.Q5];| .Gz j,K,h=>by
  simp only[kd] at h;obtain⟨d,p,m⟩:=u7 h;grind[γF,AV.Q5];| .ud,K,h=>⟨.ud,by grind[γF,AV.Q5],by grind[kd]⟩
 | .sc v,K,h=>⟨.sc v,by grind[γF,AV.Q5],by grind[kd]⟩
 | .il k n,K,h=>⟨.il k n,by grind[γF,AV.Q5],by grind[kd]⟩
 | .si k n,K,h=>⟨.si k n,by grind[γF,AV.Q5],by grind[kd]⟩
 | .bl b,K,h=>⟨.bl b,by grind[γF,AV.Q5],by grind[kd]⟩
 | .sb b,K,h=>⟨.sb b,by grind[γF,AV.Q5],by grind[kd]⟩
 | .row s l,K,h=>⟨.row s l,by grind[γF,AV.Q5],by grind[kd]⟩
 | .mp i,K,h=>⟨.mp i,by grind[γF,AV.Q5],by grind[kd]⟩
 | .ia t j,K,h=>⟨.ia t j,by grind[γF,AV.Q5],by grind[kd]⟩
 | .fn f a b,K,h=>by
  simp only[kd] at h;obtain⟨D,p,m⟩:=u7 h;obtain⟨C,z,x⟩:=u7 m;grind[γF,AV.Q5];| .ep ..,K,h| .ap ..,K,h| .rp ..,K,h| .os ..,K,h| .oc ..,K,h| .ite ..,K,h=>by simp only[kd] at h
theorem u7:∀{j:List SV} {K:List SV->Prop},qv o k j K->∃d:List SV,gh (gO o) (λi=>decide (k<=i)) (gL j)=some (gL d)/\K d
 |[],K,h=>⟨[],by simp[gL,gh],by grind[qv]⟩
 |c::j,K,h=>by
  simp only[qv] at h;obtain⟨E,p,m⟩:=Fx h;obtain⟨d,z,x⟩:=u7 m;grind[gL,gh]
end
def nl (o:TP) (k:Nat):Nat->TP->(TP->Prop)->Prop
 |_,[],K=>K []
 |i,x::r,K=>match x with
  | .cells f e m false=>qv o k f λc=>nl o k (i+1) r λa=>K (.cells c e m false::a)
  | .row s l e b=>nl o k (i+1) r λa=>K ((if b&&decide (k<=i) then .dead else .row s l e b)::a)
  | .map g n d j h b=>nl o k (i+1) r λa=>K (.map g n d j h b::a)
  | .dead=>nl o k (i+1) r λa=>K (.dead::a)
  |_=>False
theorem uZ:∀{i:Nat} {r:TP} {K:TP->Prop},nl o k i r K->∃r' mid,iU (gO o) (λi=>decide (k<=i)) (gO r)=some mid/\e_ (λi=>decide (k<=i)) i mid=gO r'/\K r'
 |i,[],K,h=>⟨[],[],rfl,rfl,h⟩
 |i,x::r,K,h=>by
  cases x with
  |dead=>
   simp only[nl] at h;obtain⟨r',mid,m,b,e⟩:=uZ h;grind[gO,iZ.g,iU,OL.Q5,e_];|cells A c z a=>
   cases a with
   |true=>grind[nl];|false=>
    simp only[nl] at h;obtain⟨j,y,f⟩:=u7 h;obtain⟨r',mid,m,b,e⟩:=uZ f;refine⟨_,.cells (gL j) c z false::mid,?_,?_,e⟩;all_goals simp_all[gO,iZ.g,iU,OL.Q5,e_]
  |aol s l c t=>grind[nl];|row s l c a=>
   simp only[nl] at h;obtain⟨r',mid,m,b,e⟩:=uZ h;refine⟨_,(iZ.row s l c a).g::mid,?_,?_,e⟩
   ·have d:(iZ.row s l c a).g.Q5 (gO o) (λi=>decide (k<=i))=some (iZ.row s l c a).g:=by
     cases a with
     |true=>simp only[iZ.g,OL.Q5,if_true];|false=>
      simp only[iZ.g,OL.Q5,τ,if_false];grind[A4,lS]
    grind[gO,iU]
   ·cases a with
    |true=>
     simp only[iZ.g,e_,Bool.true_and];by_cases n:k<=i
     ·simp only[n,decide_true,if_true];rw[b];rfl
     ·simp only[n,decide_false,τ,if_false];rw[b];rfl;|false=>simp only[iZ.g,e_,Bool.false_and,τ,if_false];rw[b];rfl
  |map u p q w v a=>
   simp only[nl] at h;obtain⟨r',mid,m,b,e⟩:=uZ h;have d:(iZ.map u p q w v a).g.Q5 (gO o) (λi=>decide (k<=i))=some (iZ.map u p q w v a).g:=by
    cases a with
    |true=>simp only[iZ.g,OL.Q5,if_true];|false=>
     simp only[iZ.g,OL.Q5,τ,if_false];rw[G2 FA,ν]
   grind[gO,iU,iZ.g,e_]
end
def A0 (r:SV) (o:TP) (K:SV->TP->Prop):Prop:=
 kd o 0 r λc=>nl o 0 0 o λb=>
  if b.all iZ.A1=false then False else
  let a:=nQ b fc [c] [];if gV.aoF a then match c.bJ (λj=>idxOf a j),vc b a a with
   |some e,some d=>K e d
   |_,_=>False
  else False
theorem Yf {r:SV} {o:TP} {K:SV->TP->Prop} (h:A0 r o K):∃r' o',kK 0 r.g (gO o)=some (r'.g,gO o')/\K r' o':=by
 unfold A0 at h;obtain⟨m,n,k⟩:=Fx h;obtain⟨c,i,e,f,a⟩:=uZ k;split at a;·exact a.elim
 rename_i b;simp only[ζt] at b;simp only at a;split at a
 ·rename_i t;split at a
  ·rename_i j l p q;refine⟨j,l,?_,a⟩;unfold kK;rw[n,e];simp only[f,List.take_zero,List.flatMap_nil,List.range_zero];have s:=N9 (o:=c) b (d:=fc) (vs:=[m]) (acc:=[]);simp_all[gL,FB,Fz]
  simp_all
 simp_all
def Fw (p:ik) (Λ:Nat->bK) (F:eu) (args:List SV) (Q:SV->TP->Prop):Prop:=
 wpS p 0 F.body Λ ⟨lR 0 args,[]⟩ λa b=>match a with
  | .exit _=>False
  | .goto _=>False
  |_=>mE b F.res λr=>A0 r b.o Q
theorem Ye {P:Program} {T:jn} {p:ik} {Λ:Nat->bK} (y:jY P T) (t:nT T.K p.C) (x:∀f F,p.it f=some F->T.fn f=some F) {f:FuncId} {F:eu} (m:T.fn f=some F) {args:List SV} {r:AV} {o':a_} (A:T.K f (gL args) [] true=none) (j:args.length=F.params)
  {Q:SV->TP->Prop} (D:∀v s,Q v s->v.g=r/\gO s=o') (h:Fw p Λ F args Q):fU P f=true/\jD P f (gL args) [] r o':=by
 unfold Fw at h;have k:=tN t x h;have b:(bF.mk (lR 0 args) []).g=⟨gp 0 (gL args),[]⟩:=by simp[bF.g,tM,gO]
 rw[b] at k;have n:∀(a:bF),(mE a F.res λv=>A0 v a.o Q)->(mL a.g F.res).bind (λc=>finish true 0 c a.g.o)=some (r,o'):=by
  intro a l;obtain⟨c,e,i⟩:=vf l;obtain⟨u,q,w,B⟩:=Yf i;rw[e];simp only[δT,finish,if_true];have:kK 0 c.g a.g.o=some (u.g,gO q):=w;grind
 obtain⟨e,i,_⟩:=AB y m (o:=[]) (own:=true) A (by grind[jk]) (v:=r) (o':=o') (k.mono λd s z=>by
  obtain⟨a,rfl,l⟩:=z;cases d<;>simp_all);simp_all
theorem Yd {W:List cW} {f:FuncId} {args:List AV} {o:a_} (h:mA f W=none):rJ W f args o=none:=by
 grind[rJ]
open Go.Proofs.YtbnhiekmnpikhaaGreat.Ir
open Go.Proofs
def AZ (f:Nat):List (Nat×List RH)->Option (List RH)
 |[]=>none
 |e::r=>bif δu e.1 f then some e.2 else AZ f r
noncomputable def fQ (f:FuncId):Option eu:=
 match AZ f Pt with
 |none=>none
 |some H=>match Tryz.prog.funcs[f]? with
  |none=>none
  |some g=>Bi Tryz.prog H g
noncomputable def fG (f:FuncId):eu:=(fQ f).getD ⟨0,0,.skip,[]⟩
theorem xn {f:FuncId} (h:(fQ f).isSome=true):fQ f=some (fG f):=by
 unfold fG;cases q:fQ f<;>simp_all
theorem N5 {f:Nat} {H:List RH} {p:Nat->Bool}:∀{l:List (Nat×List RH)},AZ f l=some H->(l.all λe=>p e.1)=true->p f=true
 |[],h,_=>by cases h;|e::r,h,k=>by
  simp only[AZ] at h;simp only[List.all_cons,θ] at k;cases q:δu e.1 f with
  |true=>simp_all;|false=>rw[q] at h;exact N5 h k.2
theorem Yc:(Pt.all λe=>fU Tryz.prog e.1)=true:=by kernel_rfl
theorem pT:jY Tryz.prog ⟨fQ,λ_ _ _ _=>none⟩ where
 fn:=λf F h=>by
  simp only[fQ] at h;split at h;·cases h
  ·rename_i H q;split at h;·cases h
   ·rename_i g r;exact⟨g,H,r,h,N5 (p:=fU Tryz.prog) q Yc⟩
 K:=λ_ _ _ _ _ _ h=>by cases h
def lk {a:Type}:a->Nat->bK:=λ_ _=> .bz
structure Vc (A:Prop):Prop where
 out:A
theorem NI {A:Prop} (B:Prop) (h:B=A) (a:B):Vc A:=⟨h▸a⟩
theorem j7 {L:List NG} {W:ky} (c:NG) (i:c.α->Nat->bK) (j:mB Tryz.prog W) (e:∀c∈L,Holds Tryz.prog c)
  
  (h:∀a,c.dom a->Vc (oo (kx L W ml mq fQ) (i a) (fG c.f) (c.A.put a) λv=>v.pX (c.res a))) (k:(fQ c.f).isSome=true:=by kernel_rfl) (d:ln c.f L=none:=by kernel_rfl) (b:∀a,(c.A.put a).length=(fG c.f).params:=by intro _;kernel_rfl):Holds Tryz.prog c:=
 holds_of c pT j e (xn k) d b λa g=>(h a g).out
theorem bO {L:List NG} (c:NG) (e:c.α->Nat->bK) (g:∀c∈L,Holds Tryz.prog c) (h:∀a,c.dom a->Vc (oo (kx L ky.none ml mq fQ) (e a) (fG c.f) (c.A.put a) λv=>v.pX (c.res a)))
  (i:(fQ c.f).isSome=true:=by kernel_rfl) (d:ln c.f L=none:=by kernel_rfl) (b:∀a,(c.A.put a).length=(fG c.f).params:=by intro _;kernel_rfl):Holds Tryz.prog c:=j7 c e (mB.none _) g h i d b
theorem Yb {L:List NG} {W:ky} (c:NG) (l:FuncId->Bool) (i:c.α->Nat->bK) (j:mB Tryz.prog W) (e:∀c∈L,Holds Tryz.prog c)
  
  (h:∀a,c.dom a->Vc (oo (FD L W ml mq fQ l) (i a) (fG c.f) (c.A.put a) λv=>v.pX (c.res a))) (k:(fQ c.f).isSome=true:=by kernel_rfl) (d:ln c.f L=none:=by kernel_rfl) (b:∀a,(c.A.put a).length=(fG c.f).params:=by intro _;kernel_rfl):Holds Tryz.prog c:=
 XL c pT j e (xn k) d b λa g=>(h a g).out
theorem kq {L:List NG} {W:List cW} (c:cW) (Λ:c.α->Nat->bK) (i:∀c∈W,dD Tryz.prog c) (e:∀c∈L,Holds Tryz.prog c)
  
  (h:∀a,c.dom a->Vc (xC (kx L (fT W) ml mq fQ) (Λ a) (fG c.f) (c.put a) (c.st a) λv s=>v.as (c.res a)/\jX s (c.out a))) (g:(fQ c.f).isSome=true:=by kernel_rfl) (b:∀a,(c.put a).length=(fG c.f).params:=by intro _;kernel_rfl) (k:mA c.f W=none:=by kernel_rfl):dD Tryz.prog c:=
 λa j=>N6 c pT i e (xn g) b a (λd l=>by simp_all) (h a j).out
theorem Ya {L:List NG} {W:List cW} (c:cW) (F:eu) (i:c.α->Nat->bK) (k:∀c∈W,dD Tryz.prog c) (e:∀c∈L,Holds Tryz.prog c)
  
  (h:∀a,c.dom a->Vc (xC (kx L (fT W) ml mq fQ) (i a) F (c.put a) (c.st a) λv s=>v.as (c.res a)/\jX s (c.out a))) (g:fQ c.f=some F:=by kernel_rfl) (b:∀a,(c.put a).length=F.params:=by intro _;kernel_rfl) (l:mA c.f W=none:=by kernel_rfl):dD Tryz.prog c:=
 λa j=>N6 c pT k e g b a (λd m=>by simp_all) (h a j).out
theorem Fv {L:List NG} {W:List cW} (c:cW) (g:Nat->Option (Nat×Nat×Nat)) (Λ:c.α->Nat->bK) (i:∀c∈W,dD Tryz.prog c) (j:∀c∈L,Holds Tryz.prog c)
  
  (h:∀a,c.dom a->Vc (Fw ⟨⟨tL L,(fT W).C⟩,ml,mq,g,λ_=>none,λ_=>false⟩ (Λ a) (fG c.f) (c.put a) λv s=>v.as (c.res a)/\jX s (c.out a))) (l:(fQ c.f).isSome=true:=by kernel_rfl) (b:∀a,(c.put a).length=(fG c.f).params:=by intro _;kernel_rfl) (d:∀a,c.st a=[]:=by intro _;rfl) (k:mA c.f W=none:=by kernel_rfl):dD Tryz.prog c:=
 λa m=>by
  rw[d a];refine Ye (p:=⟨⟨tL L,(fT W).C⟩,ml,mq,g,λ_=>none,λ_=>false⟩) (Λ:=Λ a) (Q:=λv s=>v.as (c.res a)/\jX s (c.out a)) (rL (ke i) j pT) (rK (ke i)) (λ_ _ h=>by cases h) (xn l) ?_ (b a) (λv s e=>⟨e.1,vg e.2⟩) (h a m).out;simp_all[nS,pV,fT,Yd]
open Go.ChangeShapes Go.WideShapes Go.RowKit
abbrev jL:dg:=⟨λ_=>False,0⟩
instance (s:ew):Inhabited s.T:=⟨s.bu⟩
theorem X_ (b:Nat):Fr jL [] b:=⟨by rintro⟨i,c,h⟩;simp at h,λh=>h⟩
theorem N4 {A:dg} {w:World} {σ:TN} {o:a_}:∀{vs:List Value},(∀v∈vs,v.oneCell'=true)->Aq A w σ o (vs.map .sc) vs
 |[],_=>by simp[Aq];|v::vs,h=>by
  simp only[ξ,Aq];exact⟨v,vs,rfl,by grind[nA],N4 λu a=>h u (by simp[a])⟩
theorem N3 {A:dg} {w:World} {σ:TN} {o:a_}:∀{a b:List AV} {x:Option Addr} {j:Nat},cH A w σ o a x j->cH A w σ o b x (j+a.length)->cH A w σ o (a++b) x j
 |[],b,x,j,_,h=>by simpa using h;|c::a,b,x,j,h,k=>by
  simp only[List.cons_append,cH] at h ⊢;refine⟨h.1,N3 h.2 ?_⟩;grind
def Reads (P:Program) (t:TypeId) (s:ew):Prop:=
 ∀(H:Type) (e:TypeId×Value->H) (w:World) (d:Nat) (a:Nat->Bool) (c:Bool) (b:Nat) (f:List Value) (x:DataW H×List MemPlace),DataW.trod e P w d a c b t f=some x->∃y:s.T,f=cK s y
theorem WK {P:Program} {t:TypeId} {k:IntKind} (a:P.underlying t=some (.int k)):Reads P t (.i k):=λ_ _ _ _ _ _ _ b _ h=>by
 obtain⟨n,rfl,_,_⟩:=DataW.trod_int a h;exact⟨n,rfl⟩
theorem WJ {w:World} {base n:Nat} {a:Addr} {cs:List Value} (h:w.cells? base a n=some cs):cs.length=n/\∀i v,cs[i]?=some v->w.cell? (a.add i)=some v:=by
 unfold World.cells? at h;split at h
 ·obtain⟨c,f⟩:=AK h;simp only[ζv] at c;refine⟨c,λi v d=>?_⟩;have j:=(List.getElem?_eq_some_iff.1 d).1;obtain⟨b,g,e⟩:=f i i (by simp_all);simp_all
 ·cases h
def AY (P:Program) (t:TypeId) (s:ew):Prop:=
 ∀(H:Type) (d:TypeId×Value->H) (w:World) (a:Nat->Bool) (c:Bool) (b:Nat) (e:List Value) (x:DataW H×List MemPlace),DataW.trod d P w 0 a c b t e=some x->∃y:s.T,Aq jL w [] [] (dh s y) e
theorem Reads.g {P:Program} {t:TypeId} {s:ew} (h:Reads P t s) (i:s.flat=true:=by rfl):AY P t s:=λH d w a c b e x f=>by
 obtain⟨y,rfl⟩:=h H d w 0 a c b e x f;exact⟨y,by grind[AA,N4,Ay]⟩
theorem N2 {w:World} {a:Addr}:∀{cs:List AV} {vs:List Value} {j:Nat},Aq jL w [] [] cs vs->(∀i v,vs[i]?=some v->w.cell? (a.add (j+i))=some v)->cH jL w [] [] cs (some a) j
 |[],_,_,_,_=>by simp[cH];|c::cs,vs,j,b,d=>by
  simp only[Aq] at b;obtain⟨v,r,rfl,e,f⟩:=b;simp only[cH];refine⟨⟨a,v,rfl,X_ _,by simpa using d 0 v (by simp),e⟩,N2 f λi u g=>?_⟩;have:=d (i+1) u (by simp_all);grind
theorem N1 {w:World} {a:Addr} {s:ew}:∀{l:List s.T} {i0:Nat},(∀i y,l[i]?=some y->∃cs,w.cells? 0 (a.add ((i0+i)*s.sz)) s.sz=some cs/\Aq jL w [] [] (dh s y) cs)->cH jL w [] [] (bQ s l) (some a) (i0*s.sz)
 |[],_,_=>by simp[bQ,cH];|y::l,i0,h=>by
  obtain⟨cs,b,c⟩:=h 0 y (by simp);rw[Nat.add_zero] at b;obtain⟨d,g⟩:=WJ b;have e:bQ s (y::l)=dh s y++bQ s l:=by simp[bQ]
  rw[e];refine N3 (N2 c λi v j=>?_) ?_;·grind[add_add]
  ·rw[kF,show i0*s.sz+s.sz=(i0+1)*s.sz from by grind];refine N1 λi z f=>?_;have:=h (i+1) z (by simp_all);grind
theorem WI {P:Program} {t e:TypeId} {s:ew} (A:P.underlying t=some (.slice e)) (r:AY P e s) (I:P.cellsOf e=s.sz)
  {H:Type} {enc:TypeId×Value->H} {w:World} {c:Nat->Bool} {j:Bool} {d:Nat} {cs:List Value} {x:DataW H×List MemPlace} (h:DataW.trod enc P w 0 c j d t cs=some x):
  ∃(v:Value) (l:List s.T),cs=[v]/\nA jL w [] [] (γa s l).g v:=by
 rcases Go.Deep.open_slice A h with⟨rfl,_⟩|⟨a,b,k,m,n,D,F,rfl,M,z,L,o,_,q⟩;·exact⟨_,[],rfl,by grind[γF,nA,bQ,cL,cH]⟩
 ·have B:b<=m:=by grind
  have C:∀i,i<b->∃y:s.T,∃cs,w.cells? 0 (a.add (i*s.sz)) s.sz=some cs/\Aq jL w [] [] (dh s y) cs:=λi J=>by
   obtain⟨p,K,E⟩:=q i (by omega);obtain⟨y,u⟩:=r _ _ _ _ _ _ _ _ E;grind
  obtain⟨f,G⟩:=Go.Deep.choose_lt C;refine⟨_,(ω b).map f,rfl,?_⟩;simp only[γF,nA,List.length_map,ζv];refine⟨some a,k,rfl,z,nr _ _,?_⟩;have:=N1 (w:=w) (a:=a) (s:=s) (l:=(ω b).map f) (i0:=0) (λi y u=>by
   grind);simp_all
theorem N0 {P:Program} {t e:TypeId} {s:ew} (i:P.underlying t=some (.slice e)) (f:Reads P e s) (j:P.cellsOf e=s.sz)
  {H:Type} {enc:TypeId×Value->H} {w:World} {a:Nat->Bool} {c:Bool} {b:Nat} {cs:List Value} {x:DataW H×List MemPlace} (h:DataW.trod enc P w 0 a c b t cs=some x) (d:s.flat=true:=by rfl):
  ∃(v:Value) (l:List s.T),cs=[v]/\nA jL w [] [] (γa s l).g v:=WI i (f.g d) j h
theorem WH {cs:List Value} {i:Nat} {v:Value} (h:(cs.drop i).take 1=[v]):cs[i]?=some v:=by
 have:((cs.drop i).take 1)[0]?=some v:=by rw[h];rfl
 grind
theorem WG {P:Program} {t e:TypeId} (s:P.underlying t=some (.array 6 e)) (F:P.underlying e=some (.int .i64)) (H:P.cellsOf e=1) (l:P.cellsOf t=6):Reads P t .bun:=λ_ _ _ _ _ _ _ c _ h=>by
 obtain⟨z,m,_,_,b,v,D⟩:=DataW.trod_array s h;have a:∀i,i<6->∃n,c[i]?=some (.int .i64 n):=λi w=>by
  grind[DataW.trod_int,WH]
 rw[l] at b;match c,b,a with
 |[C,A,I,G,B,E],_,a=>
  obtain⟨o,y⟩:=a 0 (by omega);obtain⟨x,d⟩:=a 1 (by omega);obtain⟨p,u⟩:=a 2 (by omega);obtain⟨j,r⟩:=a 3 (by omega);obtain⟨k,f⟩:=a 4 (by omega);obtain⟨q,g⟩:=a 5 (by omega);simp only[List.getElem?_cons_zero,List.getElem?_cons_succ,γ] at y d u r f g;exact⟨⟨o,x,p,j,k,q⟩,by grind[cK,iv]⟩
theorem WE {P:Program} {t b i v:TypeId} {fs:Array Field} (w:P.underlying t=some (.struct fs)) (r:P.cellsOf t=8) (N:(fs[0]?).map (λf=>(f.type,f.offset))=some (i,0)) (O:(fs[1]?).map (λf=>(f.type,f.offset))=some (b,1)) (u:(fs[2]?).map (λf=>(f.type,f.offset))=some (v,7))
  (x:P.underlying i=some (.int .i64)) (e:P.cellsOf i=1) (q:P.underlying v=some (.int .i64)) (k:P.cellsOf v=1) (z:Reads P b .bun) (d:P.cellsOf b=6) (I:fs.size=3):Reads P t .bt:=λ_ _ _ _ _ _ _ B _ h=>by
 obtain⟨T,m,_,_,n,K,j⟩:=DataW.trod_struct w h;rw[r] at n;obtain⟨F,C,g⟩:=ε.1 N;obtain⟨s,D,c⟩:=ε.1 O;obtain⟨J,A,a⟩:=ε.1 u;simp only[ι] at g c a;have o:=j 0 F C;have l:=j 1 s D;have p:=j 2 J A;rw[g.1,g.2,e,μ (by omega)] at o;rw[c.1,c.2,d,μ (by omega)] at l;rw[a.1,a.2,k,μ (by omega)] at p;obtain⟨G,M,_⟩:=DataW.trod_int x o;obtain⟨y,E⟩:=z _ _ _ _ _ _ _ _ _ l;obtain⟨H,L,_⟩:=DataW.trod_int q p;match B,n with
 |[S,U,R,V,Y,X,Q,W],_=>
  simp[cK] at M E L;exact⟨⟨G,y,H⟩,by grind[cK,iv]⟩
theorem WC {P:Program} {t b k o:TypeId} {fs:Array Field} (ht:P.underlying t=some (.struct fs)) (hn:P.cellsOf t=20) (a7:fs.size=5)
  (h0:(fs[0]?).map (λf=>(f.type,f.offset))=some (b,0)) (h1:(fs[1]?).map (λf=>(f.type,f.offset))=some (b,6)) (h2:(fs[2]?).map (λf=>(f.type,f.offset))=some (b,12))
  (U:(fs[3]?).map (λf=>(f.type,f.offset))=some (k,18)) (h4:(fs[4]?).map (λf=>(f.type,f.offset))=some (o,19))
  (s:Reads P b .bun) (d:P.cellsOf b=6) {e:TypeId} (hk:P.underlying k=some (.slice e)) (z:Reads P e (.i .i64)) (A:P.cellsOf e=1) (y:P.cellsOf k=1)
  {f:TypeId} (ho:P.underlying o=some (.slice f)) (F:Reads P f .bt) (u:P.cellsOf f=8) (v:P.cellsOf o=1)
  {H:Type} {enc:TypeId×Value->H} {w:World} {c:Nat->Bool} {q:Bool} {j:Nat} {cs:List Value} {x:DataW H×List MemPlace} (h:DataW.trod enc P w 0 c q j t cs=some x):
  ∃p:cj,Aq jL w [] [] (gL p.ss) cs:=by
 obtain⟨xs,m,_,_,O,a1,l⟩:=DataW.trod_struct ht h;rw[hn] at O;obtain⟨f0,e0,E⟩:=ε.1 h0;obtain⟨f1,e1,D⟩:=ε.1 h1;obtain⟨Z,e2,r⟩:=ε.1 h2;obtain⟨f3,T,B⟩:=ε.1 U;obtain⟨f4,e4,C⟩:=ε.1 h4;simp only[ι] at E D r B C;have S:=l 0 f0 e0;have I:=l 1 f1 e1;have R:=l 2 Z e2;have J:=l 3 f3 T;have M:=l 4 f4 e4;rw[E.1,E.2,d,μ (by omega)] at S;rw[D.1,D.2,d,μ (by omega)] at I;rw[r.1,r.2,d,μ (by omega)] at R;rw[B.1,B.2,y,μ (by omega)] at J;rw[C.1,C.2,v,μ (by omega)] at M;obtain⟨y0,K⟩:=s _ _ _ _ _ _ _ _ _ S;obtain⟨y1,Q⟩:=s _ _ _ _ _ _ _ _ _ I;obtain⟨y2,G⟩:=s _ _ _ _ _ _ _ _ _ R;obtain⟨v3,l3,L,r3⟩:=N0 hk z A J;obtain⟨v4,W,N,r4⟩:=N0 ho F u M;match cs,O with
 |[c0,c1,c2,c3,c4,c5,c6,c7,c8,c9,a0,a5,V,a6,a8,a2,a4,Y,a3,X],_=>
  simp[cK,iv] at K Q G L N;obtain⟨rfl,rfl,rfl,rfl,rfl,rfl⟩:=K;obtain⟨rfl,rfl,rfl,rfl,rfl,rfl⟩:=Q;obtain⟨rfl,rfl,rfl,rfl,rfl,rfl⟩:=G;subst L;subst N;refine⟨⟨y0,y1,y2,l3,W⟩,?_⟩;have a:∀n:Int,nA jL w [] [] (γj .i64 n).g (.int .i64 n):=λn=>by simp[γF,nA,Value.oneCell']
  simp only[cj.ss,gL,Aq];exact⟨_,_,rfl,a _,_,_,rfl,a _,_,_,rfl,a _,_,_,rfl,a _,_,_,rfl,a _,_,_,rfl,a _,_,_,rfl,a _,_,_,rfl,a _,_,_,rfl,a _,_,_,rfl,a _,_,_,rfl,a _,_,_,rfl,a _,
   _,_,rfl,a _,_,_,rfl,a _,_,_,rfl,a _,_,_,rfl,a _,_,_,rfl,a _,_,_,rfl,a _,_,_,rfl,r3,_,_,rfl,r4,rfl⟩
theorem WA {P:Program} {w:World} {r:Reach} {base:Nat} {t:TypeId} {v:Value} {fs:Array Field} (a:P.underlying t=some (.struct fs)) (h:Value.okWide P w r base t v):∃cs,v= .agg cs/\v.cells.toList=cs.toList:=by
 unfold Value.okWide at h;rw[a] at h;obtain⟨cs,rfl,_⟩:=h;exact⟨cs,rfl,rfl⟩
theorem NZ {H:Type} {enc:TypeId×Value->H} {P:Program} (j:laidOutB P=true) {W l:World} (n:Below W.heap.size W l) {m:Nat->Bool}:
  ∀{f:List TypeId} {vs:List Value} {i:List (DataW H)} {g:List MemPlace},DataW.TrodAll enc P W 0 (λ_=>true) true f vs i g->(∀t∈f,P.readableRec t=true/\t<P.types.size)->(∀p∈g,p.block<W.heap.size)->(∀p∈g,m p.block=true)->
   DataW.TrodAll enc P l 0 m true f vs i g
 |[],_,_,_,h,_,_,_=>by
  obtain⟨rfl,rfl,rfl⟩:=trodAll_nil h;exact rfl;|t::f,_,_,_,h,o,e,k=>by
  obtain⟨v,vs,d,i,a,b,rfl,rfl,rfl,r,s⟩:=trodAll_cons h;obtain⟨x,q⟩:=o t (by simp);exact⟨a,b,WideElems.Trod_stays j x q r (λp c=>n.as (e p (by simp[c]))) (λp c=>k p (by simp[c])),
   NZ j n s (λu w=>o u (by simp[w])) (λp c=>e p (by simp[c])) (λp c=>k p (by simp[c])),rfl⟩
theorem NY {W b:World} {a:TN} {o':a_} (h:cE W [] [] b a o'):Below W.heap.size W b:=
 ⟨h.os,h.tape,h.output,h.size,λk e=>(h.blk k e (by rintro⟨i,c,d⟩;simp at d)).1⟩
@[simp] theorem Wz {k c:IntKind} {a b:Int}:(γj k a).as (.si c b)↔k=c/\a=b:=by simp[εX,γF]
@[simp] theorem Wy {k c:IntKind} {a b:Int}:(γC k a).as (.si c b)↔k=c/\a=b:=by simp[εX,γF]
@[simp] theorem Wx {a b:Bool}:(γB a).as (.sb b)↔a=b:=by simp[εX,γF]
@[simp] theorem Ww {a b:Bool}:(δj a).as (.sb b)↔a=b:=by simp[εX,γF]
@[simp] theorem Wv {s:ew} {a b:List s.T}:(γa s a).as (.row s b)↔a=b:=by
 constructor;·intro h;simp only[εX,γF,δ7] at h;exact ku s h.1 h.2
 ·rintro rfl;rfl
@[simp] theorem Wu {k c:IntKind} {a b:Int}:(γj k a).as (.il c b)↔k=c/\a=b:=by simp[εX,γF]
@[simp] theorem Wt {k c:IntKind} {a b:Int}:(γC k a).as (.il c b)↔k=c/\a=b:=by simp[εX,γF]
theorem Ws {v:SV}:v.as v↔True:=iff_true_intro rfl
theorem kc {v:iZ}:v.as v↔True:=iff_true_intro rfl
theorem Wr {a b c d:SV}:(SV.Gz [a,b]).as (.Gz [c,d])↔a.as c/\b.as d:=by simp[εX,γF,gL]
theorem Wq {a b c d e f:SV}:(SV.Gz [a,b,c]).as (.Gz [d,e,f])↔a.as d/\b.as e/\c.as f:=by simp[εX,γF,gL]
theorem Fu {s t:ew}:(γa s []).as (.row t [])↔True:=iff_true_intro (by simp[εX,γF,bQ])
theorem NX {s:ew} {l:List s.T}:(γa (.i .i64) []).as (.row s l)↔l=[]:=by
 constructor;·grind[εX,γF]
 ·rintro rfl;exact Fu.2 trivial
theorem AX {a b:oz}:a=b↔a.a0=b.a0/\a.a1=b.a1/\a.a2=b.a2/\a.a3=b.a3/\a.a4=b.a4/\a.a5=b.a5:=by
 obtain⟨k,c,n,f,d,l⟩:=a;obtain⟨g,i,e,h,m,j⟩:=b;simp_all
@[simp] theorem Wp {n:Int}:VL .i64 n↔ -9223372036854775808<=n/\n<=9223372036854775807:=Iff.rfl
theorem vcs:(∀{p:Prop} [h:Decidable p],(decide p=true)=p)/\(∀{p:Prop} {x:Decidable p},decide p=false↔¬p)/\(∀{k g:IntKind} {a b:Int},(γC k a).as (γj g b)↔k=g/\a=b)/\(∀{k g:IntKind} {a b:Int},(γj k a).as (γj g b)↔k=g/\a=b)/\(∀{k g:IntKind} {a b:Int},(γj k a).as (γC g b)↔k=g/\a=b)/\(∀{k g:IntKind} {a b:Int},(γC k a).as (γC g b)↔k=g/\a=b)/\(∀{a b:Bool},(γB a).as (γB b)↔a=b)/\(∀{a b:Bool},(δj a).as (γB b)↔a=b)/\(∀{s:ew} {a b:List s.T},(γa s a).as (γa s b)↔a=b)/\(∀{a b c d:SV},(SV.Gz [a,b]).as (SV.Gz [c,d])↔a.as c/\b.as d)/\(∀{a b c d e f:SV},(SV.Gz [a,b,c]).as (SV.Gz [d,e,f])↔a.as d/\b.as e/\c.as f)/\(∀{s t:ew},(γa s []).as (γa t [])↔True)/\(∀{s:ew} {l:List s.T},(γa (ew.i IntKind.i64) []).as (γa s l)↔l=[])/\(∀{v:SV},v.as v↔True)/\(∀{v:iZ},v.as v↔True)/\(∀{n:Int},VL IntKind.i64 n↔ -9223372036854775808<=n/\n<=9223372036854775807)/\(∀p:Prop,(True/\p)=p)/\(∀p:Prop,(p/\True)=p)/\(∀a b:Bool,((a&&b)=true)=(a=true/\b=true))/\(∀b:Bool,((!b)=true)=(b=false))/\(∀b:Bool,((!b)=false)=(b=true)):=
 ⟨decide_eq_true_eq,decide_eq_false_iff_not,Wy,Wz,Wu,Wt,Wx,Ww,Wv,Wr,Wq,Fu,NX,Ws,kc,Wp,true_and,and_true,θ,Bool.not_eq_true',Bool.not_eq_false'⟩
def oz.ok (b:oz):Bool:=[b.a0,b.a1,b.a2,b.a3,b.a4,b.a5].all λn=>decide (0<=n)&&decide (n<=4)
theorem oz.gT {b:oz}:b.ok=true↔(0<=b.a0/\b.a0<=4)/\(0<=b.a1/\b.a1<=4)/\(0<=b.a2/\b.a2<=4)/\(0<=b.a3/\b.a3<=4)/\(0<=b.a4/\b.a4<=4)/\(0<=b.a5/\b.a5<=4):=by
 simp[oz.ok]
def Ft:NG:=⟨65,oz,.one (dF .bun),λ_=>True,λb=> .si .i64 (if b.ok=true then 0 else 4)⟩
theorem IP:Holds Tryz.prog Ft:=by
 refine bO (L:=[]) Ft (λ_ _=> .apl 7) (by simp) ?_;intro b _;refine NI (let h:=γC .i64;let p:=(0:Int);let q:=(4:Int);let i:=decide (b.a0<p);let a:=γj .i64 (if oz.ok b=true then p else q);let l:=decide (q<b.a0);let k:=decide (b.a1<p);let m:=decide (q<b.a1);let o:=decide (b.a2<p);let j:=decide (q<b.a2);let n:=decide (b.a3<p);let f:=decide (q<b.a3);let g:=decide (b.a4<p);let d:=decide (q<b.a4);let c:=decide (b.a5<p);let e:=decide (q<b.a5);(i=true->(h 4).as a)/\(i=false->(l=true->(h 4).as a)/\(l=false->(k=true->(h 4).as a)/\(k=false->(m=true->(h 4).as a)/\(m=false->(o=true->(h 4).as a)/\(o=false->(j=true->(h 4).as a)/\(j=false->(n=true->(h 4).as a)/\(n=false->(f=true->(h 4).as a)/\(f=false->(g=true->(h 4).as a)/\(g=false->(d=true->(h 4).as a)/\(d=false->(c=true->(h 4).as a)/\(c=false->(e=true->(h 4).as a)/\(e=false->(h 0).as a))))))))))))) (by kernel_rfl) ?_;conv=>zeta
 have p:=@oz.gT b;by_cases h:b.ok=true<;>simp_all
def oz.l (b:oz):List Int:=[b.a0,b.a1,b.a2,b.a3,b.a4,b.a5]
def cr (p:cj):Int:=p.bj.length+12
def cD (p:cj) (r:Int):Int:=
 if r - p.bj.length<0 then 1
 else if r - p.bj.length<6 then bN [p.bk.a0,p.bk.a1,p.bk.a2,p.bk.a3,p.bk.a4,p.bk.a5] (r - p.bj.length).toNat 0
 else bN [p.bq.a0,p.bq.a1,p.bq.a2,p.bq.a3,p.bq.a4,p.bq.a5] (r - p.bj.length - 6).toNat 0
def dA (p:cj) (r:Int) (o:bD):Int:=
 if r - p.bj.length<0 then(if o.TM=r then 1 else 0)
 else if r - p.bj.length<6 then bN [o.bw.a0,o.bw.a1,o.bw.a2,o.bw.a3,o.bw.a4,o.bw.a5] (r - p.bj.length).toNat 0
 else if bN [p.bs.a0,p.bs.a1,p.bs.a2,p.bs.a3,p.bs.a4,p.bs.a5] (r - p.bj.length - 6).toNat 0=0\/bN [p.bs.a0,p.bs.a1,p.bs.a2,p.bs.a3,p.bs.a4,p.bs.a5] (r - p.bj.length - 6).toNat 0=bN p.bj o.TM.toNat 0 then 0
 else bN [o.bw.a0,o.bw.a1,o.bw.a2,o.bw.a3,o.bw.a4,o.bw.a5] (r - p.bj.length - 6).toNat 0
def uY:NG:=⟨84,cj,.one cX,λp=>p.bj.length<=8,λp=> .si .i64 (cr p)⟩
def uX:NG:=⟨85,cj×Int,.cons cX (.one (dZ .i64)),λa=>a.1.bj.length<=8/\0<=a.2/\a.2<cr a.1,λa=> .si .i64 (cD a.1 a.2)⟩
def uW:NG:=⟨83,cj×Int×bD,.cons cX (.cons (dZ .i64) (.one (dF .bt))),λa=>a.1.bj.length<=8/\0<=a.2.1/\a.2.1<cr a.1/\0<=a.2.2.TM/\a.2.2.TM<a.1.bj.length,λa=> .si .i64 (dA a.1 a.2.1 a.2.2)⟩
theorem qR:Holds Tryz.prog uY:=by
 refine bO (L:=[]) uY (λ_ _=> .apl 7) (by simp) ?_;intro p (b:p.bj.length<=8);refine NI (let a:=(↑p.bj.length:Int)+(12:Int);VL .i64 a/\(γj .i64 a).as (γj .i64 (cr p))) (by kernel_rfl) ?_;simp only[vcs,cr];omega
theorem qQ:Holds Tryz.prog uX:=by
 refine bO (L:=[]) uX (λ_ _=> .apl 7) (by simp) ?_;rintro⟨p,r⟩ ⟨h,j,i⟩;simp only[cr] at h j i;refine NI (let h:=(6:Int);let i:=(0:Int);let d:=γj .i64 (cD p r);let c:=(↑p.bj.length:Int);let g:=decide (r - c<i);let e:=decide (r - c<h);let f:=λ(u b:Int) (a:oz) ↦i<=u - b/\u - b<h/\(u - b).toNat<6/\(γj .i64 (bN [a.a0,a.a1,a.a2,a.a3,a.a4,a.a5] (u - b).toNat i)).as d;VL .i64 (r - c)/\(g=true->(γC .i64 1).as d)/\(g=false->(e=true->f r c p.bk)/\(e=false->VL .i64 (r - c - h)/\f (r - c) h p.bq))) (by kernel_rfl) ?_;simp only[vcs];grind[cD]
theorem qS:Holds Tryz.prog uW:=by
 refine bO (L:=[]) uW (λ_ _=> .apl 7) (by simp) ?_;rintro⟨p,r,x⟩ ⟨m,q,n,l,o⟩;simp only[cr] at m q n l o;refine NI (let l:=(0:Int);let m:=(6:Int);let n:=γC .i64;let o:=γC .i64 0;let q:=γj .i64;let b:=(↑p.bj.length:Int);let e:=decide (r - b<l);let c:=q (dA p r x);let h:=decide (r - b<m);let k:=[x.bw.a0,x.bw.a1,x.bw.a2,x.bw.a3,x.bw.a4,x.bw.a5];let a:=r - b - m;let j:=bN [p.bs.a0,p.bs.a1,p.bs.a2,p.bs.a3,p.bs.a4,p.bs.a5] a.toNat l;let i:=decide (j=l);let g:=decide (j=bN p.bj x.TM.toNat l);let d:=decide (x.TM=r);let f:=(e=true->(n 0).as c)/\(e=false->(h=true->l<=r - b/\r - b<m/\(r - b).toNat<6/\(q (bN k (r - b).toNat l)).as c)/\(h=false->VL .i64 a/\l<=a/\a<m/\a.toNat<6/\(i=true->(n 0).as c)/\(i=false->l<=a/\a<m/\a.toNat<6/\l<=x.TM/\x.TM<b/\x.TM.toNat<p.bj.length/\(g=true->(n 0).as c)/\(g=false->l<=a/\a<m/\a.toNat<6/\(q (bN k a.toNat l)).as c))));VL .i64 (r - b)/\(e=true->(d=true->(n 1).as c)/\(d=false->f))/\(e=false->f)) (by kernel_rfl) ?_;simp only[vcs];repeat' (first|refine γm ?_ ?_|intro _)
 all_goals first
  |trivial;|omega;|(simp only[dA];(repeat' split)<;>first|rfl|omega)
def L2:List NG:=[uW,uY,uX]
theorem I1:∀c∈L2,Holds Tryz.prog c:=by
 simp_all[L2,qS,qR,qQ]
def b_ (p:cj) (l:List bD) (r:Int):Int:=(l.map (dA p r)).sum
def ir (p:cj) (l:List bD):Bool:=(ω (p.bj.length+12)).all λr=>decide (b_ p l r<=cD p r)
def AW:NG:=⟨59,cj×List bD,.cons cX (.one (cQ .bt)),λa=>a.1.bj.length<=8/\a.2.length<=1000/\(∀x∈a.2,0<=x.TM/\x.TM<a.1.bj.length/\x.bw.ok=true),λa=> .sb (ir a.1 a.2)⟩
def Wo (a:cj×List bD):Nat->bK
 |3=> .inv Int (λi=>⟨[(1,.row .bt a.2),(2,.ptr 0 0 20),(5,.fn (.func 83) [] []),(11,.si .i64 (cr a.1)),(12,.si .i64 i)],[.cells a.1.ss 87 20 false]⟩) (λs=>iS s 12)
  (λi=>0<=i/\i<=cr a.1/\∀r:Nat,r<i->b_ a.1 a.2 r<=cD a.1 r) (λi=>(cr a.1 - i).toNat)
  λi=>λ
   |7=> .inv (Int×Int) (λx=>⟨[(1,.row .bt a.2),(2,.ptr 0 0 20),(5,.fn (.func 83) [] []),(6,.si .i64 i),(7,.si .i64 x.2),(11,.si .i64 (cr a.1)),(12,.si .i64 i),(15,.row .bt a.2),(16,.si .i64 a.2.length),(17,.si .i64 x.1)],[.cells a.1.ss 87 20 false]⟩)
    (λs=>(iS s 17,iS s 7))
    (λx=>0<=x.1/\x.1<=a.2.length/\x.2=b_ a.1 (a.2.take x.1.toNat) i) (λx=>(a.2.length - x.1).toNat) λ_ _=> .bz
   |_=> .bz
 |_=> .bz
theorem Fs {b:oz} (h:b.ok=true) (k:Nat):0<=bN [b.a0,b.a1,b.a2,b.a3,b.a4,b.a5] k 0/\bN [b.a0,b.a1,b.a2,b.a3,b.a4,b.a5] k 0<=4:=by
 grind[oz.gT,bN]
theorem nP {p:cj} {r:Int} {o:bD} (h:o.bw.ok=true):0<=dA p r o/\dA p r o<=4:=by
 unfold dA;have a:=Fs h (r - p.bj.length).toNat;have b:=Fs h (r - p.bj.length - 6).toNat;omega
theorem qu {p:cj} {r:Int}:∀{l:List bD},(∀x∈l,x.bw.ok=true)->0<=b_ p l r/\b_ p l r<=4*l.length
 |[],_=>by simp[b_];|x::l,h=>by
  have b:=@nP p r x (h x (by simp));have c:=@qu p r l λy a=>h y (by simp[a]);grind[b_]
theorem cB {a:Type} {l:List a} {i:Nat} {d:a} (h:i<l.length):bN l i d∈l:=by grind[bW]
theorem jj {a:Type} {l:List a} {i:Int} {d:a} (b:0<=i) (h:i<l.length):l.take (i+1).toNat=l.take i.toNat++[bN l i.toNat d]:=by
 rw[show(i+1).toNat=i.toNat+1 from by omega,bW (by omega),List.take_succ_eq_append_getElem (by omega)]
theorem Fq {p:cj} {r:Int} {l:List bD} {i:Int} {d:bD} (a:0<=i) (h:i<l.length):b_ p (l.take (i+1).toNat) r=b_ p (l.take i.toNat) r+dA p r (bN l i.toNat d):=by
 grind[jj,b_]
theorem nj {p:cj} {l:List bD}:ir p l=true↔∀r:Nat,r<cr p->b_ p l r<=cD p r:=by
 simp only[ir,cr,ψ,List.mem_range,decide_eq_true_eq];grind
theorem yX:Holds Tryz.prog AW:=by
 refine bO (L:=L2) AW Wo I1 ?_;rintro⟨p,l⟩ ⟨hp,hl,hb⟩;simp only at hp hl hb;refine NI (let a:=γj .i64;let b:=(0:Int);let c:=γa;let d:=γC .i64 0;let e:=γC .i64;let f:=VL .i64;let g:=γV 0 0 20;let h:=SV.fn (Fn.func 83) [] [];let i:=a (cr p);let j:=iZ.cells (cj.ss p) 87 20 false;let k:=(↑l.length:Int);let q:=a k;p.bj.length<=8/\((((c ew.bt l).as (c ew.bt l)/\g.as g/\h.as h/\i.as i/\(d).as (a 0)/\True)/\j.as j/\True)/\b<=b/\b<=cr p/\∀(r:Nat),(↑r:Int)<b->b_ p l (↑r:Int)<=cD p (↑r:Int))/\∀(x:Int),let u:=decide (x<cr p);let m:=x+(1:Int);let v:=a m;(b<=x/\x<=cr p/\∀(r:Nat),(↑r:Int)<x->b_ p l (↑r:Int)<=cD p (↑r:Int))->(u=true->((((c ew.bt l).as (c ew.bt l)/\g.as g/\h.as h/\(a x).as (a x)/\(d).as (a 0)/\i.as i/\(a x).as (a x)/\(c ew.bt l).as (c ew.bt l)/\(a (↑l.length:Int)).as q/\(d).as (a 0)/\True)/\j.as j/\True)/\b<=b/\b<=k/\b=b_ p [] x)/\∀(x_1:Int×Int),let s:=bN l x_1.1.toNat ew.bt.bu;let t:=x_1.2+dA p x s;let n:=x_1.1+(1:Int);let o:=a x;let w:=a t;let y:=a n;let z:=decide (cD p x<x_1.2);b<=x_1.1/\x_1.1<=k/\x_1.2=b_ p (Δ x_1.1.toNat l) x->(decide (x_1.1<k)=true->b<=x_1.1/\x_1.1<(↑l.length:Int)/\x_1.1.toNat<l.length/\(p.bj.length<=8/\b<=x/\x<cr p/\b<=s.TM/\s.TM<(↑p.bj.length:Int))/\f t/\f n/\(((c ew.bt l).as (c ew.bt l)/\g.as g/\h.as h/\o.as o/\w.as w/\i.as i/\o.as o/\(c ew.bt l).as (c ew.bt l)/\q.as q/\y.as y/\True)/\j.as j/\True)/\(b<=n/\n<=k/\t=b_ p (Δ n.toNat l) x)/\(k - n).toNat<(k - x_1.1).toNat)/\(decide (x_1.1<k)=false->(p.bj.length<=8/\b<=x/\x<cr p)/\(z=true->(δj false).as (γB (ir p l)))/\(z=false->f m/\(((c ew.bt l).as (c ew.bt l)/\g.as g/\h.as h/\i.as i/\v.as v/\True)/\j.as j/\True)/\(b<=m/\m<=cr p/\∀(r:Nat),(↑r:Int)<m->b_ p l (↑r:Int)<=cD p (↑r:Int))/\(cr p - m).toNat<(cr p - x).toNat)))/\(u=false->(δj true).as (γB (ir p l)))) (by kernel_rfl) ?_;simp only[vcs];have hn:cr p=p.bj.length+12:=rfl;have ho:∀x∈l,x.bw.ok=true:=λx hx=>(hb x hx).2.2;refine⟨hp,⟨by omega,by omega,λr hr=>by omega⟩,?_⟩;rintro i ⟨hi0,hi1,hi⟩;refine⟨λhlt=>⟨⟨by omega,by omega,by simp[b_]⟩,?_⟩,?_⟩
 ·rintro⟨j,s⟩ ⟨hj0,hj1,hs⟩;simp only at hj0 hj1 hs ⊢;have hsb:=@qu p i (l.take j.toNat) λx hx=>ho x (γn hx);have hlen:(l.take j.toNat).length<=l.length:=by simp;omega
  refine⟨λhjl=>?_,λhjl=>?_⟩
  ·have hm:=hb _ (cB (d:=ew.bt.bu) (show j.toNat<l.length by omega));have hc:=@nP p i _ hm.2.2;have hst:=@Fq p i l j ew.bt.bu hj0 hjl;refine⟨by omega,by omega,by omega,⟨hp,by omega,by omega,hm.1,hm.2.1⟩,by omega,by omega,⟨by omega,by omega,by omega⟩,by omega⟩
  ·have:j.toNat=l.length:=by omega
   rw[this,φ] at hs;refine⟨⟨hp,by omega,by omega⟩,λhgt=>?_,λhle=>⟨by omega,⟨by omega,by omega,λr hr=>?_⟩,by omega⟩⟩
   ·symm;rw[δN];intro hf;have:=nj.1 hf i.toNat (by omega);rw[show((i.toNat:Nat):Int)=i from by omega] at this;omega
   ·by_cases hr2:(r:Int)<i;·exact hi r hr2
    ·have:(r:Int)=i:=by omega
     rw[this];omega
 ·intro hge;symm;exact nj.2 λr hr=>hi r (by omega)
def L3:List NG:=[AW,Ft,uW,uY,uX]
theorem Ck:∀c∈L3,Holds Tryz.prog c:=by
 simp only[L3,εo,List.not_mem_nil,false_implies,implies_true,and_true];grind[yX,IP,qS,qR,qQ]
def gF (p:cj) (k:Nat):Prop:=
 let c:=bN [p.bs.a0,p.bs.a1,p.bs.a2,p.bs.a3,p.bs.a4,p.bs.a5] k 0;let o:=bN [p.bq.a0,p.bq.a1,p.bq.a2,p.bq.a3,p.bq.a4,p.bq.a5] k 0;let s:=bN [p.bk.a0,p.bk.a1,p.bk.a2,p.bk.a3,p.bk.a4,p.bk.a5] k 0;0<=c/\c<=4/\0<=o/\o<=s/\(c≠0\/o=s)
instance (p:cj) (k:Nat):Decidable (gF p k):=by unfold gF;infer_instance
def AU (p:cj):Bool:=(ω 6).all λk=>decide (gF p k)
theorem mz {p:cj} {k:Nat}:gF p k↔(0<=bN [p.bs.a0,p.bs.a1,p.bs.a2,p.bs.a3,p.bs.a4,p.bs.a5] k 0/\bN [p.bs.a0,p.bs.a1,p.bs.a2,p.bs.a3,p.bs.a4,p.bs.a5] k 0<=4/\0<=bN [p.bq.a0,p.bq.a1,p.bq.a2,p.bq.a3,p.bq.a4,p.bq.a5] k 0/\
  bN [p.bq.a0,p.bq.a1,p.bq.a2,p.bq.a3,p.bq.a4,p.bq.a5] k 0<=bN [p.bk.a0,p.bk.a1,p.bk.a2,p.bk.a3,p.bk.a4,p.bk.a5] k 0/\
  (bN [p.bs.a0,p.bs.a1,p.bs.a2,p.bs.a3,p.bs.a4,p.bs.a5] k 0≠0\/bN [p.bq.a0,p.bq.a1,p.bq.a2,p.bq.a3,p.bq.a4,p.bq.a5] k 0=bN [p.bk.a0,p.bk.a1,p.bk.a2,p.bk.a3,p.bk.a4,p.bk.a5] k 0)):=Iff.rfl
attribute [irreducible] gF
theorem xm {p:cj}:AU p=true↔∀k,k<6->gF p k:=by simp[AU]
def gS (p:cj):Int:=
 if p.bk.ok=false then 4
 else if AU p=false then 4
 else if 8<p.bj.length\/160<p.bi.length then 3
 else if ¬∀c∈p.bj,0<=c/\c<=4 then 4
 else 0
def Fp:NG:=⟨46,cj,.one cX,λp=>True,λp=> .si .i64 (gS p)⟩
def Wn (p:cj):Nat->bK
 |5=> .inv Int (λk=>⟨[(1,.ptr 0 0 20),(16,.si .i64 k)],[.cells p.ss 87 20 false]⟩) (λs=>iS s 16) (λk=>0<=k/\k<=6/\∀j:Nat,j<k->gF p j) (λk=>(6 - k).toNat) λ_ _=> .bz
 |14=> .inv Int (λk=>⟨[(76,.row (.i .i64) p.bj),(77,.si .i64 p.bj.length),(78,.si .i64 k)],[.cells p.ss 87 20 false]⟩) (λs=>iS s 78)
  (λk=>0<=k/\k<=p.bj.length/\∀c∈p.bj.take k.toNat,0<=c/\c<=4) (λk=>(p.bj.length - k).toNat) λ_ _=> .bz
 |_=> .bz
theorem NW {p:cj} (h:p.bk.ok=false):gS p=4:=by simp[gS,h]
theorem NV {p:cj} (h:p.bk.ok=true) {k:Nat} (b:k<6) (a:¬gF p k):gS p=4:=by
 grind[xm,gS]
theorem AT {p:cj} (h:p.bk.ok=true) (b:∀j:Nat,j<6->gF p j) (a:8<p.bj.length\/160<p.bi.length):gS p=3:=by
 grind[gS,xm]
theorem AS {p:cj} (h:p.bk.ok=true) (f:∀j:Nat,j<6->gF p j) (e:¬(8<p.bj.length\/160<p.bi.length)) {c:Int} (b:c∈p.bj) (a:¬(0<=c/\c<=4)):gS p=4:=by
 have:¬∀c∈p.bj,0<=c/\c<=4:=λd=>a (d c b);simp_all[gS]
theorem Fo {p:cj} (h:p.bk.ok=true) (b:∀j:Nat,j<6->gF p j) (d:¬(8<p.bj.length\/160<p.bi.length)) (a:∀c∈p.bj,0<=c/\c<=4):gS p=0:=by
 simp_all[gS,xm,if_neg]
theorem rI {p:cj} (h:gS p=0):p.bk.ok=true/\(∀j:Nat,j<6->gF p j)/\p.bj.length<=8/\p.bi.length<=160/\∀c∈p.bj,0<=c/\c<=4:=by
 unfold gS at h;split at h;·cases h
 ·split at h;·cases h
  ·split at h;all_goals simp_all[xm]
theorem NU {l:List Int} {i:Int} {P:Int->Prop} (d:0<=i) (h:i<l.length) (a:∀c∈l.take i.toNat,P c) (b:P (bN l i.toNat 0)):∀c∈l.take (i+1).toNat,P c:=by
 grind[jj]
theorem IS:Holds Tryz.prog Fp:=by
 refine bO (L:=L3) Fp Wn Ck ?_;intro p _;refine NI (let a:=γj .i64;let b:=(0:Int);let d:=γC .i64;let e:=(6:Int);let f:=(4:Int);let y:=if p.bk.ok=true then b else f;let g:=a (gS p);let q:=γV 0 0 20;let s:=d 0;let n:=γa (ew.i .i64) p.bj;let h:=iZ.cells [a p.bk.a0,a p.bk.a1,a p.bk.a2,a p.bk.a3,a p.bk.a4,a p.bk.a5,a p.bq.a0,a p.bq.a1,a p.bq.a2,a p.bq.a3,a p.bq.a4,a p.bq.a5,a p.bs.a0,a p.bs.a1,a p.bs.a2,a p.bs.a3,a p.bs.a4,a p.bs.a5,n,γa ew.bt p.bi] 87 20 false;let N:=[p.bs.a0,p.bs.a1,p.bs.a2,p.bs.a3,p.bs.a4,p.bs.a5];let O:=[p.bq.a0,p.bq.a1,p.bq.a2,p.bq.a3,p.bq.a4,p.bq.a5];let P:=[p.bk.a0,p.bk.a1,p.bk.a2,p.bk.a3,p.bk.a4,p.bk.a5];let t:=(↑p.bj.length:Int);let z:=decide ((8:Int)<t);let A:=decide ((160:Int)<(↑p.bi.length:Int));let k:=(↑p.bj.length:Int);let v:=a k;let B:=λ(u:Bool) ↦decide (y≠b)=u;True/\(B true->(a y).as g)/\(B false->(((q.as q/\s.as (a 0)/\True)/\h.as h/\True)/\b<=b/\b<=e/\∀(j:Nat),(↑j:Int)<b->gF p j)/\∀(x:Int),let l:=x+(1:Int);let C:=a l;let D:=decide (x<e);let w:=bN N x.toNat b;let E:=decide (w<b);let F:=decide (f<w);let o:=bN O x.toNat b;let G:=decide (o<b);let r:=bN P x.toNat b;let H:=decide (w=b);let I:=VL .i64 l/\((q.as q/\C.as C/\True)/\h.as h/\True)/\(b<=l/\l<=e/\∀(j:Nat),(↑j:Int)<l->gF p j)/\(e - l).toNat<(e - x).toNat;(b<=x/\x<=e/\∀(j:Nat),(↑j:Int)<x->gF p j)->(D=true->b<=x/\x<e/\x.toNat<6/\b<=x/\x<e/\x.toNat<6/\(E=true->(d 4).as g)/\(E=false->(F=true->(d 4).as g)/\(F=false->(G=true->(d 4).as g)/\(G=false->b<=x/\x<e/\x.toNat<6/\(decide (r<o)=true->(d 4).as g)/\(decide (r<o)=false->(H=true->b<=x/\x<e/\x.toNat<6/\(decide (o≠r)=true->(d 4).as g)/\(decide (o≠r)=false->I))/\(H=false->I))))))/\(D=false->(z=true->(d 3).as g)/\(z=false->(A=true->(d 3).as g)/\(A=false->(((n.as n/\(a t).as v/\s.as (a 0)/\True)/\h.as h/\True)/\b<=b/\b<=k/\∀(c:Int),c∈[]->b<=c/\c<=f)/\∀(x:Int),let J:=bN p.bj x.toNat b;let K:=decide (J<b);let L:=decide (f<J);let m:=x+(1:Int);let M:=a m;(b<=x/\x<=k/\∀(c:Int),c∈Δ x.toNat p.bj->b<=c/\c<=f)->(decide (x<k)=true->b<=x/\x<t/\x.toNat<p.bj.length/\(K=true->(d 4).as g)/\(K=false->(L=true->(d 4).as g)/\(L=false->VL .i64 m/\((n.as n/\v.as v/\M.as M/\True)/\h.as h/\True)/\(b<=m/\m<=k/\∀(c:Int),c∈Δ m.toNat p.bj->b<=c/\c<=f)/\(k - m).toNat<(k - x).toNat)))/\(decide (x<k)=false->s.as g)))))) (by kernel_rfl) ?_;simp only[vcs];by_cases hs:oz.ok p.bk=true
 ·simp only[hs,if_true];refine⟨λh=>absurd rfl h,λ_=>⟨⟨by omega,by omega,λj hj=>by omega⟩,?_⟩⟩;rintro k ⟨hk0,hk1,hk⟩;refine⟨λhlt=>?_,λhge=>?_⟩
  ·have bad:¬gF p k.toNat->(4:Int)=gS p:=λh=>(NV hs (by omega) h).symm;have nxt:gF p k.toNat->∀(j:Nat),(j:Int)<k+1->gF p j:=λh j hj=>by
    by_cases hj2:(j:Int)<k;·exact hk j hj2
    ·rw[show j=k.toNat from by omega];exact h
   repeat' (first|refine γm ?_ ?_|intro _)
   all_goals first
    |omega;|exact bad λhh=>by have h2:=mz.1 hh;omega;|exact nxt (mz.2 (by omega)) _ (by assumption)
  ·have hall:∀j:Nat,j<6->gF p j:=λj hj=>hk j (by omega);refine⟨λh=>(AT hs hall (.inl (by omega))).symm,λh8=>⟨λh=>(AT hs hall (.inr (by omega))).symm,λh160=>⟨⟨by omega,by omega,by simp⟩,?_⟩⟩⟩;rintro i ⟨hi0,hi1,hi⟩;refine⟨λhlt=>?_,λhge=>?_⟩
   ·have hm:=cB (d:=0) (show i.toNat<p.bj.length by omega);refine⟨by omega,by omega,by omega,λh=>(AS hs hall (by omega) hm (by omega)).symm,λh1=>⟨λh=>(AS hs hall (by omega) hm (by omega)).symm,λh2=>⟨by omega,⟨by omega,by omega,?_⟩,by omega⟩⟩⟩;exact NU hi0 hlt hi (by omega)
   ·rw[show i.toNat=p.bj.length from by omega,φ] at hi;exact(Fo hs hall (by omega) hi).symm
 ·have hs2:oz.ok p.bk=false:=by simpa using hs
  simp only[hs2,τ,if_false];exact⟨λ_=>(NW hs2).symm,λh=>absurd (by decide) h⟩
def jW (n:Int) (o:bD):Int:=
 if o.TM<0\/n<=o.TM then 6 else if o.value<1\/1000000<o.value then 4 else if o.bw.ok then 0 else 4
def Fm:NG:=⟨66,Int×bD,.cons (dZ .i64) (.one (dF .bt)),λp=>True,λp=> .si .i64 (jW p.1 p.2)⟩
theorem IN:Holds Tryz.prog Fm:=by
 refine bO (L:=L3) Fm (λp=>λ_=> .bz) Ck ?_;rintro⟨n,x⟩ _;refine NI (let f:=γC .i64;let e:=decide (x.TM<(0:Int));let a:=γj .i64 (jW n x);let c:=decide (n<=x.TM);let b:=decide (x.value<(1:Int));let d:=decide ((1000000:Int)<x.value);(e=true->(f 6).as a)/\(e=false->(c=true->(f 6).as a)/\(c=false->(b=true->(f 4).as a)/\(b=false->(d=true->(f 4).as a)/\(d=false->True/\(γj .i64 (if x.bw.ok=true then(0:Int) else(4:Int))).as a))))) (by kernel_rfl) ?_;simp only[vcs];grind[jW]
def jA (p:cj) (o:bD):Int:=
 if jW p.bj.length o≠0 then jW p.bj.length o else if o.bw=oz.zero then 4 else if ir p [o]=false then 14 else 0
def Fl:NG:=⟨47,cj×bD,.cons cX (.one (dF .bt)),λa=>a.1.bj.length<=8,λa=> .si .i64 (jA a.1 a.2)⟩
def L4:List NG:=Fm::L3
theorem I0:∀c∈L4,Holds Tryz.prog c:=by
 grind[L4,IN,Ck]
theorem AR {n:Int} {o:bD} (h:jW n o=0):0<=o.TM/\o.TM<n/\1<=o.value/\o.value<=1000000/\o.bw.ok=true:=by
 grind[jW]
theorem IQ:Holds Tryz.prog Fl:=by
 refine bO (L:=L4) Fl (λp=>λ_=> .bz) I0 ?_;rintro⟨p,x⟩ (i:p.bj.length<=8);refine NI (let f:=(0:Int);let g:=γC .i64;let c:=jW (↑p.bj.length:Int) x;let e:=decide (c≠f);let b:=γj .i64 (jA p x);let d:=λ(u:Bool) ↦(decide (x.bw.a0=f)&&(decide (x.bw.a1=f)&&(decide (x.bw.a2=f)&&(decide (x.bw.a3=f)&&(decide (x.bw.a4=f)&&(decide (x.bw.a5=f)&&true))))))=u;True/\(e=true->(γj .i64 c).as b)/\(e=false->(d true->(g 4).as b)/\(d false->(p.bj.length<=8/\1<=1000/\∀(a:bD),a∈[x]->f<=a.TM/\a.TM<(↑p.bj.length:Int)/\a.bw.ok=true)/\((!ajl p [x])=true->(g 14).as b)/\((!ajl p [x])=false->(g 0).as b)))) (by kernel_rfl) ?_;conv=>zeta
 have g:(decide (x.bw.a0=0)&&(decide (x.bw.a1=0)&&(decide (x.bw.a2=0)&&(decide (x.bw.a3=0)&&(decide (x.bw.a4=0)&&decide (x.bw.a5=0))))))=decide (x.bw=oz.zero):=by
  simp_all[AX,oz.zero]
 simp only[Bool.and_true,g];simp only[vcs];refine⟨λh=>by simp_all[jA],λh=>?_⟩;have f:jW p.bj.length x=0:=γe.1 h;have j:=AR f;grind[jA]
def L5:List NG:=Fp::Fl::L4
theorem Cj:∀c∈L5,Holds Tryz.prog c:=by
 grind[L5,IS,IQ,I0]
def bD.key (o:bD):mK:=⟨o.TM,o.bw⟩
def ic (p:cj) (a:List mK):List bD->Int
 |[]=>0
 |o::r=>if jA p o≠0 then jA p o else if o.key∈a then 7 else ic p (a++[o.key]) r
def nW (p:cj):Int:=if gS p≠0 then gS p else ic p [] p.bi
def mW:NG:=⟨28,cj,.one cX,λp=>True,λp=> .si .i64 (nW p)⟩
def Wm (p:cj):Nat->bK
 |7=> .inv Int (λi=>⟨[(3,.ptr 1 0 20),(5,.mp 2),(19,.row .bt p.bi),(20,.si .i64 p.bi.length),(21,.si .i64 i)],
   [.cells p.ss 27 20 false,.cells p.ss 87 20 false,.map .key .b true ((p.bi.take i.toNat).map λo=>(o.key,true)) ([0,0,0,0,0,0,0],true) true]⟩) (λs=>iS s 21)
  (λi=>0<=i/\i<=p.bi.length/\ic p [] p.bi=ic p ((p.bi.take i.toNat).map bD.key) (p.bi.drop i.toNat)) (λi=>(p.bi.length - i).toNat) λ_ _=> .bz
 |_=> .bz
theorem qt {a:Type} {l:List a} {i:Int} {d:a} (b:0<=i) (h:i<l.length):l.drop i.toNat=bN l i.toNat d::l.drop (i+1).toNat:=by
 rw[show(i+1).toNat=i.toNat+1 from by omega,bW (by omega),List.drop_eq_getElem_cons (by omega)]
theorem AQ (k:mK):∀(l:List bD),(mI .key .b k (l.map λo=>(o.key,true))).getD false=decide (k∈l.map bD.key)
 |[]=>by simp[mI];|o::l=>by
  have:=AQ k l;grind[mI]
theorem Wl {b sv:ew} {c:Bool} {es a:List (b.T×sv.T)} {d:List Nat×Bool} {pu:Bool} (h:es=a):(iZ.map b sv c es d pu).as (.map b sv c a d pu):=by rw[h];rfl
theorem Wk {k:mK} {l:List bD} (h:k∉l.map bD.key):qy .key .b k true (l.map λo=>(o.key,true))=(l.map λo=>(o.key,true))++[(k,true)]:=
 GE λp a=>by
  grind
theorem om:Holds Tryz.prog mW:=by
 refine bO (L:=L5) mW Wm Cj ?_;intro p _;refine NI (let a:=γj .i64;let c:=(0:Int);let f:=γa ew.bt p.bi;let q:=decide (gS p≠c);let g:=a (nW p);let h:=γV 1 0 20;let r:=(↑p.bi.length:Int);let d:=(↑p.bi.length:Int);let m:=a d;let s:=γC .i64 0;let n:=([0,0,0,0,0,0,0],true);let t:=iZ.map ew.key ew.b true [] n true;let j:=ic p [] p.bi;let E:=ew.bt.bu;let k:=λ(u:Nat) ↦let v:=iZ.cells [a p.bk.a0,a p.bk.a1,a p.bk.a2,a p.bk.a3,a p.bk.a4,a p.bk.a5,a p.bq.a0,a p.bq.a1,a p.bq.a2,a p.bq.a3,a p.bq.a4,a p.bq.a5,a p.bs.a0,a p.bs.a1,a p.bs.a2,a p.bs.a3,a p.bs.a4,a p.bs.a5,γa (ew.i .i64) p.bj,f] u 20 false;v.as v;True/\(q=true->(a (gS p)).as g)/\(q=false->(((h.as h/\(SV.mp 2).as (SV.mp 2)/\f.as f/\(a r).as m/\s.as (a 0)/\True)/\k 27/\k 87/\t.as t/\True)/\c<=c/\c<=d/\j=j)/\∀(x:Int),let w:=Δ x.toNat p.bi;let l:=bN p.bi x.toNat E;let y:=decide (jA p l≠c);let z:=mK.mk l.TM l.bw;let A:=γc (λ(o:bD) ↦(o.key,true)) w;let B:=(mI ew.key ew.b z A).getD false;let e:=x+(1:Int);let C:=a e;let D:=Δ e.toNat p.bi;c<=x/\x<=d/\j=ic p (γc bD.key w) (γ4 x.toNat p.bi)->(decide (x<d)=true->c<=x/\x<r/\x.toNat<p.bi.length/\p.bj.length<=8/\(y=true->(a (jA p l)).as g)/\(y=false->(B=true->(γC .i64 7).as g)/\(B=false->VL .i64 e/\((h.as h/\(SV.mp 2).as (SV.mp 2)/\f.as f/\m.as m/\C.as C/\True)/\k 27/\k 87/\(iZ.map ew.key ew.b true (qy ew.key ew.b z true A) n true).as (iZ.map ew.key ew.b true (γc (λ(o:bD) ↦(o.key,true)) D) n true)/\True)/\(c<=e/\e<=d/\j=ic p (γc bD.key D) (γ4 e.toNat p.bi))/\(d - e).toNat<(d - x).toNat)))/\(decide (x<d)=false->s.as g))) (by kernel_rfl) ?_;simp only[vcs];refine⟨λh=>by simp[nW,h],λh=>?_⟩;have hz:gS p=0:=γe.1 h;obtain⟨f1,f2,f3,f4,f5⟩:=rI hz;refine⟨⟨by omega,by omega⟩,?_⟩;rintro i ⟨hi0,hi1,hi⟩;refine⟨λhlt=>?_,λhge=>?_⟩
 ·rw[qt (d:=ew.bt.bu) hi0 hlt] at hi;generalize hx:bN p.bi i.toNat ew.bt.bu=x at hi ⊢;refine⟨by omega,by omega,by omega,f3,λhe=>?_,λhe=>?_⟩
  ·simp only[ic,if_pos he] at hi;simp[nW,hz,hi]
  ·simp only[ic,if_neg he] at hi;have hk:(⟨x.TM,x.bw⟩:mK)=x.key:=rfl;simp only[hk];refine⟨λhm=>?_,λhm=>⟨by omega,?_,⟨by omega,by omega,?_⟩,by omega⟩⟩
   ·have hm2:=of_decide_eq_true ((AQ _ _).symm.trans hm);rw[if_pos hm2] at hi;simp[nW,hz,hi]
   ·have hm2:=of_decide_eq_false ((AQ _ _).symm.trans hm);apply Wl;rw[Wk hm2,jj (d:=ew.bt.bu) hi0 hlt,hx];simp
   ·have hm2:=of_decide_eq_false ((AQ _ _).symm.trans hm);rw[if_neg hm2] at hi;rw[hi,jj (d:=ew.bt.bu) hi0 hlt,hx];simp
 ·rw[show i.toNat=p.bi.length from by omega,δE] at hi;simp only[ic] at hi;simp[nW,hz,hi]
def dC (l:List bD) (a:Int):List Int->Option (List bD)
 |[]=>some []
 |i::r=>if i<=a\/l.length<=i then none else(dC l i r).map (bN l i.toNat ew.bt.bu::·)
def fY (p:cj) (c:List Int):Bool:=(dC p.bi (-1) c).isSome
def cM (p:cj) (c:List Int):List bD:=(dC p.bi (-1) c).getD []
def AP:NG:=⟨58,cj×List Int,.cons cX (.one (cQ (.i .i64))),λa=>a.2.length<=9223372036854775807/\a.1.bi.length<=1000,λa=> .Gz [.row .bt (cM a.1 a.2),.sb (fY a.1 a.2)]⟩
def Wj (a:cj×List Int):Nat->bK
 |4=> .inv (Int×Int×List bD) (λx=>⟨[(2,.ptr 0 0 20),(6,.ow 1 x.2.2.length 8),(7,.si .i64 x.2.1),(10,.row (.i .i64) a.2),(11,.si .i64 a.2.length),(12,.si .i64 x.1)],
   [.cells a.1.ss 27 20 false,.row .bt x.2.2 65 true]⟩) (λs=>(iS s 12,iS s 7,oS .bt s 1))
  (λx=>0<=x.1/\x.1<=a.2.length/\(x.2.2.length<=x.2.1+1/\x.2.1<1000)/\ -1<=x.2.1/\dC a.1.bi (-1) a.2=(dC a.1.bi x.2.1 (a.2.drop x.1.toNat)).map (x.2.2++·)) (λx=>(a.2.length - x.1).toNat) λ_ _=> .bz
 |_=> .bz
theorem yY:Holds Tryz.prog AP:=by
 refine bO (L:=L5) AP Wj Cj ?_;rintro⟨p,c⟩ ⟨hc,hof⟩;have hc:c.length<=9223372036854775807:=hc;have hof:p.bi.length<=1000:=hof;refine NI (let a:=γj .i64;let b:=(0:Int);let d:=(-1:Int);let e:=γa;let f:=(1000:Int);let g:=δj false;let h:=SV.Gz;let j:=(1:Int);let q:=γV 0 0 20;let w:=SV.ow 1 0 8;let m:=ew.i .i64;let l:=(↑c.length:Int);let t:=a l;let r:=iZ.cells [a p.bk.a0,a p.bk.a1,a p.bk.a2,a p.bk.a3,a p.bk.a4,a p.bk.a5,a p.bq.a0,a p.bq.a1,a p.bq.a2,a p.bq.a3,a p.bq.a4,a p.bq.a5,a p.bs.a0,a p.bs.a1,a p.bs.a2,a p.bs.a3,a p.bs.a4,a p.bs.a5,e m p.bj,e ew.bt p.bi] 27 20 false;let y:=iZ.row ew.bt [] 65 true;let s:=dC p.bi d c;let u:=h [e ew.bt (cM p c),γB (fY p c)];let v:=(↑p.bi.length:Int);(((q.as q/\w.as w/\(γC .i64 d).as (a d)/\(e m c).as (e m c)/\(a (↑c.length:Int)).as t/\(γC .i64 0).as (a 0)/\True)/\r.as r/\y.as y/\True)/\b<=b/\b<=l/\(b<=b/\d<f)/\d<=d/\s=ζw (λx ↦(b,d,[]).2.2++x) s)/\∀(x:Int×Int×List bD),let k:=bN c x.1.toNat b;let z:=decide (k<=x.2.1);let A:=x.2.2.length+1;let n:=x.1+j;let o:=x.2.2++[bN p.bi k.toNat ew.bt.bu];let B:=a k;let C:=a n;let D:=iZ.row ew.bt o 65 true;b<=x.1/\x.1<=l/\((↑x.2.2.length:Int)<=x.2.1+j/\x.2.1<f)/\d<=x.2.1/\s=ζw (λx_1 ↦x.2.2++x_1) (dC p.bi x.2.1 (γ4 x.1.toNat c))->(decide (x.1<l)=true->b<=x.1/\x.1<(↑c.length:Int)/\x.1.toNat<c.length/\(z=true->(h [e m [],g]).as u)/\(z=false->(decide (v<=k)=true->(h [e m [],g]).as u)/\(decide (v<=k)=false->b<=k/\k<v/\k.toNat<p.bi.length/\x.2.2.length=x.2.2.length/\A*64<=140737488355328/\A<=1000000000000/\VL .i64 n/\((q.as q/\(SV.ow 1 o.length 8).as (SV.ow 1 o.length 8)/\B.as B/\(e m c).as (e m c)/\t.as t/\C.as C/\True)/\r.as r/\D.as D/\True)/\(b<=n/\n<=l/\((↑o.length:Int)<=k+j/\k<f)/\d<=k/\s=ζw (λx ↦(n,k,o).2.2++x) (dC p.bi k (γ4 n.toNat c)))/\(l - n).toNat<(l - x.1).toNat)))/\(decide (x.1<l)=false->x.2.2.length=x.2.2.length/\(h [e ew.bt x.2.2,δj true]).as u)) (by kernel_rfl) ?_;simp only[vcs];have hrow:∀{l:List bD},l=[]->(γa (.i .i64) []).as (γa .bt l):=by rintro l rfl;exact Fu.2 trivial
 refine⟨⟨by omega,by omega,by omega,by simp⟩,?_⟩;rintro⟨i,last,out⟩ ⟨hi0,hi1,hlen,hla,hi⟩;simp only at hi0 hi1 hlen hla hi ⊢;refine⟨λhlt=>?_,λhge=>?_⟩
 ·rw[qt (d:=0) hi0 hlt] at hi;generalize hx:bN c i.toNat 0=x at hi ⊢;simp only[dC] at hi;refine⟨by omega,by omega,by omega,λh1=>?_,λh1=>⟨λh2=>?_,λh2=>?_⟩⟩
  ·rw[if_pos (.inl h1)] at hi;exact⟨hrow (by simp[cM,hi]),by simp[fY,hi]⟩
  ·rw[if_pos (.inr (by omega))] at hi;exact⟨hrow (by simp[cM,hi]),by simp[fY,hi]⟩
  ·rw[if_neg (by omega)] at hi;simp only[List.length_append,List.length_singleton];refine⟨by omega,by omega,by omega,by omega,by omega,by omega,⟨by omega,by omega,by omega,by omega,?_⟩,by omega⟩;rw[hi,Option.map_map];congr 1;funext r;simp
 ·rw[show i.toNat=c.length from by omega,δE] at hi;simp only[dC,ν,List.append_nil] at hi;exact⟨by simp[cM,hi],by simp[fY,hi]⟩
def L6:List NG:=mW::AP::L5
theorem Qp:∀c∈L6,Holds Tryz.prog c:=by
 grind[L6,om,yY,Cj]
def bU (p:cj) (c:List Int):Int:=if nW p≠0 then nW p else if fY p c=false then 4 else if ir p (cM p c)=false then 14 else 0
def vR:NG:=⟨37,cj×List Int,.cons cX (.one (cQ (.i .i64))),λa=>a.2.length<=9223372036854775807,λa=> .si .i64 (bU a.1 a.2)⟩
theorem NT {p:cj}:∀{l:List bD} {a:List mK},ic p a l=0->∀x∈l,jA p x=0
 |[],_,_=>by simp;|o::r,a,h=>by
  simp only[ic] at h;split at h;·omega
  ·rename_i c;split at h;·cases h
   ·intro x b;rcases γq.1 b with rfl|b;·omega
    ·exact NT h x b
theorem rH {p:cj} (h:nW p=0):gS p=0/\∀x∈p.bi,jA p x=0:=by
 unfold nW at h;split at h;·omega
 ·rename_i a;exact⟨γe.1 a,NT h⟩
theorem AO {p:cj} {o:bD} (h:jA p o=0):jW p.bj.length o=0/\o.bw≠oz.zero/\ir p [o]=true:=by
 unfold jA at h;grind
theorem xl {l:List bD}:∀{c:List Int} {a:Int} {r:List bD}, -1<=a->dC l a c=some r->r.length+a+1<=l.length\/r=[]
 |[],a,r,_,h=>by grind[dC];|i::c,a,r,d,h=>by
  simp only[dC] at h;split at h;·cases h
  ·rename_i e;obtain⟨f,b,rfl⟩:=ε.1 h;have:=xl (by omega) b;grind
theorem AN {l:List bD}:∀{c:List Int} {a:Int} {r:List bD}, -1<=a->dC l a c=some r->∀x∈r,x∈l
 |[],a,r,_,h=>by grind[dC];|i::c,a,r,f,h=>by
  simp only[dC] at h;split at h;·cases h
  ·rename_i e;obtain⟨g,d,rfl⟩:=ε.1 h;intro x b;rcases γq.1 b with rfl|b;·grind[cB]
   ·exact AN (by omega) d x b
theorem qY:Holds Tryz.prog vR:=by
 refine bO (L:=L6) vR (λp=>λ_=> .bz) Qp ?_;rintro⟨p,c⟩ (n:c.length<=9223372036854775807);refine NI (let a:=γC .i64;let e:=decide (nW p≠(0:Int));let d:=γj .i64 (bU p c);let f:=!ajl p (cM p c);True/\(e=true->(γj .i64 (nW p)).as d)/\(e=false->(c.length<=9223372036854775807/\p.bi.length<=1000)/\((!ajc p c)=true->(a 4).as d)/\((!ajc p c)=false->(p.bj.length<=8/\(cM p c).length<=1000/\∀(x:bD),x∈cM p c->(0:Int)<=x.TM/\x.TM<(↑p.bj.length:Int)/\x.bw.ok=true)/\(f=true->(a 14).as d)/\(f=false->(a 0).as d)))) (by kernel_rfl) ?_;simp only[vcs];refine⟨λh=>by simp[bU,h],λh=>?_⟩;have g:nW p=0:=γe.1 h;obtain⟨m,j⟩:=rH g;obtain⟨s,o,l,q,t⟩:=rI m;refine⟨⟨n,by omega⟩,λa=>by grind[bU],λa=>⟨⟨l,?_,?_⟩,λk=>by grind[bU],λk=>by grind[bU]⟩⟩
 ·unfold fY at a;obtain⟨r,b⟩:=γs.1 a;have:=xl (by omega) b;grind[cM]
 ·unfold fY at a;obtain⟨r,b⟩:=γs.1 a;simp only[cM,b,Option.getD_some];intro x i;have u:=AR (AO (j x (AN (by omega) b x i))).1;simp_all
def oz.sub (a b:oz):oz:=⟨a.a0 - b.a0,a.a1 - b.a1,a.a2 - b.a2,a.a3 - b.a3,a.a4 - b.a4,a.a5 - b.a5⟩
def oz.meet (a b:oz):oz:=⟨min a.a0 b.a0,min a.a1 b.a1,min a.a2 b.a2,min a.a3 b.a3,min a.a4 b.a4,min a.a5 b.a5⟩
def oz.le (a b:oz):Bool:=decide (a.a0<=b.a0)&&decide (a.a1<=b.a1)&&decide (a.a2<=b.a2)&&decide (a.a3<=b.a3)&&decide (a.a4<=b.a4)&&decide (a.a5<=b.a5)
theorem oz.le_iff {a b:oz}:a.le b=true↔a.a0<=b.a0/\a.a1<=b.a1/\a.a2<=b.a2/\a.a3<=b.a3/\a.a4<=b.a4/\a.a5<=b.a5:=by
 simp[oz.le,and_assoc]
theorem Wi {a b:List SV}:(SV.agg a).as (.agg b)↔gL a=gL b:=by simp[εX,γF]
def Fk:NG:=⟨67,oz×oz,.cons (dF .bun) (.one (dF .bun)),λ_=>True,λa=> .agg (cU .bun (a.1.meet a.2))⟩
theorem IK:Holds Tryz.prog Fk:=by
 refine bO (L:=[]) Fk (λ_=>λ_=> .apl 7) (by simp) ?_;rintro⟨a,b⟩ _;refine NI (let c:=γj .i64;(SV.agg [c (min a.a0 b.a0),c (min a.a1 b.a1),c (min a.a2 b.a2),c (min a.a3 b.a3),c (min a.a4 b.a4),c (min a.a5 b.a5)]).as (SV.agg [c (a.meet b).a0,c (a.meet b).a1,c (a.meet b).a2,c (a.meet b).a3,c (a.meet b).a4,c (a.meet b).a5])) (by kernel_rfl) ?_;simp only[vcs,Wi,gL,γF,oz.meet,and_self]
def AM (p:cj) (m:Int):Int:=if nW p≠0 then nW p else if m<0\/2^p.bj.length<=m then 4 else 0
structure L8 where
 (l0 l1 l2 l3 l4 l5 l6 l7:List bD)
structure P7 where
 p:cj
 ls:L8
 es:List (tT×Int)
def wI (p:cj) (j:Int):List bD:=p.bi.filter λx=>decide (x.TM=j)
def P7.o (s:P7):TP:=
 [.cells [.si .i64 s.p.bk.a0,.si .i64 s.p.bk.a1,.si .i64 s.p.bk.a2,.si .i64 s.p.bk.a3,.si .i64 s.p.bk.a4,.si .i64 s.p.bk.a5,
  .si .i64 s.p.bq.a0,.si .i64 s.p.bq.a1,.si .i64 s.p.bq.a2,.si .i64 s.p.bq.a3,.si .i64 s.p.bq.a4,.si .i64 s.p.bq.a5,
  .si .i64 s.p.bs.a0,.si .i64 s.p.bs.a1,.si .i64 s.p.bs.a2,.si .i64 s.p.bs.a3,.si .i64 s.p.bs.a4,.si .i64 s.p.bs.a5,
  .row (.i .i64) s.p.bj,.row .bt s.p.bi,.row .bt s.ls.l0,.row .bt s.ls.l1,.row .bt s.ls.l2,.row .bt s.ls.l3,.row .bt s.ls.l4,.row .bt s.ls.l5,.row .bt s.ls.l6,.row .bt s.ls.l7,.mp 1] 114 29 false,
  .map .sit (.i .i64) true s.es ([0,0,0,0,0,0,0,0,0,0,0,0,0],true) true]
def oc (c w a j k:Int):Int:=if j<k/\(c=0\/c=a) then 0 else w
def kp (p:cj) (x:bD):Int:=bN p.bj x.TM.toNat 0
def Fj (p:cj) (x:bD) (k:Int):oz:=⟨oc p.bs.a0 x.bw.a0 (kp p x) 0 k,oc p.bs.a1 x.bw.a1 (kp p x) 1 k,oc p.bs.a2 x.bw.a2 (kp p x) 2 k,oc p.bs.a3 x.bw.a3 (kp p x) 3 k,oc p.bs.a4 x.bw.a4 (kp p x) 4 k,oc p.bs.a5 x.bw.a5 (kp p x) 5 k⟩
def dV (p:cj) (x:bD):oz:=Fj p x 6
def tT.b (a:tT):Prop:=a.left.ok=true/\a.bq.ok=true
end Go.Vi
namespace Go.Proofs.YtbnhiekmnpikhaaGreat
open Go.ChangeShapes Go.WideShapes Go.ChangeAt Go.RowKit Go.Vi
theorem Tryz.own:ownKnob Tryz.prog.godebug=none:=by kernel_rfl
theorem Tryz.laidOut:laidOutB Tryz.prog=true:=by kernel_rfl
theorem Xb:Reads Tryz.prog 3 (.i .i64):=WK Tryz.underlying3
theorem NS:Reads Tryz.prog 23 .bun:=WG Tryz.underlying23 Tryz.underlying3 (by kernel_rfl) (by kernel_rfl)
theorem Xa:Reads Tryz.prog 65 .bt:=WE Tryz.underlying65 (by kernel_rfl) rfl rfl rfl Tryz.underlying3 (by kernel_rfl) Tryz.underlying2 (by kernel_rfl) NS (by kernel_rfl) rfl
theorem W_ {H:Type} {enc:TypeId×Value->H} {w:World} {a:Nat->Bool} {c:Bool} {b:Nat} {cs:List Value} {x:DataW H×List MemPlace} (h:DataW.trod enc Tryz.prog w 0 a c b 27 cs=some x):
  ∃p:cj,Aq jL w [] [] (gL p.ss) cs:=
 WC Tryz.underlying27 (by kernel_rfl) rfl rfl rfl rfl rfl rfl NS (by kernel_rfl) Tryz.underlying24 Xb (by kernel_rfl) (by kernel_rfl) Tryz.underlying25 Xa (by kernel_rfl) (by kernel_rfl) h
theorem W8 {f:FuncId} {args:List SV} (h:jD Tryz.prog f (gL args) [] (γB true).g []) {W:World} {vs:List Value} (d:Aq jL W [] [] (gL args) vs):
  Calls Tryz.prog f vs.toArray W λe c=>e= .returned (.bool true)/\Below W.heap.size W c:=by
 refine(h jL W [] vs (yk W (λb a=>a.elim)) d).mono ?_;grind[γF,nA,NY]
end Go.Proofs.YtbnhiekmnpikhaaGreat
namespace Go.Vi
open Go.ChangeShapes Go.WideShapes Go.RowKit
def W7 (P:Program) (t:TypeId) (s:ew) (Q:s.T->Prop):Prop:=
 ∀(H:Type) (d:TypeId×Value->H) (w:World) (a:Nat->Bool) (c:Bool) (b:Nat) (e:List Value) (x:DataW H×List MemPlace),DataW.trod d P w 0 a c b t e=some x->∃y:s.T,Q y/\Aq jL w [] [] (dh s y) e
theorem AY.q {P:Program} {t:TypeId} {s:ew} (h:AY P t s):W7 P t s λ_=>True:=λH d w a c b e x f=>by
 obtain⟨y,g⟩:=h H d w a c b e x f;grind
end Go.Vi
namespace Go.Proofs.YtbnhiekmnpikhaaGreat
open Go.ChangeShapes Go.WideShapes Go.ChangeAt Go.RowKit Go.Vi
end Go.Proofs.YtbnhiekmnpikhaaGreat
namespace Go.Vi
open Go.Proofs.YtbnhiekmnpikhaaGreat.Ir
open Go.Proofs
def W6 (m f:Int):Int:=gf.asV .i64 (m / 2^f.toNat) 1
def W5 (m f:Int):Int:=gf.ays .i64 m (2^f.toNat)
def pS (m:Int):List Int:=[0,1,2,3,4,5,6,7].filter λf=>decide (W6 m f≠0)
def Good (p:cj):Prop:=p.bj.length<=8/\p.bi.length<=160/\p.bk.ok=true/\p.bq.ok=true/\∀x∈p.bi,0<=x.TM/\x.TM<p.bj.length/\x.bw.ok=true/\1<=x.value/\x.value<=1000000
def jz (p:cj):List Int->oz->oz->Int
 |[],_,_=>0
 |f::a,l,o=>(wI p f).foldl (λv x=>if x.bw.le l&&(dV p x).le o then max v (x.value+jz p a (l.sub x.bw) (o.sub (dV p x))) else v) (jz p a l o)
def ni (p:cj) (a:List Int) (l o:oz) (v:Int) (x:bD):Int:=if x.bw.le l&&(dV p x).le o then max v (x.value+jz p a (l.sub x.bw) (o.sub (dV p x))) else v
def W4 (p:cj) (a:tT):Int:=jz p (pS a.members) a.left a.bq
theorem cN {p:cj} (h:nW p=0):Good p:=by
 obtain⟨e,k⟩:=rH h;obtain⟨b,a,m,g,q⟩:=rI e;refine⟨m,g,b,?_,λx o=>?_⟩
 ·have d:=oz.gT.1 b;have f:=mz.1 (a 0 (by omega));have c:=mz.1 (a 1 (by omega));have i:=mz.1 (a 2 (by omega));have l:=mz.1 (a 3 (by omega));have n:=mz.1 (a 4 (by omega));have j:=mz.1 (a 5 (by omega));simp[bN] at f c i l n j;grind[oz.gT]
 ·have d:=AR (AO (k x o)).1;simp_all
theorem xY {n:Nat} (h:n<=8):(2:Int)^n<=256/\0<(2:Int)^n:=by
 have:n=0\/n=1\/n=2\/n=3\/n=4\/n=5\/n=6\/n=7\/n=8:=by omega
 grind
def pH (p:cj) (m:Int):Int:=if AM p m=0 then W4 p ⟨m,p.bk,p.bq⟩ else 0
def allM (p:cj):Int:=2^p.bj.length - 1
def Fi (p:cj) (s:Int) (i:Int):Int:=s+(bN p.bi i.toNat ew.bt.bu).value
def xX (p:cj) (c:List Int):Int:=c.foldl (Fi p) 0
def NR (p:cj) (c:List Int):Int:=if bU p c≠0 then bU p c else if xX p c<pH p (allM p) then 13 else 0
def cj.zero:cj:=⟨oz.zero,oz.zero,oz.zero,[],[]⟩
theorem NQ {l:List bD}:∀{c:List Int} {a:Int} {r:List bD}, -1<=a->dC l a c=some r->r.length=c.length/\∀i∈c,0<=i/\i<l.length
 |[],a,r,_,h=>by grind[dC];|i::c,a,r,e,h=>by
  simp only[dC] at h;split at h;·cases h
  ·rename_i d;obtain⟨f,b,rfl⟩:=ε.1 h;obtain⟨g,j⟩:=NQ (by omega) b;grind
def Cc:NG:=⟨40,oz,.one (dF .bun),λ_=>True,λb=> .sb b.ok⟩
theorem Qq:Holds Tryz.prog Cc:=by
 refine bO (L:=[]) Cc (λ_ _=> .apl 7) (by simp) ?_;intro b _;refine NI (let h:=δj false;let o:=γB;let p:=(0:Int);let q:=(4:Int);let i:=decide (b.a0<p);let d:=decide (q<b.a0);let k:=decide (b.a1<p);let e:=decide (q<b.a1);let l:=decide (b.a2<p);let f:=decide (q<b.a2);let j:=decide (b.a3<p);let m:=decide (q<b.a3);let n:=decide (b.a4<p);let g:=decide (q<b.a4);let a:=decide (b.a5<p);let c:=decide (q<b.a5);(i=true->(h).as (o (oz.ok b)))/\(i=false->(d=true->(h).as (o (oz.ok b)))/\(d=false->(k=true->(h).as (o (oz.ok b)))/\(k=false->(e=true->(h).as (o (oz.ok b)))/\(e=false->(l=true->(h).as (o (oz.ok b)))/\(l=false->(f=true->(h).as (o (oz.ok b)))/\(f=false->(j=true->(h).as (o (oz.ok b)))/\(j=false->(m=true->(h).as (o (oz.ok b)))/\(m=false->(n=true->(h).as (o (oz.ok b)))/\(n=false->(g=true->(h).as (o (oz.ok b)))/\(g=false->(a=true->(h).as (o (oz.ok b)))/\(a=false->(c=true->(h).as (o (oz.ok b)))/\(c=false->(δj true).as (o (oz.ok b))))))))))))))) (by kernel_rfl) ?_;conv=>zeta
 have o:=@oz.gT b;by_cases h:b.ok=true<;>simp_all
def oB (p:cj) (r:Int) (o:bD):Int:=
 if r - p.bj.length<0 then(if o.TM=r then 1 else 0)
 else if r - p.bj.length<6 then bN [o.bw.a0,o.bw.a1,o.bw.a2,o.bw.a3,o.bw.a4,o.bw.a5] (r - p.bj.length).toNat 0
 else if bN [p.bs.a0,p.bs.a1,p.bs.a2,p.bs.a3,p.bs.a4,p.bs.a5] (r - p.bj.length - 6).toNat 0=0\/p.bj.length<=o.TM\/bN [p.bs.a0,p.bs.a1,p.bs.a2,p.bs.a3,p.bs.a4,p.bs.a5] (r - p.bj.length - 6).toNat 0=bN p.bj o.TM.toNat 0 then 0
 else bN [o.bw.a0,o.bw.a1,o.bw.a2,o.bw.a3,o.bw.a4,o.bw.a5] (r - p.bj.length - 6).toNat 0
theorem W3 {p:cj} {r:Int} {o:bD} (h:o.TM<p.bj.length):oB p r o=dA p r o:=by
 unfold oB dA;omega
def Fh:NG:=⟨63,cj×Int×bD,.cons cX (.cons (dZ .i64) (.one (dF .bt))),λa=>a.1.bj.length<=8/\0<=a.2.1/\a.2.1<cr a.1/\0<=a.2.2.TM,
 λa=> .Gz [.si .i64 (oB a.1 a.2.1 a.2.2),.si .i64 (cD a.1 a.2.1)]⟩
theorem IT:Holds Tryz.prog Fh:=by
 refine bO (L:=[]) Fh (λ_ _=> .apl 7) (by simp) ?_;rintro⟨p,r,x⟩ ⟨D,z,B,A⟩;simp only[cr] at D z B A;refine NI (let h:=(0:Int);let j:=(6:Int);let v:=γj .i64;let w:=VL .i64;let y:=SV.Gz;let b:=(↑p.bj.length:Int);let a:=r - b - j;let o:=γC .i64 0;let k:=y [v (oB p r x),v (cD p r)];let q:=bN [p.bs.a0,p.bs.a1,p.bs.a2,p.bs.a3,p.bs.a4,p.bs.a5] a.toNat h;let t:=decide (x.TM=r);let e:=γC .i64 1;let g:=decide (r<b+j);let i:=decide (x.TM<b);let l:=h<=a/\a<j/\a.toNat<6/\(y [o,v (bN [p.bq.a0,p.bq.a1,p.bq.a2,p.bq.a3,p.bq.a4,p.bq.a5] a.toNat h)]).as k;let n:=λ(u f:Int) (c:oz) ↦let d:=(u - f).toNat;h<=u - f/\u - f<j/\d<6/\(y [v (bN [x.bw.a0,x.bw.a1,x.bw.a2,x.bw.a3,x.bw.a4,x.bw.a5] d h),v (bN [c.a0,c.a1,c.a2,c.a3,c.a4,c.a5] d h)]).as k;let m:=λ(u:Bool) ↦decide (q≠bN p.bj x.TM.toNat h)=u;let s:=λ(u:Bool) ↦decide (q≠h)=u;(decide (r<b)=true->(t=true->(y [e,e]).as k)/\(t=false->(y [o,e]).as k))/\(decide (r<b)=false->w (b+j)/\(g=true->w (r - b)/\h<=r - b/\r - b<j/\(r - b).toNat<6/\w (r - b)/\n r b p.bk)/\(g=false->w (r - b)/\w a/\h<=a/\a<j/\a.toNat<6/\(s true->(i=true->h<=a/\a<j/\a.toNat<6/\h<=x.TM/\x.TM<b/\x.TM.toNat<p.bj.length/\(m true->h<=a/\a<j/\a.toNat<6/\n (r - b) j p.bq)/\(m false->l))/\(i=false->l))/\(s false->l)))) (by kernel_rfl) ?_;simp only[vcs];have G:r - p.bj.length<0->cD p r=1:=λh=>by simp_all[cD]
 have E:¬r - p.bj.length<0->r - p.bj.length<6->cD p r=bN [p.bk.a0,p.bk.a1,p.bk.a2,p.bk.a3,p.bk.a4,p.bk.a5] (r - p.bj.length).toNat 0:=λh j=>by simp_all[cD,if_neg]
 have v:¬r - p.bj.length<0->¬r - p.bj.length<6->cD p r=bN [p.bq.a0,p.bq.a1,p.bq.a2,p.bq.a3,p.bq.a4,p.bq.a5] (r - p.bj.length - 6).toNat 0:=λh j=>by simp_all[cD,if_neg]
 have F:r - p.bj.length<0->oB p r x=if x.TM=r then 1 else 0:=λh=>by simp_all[oB]
 have H:¬r - p.bj.length<0->r - p.bj.length<6->oB p r x=bN [x.bw.a0,x.bw.a1,x.bw.a2,x.bw.a3,x.bw.a4,x.bw.a5] (r - p.bj.length).toNat 0:=λh j=>by simp_all[oB,if_neg]
 have y:=λ(h:¬r - p.bj.length<0) (j:¬r - p.bj.length<6)=>(show oB p r x=_ by unfold oB;rw[if_neg h,if_neg j]);refine⟨λw=>?_,λw=>⟨by omega,λC=>?_,λC=>?_⟩⟩;·grind
 ·grind
 ·rw[v (by omega) (by omega),y (by omega) (by omega)];omega
def M1:List NG:=[Fh,Cc]
theorem wH:∀c∈M1,Holds Tryz.prog c:=by
 simp_all[M1,IT,Qq]
def za:NG:=⟨41,cj×List bD,.cons cX (.one (cQ .bt)),λa=>a.1.bj.length<=8/\a.2.length<=1000/\(∀x∈a.2,0<=x.TM/\x.TM<a.1.bj.length/\x.bw.ok=true),λa=> .sb (ir a.1 a.2)⟩
def W1 (a:cj×List bD):Nat->bK
 |2=> .inv Int (λi=>⟨[(1,.row .bt a.2),(2,.ptr 0 0 20),(5,.si .i64 i)],[.cells a.1.ss 27 20 false]⟩) (λs=>iS s 5)
  (λi=>0<=i/\i<=cr a.1/\∀r:Nat,r<i->b_ a.1 a.2 r<=cD a.1 r) (λi=>(cr a.1 - i).toNat)
  λi=>λ
   |6=> .inv (Int×Int) (λx=>⟨[(1,.row .bt a.2),(2,.ptr 0 0 20),(5,.si .i64 i),(6,.si .i64 x.2),(7,.si .i64 x.1)],[.cells a.1.ss 27 20 false]⟩)
    (λs=>(iS s 7,iS s 6))
    (λx=>0<=x.1/\x.1<=a.2.length/\x.2=b_ a.1 (a.2.take x.1.toNat) i) (λx=>(a.2.length - x.1).toNat) λ_ _=> .bz
   |_=> .bz
 |_=> .bz
theorem I2:Holds Tryz.prog za:=by
 refine bO (L:=M1) za W1 wH ?_;rintro⟨p,l⟩ ⟨A,G,q⟩;simp only at A G q;refine NI (let d:=(0:Int);let i:=γj .i64;let j:=γa;let o:=γC .i64 0;let q:=VL .i64;let s:=γC .i64;let b:=γV 0 0 20;let c:=iZ.cells (cj.ss p) 27 20 false;let v:=(↑p.bj.length:Int)+(12:Int);let k:=(↑l.length:Int);((((j ew.bt l).as (j ew.bt l)/\b.as b/\(o).as (i 0)/\True)/\c.as c/\True)/\d<=d/\d<=cr p/\∀(r:Nat),(↑r:Int)<d->b_ p l (↑r:Int)<=cD p (↑r:Int))/\∀(x:Int),let f:=x+(1:Int);let E:=i f;(d<=x/\x<=cr p/\∀(r:Nat),(↑r:Int)<x->b_ p l (↑r:Int)<=cD p (↑r:Int))->q v/\(decide (x<v)=true->((((j ew.bt l).as (j ew.bt l)/\b.as b/\(i x).as (i x)/\(o).as (i 0)/\(o).as (i 0)/\True)/\c.as c/\True)/\d<=d/\d<=k/\d=b_ p [] x)/\∀(a:Int×Int),let D:=decide (a.1<(↑l.length:Int));let C:=bN l a.1.toNat ew.bt.bu;let w:=a.2+oB p x C;let e:=a.1+(1:Int);let n:=i x;let h:=i w;let m:=i e;let g:=decide (cD p x<a.2);d<=a.1/\a.1<=k/\a.2=b_ p (Δ a.1.toNat l) x->(D=true->d<=a.1/\a.1<(↑l.length:Int)/\a.1.toNat<l.length/\(p.bj.length<=8/\d<=x/\x<cr p/\d<=C.TM)/\q w/\q e/\(((j ew.bt l).as (j ew.bt l)/\b.as b/\n.as n/\h.as h/\m.as m/\True)/\c.as c/\True)/\(d<=e/\e<=k/\w=b_ p (Δ e.toNat l) x)/\(k - e).toNat<(k - a.1).toNat)/\(D=false->(p.bj.length<=8/\d<=x/\x<cr p/\d<=d)/\(g=true->(δj false).as (γB (ir p l)))/\(g=false->q f/\(((j ew.bt l).as (j ew.bt l)/\b.as b/\E.as E/\True)/\c.as c/\True)/\(d<=f/\f<=cr p/\∀(r:Nat),(↑r:Int)<f->b_ p l (↑r:Int)<=cD p (↑r:Int))/\(cr p - f).toNat<(cr p - x).toNat)))/\(decide (x<v)=false->(δj true).as (γB (ir p l)))) (by kernel_rfl) ?_;simp only[vcs];have T:cr p=p.bj.length+12:=rfl;have P:∀x∈l,x.bw.ok=true:=λx y=>(q x y).2.2;refine⟨⟨by omega,by omega,λr J=>by omega⟩,?_⟩;rintro i ⟨H,F,S⟩;refine⟨by omega,λN=>⟨⟨by omega,by omega,by simp[b_]⟩,?_⟩,?_⟩
 ·rintro⟨j,s⟩ ⟨u,o,B⟩;simp only at u o B ⊢;have Q:=@qu p i (l.take j.toNat) λx y=>P x (γn y);have z:(l.take j.toNat).length<=l.length:=by simp;omega
  refine⟨λt=>?_,λt=>?_⟩
  ·have O:=q _ (cB (d:=ew.bt.bu) (show j.toNat<l.length by omega));have R:=@nP p i _ O.2.2;grind[Fq,W3]
  ·have:j.toNat=l.length:=by omega
   rw[this,φ] at B;refine⟨⟨A,by omega,by omega,by omega⟩,λK=>?_,λM=>⟨by omega,⟨by omega,by omega,λr J=>?_⟩,by omega⟩⟩
   ·symm;rw[δN];intro I;have:=nj.1 I i.toNat (by omega);grind
   grind
 grind[nj]
def zc:NG:=⟨23,cj,.one cX,λp=>True,λp=> .si .i64 (nW p)⟩
def W0 (p:cj):Nat->bK
 |11=> .inv Int (λk=>⟨[(1,.ptr 0 0 20),(4,.si .i64 k)],[.cells p.ss 27 20 false]⟩) (λs=>iS s 4) (λk=>0<=k/\k<=p.bj.length/\∀c∈p.bj.take k.toNat,0<=c/\c<=4) (λk=>(p.bj.length - k).toNat) λ_ _=> .bz
 |16=> .inv Int (λi=>⟨[(1,.ptr 0 0 20),(5,.si .i64 i)],[.cells p.ss 27 20 false]⟩) (λs=>iS s 5)
  (λi=>0<=i/\i<=p.bi.length/\ic p [] p.bi=ic p ((p.bi.take i.toNat).map bD.key) (p.bi.drop i.toNat)) (λi=>(p.bi.length - i).toNat)
  λi=>λ
   |26=> .inv Int (λk=>⟨[(1,.ptr 0 0 20),(5,.si .i64 i),(6,.ptr 1 0 8),(7,.si .i64 k)],[.cells p.ss 27 20 false,.cells (cU .bt (bN p.bi i.toNat ew.bt.bu)) 65 8 false]⟩) (λs=>iS s 7)
    (λk=>0<=k/\k<=i/\∀j:Nat,j<k->(bN p.bi j ew.bt.bu).key≠(bN p.bi i.toNat ew.bt.bu).key) (λk=>(i - k).toNat) λ_ _=> .bz
   |_=> .bz
 |4=> .inv Int (λk=>⟨[(1,.ptr 0 0 20),(3,.si .i64 k)],[.cells p.ss 27 20 false]⟩) (λs=>iS s 3) (λk=>0<=k/\k<=6/\∀j:Nat,j<k->gF p j) (λk=>(6 - k).toNat) λ_ _=> .bz
 |_=> .bz
theorem WZ {b:oz}:(decide (b.a0=0)&&(decide (b.a1=0)&&(decide (b.a2=0)&&(decide (b.a3=0)&&(decide (b.a4=0)&&(decide (b.a5=0)&&true))))))=decide (b=oz.zero):=by
 simp_all[AX,oz.zero]
theorem WY {b c:oz}:(decide (b.a0=c.a0)&&(decide (b.a1=c.a1)&&(decide (b.a2=c.a2)&&(decide (b.a3=c.a3)&&(decide (b.a4=c.a4)&&(decide (b.a5=c.a5)&&true))))))=decide (b=c):=by
 grind[AX]
theorem WX {a:Type} {l:List a} {i:Int} {d x:a} (b:i<=l.length) (h:x∈l.take i.toNat):∃j:Nat,(j:Int)<i/\bN l j d=x:=by
 obtain⟨j,c,rfl⟩:=List.mem_iff_getElem.1 h;grind[bW]
theorem I4:Holds Tryz.prog zc:=by
 refine bO (L:=za::M1) zc W0 (by simp only[εo];exact⟨I2,wH⟩) ?_;intro p _;refine NI (let a:=(0:Int);let b:=γj .i64;let d:=γC .i64;let e:=(6:Int);let f:=(1:Int);let g:=(4:Int);let h:=VL .i64;let k:=b (nW p);let l:=γV 0 0 20;let z:=d 0;let m:=iZ.cells (cj.ss p) 27 20 false;let af:=[p.bs.a0,p.bs.a1,p.bs.a2,p.bs.a3,p.bs.a4,p.bs.a5];let ag:=[p.bq.a0,p.bq.a1,p.bq.a2,p.bq.a3,p.bq.a4,p.bq.a5];let ah:=[p.bk.a0,p.bk.a1,p.bk.a2,p.bk.a3,p.bk.a4,p.bk.a5];let J:=p.bj.length;let o:=(↑J:Int);let L:=decide ((8:Int)<o);let E:=p.bi.length;let r:=(↑E:Int);let M:=decide ((160:Int)<r);let s:=(↑p.bj.length:Int);let A:=(↑p.bi.length:Int);let F:=ic p [] p.bi;let B:=ew.bt.bu;let G:=γV 1 0 8;True/\((!p.bk.ok)=true->(d 4).as k)/\((!p.bk.ok)=false->(((l.as l/\z.as (b 0)/\True)/\m.as m/\True)/\a<=a/\a<=e/\∀(j:Nat),(↑j:Int)<a->gF p j)/\∀(x:Int),let t:=x+f;let N:=b t;let O:=decide (x<e);let K:=bN af x.toNat a;let P:=decide (K<a);let Q:=decide (g<K);let C:=bN ag x.toNat a;let R:=decide (C<a);let H:=bN ah x.toNat a;let S:=decide (K=a);let T:=h t/\((l.as l/\N.as N/\True)/\m.as m/\True)/\(a<=t/\t<=e/\∀(j:Nat),(↑j:Int)<t->gF p j)/\(e - t).toNat<(e - x).toNat;(a<=x/\x<=e/\∀(j:Nat),(↑j:Int)<x->gF p j)->(O=true->a<=x/\x<e/\x.toNat<6/\(P=true->(d 4).as k)/\(P=false->a<=x/\x<e/\x.toNat<6/\(Q=true->(d 4).as k)/\(Q=false->a<=x/\x<e/\x.toNat<6/\(R=true->(d 4).as k)/\(R=false->a<=x/\x<e/\x.toNat<6/\a<=x/\x<e/\x.toNat<6/\(decide (H<C)=true->(d 4).as k)/\(decide (H<C)=false->a<=x/\x<e/\x.toNat<6/\(S=true->a<=x/\x<e/\x.toNat<6/\a<=x/\x<e/\x.toNat<6/\(decide (C≠H)=true->(d 4).as k)/\(decide (C≠H)=false->T))/\(S=false->T))))))/\(O=false->(L=true->(d 3).as k)/\(L=false->(M=true->(d 3).as k)/\(M=false->(((l.as l/\z.as (b 0)/\True)/\m.as m/\True)/\a<=a/\a<=s/\∀(c:Int),c∈[]->a<=c/\c<=g)/\∀(x:Int),let U:=bN p.bj x.toNat a;let V:=decide (U<a);let W:=decide (g<U);let v:=x+f;let X:=b v;(a<=x/\x<=s/\∀(c:Int),c∈Δ x.toNat p.bj->a<=c/\c<=g)->(decide (x<o)=true->a<=x/\x<o/\x.toNat<J/\(V=true->(d 4).as k)/\(V=false->a<=x/\x<o/\x.toNat<J/\(W=true->(d 4).as k)/\(W=false->h v/\((l.as l/\X.as X/\True)/\m.as m/\True)/\(a<=v/\v<=s/\∀(c:Int),c∈Δ v.toNat p.bj->a<=c/\c<=g)/\(s - v).toNat<(s - x).toNat)))/\(decide (x<o)=false->(((l.as l/\z.as (b 0)/\True)/\m.as m/\True)/\a<=a/\a<=A/\F=F)/\∀(x:Int),let n:=bN p.bi x.toNat B;let i:=n.bw;let D:=n.TM;let Y:=decide (D<a);let Z:=decide (n.value<f);let a6:=decide ((1000000:Int)<n.value);let I:=iZ.cells [b D,b i.a0,b i.a1,b i.a2,b i.a3,b i.a4,b i.a5,b n.value] 65 8 false;let q:=x+f;let a7:=b q;let a8:=λ(u:Bool) ↦(decide (i.a0=a)&&(decide (i.a1=a)&&(decide (i.a2=a)&&(decide (i.a3=a)&&(decide (i.a4=a)&&(decide (i.a5=a)&&true))))))=u;a<=x/\x<=A/\F=ic p (γc bD.key (Δ x.toNat p.bi)) (γ4 x.toNat p.bi)->(decide (x<r)=true->a<=x/\x<r/\x.toNat<E/\(Y=true->(d 6).as k)/\(Y=false->(decide (o<=D)=true->(d 6).as k)/\(decide (o<=D)=false->(Z=true->(d 4).as k)/\(Z=false->(a6=true->(d 4).as k)/\(a6=false->True/\((!i.ok)=true->(d 4).as k)/\((!i.ok)=false->(a8 true->(d 4).as k)/\(a8 false->(p.bj.length<=8/\1<=1000/\∀(x:bD),x∈[n]->a<=x.TM/\x.TM<s/\x.bw.ok=true)/\((!ajl p [n])=true->(d 14).as k)/\((!ajl p [n])=false->(((l.as l/\(b x).as (b x)/\G.as G/\z.as (b 0)/\True)/\m.as m/\I.as I/\True)/\a<=a/\a<=x/\∀(j:Nat),(↑j:Int)<a->(bN p.bi j B).key≠n.key)/\∀(x_1:Int),let w:=x_1+f;let a9:=b x;let aa:=b w;let ab:=bN p.bi x_1.toNat B;let y:=ab.bw;let ac:=decide (ab.TM=D);let ad:=h w/\((l.as l/\a9.as a9/\G.as G/\aa.as aa/\True)/\m.as m/\I.as I/\True)/\(a<=w/\w<=x/\∀(j:Nat),(↑j:Int)<w->(bN p.bi j B).key≠n.key)/\(x - w).toNat<(x - x_1).toNat;let ae:=λ(u:Bool) ↦(decide (y.a0=i.a0)&&(decide (y.a1=i.a1)&&(decide (y.a2=i.a2)&&(decide (y.a3=i.a3)&&(decide (y.a4=i.a4)&&(decide (y.a5=i.a5)&&true))))))=u;(a<=x_1/\x_1<=x/\∀(j:Nat),(↑j:Int)<x_1->(bN p.bi j B).key≠n.key)->(decide (x_1<x)=true->a<=x_1/\x_1<r/\x_1.toNat<E/\(ac=true->a<=x_1/\x_1<r/\x_1.toNat<E/\(ae true->(d 7).as k)/\(ae false->ad))/\(ac=false->ad))/\(decide (x_1<x)=false->h q/\((l.as l/\a7.as a7/\True)/\m.as m/\True)/\(a<=q/\q<=A/\F=ic p (γc bD.key (Δ q.toNat p.bi)) (γ4 q.toNat p.bi))/\(A - q).toNat<(A - x).toNat)))))))))/\(decide (x<r)=false->z.as k))))))) (by kernel_rfl) ?_;simp only[WZ,WY];simp only[vcs];have e4:gS p=4->(4:Int)=nW p:=λh=>by simp[nW,h]
 have e3:gS p=3->(3:Int)=nW p:=λh=>by simp[nW,h]
 refine⟨λhs=>e4 (NW hs),λhs=>⟨⟨by omega,by omega,λj hj=>by omega⟩,?_⟩⟩;rintro k ⟨hk0,hk1,hk⟩;refine⟨λhlt=>?_,λhge=>?_⟩
 ·have bad:¬gF p k.toNat->(4:Int)=nW p:=λh=>e4 (NV hs (by omega) h);have nxt:gF p k.toNat->∀(j:Nat),(j:Int)<k+1->gF p j:=λh j hj=>by
   by_cases hj2:(j:Int)<k;·exact hk j hj2
   ·rw[show j=k.toNat from by omega];exact h
  repeat' (first|refine γm ?_ ?_|intro _)
  all_goals first
   |omega;|exact bad λhh=>by have h2:=mz.1 hh;omega;|exact nxt (mz.2 (by omega)) _ (by assumption)
 ·have hall:∀j:Nat,j<6->gF p j:=λj hj=>hk j (by omega);refine⟨λh=>e3 (AT hs hall (.inl (by omega))),λh8=>⟨λh=>e3 (AT hs hall (.inr (by omega))),λh160=>⟨⟨by omega,by omega,by simp⟩,?_⟩⟩⟩;rintro i ⟨hi0,hi1,hi⟩;refine⟨λhlt=>?_,λhge=>?_⟩
  ·have hm:=cB (d:=0) (show i.toNat<p.bj.length by omega);refine⟨by omega,by omega,by omega,λh=>e4 (AS hs hall (by omega) hm (by omega)),λh1=>⟨by omega,by omega,by omega,λh=>e4 (AS hs hall (by omega) hm (by omega)),λh2=>⟨by omega,⟨by omega,by omega,?_⟩,by omega⟩⟩⟩;exact NU hi0 hlt hi (by omega)
  ·rw[show i.toNat=p.bj.length from by omega,φ] at hi;have hz:gS p=0:=Fo hs hall (by omega) hi;have ce:nW p=ic p [] p.bi:=by simp[nW,hz]
   refine⟨⟨by omega,by omega⟩,?_⟩;rintro i ⟨hi0,hi1,hi⟩;refine⟨λhlt=>?_,λhge=>?_⟩
   ·rw[qt (d:=ew.bt.bu) hi0 hlt] at hi;generalize hx:bN p.bi i.toNat ew.bt.bu=x at hi ⊢;have oe:∀c:Int,c≠0->jA p x=c->c=nW p:=λc hc h=>by
     rw[ce,hi];simp only[ic,h];rw[if_pos hc]
    have se:∀c:Int,c≠0->jW p.bj.length x=c->c=nW p:=λc hc h=>oe c hc (by
     unfold jA;rw[if_pos (by omega),h]);refine⟨by omega,by omega,by omega,λh1=>?_,λh1=>⟨λh2=>?_,λh2=>⟨λh3=>?_,λh3=>⟨λh4=>?_,λh4=>⟨λh5=>?_,λh5=>⟨λh6=>?_,λh6=>?_⟩⟩⟩⟩⟩⟩;·exact se 6 (by decide) (by unfold jW;rw[if_pos (by omega)])
    ·exact se 6 (by decide) (by unfold jW;rw[if_pos (by omega)])
    ·exact se 4 (by decide) (by unfold jW;rw[if_neg (by omega),if_pos (by omega)])
    ·exact se 4 (by decide) (by unfold jW;rw[if_neg (by omega),if_pos (by omega)])
    ·exact se 4 (by decide) (by unfold jW;rw[if_neg (by omega),if_neg (by omega),h5];rfl)
    ·have hs0:jW p.bj.length x=0:=by unfold jW;rw[if_neg (by omega),if_neg (by omega),h5];rfl
     exact oe 4 (by decide) (by simp[jA,hs0,h6])
    ·have hs0:jW p.bj.length x=0:=by unfold jW;rw[if_neg (by omega),if_neg (by omega),h5];rfl
     refine⟨⟨by omega,by omega,λy hy=>?_⟩,λh7=>?_,λh7=>⟨⟨by omega,by omega,λj hj=>by omega⟩,?_⟩⟩
     ·rw[List.mem_singleton.1 hy];exact⟨by omega,by omega,h5⟩
     ·exact oe 14 (by decide) (by simp[jA,hs0,h6,h7])
     ·have ho0:jA p x=0:=by simp[jA,hs0,h6,h7]
      rintro k ⟨hk0,hk1,hk⟩;have hnx:(bN p.bi k.toNat ew.bt.bu).key≠x.key->∀j:Nat,(j:Int)<k+1->(bN p.bi j ew.bt.bu).key≠x.key:=λh j hj=>by
       by_cases hj2:(j:Int)<k;·exact hk j hj2
       ·rw[show j=k.toNat from by omega];exact h
      refine⟨λhlt2=>⟨by omega,by omega,by omega,λh8=>⟨by omega,by omega,by omega,λh9=>?_,λh9=>⟨by omega,⟨by omega,by omega,?_⟩,by omega⟩⟩,λh8=>⟨by omega,⟨by omega,by omega,?_⟩,by omega⟩⟩,λayY=>⟨by omega,⟨by omega,by omega,?_⟩,by omega⟩⟩
      ·have hk9:(bN p.bi k.toNat ew.bt.bu).key=x.key:=by
        show mK.mk _ _=mK.mk _ _;rw[h8,h9]
       have hmem:x.key∈(p.bi.take i.toNat).map bD.key:=by
        rw[<-hk9];refine Γ.2 ⟨_,?_,rfl⟩;rw[bW (by omega)];exact List.mem_take_iff_getElem.2 ⟨k.toNat,by omega,rfl⟩
       rw[ce,hi];simp only[ic,ho0,ne_eq,not_true,if_false,if_pos hmem]
      ·refine hnx λe=>h9 ?_;injection e
      ·refine hnx λe=>h8 ?_;injection e
      ·have hnm:x.key∉(p.bi.take i.toNat).map bD.key:=by
        intro hmem;obtain⟨o,ho,he⟩:=Γ.1 hmem;obtain⟨j,hj,rfl⟩:=WX (d:=ew.bt.bu) hi1 ho;exact hk j (by omega) he
       rw[hi,jj (d:=ew.bt.bu) hi0 hlt,hx];simp only[ic,ho0,ne_eq,not_true,if_false,if_neg hnm,List.map_append,ξ,List.map_nil]
   ·rw[show i.toNat=p.bi.length from by omega,δE] at hi;rw[ce,hi];rfl
end Go.Vi
