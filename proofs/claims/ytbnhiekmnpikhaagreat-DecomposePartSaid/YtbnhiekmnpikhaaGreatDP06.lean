/-
  The auction's problems and allocations, and how they lie in values.
  Conditions: none.
-/
import Derived.Test.YtbnhiekmnpikhaaGreatDP05
import Derived.Test.YtbnhiekmnpikhaaGreatDP01
import Derived.KernelRfl
import Derived.Deep.Slices
import Derived.OpenShut
import Derived.ProofKit
import Derived.Test.YtbnhiekmnpikhaaGreatRows
set_option maxRecDepth 100000
set_option maxHeartbeats 4000000
set_option linter.all false
open Bool renaming false_eq_true->χ,not_eq_false->ζn,and_eq_true->θ
open Classical renaming choose->δP,choose_spec->εc,not_not->γg
open Go.Deep renaming open_slice->ζS,choose_lt->ζW
open Go.Vi.AV renaming ren->δu
open Go.Vi.AV.sc renaming injEq->δb
open Go.Vi.AV.sl renaming injEq->δ3
open Go.Vi.SV renaming g->γB,row->Ψ,si->γh,same->εV,il->γx,sb->γv,bl->δc,ptr->γO
open List renaming all_eq_true->φ,take->Δ,length_range->εL,range->ω,length_map->Θ,getElem?_eq_getElem->μ,take_length->ψ,map->γb,drop->γ2,drop_length->δz,mem_cons->γz
open List.cons renaming injEq->Γ
open Nat renaming beq->δq
open Option renaming map_eq_some_iff->ε,map_some->ν,bind_some->δM,map->ζp,isSome_iff_exists->γp
open Option.some renaming injEq->γ
open Prod.mk renaming injEq->ι
namespace Go.Vi
structure bn where
 supply:bB
 opn:bB
 cls:bB
 classes:List Int
 offers:List Off
structure Alloc where
 chosen:List Int
 value:Int
def bn.ss (p:bn):List SV:=
 [.si .i64 p.supply.a0,.si .i64 p.supply.a1,.si .i64 p.supply.a2,.si .i64 p.supply.a3,.si .i64 p.supply.a4,.si .i64 p.supply.a5,
  .si .i64 p.opn.a0,.si .i64 p.opn.a1,.si .i64 p.opn.a2,.si .i64 p.opn.a3,.si .i64 p.opn.a4,.si .i64 p.opn.a5,
  .si .i64 p.cls.a0,.si .i64 p.cls.a1,.si .i64 p.cls.a2,.si .i64 p.cls.a3,.si .i64 p.cls.a4,.si .i64 p.cls.a5,
  .row (.i .i64) p.classes,.row .off p.offers]
def vM:List SV->Option bn
 |[g,v,b,q,d,x,a,n,w,h,j,l,t,p,r,u,e,m,k,f]=>match jT .ff [g,v,b,q,d,x],jT .ff [a,n,w,h,j,l],jT .ff [t,p,r,u,e,m],jG (.i .i64) k,jG .off f with
  |some s,some o,some c,some k,some f=>some ⟨s,o,c,k,f⟩
  |_,_,_,_,_=>none
 |_=>none
theorem zS {cs:List SV} {p:bn} (h:vM cs=some p):gL cs=gL p.ss:=by
 unfold vM at h;split at h
 ·split at h
  ·rename_i s o c k f a i b e d;simp only[γ] at h;subst h;have a:=nU a;have i:=nU i;have b:=nU b;have e:=oZ e;have d:=oZ d;simp_all[dO,dx,bn.ss,gL,γB,iv]
  ·cases h
 ·cases h
def dK:qs bn where
 put p:=.agg p.ss;dec
  | .agg c=>vM c
  |_=>none;ok v a h:=by
  grind[γB,zS]
 inj a b h:=by
  obtain⟨⟨a0,a1,a2,a3,M,o⟩,⟨A,l,e,b3,I,b5⟩,⟨H,V,Y,J,x,j⟩,k,f⟩:=a;obtain⟨⟨d,t,d2,Z,d4,X⟩,⟨N,R,u,y,S,e5⟩,⟨f0,E,f2,f3,O,q⟩,W,B⟩:=b;simp only[γB,bn.ss,gL,AV.agg.injEq,Γ,and_true,δb,Value.int.injEq,true_and,δ3] at h;obtain⟨h0,h1,F,P,Q,z,C,L,g2,U,G,T,w,K,k2,r,D,k5,m,n⟩:=h;have s:=lz (.i .i64) m.1 m.2;have n2:=lz .off n.1 n.2;simp_all
def nu:qs Alloc where
 put a:=.agg [.row (.i .i64) a.chosen,.si .i64 a.value];dec
  | .agg [r,v]=>match jG (.i .i64) r,v.int .i64 with
   |some c,some v=>some ⟨c,v⟩
   |_,_=>none
  |_=>none;ok v a h:=by
  grind[γB,gL,oZ,iN]
 inj a b h:=by
  obtain⟨c,v⟩:=a;obtain⟨e,f⟩:=b;simp only[γB,gL,AV.agg.injEq,Γ,and_true,δb,Value.int.injEq,true_and,δ3] at h;have d:=lz (.i .i64) h.1.1 h.1.2;rw[d,h.2]
def rk:TypeId->Option bp
 |2=>some (.i .i64)
 |3=>some (.i .i64)
 |24=>some (.bF (.i .i64))
 |172=>some (.i .u32)
 |177=>some (.pair .b (.pair (.bF (.i .u32)) (.bF (.i .u32))))
 |40=>some (.pair (.bF (.i .i64)) (.i .i64))
 |106=>some (.bF (.pair .b (.pair (.bF (.i .u32)) (.bF (.i .u32)))))
 |249=>some (.pair (.bF (.pair .b (.pair (.bF (.i .u32)) (.bF (.i .u32))))) (.pair .b (.pair (.bF (.i .u32)) (.bF (.i .u32)))))
 |4=>some .b
 |108=>some (.pair (.i .i64) (.pair (.i .i64) (.pair (.i .i64) (.pair (.i .i64) (.bF (.pair .b (.pair (.bF (.i .u32)) (.bF (.i .u32)))))))))
 |65=>some .off
 |23=>some .ff
 |159=>some (.pair (.i .i64) .b)
 |51=>some (.pair (.bF (.i .i64)) (.pair (.i .i64) (.bF (.pair (.i .i64) (.pair (.i .i64) (.pair (.i .i64) (.pair (.i .i64) (.bF (.pair .b (.pair (.bF (.i .u32)) (.bF (.i .u32))))))))))))
 |_=>none
def rl:List Nat×Bool->Option (bp×bp)
 |([0],false)=>some (.i .i64,.i .i64)
 |([0,0,0,0,0,0,0],true)=>some (.key,.b)
 |([0,0,0,0,0,0,0,0,0,0,0,0,0],true)=>some (.sit,.i .i64)
 |_=>none
mutual
def SV.ren (m:Nat->Option Nat):SV->Option SV
 | .agg h=>(rm m h).map .agg
 | .bI h=>(rm m h).map .bI
 | .ptr g j q=>(m g).map λi=> .ptr i j q
 | .ap g a b c d e=>(m g).map λi=> .ap i a b c d e
 | .rp g a b c d=>(m g).map λi=> .rp i a b c d
 | .ow g n w=>(m g).map λi=> .ow i n w
 | .os g a b c d=>(m g).map λi=> .os i a b c d
 | .oc g a b c d=>(m g).map λi=> .oc i a b c d
 | .mp g=>(m g).map .mp
 | .fn f a b=>match rm m a,rm m b with
  |some r,some u=>some (.fn f r u)
  |_,_=>none
 | .ud=>some .ud
 | .sc v=>some (.sc v)
 | .il k n=>some (.il k n)
 | .si k n=>some (.si k n)
 | .bl b=>some (.bl b)
 | .sb b=>some (.sb b)
 | .row s l=>some (.row s l)
 | .ep s l i o=>some (.ep s l i o)
 | .ia t h=>some (.ia t h)
 | .ite c a b=>some (.ite c a b)
def rm (m:Nat->Option Nat):List SV->Option (List SV)
 |[]=>some []
 |c::h=>match c.ren m,rm m h with
  |some x,some p=>some (x::p)
  |_,_=>none
end
mutual
theorem Hy {m:Nat->Option Nat}:∀{v d:SV},v.ren m=some d->v.g.ren m=some d.g
 | .agg p,d,h=>by
  simp only[SV.ren] at h;obtain⟨k,e,rfl⟩:=ε.1 h;simp only[γB,δu,vN e,ν];| .bI p,d,h=>by
  simp only[SV.ren] at h;obtain⟨k,e,rfl⟩:=ε.1 h;simp only[γB,δu,vN e,ν];| .fn f a b,d,h=>by
  simp only[SV.ren] at h;split at h
  ·rename_i r q e o;simp only[γ] at h;subst h;simp only[γB,δu,vN e,vN o]
  ·cases h;| .ptr j _ _,d,h| .ap j _ _ _ _ _,d,h| .rp j _ _ _ _,d,h| .ow j _ _,d,h| .os j _ _ _ _,d,h| .oc j _ _ _ _,d,h| .mp j,d,h=>by
  simp only[SV.ren] at h;obtain⟨i,e,rfl⟩:=ε.1 h;simp only[γB,δu,e,ν];| .ud,d,h| .sc _,d,h| .il _ _,d,h| .si _ _,d,h| .bl _,d,h| .sb _,d,h| .row _ _,d,h| .ep _ _ _ _,d,h| .ia _ _,d,h| .ite _ _ _,d,h=>by
  simp only[SV.ren,γ] at h;subst h;simp only[γB,δu]
theorem vN {m:Nat->Option Nat}:∀{l n:List SV},rm m l=some n->iL m (gL l)=some (gL n)
 |[],n,h=>by grind[rm,gL,iL];|c::p,n,h=>by
  simp only[rm] at h;split at h
  ·rename_i s k e o;simp only[γ] at h;subst h;simp only[gL,iL,Hy e,vN o]
  ·cases h
end
def bq.ren (m:Nat->Option Nat):bq->Option bq
 | .cells d e c a=>if a then some (.cells d e c a) else(rm m d).map λb=> .cells b e c a
 | .dead=>some .dead
 | .row s l e a=>some (.row s l e a)
 | .map j f g h i a=>some (.map j f g h i a)
 | .oW .. =>none
theorem PK {m:Nat->Option Nat}:∀{l:List AV},(∀a∈l,Plain a)->iL m l=some l
 |[],_=>by simp[iL];|a::e,h=>by
  have d:=PK (m:=m) (l:=e) λb c=>h b (by simp[c]);rcases h a (by simp) with⟨v,rfl,_⟩|⟨n,f,rfl,_⟩<;>simp only[iL,δu,d]
theorem PL {m:Nat->Option Nat}:∀{l:List (Value×AV)},(∀a∈l,∃v,a.2= .sc v)->oP m l=some l
 |[],_=>by simp[oP];|(k,c)::e,h=>by
  obtain⟨v,b⟩:=h (k,c) (by simp);simp only at b;subst b;simp only[oP,δu,PL (l:=e) λa d=>h a (by simp[d])]
theorem Hz {b sv:bp} {d:Bool} {es:List (b.T×sv.T)}:∀a∈es.map (λp=>(pH b d p.1,nh sv p.2)),∃v,a.2= .sc v:=λa c=>by
 obtain⟨q,_,rfl⟩:=List.mem_map.1 c;exact⟨_,rfl⟩
theorem PN {m:Nat->Option Nat} {x y:bq} (h:x.ren m=some y):x.g.ren m=some y.g:=by
 cases x with
 |dead=>simp[bq.ren] at h;subst h;rfl;|cells o e k a=>
  simp only[bq.ren] at h;cases a with
  |true=>simp only[if_true,γ] at h;subst h;simp only[bq.g,bR.ren,if_true];|false=>
   simp only[χ,if_false] at h;obtain⟨b,c,rfl⟩:=ε.1 h;simp_all[bq.g,bR.ren,vN]
 |oW s l e t=>grind[bq.ren];|row s l e a=>
  grind[bq.ren,bq.g,bR.ren,PK,ni];|map f n i j d a=>
  simp only[bq.ren,γ] at h;subst h;simp only[bq.g,bR.ren,PL Hz,ν];grind
def zT (m:Nat->Option Nat):bZ->Option bZ
 |[]=>some []
 |x::r=>match x.ren m,zT m r with
  |some y,some l=>some (y::l)
  |_,_=>none
theorem PO {m:Nat->Option Nat}:∀{o o':bZ},zT m o=some o'->sd m (gO o)=some (gO o')
 |[],o',h=>by simp[zT] at h;subst h;rfl;|x::r,o',h=>by
  simp only[zT] at h;split at h
  ·rename_i y l b a;simp only[γ] at h;subst h;have:=PO a;grind[gO,sd,PN]
  ·cases h
def xF (o:bZ) (a:List Nat):List Nat->Option bZ
 |[]=>some []
 |i::r=>match o[i]?,xF o a r with
  |some x,some l=>match x.ren (λj=>idxOf a j) with
   |some y=>some (y::l)
   |none=>none
  |_,_=>none
theorem HA {o:bZ} {a:List Nat}:∀{r:List Nat} {o':bZ},xF o a r=some o'->kW (gO o) a r=some (gO o')
 |[],o',h=>by simp[xF] at h;subst h;rfl;|i::r,o',h=>by
  simp only[xF] at h;split at h
  ·rename_i x l d b;split at h
   ·rename_i y c;simp only[γ] at h;subst h;simp only[kW,fQ d,HA b,PN c,ν];rfl
   ·cases h
  ·cases h
def xG (o:bZ):List Nat->bZ->bZ
 |[],_=>o
 |_,[]=>o
 |i::r,x::l=>xG (o.set i x) r l
theorem PQ:∀{a:List Nat} {o l:bZ},gO (xG o a l)=lL (gO o) a (gO l)
 |[],o,l=>by simp[xG,lL];|_::_,o,[]=>by simp[xG,lL,gO];|i::r,o,x::l=>by
  simp only[xG];rw[PQ,qp];simp[gO,lL]
def pL (o:bZ):Nat->List SV->List Nat->List Nat
 |0,_,c=>c
 |_,[],c=>c
 |d+1,v::i,c=>
  let f (e:Nat) (c:List Nat):List Nat:=
   if c.contains e then c else
   match o[e]? with
   |some (.cells g _ _ h)=>if h then c++[e] else pL o d g (c++[e])
   |_=>c++[e];pL o d i (match v with
   | .agg g| .bI g=>pL o d g c
   | .ptr e _ _| .ap e _ _ _ _ _| .rp e _ _ _ _| .ow e _ _| .os e _ _ _ _| .oc e _ _ _ _| .mp e=>f e c
   | .fn _ a b=>pL o d b (pL o d a c)
   |_=>c)
theorem zU {o:Store}:∀{d:Nat} {l:List AV} {acc:List Nat},(∀a∈l,Plain a)->cQ o d l acc=acc
 |0,_,_,_=>by grind[cQ];|d+1,[],_,_=>by grind[cQ];|d+1,a::l,acc,h=>by
  have e:=zU (o:=o) (d:=d) (l:=l) (acc:=acc) λb c=>h b (by simp[c]);rcases h a (by simp) with⟨v,rfl,_⟩|⟨n,f,rfl,_⟩<;>(grind[cQ])
theorem PR {o:Store}:∀{d:Nat} {l:List AV} {acc:List Nat},(∀a∈l,∃v,a= .sc v)->cQ o d l acc=acc
 |0,_,_,_=>by simp[cQ];|d+1,[],_,_=>by simp[cQ];|d+1,a::l,acc,h=>by
  obtain⟨v,rfl⟩:=h a (by simp);simp only[cQ];exact PR λa b=>h a (by simp[b])
theorem ZE {l:List (Value×AV)} (h:∀a∈l,∃v,a.2= .sc v):∀a∈l.map (·.2),∃v,a= .sc v:=λa b=>by
 grind
def bq.C5:bq->Bool
 | .oW .. =>false
 |_=>true
theorem PS {o:bZ} (h:o.all bq.C5=true):∀{d:Nat} {vs:List SV} {acc:List Nat},cQ (gO o) d (gL vs) acc=pL o d vs acc:=by
 intro d;induction d with
 |zero=>grind[cQ,pL];|succ d k=>
  intro vs acc;cases vs with
  |nil=>simp[gL,cQ,pL];|cons v vs=>
   have m:∀(b:Nat) (acc:List Nat),(if acc.contains b then acc else
     match(gO o)[b]? with
     |some (.cells f _ _ c)=>if c then acc++[b] else cQ (gO o) d f (acc++[b])
     |some (.map j _ c)=>if c then acc++[b] else cQ (gO o) d (j.map (·.2)) (acc++[b])
     |_=>acc++[b])=(if acc.contains b then acc else
     match o[b]? with
     |some (.cells f _ _ c)=>if c then acc++[b] else pL o d f (acc++[b])
     |_=>acc++[b]):=by
    intro b acc;rw[GY];cases i:o[b]? with
    |none=>rfl;|some x=>
     cases x with
     |oW s l e t=>
      have:=φ.1 h _ (List.mem_of_getElem? i);grind[bq.C5];|dead=>rfl;|cells f e r c=>grind[bq.g];|row s l e c=>simp only[ν,bq.g,zU (λa n=>ni n),ite_self];|map p u q j w c=>simp only[ν,bq.g,PR (ZE Hz),ite_self]
   simp only[gL,cQ,pL];rw[k];congr 1;cases v<;>simp only[γB,k]<;>exact m _ _
def HB (C:FuncId->List SV->bZ->(SV->bZ->Prop)->Prop) (f:FuncId) (args:List SV) (o:bZ) (K:SV->bZ->Prop):Prop:=
 if o.all bq.C5=false then False else
 let a:=pL o fN args [];match rm (λj=>idxOf a j) args,xF o a a with
 |some c,some d=>C f c d λr b=>
   if b.length<a.length\/iM.pz a=false then False else
   match r.ren (oQ a o.length),zT (oQ a o.length) b with
   |some g,some e=>K g (xG o a (e.take a.length)++e.drop a.length)
   |_,_=>False
 |_,_=>False
theorem ZF {call:df} {C:FuncId->List SV->bZ->(SV->bZ->Prop)->Prop}
  (n:∀f args o K,C f args o K->∃(r:SV) (o':bZ),call f (gL args) (gO o) true=some (r.g,gO o')/\K r o')
  {f:FuncId} {args:List SV} {o:bZ} {K:SV->bZ->Prop} (h:HB C f args o K):
  ∃(r:SV) (o':bZ),iM call f (gL args) (gO o)=some (r.g,gO o')/\K r o':=by
 unfold HB at h;split at h;·exact h.elim
 rename_i a;simp only[ζn] at a;simp only at h;split at h
 ·rename_i d e i l;obtain⟨r,c,j,b⟩:=n _ _ _ _ h;split at b;·exact b.elim
  ·rename_i p;split at b
   ·rename_i k q m s;refine⟨k,_,?_,b⟩;unfold iM;simp only[PS a];rw[vN i,HA l];simp only[j,od];rw[if_neg p,Hy m,PO s];simp only[Pv,PQ];simp[gO]
   simp_all
 simp_all
section
variable {P:Program} {T:Tab} {p:i6} {Λ:Nat->cE}
theorem ZG (A:kF P T) (y:pJ T.K p.C) (w:∀f F,p.it f=some F->T.fn f=some F) {f:FuncId} {F:fy} (u:T.fn f=some F) {args:List SV} {o:bZ} {r:AV} {o':Store} (G:T.K f (gL args) (gO o) true=none) (n:args.length=F.params)
  {Q:SV->bZ->Prop} (m:∀v s,Q v s->v.g=r/\gO s=o') (h:zH p Λ F args o Q):gW P f=true/\kE P f (gL args) (gO o) r o':=by
 unfold zH at h;have i:=vG y w h;have e:(cu.mk (nj 0 args) o).g=⟨iw 0 (gL args),gO o⟩:=by simp[cu.g,vH]
 rw[e] at i;have j:(gO o).length=o.length:=od o;rw[<-j] at i;have E:∀(a:cu),(oa a F.res λv=>if v.bY (gO o).length&&a.o.all (λx=>x.bY (gO o).length)&&decide ((gO o).length<=a.o.length) then Q v (a.o.take (gO o).length) else False)->
   (nQ a.g F.res).bind (λl=>finish true (gO o).length l a.g.o)=some (r,o'):=by
  intro a t;obtain⟨l,k,b⟩:=xC t;rw[k];simp only[δM,finish,if_true];split at b
  ·rename_i q;simp only[θ,decide_eq_true_eq,φ] at q;obtain⟨⟨z,D⟩,B⟩:=q;have d:∀x∈a.g.o,x.bY (gO o).length=true:=by
    grind[cu.g,gO,CU]
   rw[Po (by grind[zJ]) d (by grind[cu.g,od])];rw[<-(m _ _ b).1,<-(m _ _ b).2];simp_all[cu.g,gO]
  ·exact b.elim
 obtain⟨k,b,_⟩:=Cm A u (o:=gO o) (own:=true) G (by grind[jW]) (v:=r) (o':=o') (i.mono λc s H=>by
  obtain⟨a,rfl,t⟩:=H;cases c<;>grind);simp_all
end
structure dH where
 f:FuncId
 α:Type
 put:α->List SV
 st:α->bZ
 dec:List SV->bZ->Option α
 ok:∀v o a,dec v o=some a->gL v=gL (put a)/\gO o=gO (st a)
 inj:∀a b,gL (put a)=gL (put b)->gO (st a)=gO (st b)->a=b
 dom:α->Prop
 res:α->SV
 out:α->bZ
def ec (P:Program) (c:dH):Prop:=∀a,c.dom a->gW P c.f=true/\kE P c.f (gL (c.put a)) (gO (c.st a)) (c.res a).g (gO (c.out a))
def oh (f:FuncId):List dH->Option dH
 |[]=>none
 |c::r=>bif δq c.f f then some c else oh f r
theorem PT:∀{L:List dH} {f:FuncId} {c:dH},oh f L=some c->c.f=f/\c∈L
 |[],_,_,h=>by cases h;|d::L,f,c,h=>by
  simp only[oh] at h;cases a:δq d.f f with
  |true=>
   simp_all;|false=>
   rw[a] at h;simp only[cond_false] at h;obtain⟨b,e⟩:=PT h;simp_all
def PU (W:List dH) (f:FuncId) (args:List SV) (o:bZ) (K:SV->bZ->Prop):Prop:=
 match oh f W with
 |some c=>i7 (c.dec args o) λa=>c.dom a/\K (c.res a) (c.out a)
 |none=>False
open Classical in
noncomputable def uf (W:List dH) (f:FuncId) (args:List AV) (o:Store):Option (AV×Store):=
 match oh f W with
 |some c=>if h:∃a,args=gL (c.put a)/\o=gO (c.st a)/\c.dom a then some ((c.res (δP h)).g,gO (c.out (δP h))) else none
 |none=>none
noncomputable def gK (W:List dH):np:=⟨uf W,λf a o K=>HB (PU W) f a o K⟩
theorem kZ {P:Program} {W:List dH} (u:∀c∈W,ec P c):qw P (gK W) where
 K:=λf d o r w h=>by
  simp only[gK,uf] at h;split at h
  ·rename_i c k;obtain⟨rfl,v⟩:=PT k;split at h
   ·rename_i e;simp only[γ,ι] at h;generalize t:δP e=b at h;have n:=εc e;rw[t] at n;obtain⟨p,s,l⟩:=n;obtain⟨j,m⟩:=u c v _ l;simp_all
   ·cases h
  ·cases h
 C:=λq g f d o K h=>by
  refine ZF ?_ h;intro f d o K i;simp only[PU] at i;split at i
  ·rename_i c k;obtain⟨a,p,s,l⟩:=jm i;refine⟨_,_,?_,l⟩;rw[g];obtain⟨j,m⟩:=c.ok _ _ _ p;have e:∃b,gL d=gL (c.put b)/\gO o=gO (c.st b)/\c.dom b:=⟨a,j,m,s⟩;simp only[gK,uf,k,dif_pos e];have:δP e=a:=c.inj _ _ ((εc e).1.symm.trans j) ((εc e).2.1.symm.trans m);rw[this]
  simp_all
theorem PV {P:Program} {i:FuncId->Option fy} {L:List bM} {W:List dH} (c:dH) {F:fy} {m:TypeId->Option bp} {j:List Nat×Bool->Option (bp×bp)} {Λ:c.α->Nat->cE}
  (q:kF P ⟨i,λ_ _ _ _=>none⟩) (k:∀c∈W,ec P c) (r:∀c∈L,Holds P c)
  (n:i c.f=some F) (e:∀a,(c.put a).length=F.params)
  (a:c.α) (o:∀d,oh c.f W=some d->∀b,gL (c.put a)=gL (d.put b)->gO (c.st a)=gO (d.st b)->¬d.dom b)
  (h:zH (og L (gK W) m j i) (Λ a) F (c.put a) (c.st a) λv s=>v.same (c.res a)/\kG s (c.out a)):
  gW P c.f=true/\kE P c.f (gL (c.put a)) (gO (c.st a)) (c.res a).g (gO (c.out a)):=by
 refine ZG (p:=og L (gK W) m j i) (Λ:=Λ a) (Q:=λv s=>v.same (c.res a)/\kG s (c.out a)) (vJ (kZ k) r q) (vK (kZ k)) (λ_ _ h=>h) n ?_ (e a) (λv s l=>⟨l.1,xB l.2⟩) ?_
 ·simp only[qu,sB,if_true,gK,uf];grind
 ·exact h
mutual
def k9 (o:bZ) (k:Nat):SV->(SV->Prop)->Prop
 | .ow e n h,K=>if k<=e then(match o[e]? with
   |some (.row s l _ true)=>if h=s.sz then n=l.length/\K (.row s l) else False
   |some (.row _ _ _ false)=>K (.ow e n h)
   |_=>False) else K (.ow e n h)
 | .ptr e f t,K=>if k<=e then(match o[e]? with
   |some (.cells _ _ _ false)=>K (.ptr e f t)
   |_=>False) else K (.ptr e f t)
 | .agg g,K=>sD o k g λd=>K (.agg d)
 | .bI g,K=>sD o k g λd=>K (.bI d)
 | .ud,K=>K .ud
 | .sc v,K=>K (.sc v)
 | .il q n,K=>K (.il q n)
 | .si q n,K=>K (.si q n)
 | .bl b,K=>K (.bl b)
 | .sb b,K=>K (.sb b)
 | .row s l,K=>K (.row s l)
 | .mp i,K=>K (.mp i)
 | .ia t g,K=>K (.ia t g)
 | .fn f a b,K=>sD o k a λm=>sD o k b λj=>K (.fn f m j)
 |_,_=>False
def sD (o:bZ) (k:Nat):List SV->(List SV->Prop)->Prop
 |[],K=>K []
 |c::g,K=>k9 o k c λp=>sD o k g λd=>K (p::d)
end
section
variable {o:bZ} {k:Nat}
mutual
theorem HC:∀{v:SV} {K:SV->Prop},k9 o k v K->∃u:SV,v.g.bU (gO o) (λi=>decide (k<=i))=some u.g/\K u
 | .ow B n A,K,h=>by
  simp only[k9] at h;split at h
  ·rename_i q;split at h
   ·rename_i s l e w;split at h
    ·rename_i r;subst r;obtain⟨rfl,h⟩:=h;refine⟨_,?_,h⟩;have y:Δ (l.length*s.sz) (cB s l)=cB s l:=List.take_of_length_le (by grind[eY]);simp_all[γB,AV.bU,fQ,bq.g,eY]
    simp_all
   ·rename_i s l e w;refine⟨_,?_,h⟩;simp_all[γB,AV.bU,fQ,bq.g]
   simp_all
  ·rename_i q;refine⟨_,?_,h⟩;simp_all[γB,AV.bU,if_neg];| .ptr B f t,K,h=>by
  simp only[k9] at h;split at h
  ·rename_i q;split at h
   ·rename_i j e A w;refine⟨_,?_,h⟩;simp_all[γB,AV.bU,fQ,bq.g]
   simp_all
  ·rename_i q;refine⟨_,?_,h⟩;simp_all[γB,AV.bU,if_neg];| .agg j,K,h=>by
  simp only[k9] at h;obtain⟨d,p,m⟩:=xH h;grind[γB,AV.bU];| .bI j,K,h=>by
  simp only[k9] at h;obtain⟨d,p,m⟩:=xH h;grind[γB,AV.bU];| .ud,K,h=>⟨.ud,by grind[γB,AV.bU],by grind[k9]⟩
 | .sc v,K,h=>⟨.sc v,by grind[γB,AV.bU],by grind[k9]⟩
 | .il k n,K,h=>⟨.il k n,by grind[γB,AV.bU],by grind[k9]⟩
 | .si k n,K,h=>⟨.si k n,by grind[γB,AV.bU],by grind[k9]⟩
 | .bl b,K,h=>⟨.bl b,by grind[γB,AV.bU],by grind[k9]⟩
 | .sb b,K,h=>⟨.sb b,by grind[γB,AV.bU],by grind[k9]⟩
 | .row s l,K,h=>⟨.row s l,by grind[γB,AV.bU],by grind[k9]⟩
 | .mp i,K,h=>⟨.mp i,by grind[γB,AV.bU],by grind[k9]⟩
 | .ia t j,K,h=>⟨.ia t j,by grind[γB,AV.bU],by grind[k9]⟩
 | .fn f a b,K,h=>by
  simp only[k9] at h;obtain⟨D,p,m⟩:=xH h;obtain⟨C,z,x⟩:=xH m;grind[γB,AV.bU];| .ep ..,K,h| .ap ..,K,h| .rp ..,K,h| .os ..,K,h| .oc ..,K,h| .ite ..,K,h=>by simp only[k9] at h
theorem xH:∀{j:List SV} {K:List SV->Prop},sD o k j K->∃d:List SV,gV (gO o) (λi=>decide (k<=i)) (gL j)=some (gL d)/\K d
 |[],K,h=>⟨[],by simp[gL,gV],by grind[sD]⟩
 |c::j,K,h=>by
  simp only[sD] at h;obtain⟨E,p,m⟩:=HC h;obtain⟨d,z,x⟩:=xH m;grind[gL,gV]
end
def o5 (o:bZ) (k:Nat):Nat->bZ->(bZ->Prop)->Prop
 |_,[],K=>K []
 |i,x::r,K=>match x with
  | .cells f e m false=>sD o k f λc=>o5 o k (i+1) r λa=>K (.cells c e m false::a)
  | .row s l e b=>o5 o k (i+1) r λa=>K ((if b&&decide (k<=i) then .dead else .row s l e b)::a)
  | .map g n d j h b=>o5 o k (i+1) r λa=>K (.map g n d j h b::a)
  | .dead=>o5 o k (i+1) r λa=>K (.dead::a)
  |_=>False
theorem xI:∀{i:Nat} {r:bZ} {K:bZ->Prop},o5 o k i r K->∃r' mid,jD (gO o) (λi=>decide (k<=i)) (gO r)=some mid/\fO (λi=>decide (k<=i)) i mid=gO r'/\K r'
 |i,[],K,h=>⟨[],[],rfl,rfl,h⟩
 |i,x::r,K,h=>by
  cases x with
  |dead=>
   simp only[o5] at h;obtain⟨r',mid,m,b,e⟩:=xI h;grind[gO,bq.g,jD,bR.bU,fO];|cells A c z a=>
   cases a with
   |true=>grind[o5];|false=>
    simp only[o5] at h;obtain⟨j,y,f⟩:=xH h;obtain⟨r',mid,m,b,e⟩:=xI f;refine⟨_,.cells (gL j) c z false::mid,?_,?_,e⟩;all_goals simp_all[gO,bq.g,jD,bR.bU,fO]
  |oW s l c t=>grind[o5];|row s l c a=>
   simp only[o5] at h;obtain⟨r',mid,m,b,e⟩:=xI h;refine⟨_,(bq.row s l c a).g::mid,?_,?_,e⟩
   ·have d:(bq.row s l c a).g.bU (gO o) (λi=>decide (k<=i))=some (bq.row s l c a).g:=by
     cases a with
     |true=>simp only[bq.g,bR.bU,if_true];|false=>
      simp only[bq.g,bR.bU,χ,if_false];grind[C2,ni]
    grind[gO,jD]
   ·cases a with
    |true=>
     simp only[bq.g,fO,Bool.true_and];by_cases n:k<=i
     ·simp only[n,decide_true,if_true];rw[b];rfl
     ·simp only[n,decide_false,χ,if_false];rw[b];rfl;|false=>simp only[bq.g,fO,Bool.false_and,χ,if_false];rw[b];rfl
  |map u p q w v a=>
   simp only[o5] at h;obtain⟨r',mid,m,b,e⟩:=xI h;have d:(bq.map u p q w v a).g.bU (gO o) (λi=>decide (k<=i))=some (bq.map u p q w v a).g:=by
    cases a with
    |true=>simp only[bq.g,bR.bU,if_true];|false=>
     simp only[bq.g,bR.bU,χ,if_false];rw[Hn Hz,ν]
   grind[gO,jD,bq.g,fO]
end
def C6 (r:SV) (o:bZ) (K:SV->bZ->Prop):Prop:=
 k9 o 0 r λc=>o5 o 0 0 o λb=>
  if b.all bq.C5=false then False else
  let a:=pL b fN [c] [];if iM.pz a then match c.ren (λj=>idxOf a j),xF b a a with
   |some e,some d=>K e d
   |_,_=>False
  else False
theorem ZH {r:SV} {o:bZ} {K:SV->bZ->Prop} (h:C6 r o K):∃r' o',lM 0 r.g (gO o)=some (r'.g,gO o')/\K r' o':=by
 unfold C6 at h;obtain⟨m,n,k⟩:=HC h;obtain⟨c,i,e,f,a⟩:=xI k;split at a;·exact a.elim
 rename_i b;simp only[ζn] at b;simp only at a;split at a
 ·rename_i t;split at a
  ·rename_i j l p q;refine⟨j,l,?_,a⟩;unfold lM;rw[n,e];simp only[f,List.take_zero,List.flatMap_nil,List.range_zero];have s:=PS (o:=c) b (d:=fN) (vs:=[m]) (acc:=[]);simp_all[gL,Hy,HA]
  simp_all
 simp_all
def HD (p:i6) (Λ:Nat->cE) (F:fy) (args:List SV) (Q:SV->bZ->Prop):Prop:=
 wpS p 0 F.body Λ ⟨nj 0 args,[]⟩ λa b=>match a with
  | .exit _=>False
  | .goto _=>False
  |_=>oa b F.res λr=>C6 r b.o Q
theorem ZI {P:Program} {T:Tab} {p:i6} {Λ:Nat->cE} (y:kF P T) (t:pJ T.K p.C) (x:∀f F,p.it f=some F->T.fn f=some F) {f:FuncId} {F:fy} (m:T.fn f=some F) {args:List SV} {r:AV} {o':Store} (A:T.K f (gL args) [] true=none) (j:args.length=F.params)
  {Q:SV->bZ->Prop} (D:∀v s,Q v s->v.g=r/\gO s=o') (h:HD p Λ F args Q):gW P f=true/\kE P f (gL args) [] r o':=by
 unfold HD at h;have k:=vG t x h;have b:(cu.mk (nj 0 args) []).g=⟨iw 0 (gL args),[]⟩:=by simp[cu.g,vH,gO]
 rw[b] at k;have n:∀(a:cu),(oa a F.res λv=>C6 v a.o Q)->(nQ a.g F.res).bind (λc=>finish true 0 c a.g.o)=some (r,o'):=by
  intro a l;obtain⟨c,e,i⟩:=xC l;obtain⟨u,q,w,B⟩:=ZH i;rw[e];simp only[δM,finish,if_true];have:lM 0 c.g a.g.o=some (u.g,gO q):=w;grind
 obtain⟨e,i,_⟩:=Cm y m (o:=[]) (own:=true) A (by grind[jW]) (v:=r) (o':=o') (k.mono λd s z=>by
  obtain⟨a,rfl,l⟩:=z;cases d<;>simp_all);simp_all
theorem ZJ {W:List dH} {f:FuncId} {args:List AV} {o:Store} (h:oh f W=none):uf W f args o=none:=by
 grind[uf]
open Go.Proofs.YtbnhiekmnpikhaaGreat.Ir
open Go.Proofs
def C7 (f:Nat):List (Nat×List RH)->Option (List RH)
 |[]=>none
 |e::r=>bif δq e.1 f then some e.2 else C7 f r
noncomputable def jJ (f:FuncId):Option fy:=
 match C7 f MW with
 |none=>none
 |some H=>match Tryz.prog.funcs[f]? with
  |none=>none
  |some g=>BR Tryz.prog H g
noncomputable def fG (f:FuncId):fy:=(jJ f).getD ⟨0,0,.skip,[]⟩
theorem zV {f:FuncId} (h:(jJ f).isSome=true):jJ f=some (fG f):=by
 unfold fG;cases q:jJ f<;>simp_all
theorem PW {f:Nat} {H:List RH} {p:Nat->Bool}:∀{l:List (Nat×List RH)},C7 f l=some H->(l.all λe=>p e.1)=true->p f=true
 |[],h,_=>by cases h;|e::r,h,k=>by
  simp only[C7] at h;simp only[List.all_cons,θ] at k;cases q:δq e.1 f with
  |true=>simp_all;|false=>rw[q] at h;exact PW h k.2
theorem ZK:(MW.all λe=>gW Tryz.prog e.1)=true:=by kernel_rfl
theorem sE:kF Tryz.prog ⟨jJ,λ_ _ _ _=>none⟩ where
 fn:=λf F h=>by
  simp only[jJ] at h;split at h;·cases h
  ·rename_i H q;split at h;·cases h
   ·rename_i g r;exact⟨g,H,r,h,PW (p:=gW Tryz.prog) q ZK⟩
 K:=λ_ _ _ _ _ _ h=>by cases h
def lk {a:Type}:a->Nat->cE:=λ_ _=> .look
structure Vc (A:Prop):Prop where
 out:A
theorem bO {A:Prop} (B:Prop) (h:B=A) (a:B):Vc A:=⟨h▸a⟩
theorem con {L:List bM} {W:np} (c:bM) (i:c.α->Nat->cE) (j:qw Tryz.prog W) (e:∀c∈L,Holds Tryz.prog c)
  
  (h:∀a,c.dom a->Vc (t7 (og L W rk rl jJ) (i a) (fG c.f) (c.A.put a) λv=>v.sy (c.res a))) (k:(jJ c.f).isSome=true:=by kernel_rfl) (d:pK c.f L=none:=by kernel_rfl) (b:∀a,(c.A.put a).length=(fG c.f).params:=by intro _;kernel_rfl):Holds Tryz.prog c:=
 holds_of c sE j e (zV k) d b λa g=>(h a g).out
theorem cF {L:List bM} (c:bM) (e:c.α->Nat->cE) (g:∀c∈L,Holds Tryz.prog c) (h:∀a,c.dom a->Vc (t7 (og L np.none rk rl jJ) (e a) (fG c.f) (c.A.put a) λv=>v.sy (c.res a)))
  (i:(jJ c.f).isSome=true:=by kernel_rfl) (d:pK c.f L=none:=by kernel_rfl) (b:∀a,(c.A.put a).length=(fG c.f).params:=by intro _;kernel_rfl):Holds Tryz.prog c:=con c e (qw.none _) g h i d b
theorem ZL {L:List bM} {W:np} (c:bM) (l:FuncId->Bool) (i:c.α->Nat->cE) (j:qw Tryz.prog W) (e:∀c∈L,Holds Tryz.prog c)
  
  (h:∀a,c.dom a->Vc (t7 (Hv L W rk rl jJ l) (i a) (fG c.f) (c.A.put a) λv=>v.sy (c.res a))) (k:(jJ c.f).isSome=true:=by kernel_rfl) (d:pK c.f L=none:=by kernel_rfl) (b:∀a,(c.A.put a).length=(fG c.f).params:=by intro _;kernel_rfl):Holds Tryz.prog c:=
 ZD c sE j e (zV k) d b λa g=>(h a g).out
theorem lA {L:List bM} {W:List dH} (c:dH) (Λ:c.α->Nat->cE) (i:∀c∈W,ec Tryz.prog c) (e:∀c∈L,Holds Tryz.prog c)
  
  (h:∀a,c.dom a->Vc (zH (og L (gK W) rk rl jJ) (Λ a) (fG c.f) (c.put a) (c.st a) λv s=>v.same (c.res a)/\kG s (c.out a))) (g:(jJ c.f).isSome=true:=by kernel_rfl) (b:∀a,(c.put a).length=(fG c.f).params:=by intro _;kernel_rfl) (k:oh c.f W=none:=by kernel_rfl):ec Tryz.prog c:=
 λa j=>PV c sE i e (zV g) b a (λd l=>by simp_all) (h a j).out
theorem ZM {L:List bM} {W:List dH} (c:dH) (F:fy) (i:c.α->Nat->cE) (k:∀c∈W,ec Tryz.prog c) (e:∀c∈L,Holds Tryz.prog c)
  
  (h:∀a,c.dom a->Vc (zH (og L (gK W) rk rl jJ) (i a) F (c.put a) (c.st a) λv s=>v.same (c.res a)/\kG s (c.out a))) (g:jJ c.f=some F:=by kernel_rfl) (b:∀a,(c.put a).length=F.params:=by intro _;kernel_rfl) (l:oh c.f W=none:=by kernel_rfl):ec Tryz.prog c:=
 λa j=>PV c sE k e g b a (λd m=>by simp_all) (h a j).out
theorem HE {L:List bM} {W:List dH} (c:dH) (g:Nat->Option (Nat×Nat×Nat)) (Λ:c.α->Nat->cE) (i:∀c∈W,ec Tryz.prog c) (j:∀c∈L,Holds Tryz.prog c)
  
  (h:∀a,c.dom a->Vc (HD ⟨⟨vI L,(gK W).C⟩,rk,rl,g,λ_=>none,λ_=>false⟩ (Λ a) (fG c.f) (c.put a) λv s=>v.same (c.res a)/\kG s (c.out a))) (l:(jJ c.f).isSome=true:=by kernel_rfl) (b:∀a,(c.put a).length=(fG c.f).params:=by intro _;kernel_rfl) (d:∀a,c.st a=[]:=by intro _;rfl) (k:oh c.f W=none:=by kernel_rfl):ec Tryz.prog c:=
 λa m=>by
  rw[d a];refine ZI (p:=⟨⟨vI L,(gK W).C⟩,rk,rl,g,λ_=>none,λ_=>false⟩) (Λ:=Λ a) (Q:=λv s=>v.same (c.res a)/\kG s (c.out a)) (vJ (kZ i) j sE) (vK (kZ i)) (λ_ _ h=>by cases h) (zV l) ?_ (b a) (λv s e=>⟨e.1,xB e.2⟩) (h a m).out;simp_all[qu,sB,gK,ZJ]
open Go.ChangeShapes Go.WideShapes Go.RowKit
abbrev jK:dN:=⟨λ_=>False,0⟩
instance (s:bp):Inhabited s.T:=⟨s.dflt⟩
theorem ZN (b:Nat):Fr jK [] b:=⟨by rintro⟨i,c,h⟩;simp at h,λh=>h⟩
theorem PX {A:dN} {w:World} {σ:bW} {o:Store}:∀{vs:List Value},(∀v∈vs,v.oneCell'=true)->bG A w σ o (vs.map .sc) vs
 |[],_=>by simp[bG];|v::vs,h=>by
  simp only[List.map_cons,bG];exact⟨v,vs,rfl,by grind[bw],PX λu a=>h u (by simp[a])⟩
theorem PY {A:dN} {w:World} {σ:bW} {o:Store}:∀{a b:List AV} {x:Option Addr} {j:Nat},dq A w σ o a x j->dq A w σ o b x (j+a.length)->dq A w σ o (a++b) x j
 |[],b,x,j,_,h=>by simpa using h;|c::a,b,x,j,h,k=>by
  simp only[List.cons_append,dq] at h ⊢;refine⟨h.1,PY h.2 ?_⟩;grind
def Reads (P:Program) (t:TypeId) (s:bp):Prop:=
 ∀(H:Type) (e:TypeId×Value->H) (w:World) (d:Nat) (a:Nat->Bool) (c:Bool) (b:Nat) (f:List Value) (x:DataW H×List MemPlace),DataW.trod e P w d a c b t f=some x->∃y:s.T,f=dx s y
theorem ZO {P:Program} {t:TypeId} {k:IntKind} (a:P.underlying t=some (.int k)):Reads P t (.i k):=λ_ _ _ _ _ _ _ b _ h=>by
 obtain⟨n,rfl,_,_⟩:=DataW.trod_int a h;exact⟨n,rfl⟩
theorem ZP {w:World} {base n:Nat} {a:Addr} {cs:List Value} (h:w.cells? base a n=some cs):cs.length=n/\∀i v,cs[i]?=some v->w.cell? (a.add i)=some v:=by
 unfold World.cells? at h;split at h
 ·obtain⟨c,f⟩:=B6 h;simp only[εL] at c;refine⟨c,λi v d=>?_⟩;have j:=(List.getElem?_eq_some_iff.1 d).1;obtain⟨b,g,e⟩:=f i i (by simp_all);simp_all
 ·cases h
def C9 (P:Program) (t:TypeId) (s:bp):Prop:=
 ∀(H:Type) (d:TypeId×Value->H) (w:World) (a:Nat->Bool) (c:Bool) (b:Nat) (e:List Value) (x:DataW H×List MemPlace),DataW.trod d P w 0 a c b t e=some x->∃y:s.T,bG jK w [] [] (dO s y) e
theorem Reads.g {P:Program} {t:TypeId} {s:bp} (h:Reads P t s) (i:s.flat=true:=by rfl):C9 P t s:=λH d w a c b e x f=>by
 obtain⟨y,rfl⟩:=h H d w 0 a c b e x f;exact⟨y,by grind[CB,PX,CG]⟩
theorem PZ {w:World} {a:Addr}:∀{cs:List AV} {vs:List Value} {j:Nat},bG jK w [] [] cs vs->(∀i v,vs[i]?=some v->w.cell? (a.add (j+i))=some v)->dq jK w [] [] cs (some a) j
 |[],_,_,_,_=>by simp[dq];|c::cs,vs,j,b,d=>by
  simp only[bG] at b;obtain⟨v,r,rfl,e,f⟩:=b;simp only[dq];refine⟨⟨a,v,rfl,ZN _,by simpa using d 0 v (by simp),e⟩,PZ f λi u g=>?_⟩;have:=d (i+1) u (by simp_all);grind
theorem HF {w:World} {a:Addr} {s:bp}:∀{l:List s.T} {i0:Nat},(∀i y,l[i]?=some y->∃cs,w.cells? 0 (a.add ((i0+i)*s.sz)) s.sz=some cs/\bG jK w [] [] (dO s y) cs)->dq jK w [] [] (cB s l) (some a) (i0*s.sz)
 |[],_,_=>by simp[cB,dq];|y::l,i0,h=>by
  obtain⟨cs,b,c⟩:=h 0 y (by simp);rw[Nat.add_zero] at b;obtain⟨d,g⟩:=ZP b;have e:cB s (y::l)=dO s y++cB s l:=by simp[cB]
  rw[e];refine PY (PZ c λi v j=>?_) ?_;·grind[add_add]
  ·rw[lT,show i0*s.sz+s.sz=(i0+1)*s.sz from by grind];refine HF λi z f=>?_;have:=h (i+1) z (by simp_all);grind
theorem ZQ {P:Program} {t e:TypeId} {s:bp} (A:P.underlying t=some (.slice e)) (r:C9 P e s) (I:P.cellsOf e=s.sz)
  {H:Type} {enc:TypeId×Value->H} {w:World} {c:Nat->Bool} {j:Bool} {d:Nat} {cs:List Value} {x:DataW H×List MemPlace} (h:DataW.trod enc P w 0 c j d t cs=some x):
  ∃(v:Value) (l:List s.T),cs=[v]/\bw jK w [] [] (Ψ s l).g v:=by
 rcases ζS A h with⟨rfl,_⟩|⟨a,b,k,m,n,D,F,rfl,M,z,L,o,_,q⟩;·exact⟨_,[],rfl,by grind[γB,bw,cB,dA,dq]⟩
 ·have B:b<=m:=by grind
  have C:∀i,i<b->∃y:s.T,∃cs,w.cells? 0 (a.add (i*s.sz)) s.sz=some cs/\bG jK w [] [] (dO s y) cs:=λi J=>by
   obtain⟨p,K,E⟩:=q i (by omega);obtain⟨y,u⟩:=r _ _ _ _ _ _ _ _ E;grind
  obtain⟨f,G⟩:=ζW C;refine⟨_,(ω b).map f,rfl,?_⟩;simp only[γB,bw,Θ,εL];refine⟨some a,k,rfl,z,nV _ _,?_⟩;have:=HF (w:=w) (a:=a) (s:=s) (l:=(ω b).map f) (i0:=0) (λi y u=>by
   grind);simp_all
theorem P0 {P:Program} {t e:TypeId} {s:bp} (i:P.underlying t=some (.slice e)) (f:Reads P e s) (j:P.cellsOf e=s.sz)
  {H:Type} {enc:TypeId×Value->H} {w:World} {a:Nat->Bool} {c:Bool} {b:Nat} {cs:List Value} {x:DataW H×List MemPlace} (h:DataW.trod enc P w 0 a c b t cs=some x) (d:s.flat=true:=by rfl):
  ∃(v:Value) (l:List s.T),cs=[v]/\bw jK w [] [] (Ψ s l).g v:=ZQ i (f.g d) j h
theorem ZR {cs:List Value} {i:Nat} {v:Value} (h:(cs.drop i).take 1=[v]):cs[i]?=some v:=by
 have:((cs.drop i).take 1)[0]?=some v:=by rw[h];rfl
 grind
theorem ZS {P:Program} {t e:TypeId} (s:P.underlying t=some (.array 6 e)) (F:P.underlying e=some (.int .i64)) (H:P.cellsOf e=1) (l:P.cellsOf t=6):Reads P t .ff:=λ_ _ _ _ _ _ _ c _ h=>by
 obtain⟨z,m,_,_,b,v,D⟩:=DataW.trod_array s h;have a:∀i,i<6->∃n,c[i]?=some (.int .i64 n):=λi w=>by
  grind[DataW.trod_int,ZR]
 rw[l] at b;match c,b,a with
 |[C,A,I,G,B,E],_,a=>
  obtain⟨o,y⟩:=a 0 (by omega);obtain⟨x,d⟩:=a 1 (by omega);obtain⟨p,u⟩:=a 2 (by omega);obtain⟨j,r⟩:=a 3 (by omega);obtain⟨k,f⟩:=a 4 (by omega);obtain⟨q,g⟩:=a 5 (by omega);simp only[List.getElem?_cons_zero,List.getElem?_cons_succ,γ] at y d u r f g;exact⟨⟨o,x,p,j,k,q⟩,by grind[dx,iv]⟩
theorem ZT {P:Program} {t b i v:TypeId} {fs:Array Field} (w:P.underlying t=some (.struct fs)) (r:P.cellsOf t=8) (N:(fs[0]?).map (λf=>(f.type,f.offset))=some (i,0)) (O:(fs[1]?).map (λf=>(f.type,f.offset))=some (b,1)) (u:(fs[2]?).map (λf=>(f.type,f.offset))=some (v,7))
  (x:P.underlying i=some (.int .i64)) (e:P.cellsOf i=1) (q:P.underlying v=some (.int .i64)) (k:P.cellsOf v=1) (z:Reads P b .ff) (d:P.cellsOf b=6) (I:fs.size=3):Reads P t .off:=λ_ _ _ _ _ _ _ B _ h=>by
 obtain⟨T,m,_,_,n,K,j⟩:=DataW.trod_struct w h;rw[r] at n;obtain⟨F,C,g⟩:=ε.1 N;obtain⟨s,D,c⟩:=ε.1 O;obtain⟨J,A,a⟩:=ε.1 u;simp only[ι] at g c a;have o:=j 0 F C;have l:=j 1 s D;have p:=j 2 J A;rw[g.1,g.2,e,μ (by omega)] at o;rw[c.1,c.2,d,μ (by omega)] at l;rw[a.1,a.2,k,μ (by omega)] at p;obtain⟨G,M,_⟩:=DataW.trod_int x o;obtain⟨y,E⟩:=z _ _ _ _ _ _ _ _ _ l;obtain⟨H,L,_⟩:=DataW.trod_int q p;match B,n with
 |[S,U,R,V,Y,X,Q,W],_=>
  simp[dx] at M E L;exact⟨⟨G,y,H⟩,by grind[dx,iv]⟩
theorem ZU {P:Program} {t b k o:TypeId} {fs:Array Field} (ht:P.underlying t=some (.struct fs)) (hn:P.cellsOf t=20) (a7:fs.size=5)
  (h0:(fs[0]?).map (λf=>(f.type,f.offset))=some (b,0)) (h1:(fs[1]?).map (λf=>(f.type,f.offset))=some (b,6)) (h2:(fs[2]?).map (λf=>(f.type,f.offset))=some (b,12))
  (U:(fs[3]?).map (λf=>(f.type,f.offset))=some (k,18)) (h4:(fs[4]?).map (λf=>(f.type,f.offset))=some (o,19))
  (s:Reads P b .ff) (d:P.cellsOf b=6) {e:TypeId} (hk:P.underlying k=some (.slice e)) (z:Reads P e (.i .i64)) (A:P.cellsOf e=1) (y:P.cellsOf k=1)
  {f:TypeId} (ho:P.underlying o=some (.slice f)) (F:Reads P f .off) (u:P.cellsOf f=8) (v:P.cellsOf o=1)
  {H:Type} {enc:TypeId×Value->H} {w:World} {c:Nat->Bool} {q:Bool} {j:Nat} {cs:List Value} {x:DataW H×List MemPlace} (h:DataW.trod enc P w 0 c q j t cs=some x):
  ∃p:bn,bG jK w [] [] (gL p.ss) cs:=by
 obtain⟨xs,m,_,_,O,a1,l⟩:=DataW.trod_struct ht h;rw[hn] at O;obtain⟨f0,e0,E⟩:=ε.1 h0;obtain⟨f1,e1,D⟩:=ε.1 h1;obtain⟨Z,e2,r⟩:=ε.1 h2;obtain⟨f3,T,B⟩:=ε.1 U;obtain⟨f4,e4,C⟩:=ε.1 h4;simp only[ι] at E D r B C;have S:=l 0 f0 e0;have I:=l 1 f1 e1;have R:=l 2 Z e2;have J:=l 3 f3 T;have M:=l 4 f4 e4;rw[E.1,E.2,d,μ (by omega)] at S;rw[D.1,D.2,d,μ (by omega)] at I;rw[r.1,r.2,d,μ (by omega)] at R;rw[B.1,B.2,y,μ (by omega)] at J;rw[C.1,C.2,v,μ (by omega)] at M;obtain⟨y0,K⟩:=s _ _ _ _ _ _ _ _ _ S;obtain⟨y1,Q⟩:=s _ _ _ _ _ _ _ _ _ I;obtain⟨y2,G⟩:=s _ _ _ _ _ _ _ _ _ R;obtain⟨v3,l3,L,r3⟩:=P0 hk z A J;obtain⟨v4,W,N,r4⟩:=P0 ho F u M;match cs,O with
 |[c0,c1,c2,c3,c4,c5,c6,c7,c8,c9,a0,a5,V,a6,a8,a2,a4,Y,a3,X],_=>
  simp[dx,iv] at K Q G L N;obtain⟨rfl,rfl,rfl,rfl,rfl,rfl⟩:=K;obtain⟨rfl,rfl,rfl,rfl,rfl,rfl⟩:=Q;obtain⟨rfl,rfl,rfl,rfl,rfl,rfl⟩:=G;subst L;subst N;refine⟨⟨y0,y1,y2,l3,W⟩,?_⟩;have a:∀n:Int,bw jK w [] [] (γh .i64 n).g (.int .i64 n):=λn=>by simp[γB,bw,Value.oneCell']
  simp only[bn.ss,gL,bG];exact⟨_,_,rfl,a _,_,_,rfl,a _,_,_,rfl,a _,_,_,rfl,a _,_,_,rfl,a _,_,_,rfl,a _,_,_,rfl,a _,_,_,rfl,a _,_,_,rfl,a _,_,_,rfl,a _,_,_,rfl,a _,_,_,rfl,a _,
   _,_,rfl,a _,_,_,rfl,a _,_,_,rfl,a _,_,_,rfl,a _,_,_,rfl,a _,_,_,rfl,a _,_,_,rfl,r3,_,_,rfl,r4,rfl⟩
theorem ZV {P:Program} {w:World} {r:Reach} {base:Nat} {t:TypeId} {v:Value} {fs:Array Field} (a:P.underlying t=some (.struct fs)) (h:Value.okWide P w r base t v):∃cs,v= .agg cs/\v.cells.toList=cs.toList:=by
 unfold Value.okWide at h;rw[a] at h;obtain⟨cs,rfl,_⟩:=h;exact⟨cs,rfl,rfl⟩
theorem ZW {P:Program} {w:World} {r:Reach} {base:Nat} {t e:TypeId} {v:Value} (a:P.underlying t=some (.slice e)) (h:Value.okWide P w r base t v):v.cells.toList=[v]:=by
 cases v with
 |agg b=>simp_all[Value.okWide,Cell.okWide,Cell.ok];|_=>rfl
theorem P3 {H:Type} {enc:TypeId×Value->H} {P:Program} (j:laidOutB P=true) {W l:World} (n:Below W.heap.size W l) {m:Nat->Bool}:
  ∀{f:List TypeId} {vs:List Value} {i:List (DataW H)} {g:List MemPlace},DataW.TrodAll enc P W 0 (λ_=>true) true f vs i g->(∀t∈f,P.readableRec t=true/\t<P.types.size)->(∀p∈g,p.block<W.heap.size)->(∀p∈g,m p.block=true)->
   DataW.TrodAll enc P l 0 m true f vs i g
 |[],_,_,_,h,_,_,_=>by
  obtain⟨rfl,rfl,rfl⟩:=trodAll_nil h;exact rfl;|t::f,_,_,_,h,o,e,k=>by
  obtain⟨v,vs,d,i,a,b,rfl,rfl,rfl,r,s⟩:=trodAll_cons h;obtain⟨x,q⟩:=o t (by simp);exact⟨a,b,WideElems.Trod_stays j x q r (λp c=>n.same (e p (by simp[c]))) (λp c=>k p (by simp[c])),
   P3 j n s (λu w=>o u (by simp[w])) (λp c=>e p (by simp[c])) (λp c=>k p (by simp[c])),rfl⟩
theorem P4 {W b:World} {a:bW} {o':Store} (h:Ext W [] [] b a o'):Below W.heap.size W b:=
 ⟨h.os,h.tape,h.output,h.size,λk e=>(h.blk k e (by rintro⟨i,c,d⟩;simp at d)).1⟩
@[simp] theorem ZX {k c:IntKind} {a b:Int}:(γh k a).same (.si c b)↔k=c/\a=b:=by simp[εV,γB]
@[simp] theorem ZY {k c:IntKind} {a b:Int}:(γx k a).same (.si c b)↔k=c/\a=b:=by simp[εV,γB]
@[simp] theorem ZZ {a b:Bool}:(γv a).same (.sb b)↔a=b:=by simp[εV,γB]
@[simp] theorem Z1 {a b:Bool}:(δc a).same (.sb b)↔a=b:=by simp[εV,γB]
@[simp] theorem Z2 {s:bp} {a b:List s.T}:(Ψ s a).same (.row s b)↔a=b:=by
 constructor;·intro h;simp only[εV,γB,δ3] at h;exact lz s h.1 h.2
 ·rintro rfl;rfl
@[simp] theorem Z3 {k c:IntKind} {a b:Int}:(γh k a).same (.il c b)↔k=c/\a=b:=by simp[εV,γB]
@[simp] theorem Z4 {k c:IntKind} {a b:Int}:(γx k a).same (.il c b)↔k=c/\a=b:=by simp[εV,γB]
theorem Z5 {v:SV}:v.same v↔True:=iff_true_intro rfl
theorem lg {v:bq}:v.same v↔True:=iff_true_intro rfl
theorem Z6 {a b c d:SV}:(SV.bI [a,b]).same (.bI [c,d])↔a.same c/\b.same d:=by simp[εV,γB,gL]
theorem Z7 {a b c d e f:SV}:(SV.bI [a,b,c]).same (.bI [d,e,f])↔a.same d/\b.same e/\c.same f:=by simp[εV,γB,gL]
theorem HG {s t:bp}:(Ψ s []).same (.row t [])↔True:=iff_true_intro (by simp[εV,γB,cB])
theorem P5 {s:bp} {l:List s.T}:(Ψ (.i .i64) []).same (.row s l)↔l=[]:=by
 constructor;·grind[εV,γB]
 ·rintro rfl;exact HG.2 trivial
theorem Da {a b:bB}:a=b↔a.a0=b.a0/\a.a1=b.a1/\a.a2=b.a2/\a.a3=b.a3/\a.a4=b.a4/\a.a5=b.a5:=by
 obtain⟨k,c,n,f,d,l⟩:=a;obtain⟨g,i,e,h,m,j⟩:=b;simp_all
@[simp] theorem Z8 {n:Int}:cq .i64 n↔ -9223372036854775808<=n/\n<=9223372036854775807:=Iff.rfl
theorem vcs:(∀{p:Prop} [h:Decidable p],(decide p=true)=p)/\(∀{p:Prop} {x:Decidable p},decide p=false↔¬p)/\(∀{k g:IntKind} {a b:Int},(γx k a).same (γh g b)↔k=g/\a=b)/\(∀{k g:IntKind} {a b:Int},(γh k a).same (γh g b)↔k=g/\a=b)/\(∀{k g:IntKind} {a b:Int},(γh k a).same (γx g b)↔k=g/\a=b)/\(∀{k g:IntKind} {a b:Int},(γx k a).same (γx g b)↔k=g/\a=b)/\(∀{a b:Bool},(γv a).same (γv b)↔a=b)/\(∀{a b:Bool},(δc a).same (γv b)↔a=b)/\(∀{s:bp} {a b:List s.T},(Ψ s a).same (Ψ s b)↔a=b)/\(∀{a b c d:SV},(SV.bI [a,b]).same (SV.bI [c,d])↔a.same c/\b.same d)/\(∀{a b c d e f:SV},(SV.bI [a,b,c]).same (SV.bI [d,e,f])↔a.same d/\b.same e/\c.same f)/\(∀{s t:bp},(Ψ s []).same (Ψ t [])↔True)/\(∀{s:bp} {l:List s.T},(Ψ (bp.i IntKind.i64) []).same (Ψ s l)↔l=[])/\(∀{v:SV},v.same v↔True)/\(∀{v:bq},v.same v↔True)/\(∀{n:Int},cq IntKind.i64 n↔ -9223372036854775808<=n/\n<=9223372036854775807)/\(∀p:Prop,(True/\p)=p)/\(∀p:Prop,(p/\True)=p)/\(∀a b:Bool,((a&&b)=true)=(a=true/\b=true))/\(∀b:Bool,((!b)=true)=(b=false))/\(∀b:Bool,((!b)=false)=(b=true)):=
 ⟨decide_eq_true_eq,decide_eq_false_iff_not,ZY,ZX,Z3,Z4,ZZ,Z1,Z2,Z6,Z7,HG,P5,Z5,lg,Z8,true_and,and_true,θ,Bool.not_eq_true',Bool.not_eq_false'⟩
def bB.ok (b:bB):Bool:=[b.a0,b.a1,b.a2,b.a3,b.a4,b.a5].all λn=>decide (0<=n)&&decide (n<=4)
theorem bB.ja {b:bB}:b.ok=true↔(0<=b.a0/\b.a0<=4)/\(0<=b.a1/\b.a1<=4)/\(0<=b.a2/\b.a2<=4)/\(0<=b.a3/\b.a3<=4)/\(0<=b.a4/\b.a4<=4)/\(0<=b.a5/\b.a5<=4):=by
 simp[bB.ok]
def HH:bM:=⟨65,bB,.one (eh .ff),λ_=>True,λb=> .si .i64 (if b.ok=true then 0 else 4)⟩
theorem h146:Holds Tryz.prog HH:=by
 refine cF (L:=[]) HH (λ_ _=> .qo 7) (by simp) ?_;intro b _;refine bO (let h:=γx .i64;let p:=(0:Int);let q:=(4:Int);let i:=decide (b.a0<p);let a:=γh .i64 (if bB.ok b=true then p else q);let l:=decide (q<b.a0);let k:=decide (b.a1<p);let m:=decide (q<b.a1);let o:=decide (b.a2<p);let j:=decide (q<b.a2);let n:=decide (b.a3<p);let f:=decide (q<b.a3);let g:=decide (b.a4<p);let d:=decide (q<b.a4);let c:=decide (b.a5<p);let e:=decide (q<b.a5);(i=true->(h 4).same a)/\(i=false->(l=true->(h 4).same a)/\(l=false->(k=true->(h 4).same a)/\(k=false->(m=true->(h 4).same a)/\(m=false->(o=true->(h 4).same a)/\(o=false->(j=true->(h 4).same a)/\(j=false->(n=true->(h 4).same a)/\(n=false->(f=true->(h 4).same a)/\(f=false->(g=true->(h 4).same a)/\(g=false->(d=true->(h 4).same a)/\(d=false->(c=true->(h 4).same a)/\(c=false->(e=true->(h 4).same a)/\(e=false->(h 0).same a))))))))))))) (by kernel_rfl) ?_;conv=>zeta
 have p:=@bB.ja b;by_cases h:b.ok=true<;>simp_all
def bB.l (b:bB):List Int:=[b.a0,b.a1,b.a2,b.a3,b.a4,b.a5]
def de (p:bn):Int:=p.classes.length+12
def dj (p:bn) (r:Int):Int:=
 if r - p.classes.length<0 then 1
 else if r - p.classes.length<6 then bj [p.supply.a0,p.supply.a1,p.supply.a2,p.supply.a3,p.supply.a4,p.supply.a5] (r - p.classes.length).toNat 0
 else bj [p.opn.a0,p.opn.a1,p.opn.a2,p.opn.a3,p.opn.a4,p.opn.a5] (r - p.classes.length - 6).toNat 0
def dW (p:bn) (r:Int) (o:Off):Int:=
 if r - p.classes.length<0 then(if o.bX=r then 1 else 0)
 else if r - p.classes.length<6 then bj [o.want.a0,o.want.a1,o.want.a2,o.want.a3,o.want.a4,o.want.a5] (r - p.classes.length).toNat 0
 else if bj [p.cls.a0,p.cls.a1,p.cls.a2,p.cls.a3,p.cls.a4,p.cls.a5] (r - p.classes.length - 6).toNat 0=0\/bj [p.cls.a0,p.cls.a1,p.cls.a2,p.cls.a3,p.cls.a4,p.cls.a5] (r - p.classes.length - 6).toNat 0=bj p.classes o.bX.toNat 0 then 0
 else bj [o.want.a0,o.want.a1,o.want.a2,o.want.a3,o.want.a4,o.want.a5] (r - p.classes.length - 6).toNat 0
def xJ:bM:=⟨84,bn,.one dK,λp=>p.classes.length<=8,λp=> .si .i64 (de p)⟩
def xK:bM:=⟨85,bn×Int,.cons dK (.one (eZ .i64)),λa=>a.1.classes.length<=8/\0<=a.2/\a.2<de a.1,λa=> .si .i64 (dj a.1 a.2)⟩
def xM:bM:=⟨83,bn×Int×Off,.cons dK (.cons (eZ .i64) (.one (eh .off))),λa=>a.1.classes.length<=8/\0<=a.2.1/\a.2.1<de a.1/\0<=a.2.2.bX/\a.2.2.bX<a.1.classes.length,λa=> .si .i64 (dW a.1 a.2.1 a.2.2)⟩
theorem h157:Holds Tryz.prog xJ:=by
 refine cF (L:=[]) xJ (λ_ _=> .qo 7) (by simp) ?_;intro p (b:p.classes.length<=8);refine bO (let a:=(↑p.classes.length:Int)+(12:Int);cq .i64 a/\(γh .i64 a).same (γh .i64 (de p))) (by kernel_rfl) ?_;simp only[vcs,de];omega
theorem h158:Holds Tryz.prog xK:=by
 refine cF (L:=[]) xK (λ_ _=> .qo 7) (by simp) ?_;rintro⟨p,r⟩ ⟨h,j,i⟩;simp only[de] at h j i;refine bO (let h:=(6:Int);let i:=(0:Int);let d:=γh .i64 (dj p r);let c:=(↑p.classes.length:Int);let g:=decide (r - c<i);let e:=decide (r - c<h);let f:=λ(u b:Int) (a:bB) ↦i<=u - b/\u - b<h/\(u - b).toNat<6/\(γh .i64 (bj [a.a0,a.a1,a.a2,a.a3,a.a4,a.a5] (u - b).toNat i)).same d;cq .i64 (r - c)/\(g=true->(γx .i64 1).same d)/\(g=false->(e=true->f r c p.supply)/\(e=false->cq .i64 (r - c - h)/\f (r - c) h p.opn))) (by kernel_rfl) ?_;simp only[vcs];grind[dj]
theorem h156:Holds Tryz.prog xM:=by
 refine cF (L:=[]) xM (λ_ _=> .qo 7) (by simp) ?_;rintro⟨p,r,x⟩ ⟨m,q,n,l,o⟩;simp only[de] at m q n l o;refine bO (let l:=(0:Int);let m:=(6:Int);let n:=γx .i64;let o:=γx .i64 0;let q:=γh .i64;let b:=(↑p.classes.length:Int);let e:=decide (r - b<l);let c:=q (dW p r x);let h:=decide (r - b<m);let k:=[x.want.a0,x.want.a1,x.want.a2,x.want.a3,x.want.a4,x.want.a5];let a:=r - b - m;let j:=bj [p.cls.a0,p.cls.a1,p.cls.a2,p.cls.a3,p.cls.a4,p.cls.a5] a.toNat l;let i:=decide (j=l);let g:=decide (j=bj p.classes x.bX.toNat l);let d:=decide (x.bX=r);let f:=(e=true->(n 0).same c)/\(e=false->(h=true->l<=r - b/\r - b<m/\(r - b).toNat<6/\(q (bj k (r - b).toNat l)).same c)/\(h=false->cq .i64 a/\l<=a/\a<m/\a.toNat<6/\(i=true->(n 0).same c)/\(i=false->l<=a/\a<m/\a.toNat<6/\l<=x.bX/\x.bX<b/\x.bX.toNat<p.classes.length/\(g=true->(n 0).same c)/\(g=false->l<=a/\a<m/\a.toNat<6/\(q (bj k a.toNat l)).same c))));cq .i64 (r - b)/\(e=true->(d=true->(n 1).same c)/\(d=false->f))/\(e=false->f)) (by kernel_rfl) ?_;simp only[vcs];repeat' (first|refine And.intro ?_ ?_|intro _)
 all_goals first
  |trivial;|omega;|(simp only[dW];(repeat' split)<;>first|rfl|omega)
def L2:List bM:=[xM,xJ,xK]
theorem hL2:∀c∈L2,Holds Tryz.prog c:=by
 simp_all[L2,h156,h157,h158]
def cT (p:bn) (l:List Off) (r:Int):Int:=(l.map (dW p r)).sum
def gk (p:bn) (l:List Off):Bool:=(ω (p.classes.length+12)).all λr=>decide (cT p l r<=dj p r)
def Db:bM:=⟨59,bn×List Off,.cons dK (.one (dF .off)),λa=>a.1.classes.length<=8/\a.2.length<=1000/\(∀x∈a.2,0<=x.bX/\x.bX<a.1.classes.length/\x.want.ok=true),λa=> .sb (gk a.1 a.2)⟩
def Z9 (a:bn×List Off):Nat->cE
 |3=> .inv Int (λi=>⟨[(1,.row .off a.2),(2,.ptr 0 0 20),(5,.fn (.func 83) [] []),(11,.si .i64 (de a.1)),(12,.si .i64 i)],[.cells a.1.ss 87 20 false]⟩) (λs=>iS s 12)
  (λi=>0<=i/\i<=de a.1/\∀r:Nat,r<i->cT a.1 a.2 r<=dj a.1 r) (λi=>(de a.1 - i).toNat)
  λi=>λ
   |7=> .inv (Int×Int) (λx=>⟨[(1,.row .off a.2),(2,.ptr 0 0 20),(5,.fn (.func 83) [] []),(6,.si .i64 i),(7,.si .i64 x.2),(11,.si .i64 (de a.1)),(12,.si .i64 i),(15,.row .off a.2),(16,.si .i64 a.2.length),(17,.si .i64 x.1)],[.cells a.1.ss 87 20 false]⟩)
    (λs=>(iS s 17,iS s 7))
    (λx=>0<=x.1/\x.1<=a.2.length/\x.2=cT a.1 (a.2.take x.1.toNat) i) (λx=>(a.2.length - x.1).toNat) λ_ _=> .look
   |_=> .look
 |_=> .look
theorem HI {b:bB} (h:b.ok=true) (k:Nat):0<=bj [b.a0,b.a1,b.a2,b.a3,b.a4,b.a5] k 0/\bj [b.a0,b.a1,b.a2,b.a3,b.a4,b.a5] k 0<=4:=by
 grind[bB.ja,bj]
theorem pM {p:bn} {r:Int} {o:Off} (h:o.want.ok=true):0<=dW p r o/\dW p r o<=4:=by
 unfold dW;have a:=HI h (r - p.classes.length).toNat;have b:=HI h (r - p.classes.length - 6).toNat;omega
theorem sG {p:bn} {r:Int}:∀{l:List Off},(∀x∈l,x.want.ok=true)->0<=cT p l r/\cT p l r<=4*l.length
 |[],_=>by simp[cT];|x::l,h=>by
  have b:=@pM p r x (h x (by simp));have c:=@sG p r l λy a=>h y (by simp[a]);grind[cT]
theorem dr {a:Type} {l:List a} {i:Nat} {d:a} (h:i<l.length):bj l i d∈l:=by grind[cY]
theorem jX {a:Type} {l:List a} {i:Int} {d:a} (b:0<=i) (h:i<l.length):l.take (i+1).toNat=l.take i.toNat++[bj l i.toNat d]:=by
 rw[show(i+1).toNat=i.toNat+1 from by omega,cY (by omega),List.take_succ_eq_append_getElem (by omega)]
theorem HJ {p:bn} {r:Int} {l:List Off} {i:Int} {d:Off} (a:0<=i) (h:i<l.length):cT p (l.take (i+1).toNat) r=cT p (l.take i.toNat) r+dW p r (bj l i.toNat d):=by
 grind[jX,cT]
theorem o6 {p:bn} {l:List Off}:gk p l=true↔∀r:Nat,r<de p->cT p l r<=dj p r:=by
 simp only[gk,de,φ,List.mem_range,decide_eq_true_eq];grind
theorem h134:Holds Tryz.prog Db:=by
 refine cF (L:=L2) Db Z9 hL2 ?_;rintro⟨p,l⟩ ⟨hp,hl,hb⟩;simp only at hp hl hb;refine bO (let a:=γh .i64;let b:=(0:Int);let c:=Ψ;let d:=γx .i64 0;let e:=γx .i64;let f:=cq .i64;let g:=γO 0 0 20;let h:=SV.fn (Fn.func 83) [] [];let i:=a (de p);let j:=bq.cells (bn.ss p) 87 20 false;let k:=(↑l.length:Int);let q:=a k;p.classes.length<=8/\((((c bp.off l).same (c bp.off l)/\g.same g/\h.same h/\i.same i/\(d).same (a 0)/\True)/\j.same j/\True)/\b<=b/\b<=de p/\∀(r:Nat),(↑r:Int)<b->cT p l (↑r:Int)<=dj p (↑r:Int))/\∀(x:Int),let u:=decide (x<de p);let m:=x+(1:Int);let v:=a m;(b<=x/\x<=de p/\∀(r:Nat),(↑r:Int)<x->cT p l (↑r:Int)<=dj p (↑r:Int))->(u=true->((((c bp.off l).same (c bp.off l)/\g.same g/\h.same h/\(a x).same (a x)/\(d).same (a 0)/\i.same i/\(a x).same (a x)/\(c bp.off l).same (c bp.off l)/\(a (↑l.length:Int)).same q/\(d).same (a 0)/\True)/\j.same j/\True)/\b<=b/\b<=k/\b=cT p [] x)/\∀(x_1:Int×Int),let s:=bj l x_1.fst.toNat bp.off.dflt;let t:=x_1.snd+dW p x s;let n:=x_1.fst+(1:Int);let o:=a x;let w:=a t;let y:=a n;let z:=decide (dj p x<x_1.snd);b<=x_1.fst/\x_1.fst<=k/\x_1.snd=cT p (Δ x_1.fst.toNat l) x->(decide (x_1.fst<k)=true->b<=x_1.fst/\x_1.fst<(↑l.length:Int)/\x_1.fst.toNat<l.length/\(p.classes.length<=8/\b<=x/\x<de p/\b<=s.bX/\s.bX<(↑p.classes.length:Int))/\f t/\f n/\(((c bp.off l).same (c bp.off l)/\g.same g/\h.same h/\o.same o/\w.same w/\i.same i/\o.same o/\(c bp.off l).same (c bp.off l)/\q.same q/\y.same y/\True)/\j.same j/\True)/\(b<=n/\n<=k/\t=cT p (Δ n.toNat l) x)/\(k - n).toNat<(k - x_1.fst).toNat)/\(decide (x_1.fst<k)=false->(p.classes.length<=8/\b<=x/\x<de p)/\(z=true->(δc false).same (γv (gk p l)))/\(z=false->f m/\(((c bp.off l).same (c bp.off l)/\g.same g/\h.same h/\i.same i/\v.same v/\True)/\j.same j/\True)/\(b<=m/\m<=de p/\∀(r:Nat),(↑r:Int)<m->cT p l (↑r:Int)<=dj p (↑r:Int))/\(de p - m).toNat<(de p - x).toNat)))/\(u=false->(δc true).same (γv (gk p l)))) (by kernel_rfl) ?_;simp only[vcs];have hn:de p=p.classes.length+12:=rfl;have ho:∀x∈l,x.want.ok=true:=λx hx=>(hb x hx).2.2;refine⟨hp,⟨by omega,by omega,λr hr=>by omega⟩,?_⟩;rintro i ⟨hi0,hi1,hi⟩;refine⟨λhlt=>⟨⟨by omega,by omega,by simp[cT]⟩,?_⟩,?_⟩
 ·rintro⟨j,s⟩ ⟨hj0,hj1,hs⟩;simp only at hj0 hj1 hs ⊢;have hsb:=@sG p i (l.take j.toNat) λx hx=>ho x (List.mem_of_mem_take hx);have hlen:(l.take j.toNat).length<=l.length:=by simp;omega
  refine⟨λhjl=>?_,λhjl=>?_⟩
  ·have hm:=hb _ (dr (d:=bp.off.dflt) (show j.toNat<l.length by omega));have hc:=@pM p i _ hm.2.2;have hst:=@HJ p i l j bp.off.dflt hj0 hjl;refine⟨by omega,by omega,by omega,⟨hp,by omega,by omega,hm.1,hm.2.1⟩,by omega,by omega,⟨by omega,by omega,by omega⟩,by omega⟩
  ·have:j.toNat=l.length:=by omega
   rw[this,ψ] at hs;refine⟨⟨hp,by omega,by omega⟩,λhgt=>?_,λhle=>⟨by omega,⟨by omega,by omega,λr hr=>?_⟩,by omega⟩⟩
   ·symm;rw[Bool.eq_false_iff];intro hf;have:=o6.1 hf i.toNat (by omega);rw[show((i.toNat:Nat):Int)=i from by omega] at this;omega
   ·by_cases hr2:(r:Int)<i;·exact hi r hr2
    ·have:(r:Int)=i:=by omega
     rw[this];omega
 ·intro hge;symm;exact o6.2 λr hr=>hi r (by omega)
def L3:List bM:=[Db,HH,xM,xJ,xK]
theorem hL3:∀c∈L3,Holds Tryz.prog c:=by
 simp only[L3,List.forall_mem_cons,List.not_mem_nil,false_implies,implies_true,and_true];grind[h134,h146,h156,h157,h158]
def iH (p:bn) (k:Nat):Prop:=
 let c:=bj [p.cls.a0,p.cls.a1,p.cls.a2,p.cls.a3,p.cls.a4,p.cls.a5] k 0;let o:=bj [p.opn.a0,p.opn.a1,p.opn.a2,p.opn.a3,p.opn.a4,p.opn.a5] k 0;let s:=bj [p.supply.a0,p.supply.a1,p.supply.a2,p.supply.a3,p.supply.a4,p.supply.a5] k 0;0<=c/\c<=4/\0<=o/\o<=s/\(c≠0\/o=s)
instance (p:bn) (k:Nat):Decidable (iH p k):=by unfold iH;infer_instance
def Dc (p:bn):Bool:=(ω 6).all λk=>decide (iH p k)
theorem om {p:bn} {k:Nat}:iH p k↔(0<=bj [p.cls.a0,p.cls.a1,p.cls.a2,p.cls.a3,p.cls.a4,p.cls.a5] k 0/\bj [p.cls.a0,p.cls.a1,p.cls.a2,p.cls.a3,p.cls.a4,p.cls.a5] k 0<=4/\0<=bj [p.opn.a0,p.opn.a1,p.opn.a2,p.opn.a3,p.opn.a4,p.opn.a5] k 0/\
  bj [p.opn.a0,p.opn.a1,p.opn.a2,p.opn.a3,p.opn.a4,p.opn.a5] k 0<=bj [p.supply.a0,p.supply.a1,p.supply.a2,p.supply.a3,p.supply.a4,p.supply.a5] k 0/\
  (bj [p.cls.a0,p.cls.a1,p.cls.a2,p.cls.a3,p.cls.a4,p.cls.a5] k 0≠0\/bj [p.opn.a0,p.opn.a1,p.opn.a2,p.opn.a3,p.opn.a4,p.opn.a5] k 0=bj [p.supply.a0,p.supply.a1,p.supply.a2,p.supply.a3,p.supply.a4,p.supply.a5] k 0)):=Iff.rfl
attribute [irreducible] iH
theorem zW {p:bn}:Dc p=true↔∀k,k<6->iH p k:=by simp[Dc]
def iO (p:bn):Int:=
 if p.supply.ok=false then 4
 else if Dc p=false then 4
 else if 8<p.classes.length\/160<p.offers.length then 3
 else if ¬∀c∈p.classes,0<=c/\c<=4 then 4
 else 0
def HK:bM:=⟨46,bn,.one dK,λp=>True,λp=> .si .i64 (iO p)⟩
def aac (p:bn):Nat->cE
 |5=> .inv Int (λk=>⟨[(1,.ptr 0 0 20),(16,.si .i64 k)],[.cells p.ss 87 20 false]⟩) (λs=>iS s 16) (λk=>0<=k/\k<=6/\∀j:Nat,j<k->iH p j) (λk=>(6 - k).toNat) λ_ _=> .look
 |14=> .inv Int (λk=>⟨[(76,.row (.i .i64) p.classes),(77,.si .i64 p.classes.length),(78,.si .i64 k)],[.cells p.ss 87 20 false]⟩) (λs=>iS s 78)
  (λk=>0<=k/\k<=p.classes.length/\∀c∈p.classes.take k.toNat,0<=c/\c<=4) (λk=>(p.classes.length - k).toNat) λ_ _=> .look
 |_=> .look
theorem P6 {p:bn} (h:p.supply.ok=false):iO p=4:=by simp[iO,h]
theorem P7 {p:bn} (h:p.supply.ok=true) {k:Nat} (b:k<6) (a:¬iH p k):iO p=4:=by
 grind[zW,iO]
theorem Df {p:bn} (h:p.supply.ok=true) (b:∀j:Nat,j<6->iH p j) (a:8<p.classes.length\/160<p.offers.length):iO p=3:=by
 grind[iO,zW]
theorem Dh {p:bn} (h:p.supply.ok=true) (f:∀j:Nat,j<6->iH p j) (e:¬(8<p.classes.length\/160<p.offers.length)) {c:Int} (b:c∈p.classes) (a:¬(0<=c/\c<=4)):iO p=4:=by
 have:¬∀c∈p.classes,0<=c/\c<=4:=λd=>a (d c b);simp_all[iO]
theorem HL {p:bn} (h:p.supply.ok=true) (b:∀j:Nat,j<6->iH p j) (d:¬(8<p.classes.length\/160<p.offers.length)) (a:∀c∈p.classes,0<=c/\c<=4):iO p=0:=by
 simp_all[iO,zW,if_neg]
theorem vO {p:bn} (h:iO p=0):p.supply.ok=true/\(∀j:Nat,j<6->iH p j)/\p.classes.length<=8/\p.offers.length<=160/\∀c∈p.classes,0<=c/\c<=4:=by
 unfold iO at h;split at h;·cases h
 ·split at h;·cases h
  ·split at h;all_goals simp_all[zW]
theorem P8 {l:List Int} {i:Int} {P:Int->Prop} (d:0<=i) (h:i<l.length) (a:∀c∈l.take i.toNat,P c) (b:P (bj l i.toNat 0)):∀c∈l.take (i+1).toNat,P c:=by
 grind[jX]
theorem h118:Holds Tryz.prog HK:=by
 refine cF (L:=L3) HK aac hL3 ?_;intro p _;refine bO (let a:=γh .i64;let b:=(0:Int);let d:=γx .i64;let e:=(6:Int);let f:=(4:Int);let y:=if p.supply.ok=true then b else f;let g:=a (iO p);let q:=γO 0 0 20;let s:=d 0;let n:=Ψ (bp.i .i64) p.classes;let h:=bq.cells [a p.supply.a0,a p.supply.a1,a p.supply.a2,a p.supply.a3,a p.supply.a4,a p.supply.a5,a p.opn.a0,a p.opn.a1,a p.opn.a2,a p.opn.a3,a p.opn.a4,a p.opn.a5,a p.cls.a0,a p.cls.a1,a p.cls.a2,a p.cls.a3,a p.cls.a4,a p.cls.a5,n,Ψ bp.off p.offers] 87 20 false;let N:=[p.cls.a0,p.cls.a1,p.cls.a2,p.cls.a3,p.cls.a4,p.cls.a5];let O:=[p.opn.a0,p.opn.a1,p.opn.a2,p.opn.a3,p.opn.a4,p.opn.a5];let P:=[p.supply.a0,p.supply.a1,p.supply.a2,p.supply.a3,p.supply.a4,p.supply.a5];let t:=(↑p.classes.length:Int);let z:=decide ((8:Int)<t);let A:=decide ((160:Int)<(↑p.offers.length:Int));let k:=(↑p.classes.length:Int);let v:=a k;let B:=λ(u:Bool) ↦decide (y≠b)=u;True/\(B true->(a y).same g)/\(B false->(((q.same q/\s.same (a 0)/\True)/\h.same h/\True)/\b<=b/\b<=e/\∀(j:Nat),(↑j:Int)<b->iH p j)/\∀(x:Int),let l:=x+(1:Int);let C:=a l;let D:=decide (x<e);let w:=bj N x.toNat b;let E:=decide (w<b);let F:=decide (f<w);let o:=bj O x.toNat b;let G:=decide (o<b);let r:=bj P x.toNat b;let H:=decide (w=b);let I:=cq .i64 l/\((q.same q/\C.same C/\True)/\h.same h/\True)/\(b<=l/\l<=e/\∀(j:Nat),(↑j:Int)<l->iH p j)/\(e - l).toNat<(e - x).toNat;(b<=x/\x<=e/\∀(j:Nat),(↑j:Int)<x->iH p j)->(D=true->b<=x/\x<e/\x.toNat<6/\b<=x/\x<e/\x.toNat<6/\(E=true->(d 4).same g)/\(E=false->(F=true->(d 4).same g)/\(F=false->(G=true->(d 4).same g)/\(G=false->b<=x/\x<e/\x.toNat<6/\(decide (r<o)=true->(d 4).same g)/\(decide (r<o)=false->(H=true->b<=x/\x<e/\x.toNat<6/\(decide (o≠r)=true->(d 4).same g)/\(decide (o≠r)=false->I))/\(H=false->I))))))/\(D=false->(z=true->(d 3).same g)/\(z=false->(A=true->(d 3).same g)/\(A=false->(((n.same n/\(a t).same v/\s.same (a 0)/\True)/\h.same h/\True)/\b<=b/\b<=k/\∀(c:Int),c∈[]->b<=c/\c<=f)/\∀(x:Int),let J:=bj p.classes x.toNat b;let K:=decide (J<b);let L:=decide (f<J);let m:=x+(1:Int);let M:=a m;(b<=x/\x<=k/\∀(c:Int),c∈Δ x.toNat p.classes->b<=c/\c<=f)->(decide (x<k)=true->b<=x/\x<t/\x.toNat<p.classes.length/\(K=true->(d 4).same g)/\(K=false->(L=true->(d 4).same g)/\(L=false->cq .i64 m/\((n.same n/\v.same v/\M.same M/\True)/\h.same h/\True)/\(b<=m/\m<=k/\∀(c:Int),c∈Δ m.toNat p.classes->b<=c/\c<=f)/\(k - m).toNat<(k - x).toNat)))/\(decide (x<k)=false->s.same g)))))) (by kernel_rfl) ?_;simp only[vcs];by_cases hs:bB.ok p.supply=true
 ·simp only[hs,if_true];refine⟨λh=>absurd rfl h,λ_=>⟨⟨by omega,by omega,λj hj=>by omega⟩,?_⟩⟩;rintro k ⟨hk0,hk1,hk⟩;refine⟨λhlt=>?_,λhge=>?_⟩
  ·have bad:¬iH p k.toNat->(4:Int)=iO p:=λh=>(P7 hs (by omega) h).symm;have HM:iH p k.toNat->∀(j:Nat),(j:Int)<k+1->iH p j:=λh j hj=>by
    by_cases hj2:(j:Int)<k;·exact hk j hj2
    ·rw[show j=k.toNat from by omega];exact h
   repeat' (first|refine And.intro ?_ ?_|intro _)
   all_goals first
    |omega;|exact bad λhh=>by have h2:=om.1 hh;omega;|exact HM (om.2 (by omega)) _ (by assumption)
  ·have hall:∀j:Nat,j<6->iH p j:=λj hj=>hk j (by omega);refine⟨λh=>(Df hs hall (.inl (by omega))).symm,λh8=>⟨λh=>(Df hs hall (.inr (by omega))).symm,λh160=>⟨⟨by omega,by omega,by simp⟩,?_⟩⟩⟩;rintro i ⟨hi0,hi1,hi⟩;refine⟨λhlt=>?_,λhge=>?_⟩
   ·have hm:=dr (d:=0) (show i.toNat<p.classes.length by omega);refine⟨by omega,by omega,by omega,λh=>(Dh hs hall (by omega) hm (by omega)).symm,λh1=>⟨λh=>(Dh hs hall (by omega) hm (by omega)).symm,λh2=>⟨by omega,⟨by omega,by omega,?_⟩,by omega⟩⟩⟩;exact P8 hi0 hlt hi (by omega)
   ·rw[show i.toNat=p.classes.length from by omega,ψ] at hi;exact(HL hs hall (by omega) hi).symm
 ·have hs2:bB.ok p.supply=false:=by simpa using hs
  simp only[hs2,χ,if_false];exact⟨λ_=>(P6 hs2).symm,λh=>absurd (by decide) h⟩
def kH (n:Int) (o:Off):Int:=
 if o.bX<0\/n<=o.bX then 6 else if o.value<1\/1000000<o.value then 4 else if o.want.ok then 0 else 4
def HN:bM:=⟨66,Int×Off,.cons (eZ .i64) (.one (eh .off)),λp=>True,λp=> .si .i64 (kH p.1 p.2)⟩
theorem h147:Holds Tryz.prog HN:=by
 refine cF (L:=L3) HN (λp=>λ_=> .look) hL3 ?_;rintro⟨n,x⟩ _;refine bO (let f:=γx .i64;let e:=decide (x.bX<(0:Int));let a:=γh .i64 (kH n x);let c:=decide (n<=x.bX);let b:=decide (x.value<(1:Int));let d:=decide ((1000000:Int)<x.value);(e=true->(f 6).same a)/\(e=false->(c=true->(f 6).same a)/\(c=false->(b=true->(f 4).same a)/\(b=false->(d=true->(f 4).same a)/\(d=false->True/\(γh .i64 (if x.want.ok=true then(0:Int) else(4:Int))).same a))))) (by kernel_rfl) ?_;simp only[vcs];grind[kH]
def ki (p:bn) (o:Off):Int:=
 if kH p.classes.length o≠0 then kH p.classes.length o else if o.want=bB.zero then 4 else if gk p [o]=false then 14 else 0
def HO:bM:=⟨47,bn×Off,.cons dK (.one (eh .off)),λa=>a.1.classes.length<=8,λa=> .si .i64 (ki a.1 a.2)⟩
def L4:List bM:=HN::L3
theorem hL4:∀c∈L4,Holds Tryz.prog c:=by
 grind[L4,h147,hL3]
theorem HQ {n:Int} {o:Off} (h:kH n o=0):0<=o.bX/\o.bX<n/\1<=o.value/\o.value<=1000000/\o.want.ok=true:=by
 grind[kH]
theorem h119:Holds Tryz.prog HO:=by
 refine cF (L:=L4) HO (λp=>λ_=> .look) hL4 ?_;rintro⟨p,x⟩ (i:p.classes.length<=8);refine bO (let f:=(0:Int);let g:=γx .i64;let c:=kH (↑p.classes.length:Int) x;let e:=decide (c≠f);let b:=γh .i64 (ki p x);let d:=λ(u:Bool) ↦(decide (x.want.a0=f)&&(decide (x.want.a1=f)&&(decide (x.want.a2=f)&&(decide (x.want.a3=f)&&(decide (x.want.a4=f)&&(decide (x.want.a5=f)&&true))))))=u;True/\(e=true->(γh .i64 c).same b)/\(e=false->(d true->(g 4).same b)/\(d false->(p.classes.length<=8/\1<=1000/\∀(a:Off),a∈[x]->f<=a.bX/\a.bX<(↑p.classes.length:Int)/\a.want.ok=true)/\((!gk p [x])=true->(g 14).same b)/\((!gk p [x])=false->(g 0).same b)))) (by kernel_rfl) ?_;conv=>zeta
 have g:(decide (x.want.a0=0)&&(decide (x.want.a1=0)&&(decide (x.want.a2=0)&&(decide (x.want.a3=0)&&(decide (x.want.a4=0)&&decide (x.want.a5=0))))))=decide (x.want=bB.zero):=by
  simp_all[Da,bB.zero]
 simp only[Bool.and_true,g];simp only[vcs];refine⟨λh=>by simp_all[ki],λh=>?_⟩;have f:kH p.classes.length x=0:=γg.1 h;have j:=HQ f;grind[ki]
def L5:List bM:=HK::HO::L4
theorem hL5:∀c∈L5,Holds Tryz.prog c:=by
 grind[L5,h118,h119,hL4]
def Off.key (o:Off):nT:=⟨o.bX,o.want⟩
def jb (p:bn) (a:List nT):List Off->Int
 |[]=>0
 |o::r=>if ki p o≠0 then ki p o else if o.key∈a then 7 else jb p (a++[o.key]) r
def bz (p:bn):Int:=if iO p≠0 then iO p else jb p [] p.offers
def o7:bM:=⟨28,bn,.one dK,λp=>True,λp=> .si .i64 (bz p)⟩
def aad (p:bn):Nat->cE
 |7=> .inv Int (λi=>⟨[(3,.ptr 1 0 20),(5,.mp 2),(19,.row .off p.offers),(20,.si .i64 p.offers.length),(21,.si .i64 i)],
   [.cells p.ss 27 20 false,.cells p.ss 87 20 false,.map .key .b true ((p.offers.take i.toNat).map λo=>(o.key,true)) ([0,0,0,0,0,0,0],true) true]⟩) (λs=>iS s 21)
  (λi=>0<=i/\i<=p.offers.length/\jb p [] p.offers=jb p ((p.offers.take i.toNat).map Off.key) (p.offers.drop i.toNat)) (λi=>(p.offers.length - i).toNat) λ_ _=> .look
 |_=> .look
theorem sH {a:Type} {l:List a} {i:Int} {d:a} (b:0<=i) (h:i<l.length):l.drop i.toNat=bj l i.toNat d::l.drop (i+1).toNat:=by
 rw[show(i+1).toNat=i.toNat+1 from by omega,cY (by omega),List.drop_eq_getElem_cons (by omega)]
theorem Di (k:nT):∀(l:List Off),(nX .key .b k (l.map λo=>(o.key,true))).getD false=decide (k∈l.map Off.key)
 |[]=>by simp[nX];|o::l=>by
  have:=Di k l;grind[nX]
theorem aae {b sv:bp} {c:Bool} {es a:List (b.T×sv.T)} {d:List Nat×Bool} {pu:Bool} (h:es=a):(bq.map b sv c es d pu).same (.map b sv c a d pu):=by rw[h];rfl
theorem aaf {k:nT} {l:List Off} (h:k∉l.map Off.key):sx .key .b k true (l.map λo=>(o.key,true))=(l.map λo=>(o.key,true))++[(k,true)]:=
 G6 λp a=>by
  grind
theorem h79:Holds Tryz.prog o7:=by
 refine cF (L:=L5) o7 aad hL5 ?_;intro p _;refine bO (let a:=γh .i64;let c:=(0:Int);let f:=Ψ bp.off p.offers;let q:=decide (iO p≠c);let g:=a (bz p);let h:=γO 1 0 20;let r:=(↑p.offers.length:Int);let d:=(↑p.offers.length:Int);let m:=a d;let s:=γx .i64 0;let n:=([0,0,0,0,0,0,0],true);let t:=bq.map bp.key bp.b true [] n true;let j:=jb p [] p.offers;let E:=bp.off.dflt;let k:=λ(u:Nat) ↦let v:=bq.cells [a p.supply.a0,a p.supply.a1,a p.supply.a2,a p.supply.a3,a p.supply.a4,a p.supply.a5,a p.opn.a0,a p.opn.a1,a p.opn.a2,a p.opn.a3,a p.opn.a4,a p.opn.a5,a p.cls.a0,a p.cls.a1,a p.cls.a2,a p.cls.a3,a p.cls.a4,a p.cls.a5,Ψ (bp.i .i64) p.classes,f] u 20 false;v.same v;True/\(q=true->(a (iO p)).same g)/\(q=false->(((h.same h/\(SV.mp 2).same (SV.mp 2)/\f.same f/\(a r).same m/\s.same (a 0)/\True)/\k 27/\k 87/\t.same t/\True)/\c<=c/\c<=d/\j=j)/\∀(x:Int),let w:=Δ x.toNat p.offers;let l:=bj p.offers x.toNat E;let y:=decide (ki p l≠c);let z:=nT.mk l.bX l.want;let A:=γb (λ(o:Off) ↦(o.key,true)) w;let B:=(nX bp.key bp.b z A).getD false;let e:=x+(1:Int);let C:=a e;let D:=Δ e.toNat p.offers;c<=x/\x<=d/\j=jb p (γb Off.key w) (γ2 x.toNat p.offers)->(decide (x<d)=true->c<=x/\x<r/\x.toNat<p.offers.length/\p.classes.length<=8/\(y=true->(a (ki p l)).same g)/\(y=false->(B=true->(γx .i64 7).same g)/\(B=false->cq .i64 e/\((h.same h/\(SV.mp 2).same (SV.mp 2)/\f.same f/\m.same m/\C.same C/\True)/\k 27/\k 87/\(bq.map bp.key bp.b true (sx bp.key bp.b z true A) n true).same (bq.map bp.key bp.b true (γb (λ(o:Off) ↦(o.key,true)) D) n true)/\True)/\(c<=e/\e<=d/\j=jb p (γb Off.key D) (γ2 e.toNat p.offers))/\(d - e).toNat<(d - x).toNat)))/\(decide (x<d)=false->s.same g))) (by kernel_rfl) ?_;simp only[vcs];refine⟨λh=>by simp[bz,h],λh=>?_⟩;have hz:iO p=0:=γg.1 h;obtain⟨f1,f2,f3,f4,f5⟩:=vO hz;refine⟨⟨by omega,by omega⟩,?_⟩;rintro i ⟨hi0,hi1,hi⟩;refine⟨λhlt=>?_,λhge=>?_⟩
 ·rw[sH (d:=bp.off.dflt) hi0 hlt] at hi;generalize hx:bj p.offers i.toNat bp.off.dflt=x at hi ⊢;refine⟨by omega,by omega,by omega,f3,λhe=>?_,λhe=>?_⟩
  ·simp only[jb,if_pos he] at hi;simp[bz,hz,hi]
  ·simp only[jb,if_neg he] at hi;have hk:(⟨x.bX,x.want⟩:nT)=x.key:=rfl;simp only[hk];refine⟨λhm=>?_,λhm=>⟨by omega,?_,⟨by omega,by omega,?_⟩,by omega⟩⟩
   ·have hm2:=of_decide_eq_true ((Di _ _).symm.trans hm);rw[if_pos hm2] at hi;simp[bz,hz,hi]
   ·have hm2:=of_decide_eq_false ((Di _ _).symm.trans hm);apply aae;rw[aaf hm2,jX (d:=bp.off.dflt) hi0 hlt,hx];simp
   ·have hm2:=of_decide_eq_false ((Di _ _).symm.trans hm);rw[if_neg hm2] at hi;rw[hi,jX (d:=bp.off.dflt) hi0 hlt,hx];simp
 ·rw[show i.toNat=p.offers.length from by omega,δz] at hi;simp only[jb] at hi;simp[bz,hz,hi]
def ef (l:List Off) (a:Int):List Int->Option (List Off)
 |[]=>some []
 |i::r=>if i<=a\/l.length<=i then none else(ef l i r).map (bj l i.toNat bp.off.dflt::·)
def fR (p:bn) (c:List Int):Bool:=(ef p.offers (-1) c).isSome
def dX (p:bn) (c:List Int):List Off:=(ef p.offers (-1) c).getD []
def Dj:bM:=⟨58,bn×List Int,.cons dK (.one (dF (.i .i64))),λa=>a.2.length<=9223372036854775807/\a.1.offers.length<=1000,λa=> .bI [.row .off (dX a.1 a.2),.sb (fR a.1 a.2)]⟩
def aag (a:bn×List Int):Nat->cE
 |4=> .inv (Int×Int×List Off) (λx=>⟨[(2,.ptr 0 0 20),(6,.ow 1 x.2.2.length 8),(7,.si .i64 x.2.1),(10,.row (.i .i64) a.2),(11,.si .i64 a.2.length),(12,.si .i64 x.1)],
   [.cells a.1.ss 27 20 false,.row .off x.2.2 65 true]⟩) (λs=>(iS s 12,iS s 7,oS .off s 1))
  (λx=>0<=x.1/\x.1<=a.2.length/\(x.2.2.length<=x.2.1+1/\x.2.1<1000)/\ -1<=x.2.1/\ef a.1.offers (-1) a.2=(ef a.1.offers x.2.1 (a.2.drop x.1.toNat)).map (x.2.2++·)) (λx=>(a.2.length - x.1).toNat) λ_ _=> .look
 |_=> .look
theorem h133:Holds Tryz.prog Dj:=by
 refine cF (L:=L5) Dj aag hL5 ?_;rintro⟨p,c⟩ ⟨hc,hof⟩;have hc:c.length<=9223372036854775807:=hc;have hof:p.offers.length<=1000:=hof;refine bO (let a:=γh .i64;let b:=(0:Int);let d:=(-1:Int);let e:=Ψ;let f:=(1000:Int);let g:=δc false;let h:=SV.bI;let j:=(1:Int);let q:=γO 0 0 20;let w:=SV.ow 1 0 8;let m:=bp.i .i64;let l:=(↑c.length:Int);let t:=a l;let r:=bq.cells [a p.supply.a0,a p.supply.a1,a p.supply.a2,a p.supply.a3,a p.supply.a4,a p.supply.a5,a p.opn.a0,a p.opn.a1,a p.opn.a2,a p.opn.a3,a p.opn.a4,a p.opn.a5,a p.cls.a0,a p.cls.a1,a p.cls.a2,a p.cls.a3,a p.cls.a4,a p.cls.a5,e m p.classes,e bp.off p.offers] 27 20 false;let y:=bq.row bp.off [] 65 true;let s:=ef p.offers d c;let u:=h [e bp.off (dX p c),γv (fR p c)];let v:=(↑p.offers.length:Int);(((q.same q/\w.same w/\(γx .i64 d).same (a d)/\(e m c).same (e m c)/\(a (↑c.length:Int)).same t/\(γx .i64 0).same (a 0)/\True)/\r.same r/\y.same y/\True)/\b<=b/\b<=l/\(b<=b/\d<f)/\d<=d/\s=ζp (λx ↦(b,d,[]).snd.snd++x) s)/\∀(x:Int×Int×List Off),let k:=bj c x.fst.toNat b;let z:=decide (k<=x.snd.fst);let A:=x.snd.snd.length+1;let n:=x.fst+j;let o:=x.snd.snd++[bj p.offers k.toNat bp.off.dflt];let B:=a k;let C:=a n;let D:=bq.row bp.off o 65 true;b<=x.fst/\x.fst<=l/\((↑x.snd.snd.length:Int)<=x.snd.fst+j/\x.snd.fst<f)/\d<=x.snd.fst/\s=ζp (λx_1 ↦x.snd.snd++x_1) (ef p.offers x.snd.fst (γ2 x.fst.toNat c))->(decide (x.fst<l)=true->b<=x.fst/\x.fst<(↑c.length:Int)/\x.fst.toNat<c.length/\(z=true->(h [e m [],g]).same u)/\(z=false->(decide (v<=k)=true->(h [e m [],g]).same u)/\(decide (v<=k)=false->b<=k/\k<v/\k.toNat<p.offers.length/\x.snd.snd.length=x.snd.snd.length/\A*64<=140737488355328/\A<=1000000000000/\cq .i64 n/\((q.same q/\(SV.ow 1 o.length 8).same (SV.ow 1 o.length 8)/\B.same B/\(e m c).same (e m c)/\t.same t/\C.same C/\True)/\r.same r/\D.same D/\True)/\(b<=n/\n<=l/\((↑o.length:Int)<=k+j/\k<f)/\d<=k/\s=ζp (λx ↦(n,k,o).snd.snd++x) (ef p.offers k (γ2 n.toNat c)))/\(l - n).toNat<(l - x.fst).toNat)))/\(decide (x.fst<l)=false->x.snd.snd.length=x.snd.snd.length/\(h [e bp.off x.snd.snd,δc true]).same u)) (by kernel_rfl) ?_;simp only[vcs];have hrow:∀{l:List Off},l=[]->(Ψ (.i .i64) []).same (Ψ .off l):=by rintro l rfl;exact HG.2 trivial
 refine⟨⟨by omega,by omega,by omega,by simp⟩,?_⟩;rintro⟨i,last,out⟩ ⟨hi0,hi1,hlen,hla,hi⟩;simp only at hi0 hi1 hlen hla hi ⊢;refine⟨λhlt=>?_,λhge=>?_⟩
 ·rw[sH (d:=0) hi0 hlt] at hi;generalize hx:bj c i.toNat 0=x at hi ⊢;simp only[ef] at hi;refine⟨by omega,by omega,by omega,λh1=>?_,λh1=>⟨λh2=>?_,λh2=>?_⟩⟩
  ·rw[if_pos (.inl h1)] at hi;exact⟨hrow (by simp[dX,hi]),by simp[fR,hi]⟩
  ·rw[if_pos (.inr (by omega))] at hi;exact⟨hrow (by simp[dX,hi]),by simp[fR,hi]⟩
  ·rw[if_neg (by omega)] at hi;simp only[List.length_append,List.length_singleton];refine⟨by omega,by omega,by omega,by omega,by omega,by omega,⟨by omega,by omega,by omega,by omega,?_⟩,by omega⟩;rw[hi,Option.map_map];congr 1;funext r;simp
 ·rw[show i.toNat=c.length from by omega,δz] at hi;simp only[ef,ν,List.append_nil] at hi;exact⟨by simp[dX,hi],by simp[fR,hi]⟩
def L6:List bM:=o7::Dj::L5
theorem hL6:∀c∈L6,Holds Tryz.prog c:=by
 grind[L6,h79,h133,hL5]
def dh (p:bn) (c:List Int):Int:=if bz p≠0 then bz p else if fR p c=false then 4 else if gk p (dX p c)=false then 14 else 0
def xN:bM:=⟨37,bn×List Int,.cons dK (.one (dF (.i .i64))),λa=>a.2.length<=9223372036854775807,λa=> .si .i64 (dh a.1 a.2)⟩
theorem P9 {p:bn}:∀{l:List Off} {a:List nT},jb p a l=0->∀x∈l,ki p x=0
 |[],_,_=>by simp;|o::r,a,h=>by
  simp only[jb] at h;split at h;·omega
  ·rename_i c;split at h;·cases h
   ·intro x b;rcases γz.1 b with rfl|b;·omega
    ·exact P9 h x b
theorem vP {p:bn} (h:bz p=0):iO p=0/\∀x∈p.offers,ki p x=0:=by
 unfold bz at h;split at h;·omega
 ·rename_i a;exact⟨γg.1 a,P9 h⟩
theorem HS {p:bn} {o:Off} (h:ki p o=0):kH p.classes.length o=0/\o.want≠bB.zero/\gk p [o]=true:=by
 unfold ki at h;grind
theorem Dk {l:List Off}:∀{c:List Int} {a:Int} {r:List Off}, -1<=a->ef l a c=some r->r.length+a+1<=l.length\/r=[]
 |[],a,r,_,h=>by grind[ef];|i::c,a,r,d,h=>by
  simp only[ef] at h;split at h;·cases h
  ·rename_i e;obtain⟨f,b,rfl⟩:=ε.1 h;have:=Dk (by omega) b;grind
theorem HT {l:List Off}:∀{c:List Int} {a:Int} {r:List Off}, -1<=a->ef l a c=some r->∀x∈r,x∈l
 |[],a,r,_,h=>by grind[ef];|i::c,a,r,f,h=>by
  simp only[ef] at h;split at h;·cases h
  ·rename_i e;obtain⟨g,d,rfl⟩:=ε.1 h;intro x b;rcases γz.1 b with rfl|b;·grind[dr]
   ·exact HT (by omega) d x b
theorem h100:Holds Tryz.prog xN:=by
 refine cF (L:=L6) xN (λp=>λ_=> .look) hL6 ?_;rintro⟨p,c⟩ (n:c.length<=9223372036854775807);refine bO (let a:=γx .i64;let e:=decide (bz p≠(0:Int));let d:=γh .i64 (dh p c);let f:=!gk p (dX p c);True/\(e=true->(γh .i64 (bz p)).same d)/\(e=false->(c.length<=9223372036854775807/\p.offers.length<=1000)/\((!fR p c)=true->(a 4).same d)/\((!fR p c)=false->(p.classes.length<=8/\(dX p c).length<=1000/\∀(x:Off),x∈dX p c->(0:Int)<=x.bX/\x.bX<(↑p.classes.length:Int)/\x.want.ok=true)/\(f=true->(a 14).same d)/\(f=false->(a 0).same d)))) (by kernel_rfl) ?_;simp only[vcs];refine⟨λh=>by simp[dh,h],λh=>?_⟩;have g:bz p=0:=γg.1 h;obtain⟨m,j⟩:=vP g;obtain⟨s,o,l,q,t⟩:=vO m;refine⟨⟨n,by omega⟩,λa=>by grind[dh],λa=>⟨⟨l,?_,?_⟩,λk=>by grind[dh],λk=>by grind[dh]⟩⟩
 ·unfold fR at a;obtain⟨r,b⟩:=γp.1 a;have:=Dk (by omega) b;grind[dX]
 ·unfold fR at a;obtain⟨r,b⟩:=γp.1 a;simp only[dX,b,Option.getD_some];intro x i;have u:=HQ (HS (j x (HT (by omega) b x i))).1;simp_all
def bB.sub (a b:bB):bB:=⟨a.a0 - b.a0,a.a1 - b.a1,a.a2 - b.a2,a.a3 - b.a3,a.a4 - b.a4,a.a5 - b.a5⟩
def bB.meet (a b:bB):bB:=⟨min a.a0 b.a0,min a.a1 b.a1,min a.a2 b.a2,min a.a3 b.a3,min a.a4 b.a4,min a.a5 b.a5⟩
def bB.le (a b:bB):Bool:=decide (a.a0<=b.a0)&&decide (a.a1<=b.a1)&&decide (a.a2<=b.a2)&&decide (a.a3<=b.a3)&&decide (a.a4<=b.a4)&&decide (a.a5<=b.a5)
theorem bB.le_iff {a b:bB}:a.le b=true↔a.a0<=b.a0/\a.a1<=b.a1/\a.a2<=b.a2/\a.a3<=b.a3/\a.a4<=b.a4/\a.a5<=b.a5:=by
 simp[bB.le,and_assoc]
theorem aah {a b:List SV}:(SV.agg a).same (.agg b)↔gL a=gL b:=by simp[εV,γB]
def HU:bM:=⟨67,bB×bB,.cons (eh .ff) (.one (eh .ff)),λ_=>True,λa=> .agg (encS .ff (a.1.meet a.2))⟩
theorem h163:Holds Tryz.prog HU:=by
 refine cF (L:=[]) HU (λ_=>λ_=> .qo 7) (by simp) ?_;rintro⟨a,b⟩ _;refine bO (let c:=γh .i64;(SV.agg [c (min a.a0 b.a0),c (min a.a1 b.a1),c (min a.a2 b.a2),c (min a.a3 b.a3),c (min a.a4 b.a4),c (min a.a5 b.a5)]).same (SV.agg [c (a.meet b).a0,c (a.meet b).a1,c (a.meet b).a2,c (a.meet b).a3,c (a.meet b).a4,c (a.meet b).a5])) (by kernel_rfl) ?_;simp only[vcs,aah,gL,γB,bB.meet,and_self]
def Dl (p:bn) (m:Int):Int:=if bz p≠0 then bz p else if m<0\/2^p.classes.length<=m then 4 else 0
structure L8 where
 (l0 l1 l2 l3 l4 l5 l6 l7:List Off)
structure Qa where
 p:bn
 ls:L8
 es:List (Sit×Int)
def zY (p:bn) (j:Int):List Off:=p.offers.filter λx=>decide (x.bX=j)
def Qa.o (s:Qa):bZ:=
 [.cells [.si .i64 s.p.supply.a0,.si .i64 s.p.supply.a1,.si .i64 s.p.supply.a2,.si .i64 s.p.supply.a3,.si .i64 s.p.supply.a4,.si .i64 s.p.supply.a5,
  .si .i64 s.p.opn.a0,.si .i64 s.p.opn.a1,.si .i64 s.p.opn.a2,.si .i64 s.p.opn.a3,.si .i64 s.p.opn.a4,.si .i64 s.p.opn.a5,
  .si .i64 s.p.cls.a0,.si .i64 s.p.cls.a1,.si .i64 s.p.cls.a2,.si .i64 s.p.cls.a3,.si .i64 s.p.cls.a4,.si .i64 s.p.cls.a5,
  .row (.i .i64) s.p.classes,.row .off s.p.offers,.row .off s.ls.l0,.row .off s.ls.l1,.row .off s.ls.l2,.row .off s.ls.l3,.row .off s.ls.l4,.row .off s.ls.l5,.row .off s.ls.l6,.row .off s.ls.l7,.mp 1] 114 29 false,
  .map .sit (.i .i64) true s.es ([0,0,0,0,0,0,0,0,0,0,0,0,0],true) true]
def oc (c w a j k:Int):Int:=if j<k/\(c=0\/c=a) then 0 else w
def lU (p:bn) (x:Off):Int:=bj p.classes x.bX.toNat 0
def HV (p:bn) (x:Off) (k:Int):bB:=⟨oc p.cls.a0 x.want.a0 (lU p x) 0 k,oc p.cls.a1 x.want.a1 (lU p x) 1 k,oc p.cls.a2 x.want.a2 (lU p x) 2 k,oc p.cls.a3 x.want.a3 (lU p x) 3 k,oc p.cls.a4 x.want.a4 (lU p x) 4 k,oc p.cls.a5 x.want.a5 (lU p x) 5 k⟩
def fh (p:bn) (x:Off):bB:=HV p x 6
def Sit.b (a:Sit):Prop:=a.left.ok=true/\a.opn.ok=true
end Go.Vi
namespace Go.Proofs.YtbnhiekmnpikhaaGreat
open Go.ChangeShapes Go.WideShapes Go.ChangeAt Go.RowKit Go.Vi
theorem Tryz.own:ownKnob Tryz.prog.godebug=none:=by kernel_rfl
theorem Tryz.laidOut:laidOutB Tryz.prog=true:=by kernel_rfl
theorem aai:Reads Tryz.prog 3 (.i .i64):=ZO Tryz.underlying3
theorem Qb:Reads Tryz.prog 23 .ff:=ZS Tryz.underlying23 Tryz.underlying3 (by kernel_rfl) (by kernel_rfl)
theorem aaj:Reads Tryz.prog 65 .off:=ZT Tryz.underlying65 (by kernel_rfl) rfl rfl rfl Tryz.underlying3 (by kernel_rfl) Tryz.underlying2 (by kernel_rfl) Qb (by kernel_rfl) rfl
theorem aak {H:Type} {enc:TypeId×Value->H} {w:World} {a:Nat->Bool} {c:Bool} {b:Nat} {cs:List Value} {x:DataW H×List MemPlace} (h:DataW.trod enc Tryz.prog w 0 a c b 27 cs=some x):
  ∃p:bn,bG jK w [] [] (gL p.ss) cs:=
 ZU Tryz.underlying27 (by kernel_rfl) rfl rfl rfl rfl rfl rfl Qb (by kernel_rfl) Tryz.underlying24 aai (by kernel_rfl) (by kernel_rfl) Tryz.underlying25 aaj (by kernel_rfl) (by kernel_rfl) h
theorem aal {f:FuncId} {args:List SV} (h:kE Tryz.prog f (gL args) [] (γv true).g []) {W:World} {vs:List Value} (d:bG jK W [] [] (gL args) vs):
  Calls Tryz.prog f vs.toArray W λe c=>e= .returned (.bool true)/\Below W.heap.size W c:=by
 refine(h jK W [] vs (zk W (λb a=>a.elim)) d).mono ?_;grind[γB,bw,P4]
end Go.Proofs.YtbnhiekmnpikhaaGreat
namespace Go.Vi
open Go.ChangeShapes Go.WideShapes Go.RowKit
def HW (P:Program) (t:TypeId) (s:bp) (Q:s.T->Prop):Prop:=
 ∀(H:Type) (d:TypeId×Value->H) (w:World) (a:Nat->Bool) (c:Bool) (b:Nat) (e:List Value) (x:DataW H×List MemPlace),DataW.trod d P w 0 a c b t e=some x->∃y:s.T,Q y/\bG jK w [] [] (dO s y) e
theorem C9.q {P:Program} {t:TypeId} {s:bp} (h:C9 P t s):HW P t s λ_=>True:=λH d w a c b e x f=>by
 obtain⟨y,g⟩:=h H d w a c b e x f;grind
theorem aam {P:Program} {t:TypeId} {k:IntKind} (a:P.underlying t=some (.int k)):HW P t (.i k) λn=>k.min<=(show Int from n)/\(show Int from n)<=k.max:=λ_ _ _ _ _ _ c _ h=>by
 obtain⟨n,rfl,_,b⟩:=DataW.trod_int a h;simp_all[Lit.wf,dO,dx,bG,bw,Value.oneCell']
theorem aan {P:Program} {t e:TypeId} {s:bp} {Q:s.T->Prop} (C:P.underlying t=some (.slice e)) (r:HW P e s Q) (F:P.cellsOf e=s.sz)
  {H:Type} {enc:TypeId×Value->H} {w:World} {c:Nat->Bool} {j:Bool} {d:Nat} {cs:List Value} {x:DataW H×List MemPlace} (h:DataW.trod enc P w 0 c j d t cs=some x):
  ∃(v:Value) (l:List s.T),cs=[v]/\l.length<=9223372036854775807/\(∀y∈l,Q y)/\bw jK w [] [] (Ψ s l).g v:=by
 rcases ζS C h with⟨rfl,_⟩|⟨a,b,k,m,n,D,M,rfl,G,A,N,o,_,p⟩;·exact⟨_,[],rfl,by simp,by simp,by grind[γB,bw,cB,dA,dq]⟩
 ·have u:b<=m:=by grind
  have B:∀i,i<b->∃y:s.T,∃cs,Q y/\w.cells? 0 (a.add (i*s.sz)) s.sz=some cs/\bG jK w [] [] (dO s y) cs:=λi J=>by
   obtain⟨q,K,E⟩:=p i (by omega);obtain⟨y,L,z⟩:=r _ _ _ _ _ _ _ _ E;grind
  obtain⟨f,I⟩:=ζW B;refine⟨_,(ω b).map f,rfl,?_,?_,?_⟩;·grind[maxLen]
  ·simp_all
  simp only[γB,bw,Θ,εL];refine⟨some a,k,rfl,A,nV _ _,?_⟩;have:=HF (w:=w) (a:=a) (s:=s) (l:=(ω b).map f) (i0:=0) (λi y z=>by
   grind);simp_all
end Go.Vi
namespace Go.Proofs.YtbnhiekmnpikhaaGreat
open Go.ChangeShapes Go.WideShapes Go.ChangeAt Go.RowKit Go.Vi
end Go.Proofs.YtbnhiekmnpikhaaGreat
namespace Go.Proofs.YtbnhiekmnpikhaaGreat
open Go.ChangeShapes Go.WideShapes Go.ChangeAt Go.RowKit Go.Vi
theorem aao {H:Type} {enc:TypeId×Value->H} {w:World} {a:Nat->Bool} {c:Bool} {b:Nat} {cs:List Value} {x:DataW H×List MemPlace} (h:DataW.trod enc Tryz.prog w 0 a c b 24 cs=some x):
  ∃(v:Value) (l:List Int),cs=[v]/\l.length<=9223372036854775807/\bw jK w [] [] (Ψ (.i .i64) l).g v:=by
 obtain⟨v,l,f,e,_,d⟩:=aan Tryz.underlying24 (aam Tryz.underlying3) (by kernel_rfl) h;grind
end Go.Proofs.YtbnhiekmnpikhaaGreat
namespace Go.Vi
open Go.Proofs.YtbnhiekmnpikhaaGreat.Ir
open Go.Proofs
def aap (m f:Int):Int:=gX.vy .i64 (m / 2^f.toNat) 1
def aaq (m f:Int):Int:=gX.CN .i64 m (2^f.toNat)
def rq (m:Int):List Int:=[0,1,2,3,4,5,6,7].filter λf=>decide (aap m f≠0)
def Good (p:bn):Prop:=p.classes.length<=8/\p.offers.length<=160/\p.supply.ok=true/\p.opn.ok=true/\∀x∈p.offers,0<=x.bX/\x.bX<p.classes.length/\x.want.ok=true/\1<=x.value/\x.value<=1000000
def kj (p:bn):List Int->bB->bB->Int
 |[],_,_=>0
 |f::a,l,o=>(zY p f).foldl (λv x=>if x.want.le l&&(fh p x).le o then max v (x.value+kj p a (l.sub x.want) (o.sub (fh p x))) else v) (kj p a l o)
def o8 (p:bn) (a:List Int) (l o:bB) (v:Int) (x:Off):Int:=if x.want.le l&&(fh p x).le o then max v (x.value+kj p a (l.sub x.want) (o.sub (fh p x))) else v
def aar (p:bn) (a:Sit):Int:=kj p (rq a.members) a.left a.opn
theorem dQ {p:bn} (h:bz p=0):Good p:=by
 obtain⟨e,k⟩:=vP h;obtain⟨b,a,m,g,q⟩:=vO e;refine⟨m,g,b,?_,λx o=>?_⟩
 ·have d:=bB.ja.1 b;have f:=om.1 (a 0 (by omega));have c:=om.1 (a 1 (by omega));have i:=om.1 (a 2 (by omega));have l:=om.1 (a 3 (by omega));have n:=om.1 (a 4 (by omega));have j:=om.1 (a 5 (by omega));simp[bj] at f c i l n j;grind[bB.ja]
 ·have d:=HQ (HS (k x o)).1;simp_all
theorem zZ {n:Nat} (h:n<=8):(2:Int)^n<=256/\0<(2:Int)^n:=by
 have:n=0\/n=1\/n=2\/n=3\/n=4\/n=5\/n=6\/n=7\/n=8:=by omega
 grind
def ry (p:bn) (m:Int):Int:=if Dl p m=0 then aar p ⟨m,p.supply,p.opn⟩ else 0
def allM (p:bn):Int:=2^p.classes.length - 1
def HY (p:bn) (s:Int) (i:Int):Int:=s+(bj p.offers i.toNat bp.off.dflt).value
def Aa (p:bn) (c:List Int):Int:=c.foldl (HY p) 0
def Qc (p:bn) (c:List Int):Int:=if dh p c≠0 then dh p c else if Aa p c<ry p (allM p) then 13 else 0
def bn.zero:bn:=⟨bB.zero,bB.zero,bB.zero,[],[]⟩
theorem Qd {l:List Off}:∀{c:List Int} {a:Int} {r:List Off}, -1<=a->ef l a c=some r->r.length=c.length/\∀i∈c,0<=i/\i<l.length
 |[],a,r,_,h=>by grind[ef];|i::c,a,r,e,h=>by
  simp only[ef] at h;split at h;·cases h
  ·rename_i d;obtain⟨f,b,rfl⟩:=ε.1 h;obtain⟨g,j⟩:=Qd (by omega) b;grind
end Go.Vi
