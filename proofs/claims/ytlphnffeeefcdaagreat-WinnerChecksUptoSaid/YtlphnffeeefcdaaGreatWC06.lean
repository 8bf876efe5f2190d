/-
  The auction's problems and allocations, and how they lie in values.
  Conditions: none.
-/
import Derived.Test.YtlphnffeeefcdaaGreatWC05
import Derived.Test.YtlphnffeeefcdaaGreatWC01
import Derived.KernelRfl
import Derived.Deep.Slices
import Derived.OpenShut
import Derived.ProofKit
import Derived.Test.YtlphnffeeefcdaaGreatRows
set_option maxRecDepth 100000
set_option maxHeartbeats 4000000
set_option linter.all false
open Bool renaming false_eq_true->Γ,not_eq_false->ζc,and_eq_true->θ
open Classical renaming choose->δU,choose_spec->εd,not_not->γa
open Go.Deep renaming open_slice->ε3,choose_lt->ζe
open Go.Vi.AV renaming ren->δB
open Go.Vi.AV.sc renaming injEq->γ7
open Go.Vi.AV.sl renaming injEq->δ4
open Go.Vi.SV renaming g->γA,row->Δ,si->Ω,same->εO,il->γo,sb->γn,bl->γ0,ptr->γU
open List renaming all_eq_true->ξ,take->τ,length_range->εl,range->Θ,length_map->γT,getElem?_eq_getElem->μ,take_length->χ,map->γd,drop->γ3,drop_length->δV,mem_cons->γD
open List.cons renaming injEq->Ξ
open Nat renaming beq->δw
open Option renaming map_eq_some_iff->ε,map_some->γm,bind_some->δS,map->ζf,isSome_iff_exists->γk
open Option.some renaming injEq->γ
open Prod.mk renaming injEq->κ
namespace Go.Vi
structure bz where
 supply:bG
 opn:bG
 cls:bG
 classes:List Int
 offers:List Off
structure Alloc where
 chosen:List Int
 value:Int
def bz.ss (p:bz):List SV:=
 [.si .i64 p.supply.a0,.si .i64 p.supply.a1,.si .i64 p.supply.a2,.si .i64 p.supply.a3,.si .i64 p.supply.a4,.si .i64 p.supply.a5,
  .si .i64 p.opn.a0,.si .i64 p.opn.a1,.si .i64 p.opn.a2,.si .i64 p.opn.a3,.si .i64 p.opn.a4,.si .i64 p.opn.a5,
  .si .i64 p.cls.a0,.si .i64 p.cls.a1,.si .i64 p.cls.a2,.si .i64 p.cls.a3,.si .i64 p.cls.a4,.si .i64 p.cls.a5,
  .row (.i .i64) p.classes,.row .off p.offers]
def vE:List SV->Option bz
 |[g,v,b,q,d,x,a,n,w,h,j,l,t,p,r,u,e,m,k,f]=>match jU .eL [g,v,b,q,d,x],jU .eL [a,n,w,h,j,l],jU .eL [t,p,r,u,e,m],jH (.i .i64) k,jH .off f with
  |some s,some o,some c,some k,some f=>some ⟨s,o,c,k,f⟩
  |_,_,_,_,_=>none
 |_=>none
theorem zQ {cs:List SV} {p:bz} (h:vE cs=some p):gL cs=gL p.ss:=by
 unfold vE at h;split at h
 ·split at h
  ·rename_i s o c k f a i b e d;simp only[γ] at h;subst h;have a:=nU a;have i:=nU i;have b:=nU b;have e:=oZ e;have d:=oZ d;simp_all[dC,dI,bz.ss,gL,γA,iv]
  ·cases h
 ·cases h
def dO:qA bz where
 put p:=.agg p.ss;dec
  | .agg c=>vE c
  |_=>none;ok v a h:=by
  grind[γA,zQ]
 inj a b h:=by
  obtain⟨⟨a0,a1,a2,a3,M,o⟩,⟨A,l,e,b3,I,b5⟩,⟨H,V,Y,J,x,j⟩,k,f⟩:=a;obtain⟨⟨d,t,d2,Z,d4,X⟩,⟨N,R,u,y,S,e5⟩,⟨f0,E,f2,f3,O,q⟩,W,B⟩:=b;simp only[γA,bz.ss,gL,AV.agg.injEq,Ξ,and_true,γ7,Value.int.injEq,true_and,δ4] at h;obtain⟨h0,h1,F,P,Q,z,C,L,g2,U,G,T,w,K,k2,r,D,k5,m,n⟩:=h;have s:=lG (.i .i64) m.1 m.2;have n2:=lG .off n.1 n.2;simp_all
def mf:qA Alloc where
 put a:=.agg [.row (.i .i64) a.chosen,.si .i64 a.value];dec
  | .agg [r,v]=>match jH (.i .i64) r,v.int .i64 with
   |some c,some v=>some ⟨c,v⟩
   |_,_=>none
  |_=>none;ok v a h:=by
  grind[γA,gL,oZ,iP]
 inj a b h:=by
  obtain⟨c,v⟩:=a;obtain⟨e,f⟩:=b;simp only[γA,gL,AV.agg.injEq,Ξ,and_true,γ7,Value.int.injEq,true_and,δ4] at h;have d:=lG (.i .i64) h.1.1 h.1.2;rw[d,h.2]
def qD:TypeId->Option bw
 |2=>some (.i .i64)
 |3=>some (.i .i64)
 |24=>some (.bP (.i .i64))
 |187=>some (.i .u32)
 |126=>some (.pair .b (.pair (.bP (.i .u32)) (.bP (.i .u32))))
 |31=>some (.pair (.bP (.i .i64)) (.i .i64))
 |66=>some (.bP (.pair .b (.pair (.bP (.i .u32)) (.bP (.i .u32)))))
 |207=>some (.pair (.bP (.pair .b (.pair (.bP (.i .u32)) (.bP (.i .u32))))) (.pair .b (.pair (.bP (.i .u32)) (.bP (.i .u32)))))
 |4=>some .b
 |68=>some (.pair (.i .i64) (.pair (.i .i64) (.pair (.i .i64) (.pair (.i .i64) (.bP (.pair .b (.pair (.bP (.i .u32)) (.bP (.i .u32)))))))))
 |55=>some .off
 |23=>some .eL
 |116=>some (.pair (.i .i64) .b)
 |35=>some (.pair (.bP (.i .i64)) (.pair (.i .i64) (.bP (.pair (.i .i64) (.pair (.i .i64) (.pair (.i .i64) (.pair (.i .i64) (.bP (.pair .b (.pair (.bP (.i .u32)) (.bP (.i .u32))))))))))))
 |_=>none
def qE:List Nat×Bool->Option (bw×bw)
 |([0,0,0,0,0,0,0],true)=>some (.key,.b)
 |([0,0,0,0,0,0,0,0,0,0,0,0,0],true)=>some (.sit,.i .i64)
 |_=>none
mutual
def SV.ren (m:Nat->Option Nat):SV->Option SV
 | .agg h=>(rA m h).map .agg
 | .bN h=>(rA m h).map .bN
 | .ptr g j q=>(m g).map λi=> .ptr i j q
 | .ap g a b c d e=>(m g).map λi=> .ap i a b c d e
 | .rp g a b c d=>(m g).map λi=> .rp i a b c d
 | .ow g n w=>(m g).map λi=> .ow i n w
 | .os g a b c d=>(m g).map λi=> .os i a b c d
 | .oc g a b c d=>(m g).map λi=> .oc i a b c d
 | .mp g=>(m g).map .mp
 | .fn f a b=>match rA m a,rA m b with
  |some r,some u=>some (.fn f r u)
  |_,_=>none
 | .ud=>some .ud
 | .sc v=>some (.sc v)
 | .il k n=>some (.il k n)
 | .si k n=>some (.si k n)
 | .bl b=>some (.bl b)
 | .sb b=>some (.sb b)
 | .row s l=>some (.row s l)
 | .ep s l i o=>some (.ep s l i o)
 | .ia t h=>some (.ia t h)
 | .ite c a b=>some (.ite c a b)
def rA (m:Nat->Option Nat):List SV->Option (List SV)
 |[]=>some []
 |c::h=>match c.ren m,rA m h with
  |some x,some p=>some (x::p)
  |_,_=>none
end
mutual
theorem HI {m:Nat->Option Nat}:∀{v d:SV},v.ren m=some d->v.g.ren m=some d.g
 | .agg p,d,h=>by
  simp only[SV.ren] at h;obtain⟨k,e,rfl⟩:=ε.1 h;simp only[γA,δB,vF e,γm];| .bN p,d,h=>by
  simp only[SV.ren] at h;obtain⟨k,e,rfl⟩:=ε.1 h;simp only[γA,δB,vF e,γm];| .fn f a b,d,h=>by
  simp only[SV.ren] at h;split at h
  ·rename_i r q e o;simp only[γ] at h;subst h;simp only[γA,δB,vF e,vF o]
  ·cases h;| .ptr j _ _,d,h| .ap j _ _ _ _ _,d,h| .rp j _ _ _ _,d,h| .ow j _ _,d,h| .os j _ _ _ _,d,h| .oc j _ _ _ _,d,h| .mp j,d,h=>by
  simp only[SV.ren] at h;obtain⟨i,e,rfl⟩:=ε.1 h;simp only[γA,δB,e,γm];| .ud,d,h| .sc _,d,h| .il _ _,d,h| .si _ _,d,h| .bl _,d,h| .sb _,d,h| .row _ _,d,h| .ep _ _ _ _,d,h| .ia _ _,d,h| .ite _ _ _,d,h=>by
  simp only[SV.ren,γ] at h;subst h;simp only[γA,δB]
theorem vF {m:Nat->Option Nat}:∀{l n:List SV},rA m l=some n->iN m (gL l)=some (gL n)
 |[],n,h=>by grind[rA,gL,iN];|c::p,n,h=>by
  simp only[rA] at h;split at h
  ·rename_i s k e o;simp only[γ] at h;subst h;simp only[gL,iN,HI e,vF o]
  ·cases h
end
def bA.ren (m:Nat->Option Nat):bA->Option bA
 | .cells d e c a=>if a then some (.cells d e c a) else(rA m d).map λb=> .cells b e c a
 | .dead=>some .dead
 | .row s l e a=>some (.row s l e a)
 | .map j f g h i a=>some (.map j f g h i a)
 | .oU .. =>none
theorem PS {m:Nat->Option Nat}:∀{l:List AV},(∀a∈l,Plain a)->iN m l=some l
 |[],_=>by simp[iN];|a::e,h=>by
  have d:=PS (m:=m) (l:=e) λb c=>h b (by simp[c]);rcases h a (by simp) with⟨v,rfl,_⟩|⟨n,f,rfl,_⟩<;>simp only[iN,δB,d]
theorem PT {m:Nat->Option Nat}:∀{l:List (Value×AV)},(∀a∈l,∃v,a.2= .sc v)->oO m l=some l
 |[],_=>by simp[oO];|(k,c)::e,h=>by
  obtain⟨v,b⟩:=h (k,c) (by simp);simp only at b;subst b;simp only[oO,δB,PT (l:=e) λa d=>h a (by simp[d])]
theorem HJ {b sv:bw} {d:Bool} {es:List (b.T×sv.T)}:∀a∈es.map (λp=>(pM b d p.1,nj sv p.2)),∃v,a.2= .sc v:=λa c=>by
 obtain⟨q,_,rfl⟩:=List.mem_map.1 c;exact⟨_,rfl⟩
theorem PU {m:Nat->Option Nat} {x y:bA} (h:x.ren m=some y):x.g.ren m=some y.g:=by
 cases x with
 |dead=>simp[bA.ren] at h;subst h;rfl;|cells o e k a=>
  simp only[bA.ren] at h;cases a with
  |true=>simp only[if_true,γ] at h;subst h;simp only[bA.g,bW.ren,if_true];|false=>
   simp only[Γ,if_false] at h;obtain⟨b,c,rfl⟩:=ε.1 h;simp_all[bA.g,bW.ren,vF]
 |oU s l e t=>grind[bA.ren];|row s l e a=>
  grind[bA.ren,bA.g,bW.ren,PS,nk];|map f n i j d a=>
  simp only[bA.ren,γ] at h;subst h;simp only[bA.g,bW.ren,PT HJ,γm];grind
def zR (m:Nat->Option Nat):cu->Option cu
 |[]=>some []
 |x::r=>match x.ren m,zR m r with
  |some y,some l=>some (y::l)
  |_,_=>none
theorem PV {m:Nat->Option Nat}:∀{o o':cu},zR m o=some o'->su m (gO o)=some (gO o')
 |[],o',h=>by simp[zR] at h;subst h;rfl;|x::r,o',h=>by
  simp only[zR] at h;split at h
  ·rename_i y l b a;simp only[γ] at h;subst h;have:=PV a;grind[gO,su,PU]
  ·cases h
def xI (o:cu) (a:List Nat):List Nat->Option cu
 |[]=>some []
 |i::r=>match o[i]?,xI o a r with
  |some x,some l=>match x.ren (λj=>idxOf a j) with
   |some y=>some (y::l)
   |none=>none
  |_,_=>none
theorem HK {o:cu} {a:List Nat}:∀{r:List Nat} {o':cu},xI o a r=some o'->lh (gO o) a r=some (gO o')
 |[],o',h=>by simp[xI] at h;subst h;rfl;|i::r,o',h=>by
  simp only[xI] at h;split at h
  ·rename_i x l d b;split at h
   ·rename_i y c;simp only[γ] at h;subst h;simp only[lh,fU d,HK b,PU c,γm];rfl
   ·cases h
  ·cases h
def xJ (o:cu):List Nat->cu->cu
 |[],_=>o
 |_,[]=>o
 |i::r,x::l=>xJ (o.set i x) r l
theorem PW:∀{a:List Nat} {o l:cu},gO (xJ o a l)=lS (gO o) a (gO l)
 |[],o,l=>by simp[xJ,lS];|_::_,o,[]=>by simp[xJ,lS,gO];|i::r,o,x::l=>by
  simp only[xJ];rw[PW,qy];simp[gO,lS]
def pQ (o:cu):Nat->List SV->List Nat->List Nat
 |0,_,c=>c
 |_,[],c=>c
 |d+1,v::i,c=>
  let f (e:Nat) (c:List Nat):List Nat:=
   if c.contains e then c else
   match o[e]? with
   |some (.cells g _ _ h)=>if h then c++[e] else pQ o d g (c++[e])
   |_=>c++[e];pQ o d i (match v with
   | .agg g| .bN g=>pQ o d g c
   | .ptr e _ _| .ap e _ _ _ _ _| .rp e _ _ _ _| .ow e _ _| .os e _ _ _ _| .oc e _ _ _ _| .mp e=>f e c
   | .fn _ a b=>pQ o d b (pQ o d a c)
   |_=>c)
theorem zS {o:Store}:∀{d:Nat} {l:List AV} {acc:List Nat},(∀a∈l,Plain a)->dc o d l acc=acc
 |0,_,_,_=>by grind[dc];|d+1,[],_,_=>by grind[dc];|d+1,a::l,acc,h=>by
  have e:=zS (o:=o) (d:=d) (l:=l) (acc:=acc) λb c=>h b (by simp[c]);rcases h a (by simp) with⟨v,rfl,_⟩|⟨n,f,rfl,_⟩<;>(grind[dc])
theorem PX {o:Store}:∀{d:Nat} {l:List AV} {acc:List Nat},(∀a∈l,∃v,a= .sc v)->dc o d l acc=acc
 |0,_,_,_=>by simp[dc];|d+1,[],_,_=>by simp[dc];|d+1,a::l,acc,h=>by
  obtain⟨v,rfl⟩:=h a (by simp);simp only[dc];exact PX λa b=>h a (by simp[b])
theorem Zq {l:List (Value×AV)} (h:∀a∈l,∃v,a.2= .sc v):∀a∈l.map (·.2),∃v,a= .sc v:=λa b=>by
 grind
def bA.C5:bA->Bool
 | .oU .. =>false
 |_=>true
theorem PY {o:cu} (h:o.all bA.C5=true):∀{d:Nat} {vs:List SV} {acc:List Nat},dc (gO o) d (gL vs) acc=pQ o d vs acc:=by
 intro d;induction d with
 |zero=>grind[dc,pQ];|succ d k=>
  intro vs acc;cases vs with
  |nil=>simp[gL,dc,pQ];|cons v vs=>
   have m:∀(b:Nat) (acc:List Nat),(if acc.contains b then acc else
     match(gO o)[b]? with
     |some (.cells f _ _ c)=>if c then acc++[b] else dc (gO o) d f (acc++[b])
     |some (.map j _ c)=>if c then acc++[b] else dc (gO o) d (j.map (·.2)) (acc++[b])
     |_=>acc++[b])=(if acc.contains b then acc else
     match o[b]? with
     |some (.cells f _ _ c)=>if c then acc++[b] else pQ o d f (acc++[b])
     |_=>acc++[b]):=by
    intro b acc;rw[Ha];cases i:o[b]? with
    |none=>rfl;|some x=>
     cases x with
     |oU s l e t=>
      have:=ξ.1 h _ (List.mem_of_getElem? i);grind[bA.C5];|dead=>rfl;|cells f e r c=>grind[bA.g];|row s l e c=>simp only[γm,bA.g,zS (λa n=>nk n),ite_self];|map p u q j w c=>simp only[γm,bA.g,PX (Zq HJ),ite_self]
   simp only[gL,dc,pQ];rw[k];congr 1;cases v<;>simp only[γA,k]<;>exact m _ _
def HL (C:FuncId->List SV->cu->(SV->cu->Prop)->Prop) (f:FuncId) (args:List SV) (o:cu) (K:SV->cu->Prop):Prop:=
 if o.all bA.C5=false then False else
 let a:=pQ o fR args [];match rA (λj=>idxOf a j) args,xI o a a with
 |some c,some d=>C f c d λr b=>
   if b.length<a.length\/iO.pE a=false then False else
   match r.ren (oP a o.length),zR (oP a o.length) b with
   |some g,some e=>K g (xJ o a (e.take a.length)++e.drop a.length)
   |_,_=>False
 |_,_=>False
theorem Zr {call:dm} {C:FuncId->List SV->cu->(SV->cu->Prop)->Prop}
  (n:∀f args o K,C f args o K->∃(r:SV) (o':cu),call f (gL args) (gO o) true=some (r.g,gO o')/\K r o')
  {f:FuncId} {args:List SV} {o:cu} {K:SV->cu->Prop} (h:HL C f args o K):
  ∃(r:SV) (o':cu),iO call f (gL args) (gO o)=some (r.g,gO o')/\K r o':=by
 unfold HL at h;split at h;·exact h.elim
 rename_i a;simp only[ζc] at a;simp only at h;split at h
 ·rename_i d e i l;obtain⟨r,c,j,b⟩:=n _ _ _ _ h;split at b;·exact b.elim
  ·rename_i p;split at b
   ·rename_i k q m s;refine⟨k,_,?_,b⟩;unfold iO;simp only[PY a];rw[vF i,HK l];simp only[j,ob];rw[if_neg p,HI m,PV s];simp only[PH,PW];simp[gO]
   simp_all
 simp_all
section
variable {P:Program} {T:Tab} {p:ja} {Λ:Nat->cC}
theorem Zs (A:kP P T) (y:pO T.K p.C) (w:∀f F,p.it f=some F->T.fn f=some F) {f:FuncId} {F:fE} (u:T.fn f=some F) {args:List SV} {o:cu} {r:AV} {o':Store} (G:T.K f (gL args) (gO o) true=none) (n:args.length=F.params)
  {Q:SV->cu->Prop} (m:∀v s,Q v s->v.g=r/\gO s=o') (h:zF p Λ F args o Q):hZ P f=true/\lD P f (gL args) (gO o) r o':=by
 unfold zF at h;have i:=vB y w h;have e:(cG.mk (nn 0 args) o).g=⟨iz 0 (gL args),gO o⟩:=by simp[cG.g,vC]
 rw[e] at i;have j:(gO o).length=o.length:=ob o;rw[<-j] at i;have E:∀(a:cG),(nZ a F.res λv=>if v.cy (gO o).length&&a.o.all (λx=>x.cy (gO o).length)&&decide ((gO o).length<=a.o.length) then Q v (a.o.take (gO o).length) else False)->
   (nQ a.g F.res).bind (λl=>finish true (gO o).length l a.g.o)=some (r,o'):=by
  intro a t;obtain⟨l,k,b⟩:=xF t;rw[k];simp only[δS,finish,if_true];split at b
  ·rename_i q;simp only[θ,decide_eq_true_eq,ξ] at q;obtain⟨⟨z,D⟩,B⟩:=q;have d:∀x∈a.g.o,x.cy (gO o).length=true:=by
    grind[cG.g,gO,CQ]
   rw[PE (by grind[zH]) d (by grind[cG.g,ob])];rw[<-(m _ _ b).1,<-(m _ _ b).2];simp_all[cG.g,gO]
  ·exact b.elim
 obtain⟨k,b,_⟩:=Ci A u (o:=gO o) (own:=true) G (by grind[jV]) (v:=r) (o':=o') (i.mono λc s H=>by
  obtain⟨a,rfl,t⟩:=H;cases c<;>grind);simp_all
end
structure dD where
 f:FuncId
 α:Type
 put:α->List SV
 st:α->cu
 dec:List SV->cu->Option α
 ok:∀v o a,dec v o=some a->gL v=gL (put a)/\gO o=gO (st a)
 inj:∀a b,gL (put a)=gL (put b)->gO (st a)=gO (st b)->a=b
 dom:α->Prop
 res:α->SV
 out:α->cu
def eu (P:Program) (c:dD):Prop:=∀a,c.dom a->hZ P c.f=true/\lD P c.f (gL (c.put a)) (gO (c.st a)) (c.res a).g (gO (c.out a))
def ny (f:FuncId):List dD->Option dD
 |[]=>none
 |c::r=>bif δw c.f f then some c else ny f r
theorem PZ:∀{L:List dD} {f:FuncId} {c:dD},ny f L=some c->c.f=f/\c∈L
 |[],_,_,h=>by cases h;|d::L,f,c,h=>by
  simp only[ny] at h;cases a:δw d.f f with
  |true=>
   simp_all;|false=>
   rw[a] at h;simp only[cond_false] at h;obtain⟨b,e⟩:=PZ h;simp_all
def P0 (W:List dD) (f:FuncId) (args:List SV) (o:cu) (K:SV->cu->Prop):Prop:=
 match ny f W with
 |some c=>jb (c.dec args o) λa=>c.dom a/\K (c.res a) (c.out a)
 |none=>False
open Classical in
noncomputable def t8 (W:List dD) (f:FuncId) (args:List AV) (o:Store):Option (AV×Store):=
 match ny f W with
 |some c=>if h:∃a,args=gL (c.put a)/\o=gO (c.st a)/\c.dom a then some ((c.res (δU h)).g,gO (c.out (δU h))) else none
 |none=>none
noncomputable def gC (W:List dD):mO:=⟨t8 W,λf a o K=>HL (P0 W) f a o K⟩
theorem lj {P:Program} {W:List dD} (u:∀c∈W,eu P c):pP P (gC W) where
 K:=λf d o r w h=>by
  simp only[gC,t8] at h;split at h
  ·rename_i c k;obtain⟨rfl,v⟩:=PZ k;split at h
   ·rename_i e;simp only[γ,κ] at h;generalize t:δU e=b at h;have n:=εd e;rw[t] at n;obtain⟨p,s,l⟩:=n;obtain⟨j,m⟩:=u c v _ l;simp_all
   ·cases h
  ·cases h
 C:=λq g f d o K h=>by
  refine Zr ?_ h;intro f d o K i;simp only[P0] at i;split at i
  ·rename_i c k;obtain⟨a,p,s,l⟩:=jq i;refine⟨_,_,?_,l⟩;rw[g];obtain⟨j,m⟩:=c.ok _ _ _ p;have e:∃b,gL d=gL (c.put b)/\gO o=gO (c.st b)/\c.dom b:=⟨a,j,m,s⟩;simp only[gC,t8,k,dif_pos e];have:δU e=a:=c.inj _ _ ((εd e).1.symm.trans j) ((εd e).2.1.symm.trans m);rw[this]
  simp_all
theorem P3 {P:Program} {i:FuncId->Option fE} {L:List bL} {W:List dD} (c:dD) {F:fE} {m:TypeId->Option bw} {j:List Nat×Bool->Option (bw×bw)} {Λ:c.α->Nat->cC}
  (q:kP P ⟨i,λ_ _ _ _=>none⟩) (k:∀c∈W,eu P c) (r:∀c∈L,Holds P c)
  (n:i c.f=some F) (e:∀a,(c.put a).length=F.params)
  (a:c.α) (o:∀d,ny c.f W=some d->∀b,gL (c.put a)=gL (d.put b)->gO (c.st a)=gO (d.st b)->¬d.dom b)
  (h:zF (nu L (gC W) m j i) (Λ a) F (c.put a) (c.st a) λv s=>v.same (c.res a)/\kq s (c.out a)):
  hZ P c.f=true/\lD P c.f (gL (c.put a)) (gO (c.st a)) (c.res a).g (gO (c.out a)):=by
 refine Zs (p:=nu L (gC W) m j i) (Λ:=Λ a) (Q:=λv s=>v.same (c.res a)/\kq s (c.out a)) (t6 (lj k) r q) (t7 (lj k)) (λ_ _ h=>h) n ?_ (e a) (λv s l=>⟨l.1,xE l.2⟩) ?_
 ·simp only[qC,sH,if_true,gC,t8];grind
 ·exact h
mutual
def ln (o:cu) (k:Nat):SV->(SV->Prop)->Prop
 | .ow e n h,K=>if k<=e then(match o[e]? with
   |some (.row s l _ true)=>if h=s.sz then n=l.length/\K (.row s l) else False
   |some (.row _ _ _ false)=>K (.ow e n h)
   |_=>False) else K (.ow e n h)
 | .ptr e f t,K=>if k<=e then(match o[e]? with
   |some (.cells _ _ _ false)=>K (.ptr e f t)
   |_=>False) else K (.ptr e f t)
 | .agg g,K=>sK o k g λd=>K (.agg d)
 | .bN g,K=>sK o k g λd=>K (.bN d)
 | .ud,K=>K .ud
 | .sc v,K=>K (.sc v)
 | .il q n,K=>K (.il q n)
 | .si q n,K=>K (.si q n)
 | .bl b,K=>K (.bl b)
 | .sb b,K=>K (.sb b)
 | .row s l,K=>K (.row s l)
 | .mp i,K=>K (.mp i)
 | .ia t g,K=>K (.ia t g)
 | .fn f a b,K=>sK o k a λm=>sK o k b λj=>K (.fn f m j)
 |_,_=>False
def sK (o:cu) (k:Nat):List SV->(List SV->Prop)->Prop
 |[],K=>K []
 |c::g,K=>ln o k c λp=>sK o k g λd=>K (p::d)
end
section
variable {o:cu} {k:Nat}
mutual
theorem HM:∀{v:SV} {K:SV->Prop},ln o k v K->∃u:SV,v.g.bZ (gO o) (λi=>decide (k<=i))=some u.g/\K u
 | .ow B n A,K,h=>by
  simp only[ln] at h;split at h
  ·rename_i q;split at h
   ·rename_i s l e w;split at h
    ·rename_i r;subst r;obtain⟨rfl,h⟩:=h;refine⟨_,?_,h⟩;have y:τ (l.length*s.sz) (cM s l)=cM s l:=List.take_of_length_le (by grind[ff]);simp_all[γA,AV.bZ,fU,bA.g,ff]
    simp_all
   ·rename_i s l e w;refine⟨_,?_,h⟩;simp_all[γA,AV.bZ,fU,bA.g]
   simp_all
  ·rename_i q;refine⟨_,?_,h⟩;simp_all[γA,AV.bZ,if_neg];| .ptr B f t,K,h=>by
  simp only[ln] at h;split at h
  ·rename_i q;split at h
   ·rename_i j e A w;refine⟨_,?_,h⟩;simp_all[γA,AV.bZ,fU,bA.g]
   simp_all
  ·rename_i q;refine⟨_,?_,h⟩;simp_all[γA,AV.bZ,if_neg];| .agg j,K,h=>by
  simp only[ln] at h;obtain⟨d,p,m⟩:=xK h;grind[γA,AV.bZ];| .bN j,K,h=>by
  simp only[ln] at h;obtain⟨d,p,m⟩:=xK h;grind[γA,AV.bZ];| .ud,K,h=>⟨.ud,by grind[γA,AV.bZ],by grind[ln]⟩
 | .sc v,K,h=>⟨.sc v,by grind[γA,AV.bZ],by grind[ln]⟩
 | .il k n,K,h=>⟨.il k n,by grind[γA,AV.bZ],by grind[ln]⟩
 | .si k n,K,h=>⟨.si k n,by grind[γA,AV.bZ],by grind[ln]⟩
 | .bl b,K,h=>⟨.bl b,by grind[γA,AV.bZ],by grind[ln]⟩
 | .sb b,K,h=>⟨.sb b,by grind[γA,AV.bZ],by grind[ln]⟩
 | .row s l,K,h=>⟨.row s l,by grind[γA,AV.bZ],by grind[ln]⟩
 | .mp i,K,h=>⟨.mp i,by grind[γA,AV.bZ],by grind[ln]⟩
 | .ia t j,K,h=>⟨.ia t j,by grind[γA,AV.bZ],by grind[ln]⟩
 | .fn f a b,K,h=>by
  simp only[ln] at h;obtain⟨D,p,m⟩:=xK h;obtain⟨C,z,x⟩:=xK m;grind[γA,AV.bZ];| .ep ..,K,h| .ap ..,K,h| .rp ..,K,h| .os ..,K,h| .oc ..,K,h| .ite ..,K,h=>by simp only[ln] at h
theorem xK:∀{j:List SV} {K:List SV->Prop},sK o k j K->∃d:List SV,hJ (gO o) (λi=>decide (k<=i)) (gL j)=some (gL d)/\K d
 |[],K,h=>⟨[],by simp[gL,hJ],by grind[sK]⟩
 |c::j,K,h=>by
  simp only[sK] at h;obtain⟨E,p,m⟩:=HM h;obtain⟨d,z,x⟩:=xK m;grind[gL,hJ]
end
def o5 (o:cu) (k:Nat):Nat->cu->(cu->Prop)->Prop
 |_,[],K=>K []
 |i,x::r,K=>match x with
  | .cells f e m false=>sK o k f λc=>o5 o k (i+1) r λa=>K (.cells c e m false::a)
  | .row s l e b=>o5 o k (i+1) r λa=>K ((if b&&decide (k<=i) then .dead else .row s l e b)::a)
  | .map g n d j h b=>o5 o k (i+1) r λa=>K (.map g n d j h b::a)
  | .dead=>o5 o k (i+1) r λa=>K (.dead::a)
  |_=>False
theorem xM:∀{i:Nat} {r:cu} {K:cu->Prop},o5 o k i r K->∃r' mid,jF (gO o) (λi=>decide (k<=i)) (gO r)=some mid/\fS (λi=>decide (k<=i)) i mid=gO r'/\K r'
 |i,[],K,h=>⟨[],[],rfl,rfl,h⟩
 |i,x::r,K,h=>by
  cases x with
  |dead=>
   simp only[o5] at h;obtain⟨r',mid,m,b,e⟩:=xM h;grind[gO,bA.g,jF,bW.bZ,fS];|cells A c z a=>
   cases a with
   |true=>grind[o5];|false=>
    simp only[o5] at h;obtain⟨j,y,f⟩:=xK h;obtain⟨r',mid,m,b,e⟩:=xM f;refine⟨_,.cells (gL j) c z false::mid,?_,?_,e⟩;all_goals simp_all[gO,bA.g,jF,bW.bZ,fS]
  |oU s l c t=>grind[o5];|row s l c a=>
   simp only[o5] at h;obtain⟨r',mid,m,b,e⟩:=xM h;refine⟨_,(bA.row s l c a).g::mid,?_,?_,e⟩
   ·have d:(bA.row s l c a).g.bZ (gO o) (λi=>decide (k<=i))=some (bA.row s l c a).g:=by
     cases a with
     |true=>simp only[bA.g,bW.bZ,if_true];|false=>
      simp only[bA.g,bW.bZ,Γ,if_false];grind[CZ,nk]
    grind[gO,jF]
   ·cases a with
    |true=>
     simp only[bA.g,fS,Bool.true_and];by_cases n:k<=i
     ·simp only[n,decide_true,if_true];rw[b];rfl
     ·simp only[n,decide_false,Γ,if_false];rw[b];rfl;|false=>simp only[bA.g,fS,Bool.false_and,Γ,if_false];rw[b];rfl
  |map u p q w v a=>
   simp only[o5] at h;obtain⟨r',mid,m,b,e⟩:=xM h;have d:(bA.map u p q w v a).g.bZ (gO o) (λi=>decide (k<=i))=some (bA.map u p q w v a).g:=by
    cases a with
    |true=>simp only[bA.g,bW.bZ,if_true];|false=>
     simp only[bA.g,bW.bZ,Γ,if_false];rw[HB HJ,γm]
   grind[gO,jF,bA.g,fS]
end
def C6 (r:SV) (o:cu) (K:SV->cu->Prop):Prop:=
 ln o 0 r λc=>o5 o 0 0 o λb=>
  if b.all bA.C5=false then False else
  let a:=pQ b fR [c] [];if iO.pE a then match c.ren (λj=>idxOf a j),xI b a a with
   |some e,some d=>K e d
   |_,_=>False
  else False
theorem Zt {r:SV} {o:cu} {K:SV->cu->Prop} (h:C6 r o K):∃r' o',lT 0 r.g (gO o)=some (r'.g,gO o')/\K r' o':=by
 unfold C6 at h;obtain⟨m,n,k⟩:=HM h;obtain⟨c,i,e,f,a⟩:=xM k;split at a;·exact a.elim
 rename_i b;simp only[ζc] at b;simp only at a;split at a
 ·rename_i t;split at a
  ·rename_i j l p q;refine⟨j,l,?_,a⟩;unfold lT;rw[n,e];simp only[f,List.take_zero,List.flatMap_nil,List.range_zero];have s:=PY (o:=c) b (d:=fR) (vs:=[m]) (acc:=[]);simp_all[gL,HI,HK]
  simp_all
 simp_all
def HN (p:ja) (Λ:Nat->cC) (F:fE) (args:List SV) (Q:SV->cu->Prop):Prop:=
 wpS p 0 F.body Λ ⟨nn 0 args,[]⟩ λa b=>match a with
  | .exit _=>False
  | .goto _=>False
  |_=>nZ b F.res λr=>C6 r b.o Q
theorem Zu {P:Program} {T:Tab} {p:ja} {Λ:Nat->cC} (y:kP P T) (t:pO T.K p.C) (x:∀f F,p.it f=some F->T.fn f=some F) {f:FuncId} {F:fE} (m:T.fn f=some F) {args:List SV} {r:AV} {o':Store} (A:T.K f (gL args) [] true=none) (j:args.length=F.params)
  {Q:SV->cu->Prop} (D:∀v s,Q v s->v.g=r/\gO s=o') (h:HN p Λ F args Q):hZ P f=true/\lD P f (gL args) [] r o':=by
 unfold HN at h;have k:=vB t x h;have b:(cG.mk (nn 0 args) []).g=⟨iz 0 (gL args),[]⟩:=by simp[cG.g,vC,gO]
 rw[b] at k;have n:∀(a:cG),(nZ a F.res λv=>C6 v a.o Q)->(nQ a.g F.res).bind (λc=>finish true 0 c a.g.o)=some (r,o'):=by
  intro a l;obtain⟨c,e,i⟩:=xF l;obtain⟨u,q,w,B⟩:=Zt i;rw[e];simp only[δS,finish,if_true];have:lT 0 c.g a.g.o=some (u.g,gO q):=w;grind
 obtain⟨e,i,_⟩:=Ci y m (o:=[]) (own:=true) A (by grind[jV]) (v:=r) (o':=o') (k.mono λd s z=>by
  obtain⟨a,rfl,l⟩:=z;cases d<;>simp_all);simp_all
theorem Zv {W:List dD} {f:FuncId} {args:List AV} {o:Store} (h:ny f W=none):t8 W f args o=none:=by
 grind[t8]
open Go.Proofs.YtlphnffeeefcdaaGreat.Ir
open Go.Proofs
def C7 (f:Nat):List (Nat×List RH)->Option (List RH)
 |[]=>none
 |e::r=>bif δw e.1 f then some e.2 else C7 f r
noncomputable def iQ (f:FuncId):Option fE:=
 match C7 f Nh with
 |none=>none
 |some H=>match Tryz.prog.funcs[f]? with
  |none=>none
  |some g=>BM Tryz.prog H g
noncomputable def fG (f:FuncId):fE:=(iQ f).getD ⟨0,0,.skip,[]⟩
theorem vG {f:FuncId} (h:(iQ f).isSome=true):iQ f=some (fG f):=by
 unfold fG;cases q:iQ f<;>simp_all
theorem P4 {f:Nat} {H:List RH} {p:Nat->Bool}:∀{l:List (Nat×List RH)},C7 f l=some H->(l.all λe=>p e.1)=true->p f=true
 |[],h,_=>by cases h;|e::r,h,k=>by
  simp only[C7] at h;simp only[List.all_cons,θ] at k;cases q:δw e.1 f with
  |true=>simp_all;|false=>rw[q] at h;exact P4 h k.2
theorem Zw:(Nh.all λe=>hZ Tryz.prog e.1)=true:=by kernel_rfl
theorem rB:kP Tryz.prog ⟨iQ,λ_ _ _ _=>none⟩ where
 fn:=λf F h=>by
  simp only[iQ] at h;split at h;·cases h
  ·rename_i H q;split at h;·cases h
   ·rename_i g r;exact⟨g,H,r,h,P4 (p:=hZ Tryz.prog) q Zw⟩
 K:=λ_ _ _ _ _ _ h=>by cases h
def lk {a:Type}:a->Nat->cC:=λ_ _=> .look
structure Vc (A:Prop):Prop where
 out:A
theorem bQ {A:Prop} (B:Prop) (h:B=A) (a:B):Vc A:=⟨h▸a⟩
theorem con {L:List bL} {W:mO} (c:bL) (i:c.α->Nat->cC) (j:pP Tryz.prog W) (e:∀c∈L,Holds Tryz.prog c)
  
  (h:∀a,c.dom a->Vc (sE (nu L W qD qE iQ) (i a) (fG c.f) (c.A.put a) λv=>v.rm (c.res a))) (k:(iQ c.f).isSome=true:=by kernel_rfl) (d:oY c.f L=none:=by kernel_rfl) (b:∀a,(c.A.put a).length=(fG c.f).params:=by intro _;kernel_rfl):Holds Tryz.prog c:=
 holds_of c rB j e (vG k) d b λa g=>(h a g).out
theorem cq {L:List bL} (c:bL) (e:c.α->Nat->cC) (g:∀c∈L,Holds Tryz.prog c) (h:∀a,c.dom a->Vc (sE (nu L mO.none qD qE iQ) (e a) (fG c.f) (c.A.put a) λv=>v.rm (c.res a)))
  (i:(iQ c.f).isSome=true:=by kernel_rfl) (d:oY c.f L=none:=by kernel_rfl) (b:∀a,(c.A.put a).length=(fG c.f).params:=by intro _;kernel_rfl):Holds Tryz.prog c:=con c e (pP.none _) g h i d b
theorem Zx {L:List bL} {W:mO} (c:bL) (l:FuncId->Bool) (i:c.α->Nat->cC) (j:pP Tryz.prog W) (e:∀c∈L,Holds Tryz.prog c)
  
  (h:∀a,c.dom a->Vc (sE (HF L W qD qE iQ l) (i a) (fG c.f) (c.A.put a) λv=>v.rm (c.res a))) (k:(iQ c.f).isSome=true:=by kernel_rfl) (d:oY c.f L=none:=by kernel_rfl) (b:∀a,(c.A.put a).length=(fG c.f).params:=by intro _;kernel_rfl):Holds Tryz.prog c:=
 Zp c rB j e (vG k) d b λa g=>(h a g).out
theorem lp {L:List bL} {W:List dD} (c:dD) (Λ:c.α->Nat->cC) (i:∀c∈W,eu Tryz.prog c) (e:∀c∈L,Holds Tryz.prog c)
  
  (h:∀a,c.dom a->Vc (zF (nu L (gC W) qD qE iQ) (Λ a) (fG c.f) (c.put a) (c.st a) λv s=>v.same (c.res a)/\kq s (c.out a))) (g:(iQ c.f).isSome=true:=by kernel_rfl) (b:∀a,(c.put a).length=(fG c.f).params:=by intro _;kernel_rfl) (k:ny c.f W=none:=by kernel_rfl):eu Tryz.prog c:=
 λa j=>P3 c rB i e (vG g) b a (λd l=>by simp_all) (h a j).out
theorem Zy {L:List bL} {W:List dD} (c:dD) (F:fE) (i:c.α->Nat->cC) (k:∀c∈W,eu Tryz.prog c) (e:∀c∈L,Holds Tryz.prog c)
  
  (h:∀a,c.dom a->Vc (zF (nu L (gC W) qD qE iQ) (i a) F (c.put a) (c.st a) λv s=>v.same (c.res a)/\kq s (c.out a))) (g:iQ c.f=some F:=by kernel_rfl) (b:∀a,(c.put a).length=F.params:=by intro _;kernel_rfl) (l:ny c.f W=none:=by kernel_rfl):eu Tryz.prog c:=
 λa j=>P3 c rB k e g b a (λd m=>by simp_all) (h a j).out
theorem HO {L:List bL} {W:List dD} (c:dD) (g:Nat->Option (Nat×Nat×Nat)) (Λ:c.α->Nat->cC) (i:∀c∈W,eu Tryz.prog c) (j:∀c∈L,Holds Tryz.prog c)
  
  (h:∀a,c.dom a->Vc (HN ⟨⟨vD L,(gC W).C⟩,qD,qE,g,λ_=>none,λ_=>false⟩ (Λ a) (fG c.f) (c.put a) λv s=>v.same (c.res a)/\kq s (c.out a))) (l:(iQ c.f).isSome=true:=by kernel_rfl) (b:∀a,(c.put a).length=(fG c.f).params:=by intro _;kernel_rfl) (d:∀a,c.st a=[]:=by intro _;rfl) (k:ny c.f W=none:=by kernel_rfl):eu Tryz.prog c:=
 λa m=>by
  rw[d a];refine Zu (p:=⟨⟨vD L,(gC W).C⟩,qD,qE,g,λ_=>none,λ_=>false⟩) (Λ:=Λ a) (Q:=λv s=>v.same (c.res a)/\kq s (c.out a)) (t6 (lj i) j rB) (t7 (lj i)) (λ_ _ h=>by cases h) (vG l) ?_ (b a) (λv s e=>⟨e.1,xE e.2⟩) (h a m).out;simp_all[qC,sH,gC,Zv]
open Go.ChangeShapes Go.WideShapes Go.RowKit
abbrev jL:dT:=⟨λ_=>False,0⟩
instance (s:bw):Inhabited s.T:=⟨s.dflt⟩
theorem Zz (b:Nat):Fr jL [] b:=⟨by rintro⟨i,c,h⟩;simp at h,λh=>h⟩
theorem P5 {A:dT} {w:World} {σ:cn} {o:Store}:∀{vs:List Value},(∀v∈vs,v.oneCell'=true)->bI A w σ o (vs.map .sc) vs
 |[],_=>by simp[bI];|v::vs,h=>by
  simp only[List.map_cons,bI];exact⟨v,vs,rfl,by grind[bC],P5 λu a=>h u (by simp[a])⟩
theorem P6 {A:dT} {w:World} {σ:cn} {o:Store}:∀{a b:List AV} {x:Option Addr} {j:Nat},dB A w σ o a x j->dB A w σ o b x (j+a.length)->dB A w σ o (a++b) x j
 |[],b,x,j,_,h=>by simpa using h;|c::a,b,x,j,h,k=>by
  simp only[List.cons_append,dB] at h ⊢;refine⟨h.1,P6 h.2 ?_⟩;grind
def Reads (P:Program) (t:TypeId) (s:bw):Prop:=
 ∀(H:Type) (e:TypeId×Value->H) (w:World) (d:Nat) (a:Nat->Bool) (c:Bool) (b:Nat) (f:List Value) (x:DataW H×List MemPlace),DataW.trod e P w d a c b t f=some x->∃y:s.T,f=dI s y
theorem ZA {P:Program} {t:TypeId} {k:IntKind} (a:P.underlying t=some (.int k)):Reads P t (.i k):=λ_ _ _ _ _ _ _ b _ h=>by
 obtain⟨n,rfl,_,_⟩:=DataW.trod_int a h;exact⟨n,rfl⟩
theorem ZB {w:World} {base n:Nat} {a:Addr} {cs:List Value} (h:w.cells? base a n=some cs):cs.length=n/\∀i v,cs[i]?=some v->w.cell? (a.add i)=some v:=by
 unfold World.cells? at h;split at h
 ·obtain⟨c,f⟩:=BY h;simp only[εl] at c;refine⟨c,λi v d=>?_⟩;have j:=(List.getElem?_eq_some_iff.1 d).1;obtain⟨b,g,e⟩:=f i i (by simp_all);simp_all
 ·cases h
def C9 (P:Program) (t:TypeId) (s:bw):Prop:=
 ∀(H:Type) (d:TypeId×Value->H) (w:World) (a:Nat->Bool) (c:Bool) (b:Nat) (e:List Value) (x:DataW H×List MemPlace),DataW.trod d P w 0 a c b t e=some x->∃y:s.T,bI jL w [] [] (dC s y) e
theorem Reads.g {P:Program} {t:TypeId} {s:bw} (h:Reads P t s) (i:s.flat=true:=by rfl):C9 P t s:=λH d w a c b e x f=>by
 obtain⟨y,rfl⟩:=h H d w 0 a c b e x f;exact⟨y,by grind[Cj,P5,CB]⟩
theorem P7 {w:World} {a:Addr}:∀{cs:List AV} {vs:List Value} {j:Nat},bI jL w [] [] cs vs->(∀i v,vs[i]?=some v->w.cell? (a.add (j+i))=some v)->dB jL w [] [] cs (some a) j
 |[],_,_,_,_=>by simp[dB];|c::cs,vs,j,b,d=>by
  simp only[bI] at b;obtain⟨v,r,rfl,e,f⟩:=b;simp only[dB];refine⟨⟨a,v,rfl,Zz _,by simpa using d 0 v (by simp),e⟩,P7 f λi u g=>?_⟩;have:=d (i+1) u (by simp_all);grind
theorem Da {w:World} {a:Addr} {s:bw}:∀{l:List s.T} {i0:Nat},(∀i y,l[i]?=some y->∃cs,w.cells? 0 (a.add ((i0+i)*s.sz)) s.sz=some cs/\bI jL w [] [] (dC s y) cs)->dB jL w [] [] (cM s l) (some a) (i0*s.sz)
 |[],_,_=>by simp[cM,dB];|y::l,i0,h=>by
  obtain⟨cs,b,c⟩:=h 0 y (by simp);rw[Nat.add_zero] at b;obtain⟨d,g⟩:=ZB b;have e:cM s (y::l)=dC s y++cM s l:=by simp[cM]
  rw[e];refine P6 (P7 c λi v j=>?_) ?_;·grind[add_add]
  ·rw[me,show i0*s.sz+s.sz=(i0+1)*s.sz from by grind];refine Da λi z f=>?_;have:=h (i+1) z (by simp_all);grind
theorem ZC {P:Program} {t e:TypeId} {s:bw} (A:P.underlying t=some (.slice e)) (r:C9 P e s) (I:P.cellsOf e=s.sz)
  {H:Type} {enc:TypeId×Value->H} {w:World} {c:Nat->Bool} {j:Bool} {d:Nat} {cs:List Value} {x:DataW H×List MemPlace} (h:DataW.trod enc P w 0 c j d t cs=some x):
  ∃(v:Value) (l:List s.T),cs=[v]/\bC jL w [] [] (Δ s l).g v:=by
 rcases ε3 A h with⟨rfl,_⟩|⟨a,b,k,m,n,D,F,rfl,M,z,L,o,_,q⟩;·exact⟨_,[],rfl,by grind[γA,bC,cM,dx,dB]⟩
 ·have B:b<=m:=by grind
  have C:∀i,i<b->∃y:s.T,∃cs,w.cells? 0 (a.add (i*s.sz)) s.sz=some cs/\bI jL w [] [] (dC s y) cs:=λi J=>by
   obtain⟨p,K,E⟩:=q i (by omega);obtain⟨y,u⟩:=r _ _ _ _ _ _ _ _ E;grind
  obtain⟨f,G⟩:=ζe C;refine⟨_,(Θ b).map f,rfl,?_⟩;simp only[γA,bC,γT,εl];refine⟨some a,k,rfl,z,oV _ _,?_⟩;have:=Da (w:=w) (a:=a) (s:=s) (l:=(Θ b).map f) (i0:=0) (λi y u=>by
   grind);simp_all
theorem P8 {P:Program} {t e:TypeId} {s:bw} (i:P.underlying t=some (.slice e)) (f:Reads P e s) (j:P.cellsOf e=s.sz)
  {H:Type} {enc:TypeId×Value->H} {w:World} {a:Nat->Bool} {c:Bool} {b:Nat} {cs:List Value} {x:DataW H×List MemPlace} (h:DataW.trod enc P w 0 a c b t cs=some x) (d:s.flat=true:=by rfl):
  ∃(v:Value) (l:List s.T),cs=[v]/\bC jL w [] [] (Δ s l).g v:=ZC i (f.g d) j h
theorem ZD {cs:List Value} {i:Nat} {v:Value} (h:(cs.drop i).take 1=[v]):cs[i]?=some v:=by
 have:((cs.drop i).take 1)[0]?=some v:=by rw[h];rfl
 grind
theorem ZE {P:Program} {t e:TypeId} (s:P.underlying t=some (.array 6 e)) (F:P.underlying e=some (.int .i64)) (H:P.cellsOf e=1) (l:P.cellsOf t=6):Reads P t .eL:=λ_ _ _ _ _ _ _ c _ h=>by
 obtain⟨z,m,_,_,b,v,D⟩:=DataW.trod_array s h;have a:∀i,i<6->∃n,c[i]?=some (.int .i64 n):=λi w=>by
  grind[DataW.trod_int,ZD]
 rw[l] at b;match c,b,a with
 |[C,A,I,G,B,E],_,a=>
  obtain⟨o,y⟩:=a 0 (by omega);obtain⟨x,d⟩:=a 1 (by omega);obtain⟨p,u⟩:=a 2 (by omega);obtain⟨j,r⟩:=a 3 (by omega);obtain⟨k,f⟩:=a 4 (by omega);obtain⟨q,g⟩:=a 5 (by omega);simp only[List.getElem?_cons_zero,List.getElem?_cons_succ,γ] at y d u r f g;exact⟨⟨o,x,p,j,k,q⟩,by grind[dI,iv]⟩
theorem ZF {P:Program} {t b i v:TypeId} {fs:Array Field} (w:P.underlying t=some (.struct fs)) (r:P.cellsOf t=8) (N:(fs[0]?).map (λf=>(f.type,f.offset))=some (i,0)) (O:(fs[1]?).map (λf=>(f.type,f.offset))=some (b,1)) (u:(fs[2]?).map (λf=>(f.type,f.offset))=some (v,7))
  (x:P.underlying i=some (.int .i64)) (e:P.cellsOf i=1) (q:P.underlying v=some (.int .i64)) (k:P.cellsOf v=1) (z:Reads P b .eL) (d:P.cellsOf b=6) (I:fs.size=3):Reads P t .off:=λ_ _ _ _ _ _ _ B _ h=>by
 obtain⟨T,m,_,_,n,K,j⟩:=DataW.trod_struct w h;rw[r] at n;obtain⟨F,C,g⟩:=ε.1 N;obtain⟨s,D,c⟩:=ε.1 O;obtain⟨J,A,a⟩:=ε.1 u;simp only[κ] at g c a;have o:=j 0 F C;have l:=j 1 s D;have p:=j 2 J A;rw[g.1,g.2,e,μ (by omega)] at o;rw[c.1,c.2,d,μ (by omega)] at l;rw[a.1,a.2,k,μ (by omega)] at p;obtain⟨G,M,_⟩:=DataW.trod_int x o;obtain⟨y,E⟩:=z _ _ _ _ _ _ _ _ _ l;obtain⟨H,L,_⟩:=DataW.trod_int q p;match B,n with
 |[S,U,R,V,Y,X,Q,W],_=>
  simp[dI] at M E L;exact⟨⟨G,y,H⟩,by grind[dI,iv]⟩
theorem ZG {P:Program} {t b k o:TypeId} {fs:Array Field} (ht:P.underlying t=some (.struct fs)) (hn:P.cellsOf t=20) (a7:fs.size=5)
  (h0:(fs[0]?).map (λf=>(f.type,f.offset))=some (b,0)) (h1:(fs[1]?).map (λf=>(f.type,f.offset))=some (b,6)) (h2:(fs[2]?).map (λf=>(f.type,f.offset))=some (b,12))
  (U:(fs[3]?).map (λf=>(f.type,f.offset))=some (k,18)) (h4:(fs[4]?).map (λf=>(f.type,f.offset))=some (o,19))
  (s:Reads P b .eL) (d:P.cellsOf b=6) {e:TypeId} (hk:P.underlying k=some (.slice e)) (z:Reads P e (.i .i64)) (A:P.cellsOf e=1) (y:P.cellsOf k=1)
  {f:TypeId} (ho:P.underlying o=some (.slice f)) (F:Reads P f .off) (u:P.cellsOf f=8) (v:P.cellsOf o=1)
  {H:Type} {enc:TypeId×Value->H} {w:World} {c:Nat->Bool} {q:Bool} {j:Nat} {cs:List Value} {x:DataW H×List MemPlace} (h:DataW.trod enc P w 0 c q j t cs=some x):
  ∃p:bz,bI jL w [] [] (gL p.ss) cs:=by
 obtain⟨xs,m,_,_,O,a1,l⟩:=DataW.trod_struct ht h;rw[hn] at O;obtain⟨f0,e0,E⟩:=ε.1 h0;obtain⟨f1,e1,D⟩:=ε.1 h1;obtain⟨Z,e2,r⟩:=ε.1 h2;obtain⟨f3,T,B⟩:=ε.1 U;obtain⟨f4,e4,C⟩:=ε.1 h4;simp only[κ] at E D r B C;have S:=l 0 f0 e0;have I:=l 1 f1 e1;have R:=l 2 Z e2;have J:=l 3 f3 T;have M:=l 4 f4 e4;rw[E.1,E.2,d,μ (by omega)] at S;rw[D.1,D.2,d,μ (by omega)] at I;rw[r.1,r.2,d,μ (by omega)] at R;rw[B.1,B.2,y,μ (by omega)] at J;rw[C.1,C.2,v,μ (by omega)] at M;obtain⟨y0,K⟩:=s _ _ _ _ _ _ _ _ _ S;obtain⟨y1,Q⟩:=s _ _ _ _ _ _ _ _ _ I;obtain⟨y2,G⟩:=s _ _ _ _ _ _ _ _ _ R;obtain⟨v3,l3,L,r3⟩:=P8 hk z A J;obtain⟨v4,W,N,r4⟩:=P8 ho F u M;match cs,O with
 |[c0,c1,c2,c3,c4,c5,c6,c7,c8,c9,a0,a5,V,a6,a8,a2,a4,Y,a3,X],_=>
  simp[dI,iv] at K Q G L N;obtain⟨rfl,rfl,rfl,rfl,rfl,rfl⟩:=K;obtain⟨rfl,rfl,rfl,rfl,rfl,rfl⟩:=Q;obtain⟨rfl,rfl,rfl,rfl,rfl,rfl⟩:=G;subst L;subst N;refine⟨⟨y0,y1,y2,l3,W⟩,?_⟩;have a:∀n:Int,bC jL w [] [] (Ω .i64 n).g (.int .i64 n):=λn=>by simp[γA,bC,Value.oneCell']
  simp only[bz.ss,gL,bI];exact⟨_,_,rfl,a _,_,_,rfl,a _,_,_,rfl,a _,_,_,rfl,a _,_,_,rfl,a _,_,_,rfl,a _,_,_,rfl,a _,_,_,rfl,a _,_,_,rfl,a _,_,_,rfl,a _,_,_,rfl,a _,_,_,rfl,a _,
   _,_,rfl,a _,_,_,rfl,a _,_,_,rfl,a _,_,_,rfl,a _,_,_,rfl,a _,_,_,rfl,a _,_,_,rfl,r3,_,_,rfl,r4,rfl⟩
theorem P9 {P:Program} {w:World} {r:Reach} {base:Nat} {t:TypeId} {v:Value} {fs:Array Field} (a:P.underlying t=some (.struct fs)) (h:Value.okWide P w r base t v):∃cs,v= .agg cs/\v.cells.toList=cs.toList:=by
 unfold Value.okWide at h;rw[a] at h;obtain⟨cs,rfl,_⟩:=h;exact⟨cs,rfl,rfl⟩
theorem ZH {P:Program} {w:World} {r:Reach} {base:Nat} {t e:TypeId} {v:Value} (a:P.underlying t=some (.slice e)) (h:Value.okWide P w r base t v):v.cells.toList=[v]:=by
 cases v with
 |agg b=>simp_all[Value.okWide,Cell.okWide,Cell.ok];|_=>rfl
theorem Qa {H:Type} {enc:TypeId×Value->H} {P:Program} (j:laidOutB P=true) {W l:World} (n:Below W.heap.size W l) {m:Nat->Bool}:
  ∀{f:List TypeId} {vs:List Value} {i:List (DataW H)} {g:List MemPlace},DataW.TrodAll enc P W 0 (λ_=>true) true f vs i g->(∀t∈f,P.readableRec t=true/\t<P.types.size)->(∀p∈g,p.block<W.heap.size)->(∀p∈g,m p.block=true)->
   DataW.TrodAll enc P l 0 m true f vs i g
 |[],_,_,_,h,_,_,_=>by
  obtain⟨rfl,rfl,rfl⟩:=trodAll_nil h;exact rfl;|t::f,_,_,_,h,o,e,k=>by
  obtain⟨v,vs,d,i,a,b,rfl,rfl,rfl,r,s⟩:=trodAll_cons h;obtain⟨x,q⟩:=o t (by simp);exact⟨a,b,WideElems.Trod_stays j x q r (λp c=>n.same (e p (by simp[c]))) (λp c=>k p (by simp[c])),
   Qa j n s (λu w=>o u (by simp[w])) (λp c=>e p (by simp[c])) (λp c=>k p (by simp[c])),rfl⟩
theorem ZI {W b:World} {a:cn} {o':Store} (h:Ext W [] [] b a o'):Below W.heap.size W b:=
 ⟨h.os,h.tape,h.output,h.size,λk e=>(h.blk k e (by rintro⟨i,c,d⟩;simp at d)).1⟩
@[simp] theorem ZJ {k c:IntKind} {a b:Int}:(Ω k a).same (.si c b)↔k=c/\a=b:=by simp[εO,γA]
@[simp] theorem ZK {k c:IntKind} {a b:Int}:(γo k a).same (.si c b)↔k=c/\a=b:=by simp[εO,γA]
@[simp] theorem ZL {a b:Bool}:(γn a).same (.sb b)↔a=b:=by simp[εO,γA]
@[simp] theorem ZM {a b:Bool}:(γ0 a).same (.sb b)↔a=b:=by simp[εO,γA]
@[simp] theorem ZN {s:bw} {a b:List s.T}:(Δ s a).same (.row s b)↔a=b:=by
 constructor;·intro h;simp only[εO,γA,δ4] at h;exact lG s h.1 h.2
 ·rintro rfl;rfl
@[simp] theorem ZO {k c:IntKind} {a b:Int}:(Ω k a).same (.il c b)↔k=c/\a=b:=by simp[εO,γA]
@[simp] theorem ZP {k c:IntKind} {a b:Int}:(γo k a).same (.il c b)↔k=c/\a=b:=by simp[εO,γA]
theorem ZQ {v:SV}:v.same v↔True:=iff_true_intro rfl
theorem lq {v:bA}:v.same v↔True:=iff_true_intro rfl
theorem ZR {a b c d:SV}:(SV.bN [a,b]).same (.bN [c,d])↔a.same c/\b.same d:=by simp[εO,γA,gL]
theorem ZS {a b c d e f:SV}:(SV.bN [a,b,c]).same (.bN [d,e,f])↔a.same d/\b.same e/\c.same f:=by simp[εO,γA,gL]
theorem HQ {s t:bw}:(Δ s []).same (.row t [])↔True:=iff_true_intro (by simp[εO,γA,cM])
theorem Qb {s:bw} {l:List s.T}:(Δ (.i .i64) []).same (.row s l)↔l=[]:=by
 constructor;·grind[εO,γA]
 ·rintro rfl;exact HQ.2 trivial
theorem Db {a b:bG}:a=b↔a.a0=b.a0/\a.a1=b.a1/\a.a2=b.a2/\a.a3=b.a3/\a.a4=b.a4/\a.a5=b.a5:=by
 obtain⟨k,c,n,f,d,l⟩:=a;obtain⟨g,i,e,h,m,j⟩:=b;simp_all
@[simp] theorem ZT {n:Int}:bU .i64 n↔ -9223372036854775808<=n/\n<=9223372036854775807:=Iff.rfl
theorem vcs:(∀{p:Prop} [h:Decidable p],(decide p=true)=p)/\(∀{p:Prop} {x:Decidable p},decide p=false↔¬p)/\(∀{k g:IntKind} {a b:Int},(γo k a).same (Ω g b)↔k=g/\a=b)/\(∀{k g:IntKind} {a b:Int},(Ω k a).same (Ω g b)↔k=g/\a=b)/\(∀{k g:IntKind} {a b:Int},(Ω k a).same (γo g b)↔k=g/\a=b)/\(∀{k g:IntKind} {a b:Int},(γo k a).same (γo g b)↔k=g/\a=b)/\(∀{a b:Bool},(γn a).same (γn b)↔a=b)/\(∀{a b:Bool},(γ0 a).same (γn b)↔a=b)/\(∀{s:bw} {a b:List s.T},(Δ s a).same (Δ s b)↔a=b)/\(∀{a b c d:SV},(SV.bN [a,b]).same (SV.bN [c,d])↔a.same c/\b.same d)/\(∀{a b c d e f:SV},(SV.bN [a,b,c]).same (SV.bN [d,e,f])↔a.same d/\b.same e/\c.same f)/\(∀{s t:bw},(Δ s []).same (Δ t [])↔True)/\(∀{s:bw} {l:List s.T},(Δ (bw.i IntKind.i64) []).same (Δ s l)↔l=[])/\(∀{v:SV},v.same v↔True)/\(∀{v:bA},v.same v↔True)/\(∀{n:Int},bU IntKind.i64 n↔ -9223372036854775808<=n/\n<=9223372036854775807)/\(∀p:Prop,(True/\p)=p)/\(∀p:Prop,(p/\True)=p)/\(∀a b:Bool,((a&&b)=true)=(a=true/\b=true))/\(∀b:Bool,((!b)=true)=(b=false))/\(∀b:Bool,((!b)=false)=(b=true)):=
 ⟨decide_eq_true_eq,decide_eq_false_iff_not,ZK,ZJ,ZO,ZP,ZL,ZM,ZN,ZR,ZS,HQ,Qb,ZQ,lq,ZT,true_and,and_true,θ,Bool.not_eq_true',Bool.not_eq_false'⟩
def bG.ok (b:bG):Bool:=[b.a0,b.a1,b.a2,b.a3,b.a4,b.a5].all λn=>decide (0<=n)&&decide (n<=4)
theorem bG.jM {b:bG}:b.ok=true↔(0<=b.a0/\b.a0<=4)/\(0<=b.a1/\b.a1<=4)/\(0<=b.a2/\b.a2<=4)/\(0<=b.a3/\b.a3<=4)/\(0<=b.a4/\b.a4<=4)/\(0<=b.a5/\b.a5<=4):=by
 simp[bG.ok]
def HS:bL:=⟨70,bG,.one (dZ .eL),λ_=>True,λb=> .si .i64 (if b.ok=true then 0 else 4)⟩
theorem h146:Holds Tryz.prog HS:=by
 refine cq (L:=[]) HS (λ_ _=> .ry 7) (by simp) ?_;intro b _;refine bQ (let h:=γo .i64;let p:=(0:Int);let q:=(4:Int);let i:=decide (b.a0<p);let a:=Ω .i64 (if bG.ok b=true then p else q);let l:=decide (q<b.a0);let k:=decide (b.a1<p);let m:=decide (q<b.a1);let o:=decide (b.a2<p);let j:=decide (q<b.a2);let n:=decide (b.a3<p);let f:=decide (q<b.a3);let g:=decide (b.a4<p);let d:=decide (q<b.a4);let c:=decide (b.a5<p);let e:=decide (q<b.a5);(i=true->(h 4).same a)/\(i=false->(l=true->(h 4).same a)/\(l=false->(k=true->(h 4).same a)/\(k=false->(m=true->(h 4).same a)/\(m=false->(o=true->(h 4).same a)/\(o=false->(j=true->(h 4).same a)/\(j=false->(n=true->(h 4).same a)/\(n=false->(f=true->(h 4).same a)/\(f=false->(g=true->(h 4).same a)/\(g=false->(d=true->(h 4).same a)/\(d=false->(c=true->(h 4).same a)/\(c=false->(e=true->(h 4).same a)/\(e=false->(h 0).same a))))))))))))) (by kernel_rfl) ?_;conv=>zeta
 have p:=@bG.jM b;by_cases h:b.ok=true<;>simp_all
def bG.l (b:bG):List Int:=[b.a0,b.a1,b.a2,b.a3,b.a4,b.a5]
def cE (p:bz):Int:=p.classes.length+12
def di (p:bz) (r:Int):Int:=
 if r - p.classes.length<0 then 1
 else if r - p.classes.length<6 then bp [p.supply.a0,p.supply.a1,p.supply.a2,p.supply.a3,p.supply.a4,p.supply.a5] (r - p.classes.length).toNat 0
 else bp [p.opn.a0,p.opn.a1,p.opn.a2,p.opn.a3,p.opn.a4,p.opn.a5] (r - p.classes.length - 6).toNat 0
def dW (p:bz) (r:Int) (o:Off):Int:=
 if r - p.classes.length<0 then(if o.ck=r then 1 else 0)
 else if r - p.classes.length<6 then bp [o.want.a0,o.want.a1,o.want.a2,o.want.a3,o.want.a4,o.want.a5] (r - p.classes.length).toNat 0
 else if bp [p.cls.a0,p.cls.a1,p.cls.a2,p.cls.a3,p.cls.a4,p.cls.a5] (r - p.classes.length - 6).toNat 0=0\/bp [p.cls.a0,p.cls.a1,p.cls.a2,p.cls.a3,p.cls.a4,p.cls.a5] (r - p.classes.length - 6).toNat 0=bp p.classes o.ck.toNat 0 then 0
 else bp [o.want.a0,o.want.a1,o.want.a2,o.want.a3,o.want.a4,o.want.a5] (r - p.classes.length - 6).toNat 0
def xN:bL:=⟨59,bz,.one dO,λp=>p.classes.length<=8,λp=> .si .i64 (cE p)⟩
def xO:bL:=⟨91,bz×Int,.cons dO (.one (ef .i64)),λa=>a.1.classes.length<=8/\0<=a.2/\a.2<cE a.1,λa=> .si .i64 (di a.1 a.2)⟩
def xQ:bL:=⟨90,bz×Int×Off,.cons dO (.cons (ef .i64) (.one (dZ .off))),λa=>a.1.classes.length<=8/\0<=a.2.1/\a.2.1<cE a.1/\0<=a.2.2.ck/\a.2.2.ck<a.1.classes.length,λa=> .si .i64 (dW a.1 a.2.1 a.2.2)⟩
theorem h157:Holds Tryz.prog xN:=by
 refine cq (L:=[]) xN (λ_ _=> .ry 7) (by simp) ?_;intro p (b:p.classes.length<=8);refine bQ (let a:=(↑p.classes.length:Int)+(12:Int);bU .i64 a/\(Ω .i64 a).same (Ω .i64 (cE p))) (by kernel_rfl) ?_;simp only[vcs,cE];omega
theorem h158:Holds Tryz.prog xO:=by
 refine cq (L:=[]) xO (λ_ _=> .ry 7) (by simp) ?_;rintro⟨p,r⟩ ⟨h,j,i⟩;simp only[cE] at h j i;refine bQ (let h:=(6:Int);let i:=(0:Int);let d:=Ω .i64 (di p r);let c:=(↑p.classes.length:Int);let g:=decide (r - c<i);let e:=decide (r - c<h);let f:=λ(u b:Int) (a:bG) ↦i<=u - b/\u - b<h/\(u - b).toNat<6/\(Ω .i64 (bp [a.a0,a.a1,a.a2,a.a3,a.a4,a.a5] (u - b).toNat i)).same d;bU .i64 (r - c)/\(g=true->(γo .i64 1).same d)/\(g=false->(e=true->f r c p.supply)/\(e=false->bU .i64 (r - c - h)/\f (r - c) h p.opn))) (by kernel_rfl) ?_;simp only[vcs];grind[di]
theorem h156:Holds Tryz.prog xQ:=by
 refine cq (L:=[]) xQ (λ_ _=> .ry 7) (by simp) ?_;rintro⟨p,r,x⟩ ⟨m,q,n,l,o⟩;simp only[cE] at m q n l o;refine bQ (let l:=(0:Int);let m:=(6:Int);let n:=γo .i64;let o:=γo .i64 0;let q:=Ω .i64;let b:=(↑p.classes.length:Int);let e:=decide (r - b<l);let c:=q (dW p r x);let h:=decide (r - b<m);let k:=[x.want.a0,x.want.a1,x.want.a2,x.want.a3,x.want.a4,x.want.a5];let a:=r - b - m;let j:=bp [p.cls.a0,p.cls.a1,p.cls.a2,p.cls.a3,p.cls.a4,p.cls.a5] a.toNat l;let i:=decide (j=l);let g:=decide (j=bp p.classes x.ck.toNat l);let d:=decide (x.ck=r);let f:=(e=true->(n 0).same c)/\(e=false->(h=true->l<=r - b/\r - b<m/\(r - b).toNat<6/\(q (bp k (r - b).toNat l)).same c)/\(h=false->bU .i64 a/\l<=a/\a<m/\a.toNat<6/\(i=true->(n 0).same c)/\(i=false->l<=a/\a<m/\a.toNat<6/\l<=x.ck/\x.ck<b/\x.ck.toNat<p.classes.length/\(g=true->(n 0).same c)/\(g=false->l<=a/\a<m/\a.toNat<6/\(q (bp k a.toNat l)).same c))));bU .i64 (r - b)/\(e=true->(d=true->(n 1).same c)/\(d=false->f))/\(e=false->f)) (by kernel_rfl) ?_;simp only[vcs];repeat' (first|refine And.intro ?_ ?_|intro _)
 all_goals first
  |trivial;|omega;|(simp only[dW];(repeat' split)<;>first|rfl|omega)
def L2:List bL:=[xQ,xN,xO]
theorem hL2:∀c∈L2,Holds Tryz.prog c:=by
 simp_all[L2,h156,h157,h158]
def cT (p:bz) (l:List Off) (r:Int):Int:=(l.map (dW p r)).sum
def gd (p:bz) (l:List Off):Bool:=(Θ (p.classes.length+12)).all λr=>decide (cT p l r<=di p r)
def Dc:bL:=⟨61,bz×List Off,.cons dO (.one (cV .off)),λa=>a.1.classes.length<=8/\a.2.length<=1000/\(∀x∈a.2,0<=x.ck/\x.ck<a.1.classes.length/\x.want.ok=true),λa=> .sb (gd a.1 a.2)⟩
def ZU (a:bz×List Off):Nat->cC
 |3=> .inv Int (λi=>⟨[(1,.row .off a.2),(2,.ptr 0 0 20),(5,.fn (.func 90) [] []),(11,.si .i64 (cE a.1)),(12,.si .i64 i)],[.cells a.1.ss 76 20 false]⟩) (λs=>iS s 12)
  (λi=>0<=i/\i<=cE a.1/\∀r:Nat,r<i->cT a.1 a.2 r<=di a.1 r) (λi=>(cE a.1 - i).toNat)
  λi=>λ
   |7=> .inv (Int×Int) (λx=>⟨[(1,.row .off a.2),(2,.ptr 0 0 20),(5,.fn (.func 90) [] []),(6,.si .i64 i),(7,.si .i64 x.2),(11,.si .i64 (cE a.1)),(12,.si .i64 i),(15,.row .off a.2),(16,.si .i64 a.2.length),(17,.si .i64 x.1)],[.cells a.1.ss 76 20 false]⟩)
    (λs=>(iS s 17,iS s 7))
    (λx=>0<=x.1/\x.1<=a.2.length/\x.2=cT a.1 (a.2.take x.1.toNat) i) (λx=>(a.2.length - x.1).toNat) λ_ _=> .look
   |_=> .look
 |_=> .look
theorem HT {b:bG} (h:b.ok=true) (k:Nat):0<=bp [b.a0,b.a1,b.a2,b.a3,b.a4,b.a5] k 0/\bp [b.a0,b.a1,b.a2,b.a3,b.a4,b.a5] k 0<=4:=by
 grind[bG.jM,bp]
theorem o6 {p:bz} {r:Int} {o:Off} (h:o.want.ok=true):0<=dW p r o/\dW p r o<=4:=by
 unfold dW;have a:=HT h (r - p.classes.length).toNat;have b:=HT h (r - p.classes.length - 6).toNat;omega
theorem sL {p:bz} {r:Int}:∀{l:List Off},(∀x∈l,x.want.ok=true)->0<=cT p l r/\cT p l r<=4*l.length
 |[],_=>by simp[cT];|x::l,h=>by
  have b:=@o6 p r x (h x (by simp));have c:=@sL p r l λy a=>h y (by simp[a]);grind[cT]
theorem dn {a:Type} {l:List a} {i:Nat} {d:a} (h:i<l.length):bp l i d∈l:=by grind[dj]
theorem jN {a:Type} {l:List a} {i:Int} {d:a} (b:0<=i) (h:i<l.length):l.take (i+1).toNat=l.take i.toNat++[bp l i.toNat d]:=by
 rw[show(i+1).toNat=i.toNat+1 from by omega,dj (by omega),List.take_succ_eq_append_getElem (by omega)]
theorem HU {p:bz} {r:Int} {l:List Off} {i:Int} {d:Off} (a:0<=i) (h:i<l.length):cT p (l.take (i+1).toNat) r=cT p (l.take i.toNat) r+dW p r (bp l i.toNat d):=by
 grind[jN,cT]
theorem o7 {p:bz} {l:List Off}:gd p l=true↔∀r:Nat,r<cE p->cT p l r<=di p r:=by
 simp only[gd,cE,ξ,List.mem_range,decide_eq_true_eq];grind
theorem h134:Holds Tryz.prog Dc:=by
 refine cq (L:=L2) Dc ZU hL2 ?_;rintro⟨p,l⟩ ⟨A,R,z⟩;simp only at A R z;refine bQ (let d:=Ω .i64;let i:=(0:Int);let j:=Δ;let s:=γo .i64 0;let u:=γo .i64;let w:=bU .i64;let f:=γU 0 0 20;let e:=SV.fn (Fn.func 90) [] [];let h:=d (cE p);let k:=bA.cells (bz.ss p) 76 20 false;let g:=(↑l.length:Int);let v:=d g;p.classes.length<=8/\((((j bw.off l).same (j bw.off l)/\f.same f/\e.same e/\h.same h/\(s).same (d 0)/\True)/\k.same k/\True)/\i<=i/\i<=cE p/\∀(r:Nat),(↑r:Int)<i->cT p l (↑r:Int)<=di p (↑r:Int))/\∀(x:Int),let D:=decide (x<cE p);let n:=x+(1:Int);let F:=d n;(i<=x/\x<=cE p/\∀(r:Nat),(↑r:Int)<x->cT p l (↑r:Int)<=di p (↑r:Int))->(D=true->((((j bw.off l).same (j bw.off l)/\f.same f/\e.same e/\(d x).same (d x)/\(s).same (d 0)/\h.same h/\(d x).same (d x)/\(j bw.off l).same (j bw.off l)/\(d (↑l.length:Int)).same v/\(s).same (d 0)/\True)/\k.same k/\True)/\i<=i/\i<=g/\i=cT p [] x)/\∀(a:Int×Int),let C:=bp l a.fst.toNat bw.off.dflt;let m:=a.snd+dW p x C;let b:=a.fst+(1:Int);let c:=d x;let o:=d m;let t:=d b;let q:=decide (di p x<a.snd);i<=a.fst/\a.fst<=g/\a.snd=cT p (τ a.fst.toNat l) x->(decide (a.fst<g)=true->i<=a.fst/\a.fst<(↑l.length:Int)/\a.fst.toNat<l.length/\(p.classes.length<=8/\i<=x/\x<cE p/\i<=C.ck/\C.ck<(↑p.classes.length:Int))/\w m/\w b/\(((j bw.off l).same (j bw.off l)/\f.same f/\e.same e/\c.same c/\o.same o/\h.same h/\c.same c/\(j bw.off l).same (j bw.off l)/\v.same v/\t.same t/\True)/\k.same k/\True)/\(i<=b/\b<=g/\m=cT p (τ b.toNat l) x)/\(g - b).toNat<(g - a.fst).toNat)/\(decide (a.fst<g)=false->(p.classes.length<=8/\i<=x/\x<cE p)/\(q=true->(γ0 false).same (γn (gd p l)))/\(q=false->w n/\(((j bw.off l).same (j bw.off l)/\f.same f/\e.same e/\h.same h/\F.same F/\True)/\k.same k/\True)/\(i<=n/\n<=cE p/\∀(r:Nat),(↑r:Int)<n->cT p l (↑r:Int)<=di p (↑r:Int))/\(cE p - n).toNat<(cE p - x).toNat)))/\(D=false->(γ0 true).same (γn (gd p l)))) (by kernel_rfl) ?_;simp only[vcs];have U:cE p=p.classes.length+12:=rfl;have P:∀x∈l,x.want.ok=true:=λx y=>(z x y).2.2;refine⟨A,⟨by omega,by omega,λr K=>by omega⟩,?_⟩;rintro i ⟨O,I,V⟩;refine⟨λQ=>⟨⟨by omega,by omega,by simp[cT]⟩,?_⟩,?_⟩
 ·rintro⟨j,s⟩ ⟨w,u,E⟩;simp only at w u E ⊢;have S:=@sL p i (l.take j.toNat) λx y=>P x (List.mem_of_mem_take y);have G:(l.take j.toNat).length<=l.length:=by simp;omega
  refine⟨λB=>?_,λB=>?_⟩
  ·have M:=z _ (dn (d:=bw.off.dflt) (show j.toNat<l.length by omega));have T:=@o6 p i _ M.2.2;grind[HU]
  ·have:j.toNat=l.length:=by omega
   rw[this,χ] at E;refine⟨⟨A,by omega,by omega⟩,λH=>?_,λN=>⟨by omega,⟨by omega,by omega,λr K=>?_⟩,by omega⟩⟩
   ·symm;rw[Bool.eq_false_iff];intro J;have:=o7.1 J i.toNat (by omega);grind
   grind
 grind[o7]
def L3:List bL:=[Dc,HS,xQ,xN,xO]
theorem hL3:∀c∈L3,Holds Tryz.prog c:=by
 simp only[L3,List.forall_mem_cons,List.not_mem_nil,false_implies,implies_true,and_true];grind[h134,h146,h156,h157,h158]
def iG (p:bz) (k:Nat):Prop:=
 let c:=bp [p.cls.a0,p.cls.a1,p.cls.a2,p.cls.a3,p.cls.a4,p.cls.a5] k 0;let o:=bp [p.opn.a0,p.opn.a1,p.opn.a2,p.opn.a3,p.opn.a4,p.opn.a5] k 0;let s:=bp [p.supply.a0,p.supply.a1,p.supply.a2,p.supply.a3,p.supply.a4,p.supply.a5] k 0;0<=c/\c<=4/\0<=o/\o<=s/\(c≠0\/o=s)
instance (p:bz) (k:Nat):Decidable (iG p k):=by unfold iG;infer_instance
def Df (p:bz):Bool:=(Θ 6).all λk=>decide (iG p k)
theorem pR {p:bz} {k:Nat}:iG p k↔(0<=bp [p.cls.a0,p.cls.a1,p.cls.a2,p.cls.a3,p.cls.a4,p.cls.a5] k 0/\bp [p.cls.a0,p.cls.a1,p.cls.a2,p.cls.a3,p.cls.a4,p.cls.a5] k 0<=4/\0<=bp [p.opn.a0,p.opn.a1,p.opn.a2,p.opn.a3,p.opn.a4,p.opn.a5] k 0/\
  bp [p.opn.a0,p.opn.a1,p.opn.a2,p.opn.a3,p.opn.a4,p.opn.a5] k 0<=bp [p.supply.a0,p.supply.a1,p.supply.a2,p.supply.a3,p.supply.a4,p.supply.a5] k 0/\
  (bp [p.cls.a0,p.cls.a1,p.cls.a2,p.cls.a3,p.cls.a4,p.cls.a5] k 0≠0\/bp [p.opn.a0,p.opn.a1,p.opn.a2,p.opn.a3,p.opn.a4,p.opn.a5] k 0=bp [p.supply.a0,p.supply.a1,p.supply.a2,p.supply.a3,p.supply.a4,p.supply.a5] k 0)):=Iff.rfl
attribute [irreducible] iG
theorem zT {p:bz}:Df p=true↔∀k,k<6->iG p k:=by simp[Df]
def iR (p:bz):Int:=
 if p.supply.ok=false then 4
 else if Df p=false then 4
 else if 8<p.classes.length\/160<p.offers.length then 3
 else if ¬∀c∈p.classes,0<=c/\c<=4 then 4
 else 0
def HV:bL:=⟨43,bz,.one dO,λp=>True,λp=> .si .i64 (iR p)⟩
def ZV (p:bz):Nat->cC
 |5=> .inv Int (λk=>⟨[(1,.ptr 0 0 20),(16,.si .i64 k)],[.cells p.ss 76 20 false]⟩) (λs=>iS s 16) (λk=>0<=k/\k<=6/\∀j:Nat,j<k->iG p j) (λk=>(6 - k).toNat) λ_ _=> .look
 |14=> .inv Int (λk=>⟨[(76,.row (.i .i64) p.classes),(77,.si .i64 p.classes.length),(78,.si .i64 k)],[.cells p.ss 76 20 false]⟩) (λs=>iS s 78)
  (λk=>0<=k/\k<=p.classes.length/\∀c∈p.classes.take k.toNat,0<=c/\c<=4) (λk=>(p.classes.length - k).toNat) λ_ _=> .look
 |_=> .look
theorem Qc {p:bz} (h:p.supply.ok=false):iR p=4:=by simp[iR,h]
theorem Qd {p:bz} (h:p.supply.ok=true) {k:Nat} (b:k<6) (a:¬iG p k):iR p=4:=by
 grind[zT,iR]
theorem Dh {p:bz} (h:p.supply.ok=true) (b:∀j:Nat,j<6->iG p j) (a:8<p.classes.length\/160<p.offers.length):iR p=3:=by
 grind[iR,zT]
theorem Di {p:bz} (h:p.supply.ok=true) (f:∀j:Nat,j<6->iG p j) (e:¬(8<p.classes.length\/160<p.offers.length)) {c:Int} (b:c∈p.classes) (a:¬(0<=c/\c<=4)):iR p=4:=by
 have:¬∀c∈p.classes,0<=c/\c<=4:=λd=>a (d c b);simp_all[iR]
theorem Qe {p:bz} (h:p.supply.ok=true) (b:∀j:Nat,j<6->iG p j) (d:¬(8<p.classes.length\/160<p.offers.length)) (a:∀c∈p.classes,0<=c/\c<=4):iR p=0:=by
 simp_all[iR,zT,if_neg]
theorem vH {p:bz} (h:iR p=0):p.supply.ok=true/\(∀j:Nat,j<6->iG p j)/\p.classes.length<=8/\p.offers.length<=160/\∀c∈p.classes,0<=c/\c<=4:=by
 unfold iR at h;split at h;·cases h
 ·split at h;·cases h
  ·split at h;all_goals simp_all[zT]
theorem Qf {l:List Int} {i:Int} {P:Int->Prop} (d:0<=i) (h:i<l.length) (a:∀c∈l.take i.toNat,P c) (b:P (bp l i.toNat 0)):∀c∈l.take (i+1).toNat,P c:=by
 grind[jN]
theorem h118:Holds Tryz.prog HV:=by
 refine cq (L:=L3) HV ZV hL3 ?_;intro p _;refine bQ (let a:=Ω .i64;let d:=(0:Int);let h:=γo .i64;let k:=(6:Int);let o:=(4:Int);let Y:=if p.supply.ok=true then d else o;let g:=a (iR p);let M:=γU 0 0 20;let O:=h 0;let z:=Δ (bw.i .i64) p.classes;let n:=bA.cells [a p.supply.a0,a p.supply.a1,a p.supply.a2,a p.supply.a3,a p.supply.a4,a p.supply.a5,a p.opn.a0,a p.opn.a1,a p.opn.a2,a p.opn.a3,a p.opn.a4,a p.opn.a5,a p.cls.a0,a p.cls.a1,a p.cls.a2,a p.cls.a3,a p.cls.a4,a p.cls.a5,z,Δ bw.off p.offers] 76 20 false;let y:=[p.cls.a0,p.cls.a1,p.cls.a2,p.cls.a3,p.cls.a4,p.cls.a5];let C:=[p.opn.a0,p.opn.a1,p.opn.a2,p.opn.a3,p.opn.a4,p.opn.a5];let L:=[p.supply.a0,p.supply.a1,p.supply.a2,p.supply.a3,p.supply.a4,p.supply.a5];let s:=(↑p.classes.length:Int);let H:=decide ((8:Int)<s);let G:=decide ((160:Int)<(↑p.offers.length:Int));let b:=(↑p.classes.length:Int);let r:=a b;let V:=λ(u:Bool) ↦decide (Y≠d)=u;True/\(V true->(a Y).same g)/\(V false->(((M.same M/\O.same (a 0)/\True)/\n.same n/\True)/\d<=d/\d<=k/\∀(j:Nat),(↑j:Int)<d->iG p j)/\∀(x:Int),let e:=x+(1:Int);let A:=a e;let I:=decide (x<k);let q:=bp y x.toNat d;let B:=decide (q<d);let E:=decide (o<q);let l:=bp C x.toNat d;let w:=decide (l<d);let m:=bp L x.toNat d;let v:=decide (q=d);let K:=bU .i64 e/\((M.same M/\A.same A/\True)/\n.same n/\True)/\(d<=e/\e<=k/\∀(j:Nat),(↑j:Int)<e->iG p j)/\(k - e).toNat<(k - x).toNat;(d<=x/\x<=k/\∀(j:Nat),(↑j:Int)<x->iG p j)->(I=true->d<=x/\x<k/\x.toNat<6/\d<=x/\x<k/\x.toNat<6/\(B=true->(h 4).same g)/\(B=false->(E=true->(h 4).same g)/\(E=false->(w=true->(h 4).same g)/\(w=false->d<=x/\x<k/\x.toNat<6/\(decide (m<l)=true->(h 4).same g)/\(decide (m<l)=false->(v=true->d<=x/\x<k/\x.toNat<6/\(decide (l≠m)=true->(h 4).same g)/\(decide (l≠m)=false->K))/\(v=false->K))))))/\(I=false->(H=true->(h 3).same g)/\(H=false->(G=true->(h 3).same g)/\(G=false->(((z.same z/\(a s).same r/\O.same (a 0)/\True)/\n.same n/\True)/\d<=d/\d<=b/\∀(c:Int),c∈[]->d<=c/\c<=o)/\∀(x:Int),let J:=bp p.classes x.toNat d;let t:=decide (J<d);let F:=decide (o<J);let f:=x+(1:Int);let D:=a f;(d<=x/\x<=b/\∀(c:Int),c∈τ x.toNat p.classes->d<=c/\c<=o)->(decide (x<b)=true->d<=x/\x<s/\x.toNat<p.classes.length/\(t=true->(h 4).same g)/\(t=false->(F=true->(h 4).same g)/\(F=false->bU .i64 f/\((z.same z/\r.same r/\D.same D/\True)/\n.same n/\True)/\(d<=f/\f<=b/\∀(c:Int),c∈τ f.toNat p.classes->d<=c/\c<=o)/\(b - f).toNat<(b - x).toNat)))/\(decide (x<b)=false->O.same g)))))) (by kernel_rfl) ?_;simp only[vcs];by_cases o:bG.ok p.supply=true
 ·simp only[o,if_true];refine⟨λh=>absurd rfl h,λ_=>⟨⟨by omega,by omega,λj X=>by omega⟩,?_⟩⟩;rintro k ⟨a8,a7,W⟩;refine⟨λy=>?_,λP=>?_⟩
  ·have T:¬iG p k.toNat->(4:Int)=iR p:=λh=>(Qd o (by omega) h).symm;have N:iG p k.toNat->∀(j:Nat),(j:Int)<k+1->iG p j:=λh j X=>by
    by_cases R:(j:Int)<k;·exact W j R
    ·rw[show j=k.toNat from by omega];exact h
   repeat' (first|refine And.intro ?_ ?_|intro _)
   all_goals first
    |omega;|exact T λhh=>by have h2:=pR.1 hh;omega;|exact N (pR.2 (by omega)) _ (by assumption)
  ·have a:∀j:Nat,j<6->iG p j:=λj X=>W j (by omega);refine⟨λh=>(Dh o a (.inl (by omega))).symm,λh8=>⟨λh=>(Dh o a (.inr (by omega))).symm,λZ=>⟨⟨by omega,by omega,by simp⟩,?_⟩⟩⟩;rintro i ⟨Q,a6,S⟩;refine⟨λy=>?_,λP=>?_⟩
   ·have U:=dn (d:=0) (show i.toNat<p.classes.length by omega);refine⟨by omega,by omega,by omega,λh=>(Di o a (by omega) U (by omega)).symm,λh1=>⟨λh=>(Di o a (by omega) U (by omega)).symm,λh2=>⟨by omega,⟨by omega,by omega,?_⟩,by omega⟩⟩⟩;exact Qf Q y S (by omega)
   ·rw[show i.toNat=p.classes.length from by omega,χ] at S;exact(Qe o a (by omega) S).symm
 ·have C:bG.ok p.supply=false:=by simpa using o
  simp only[C,Γ,if_false];exact⟨λ_=>(Qc C).symm,λh=>absurd (by decide) h⟩
def kQ (n:Int) (o:Off):Int:=
 if o.ck<0\/n<=o.ck then 6 else if o.value<1\/1000000<o.value then 4 else if o.want.ok then 0 else 4
def HW:bL:=⟨71,Int×Off,.cons (ef .i64) (.one (dZ .off)),λp=>True,λp=> .si .i64 (kQ p.1 p.2)⟩
theorem h147:Holds Tryz.prog HW:=by
 refine cq (L:=L3) HW (λp=>λ_=> .look) hL3 ?_;rintro⟨n,x⟩ _;refine bQ (let f:=γo .i64;let e:=decide (x.ck<(0:Int));let a:=Ω .i64 (kQ n x);let c:=decide (n<=x.ck);let b:=decide (x.value<(1:Int));let d:=decide ((1000000:Int)<x.value);(e=true->(f 6).same a)/\(e=false->(c=true->(f 6).same a)/\(c=false->(b=true->(f 4).same a)/\(b=false->(d=true->(f 4).same a)/\(d=false->True/\(Ω .i64 (if x.want.ok=true then(0:Int) else(4:Int))).same a))))) (by kernel_rfl) ?_;simp only[vcs];grind[kQ]
def kr (p:bz) (o:Off):Int:=
 if kQ p.classes.length o≠0 then kQ p.classes.length o else if o.want=bG.zero then 4 else if gd p [o]=false then 14 else 0
def HY:bL:=⟨44,bz×Off,.cons dO (.one (dZ .off)),λa=>a.1.classes.length<=8,λa=> .si .i64 (kr a.1 a.2)⟩
def L4:List bL:=HW::L3
theorem hL4:∀c∈L4,Holds Tryz.prog c:=by
 grind[L4,h147,hL3]
theorem Dj {n:Int} {o:Off} (h:kQ n o=0):0<=o.ck/\o.ck<n/\1<=o.value/\o.value<=1000000/\o.want.ok=true:=by
 grind[kQ]
theorem h119:Holds Tryz.prog HY:=by
 refine cq (L:=L4) HY (λp=>λ_=> .look) hL4 ?_;rintro⟨p,x⟩ (i:p.classes.length<=8);refine bQ (let f:=(0:Int);let g:=γo .i64;let c:=kQ (↑p.classes.length:Int) x;let e:=decide (c≠f);let b:=Ω .i64 (kr p x);let d:=λ(u:Bool) ↦(decide (x.want.a0=f)&&(decide (x.want.a1=f)&&(decide (x.want.a2=f)&&(decide (x.want.a3=f)&&(decide (x.want.a4=f)&&(decide (x.want.a5=f)&&true))))))=u;True/\(e=true->(Ω .i64 c).same b)/\(e=false->(d true->(g 4).same b)/\(d false->(p.classes.length<=8/\1<=1000/\∀(a:Off),a∈[x]->f<=a.ck/\a.ck<(↑p.classes.length:Int)/\a.want.ok=true)/\((!gd p [x])=true->(g 14).same b)/\((!gd p [x])=false->(g 0).same b)))) (by kernel_rfl) ?_;conv=>zeta
 have g:(decide (x.want.a0=0)&&(decide (x.want.a1=0)&&(decide (x.want.a2=0)&&(decide (x.want.a3=0)&&(decide (x.want.a4=0)&&decide (x.want.a5=0))))))=decide (x.want=bG.zero):=by
  simp_all[Db,bG.zero]
 simp only[Bool.and_true,g];simp only[vcs];refine⟨λh=>by simp_all[kr],λh=>?_⟩;have f:kQ p.classes.length x=0:=γa.1 h;have j:=Dj f;grind[kr]
def L5:List bL:=HV::HY::L4
theorem hL5:∀c∈L5,Holds Tryz.prog c:=by
 grind[L5,h118,h119,hL4]
def Off.key (o:Off):nT:=⟨o.ck,o.want⟩
def jc (p:bz) (a:List nT):List Off->Int
 |[]=>0
 |o::r=>if kr p o≠0 then kr p o else if o.key∈a then 7 else jc p (a++[o.key]) r
def bH (p:bz):Int:=if iR p≠0 then iR p else jc p [] p.offers
def qF:bL:=⟨25,bz,.one dO,λp=>True,λp=> .si .i64 (bH p)⟩
def ZW (p:bz):Nat->cC
 |7=> .inv Int (λi=>⟨[(3,.ptr 1 0 20),(5,.mp 2),(19,.row .off p.offers),(20,.si .i64 p.offers.length),(21,.si .i64 i)],
   [.cells p.ss 27 20 false,.cells p.ss 76 20 false,.map .key .b true ((p.offers.take i.toNat).map λo=>(o.key,true)) ([0,0,0,0,0,0,0],true) true]⟩) (λs=>iS s 21)
  (λi=>0<=i/\i<=p.offers.length/\jc p [] p.offers=jc p ((p.offers.take i.toNat).map Off.key) (p.offers.drop i.toNat)) (λi=>(p.offers.length - i).toNat) λ_ _=> .look
 |_=> .look
theorem ua {a:Type} {l:List a} {i:Int} {d:a} (b:0<=i) (h:i<l.length):l.drop i.toNat=bp l i.toNat d::l.drop (i+1).toNat:=by
 rw[show(i+1).toNat=i.toNat+1 from by omega,dj (by omega),List.drop_eq_getElem_cons (by omega)]
theorem Dk (k:nT):∀(l:List Off),(nW .key .b k (l.map λo=>(o.key,true))).getD false=decide (k∈l.map Off.key)
 |[]=>by simp[nW];|o::l=>by
  have:=Dk k l;grind[nW]
theorem ZX {b sv:bw} {c:Bool} {es a:List (b.T×sv.T)} {d:List Nat×Bool} {pu:Bool} (h:es=a):(bA.map b sv c es d pu).same (.map b sv c a d pu):=by rw[h];rfl
theorem ZY {k:nT} {l:List Off} (h:k∉l.map Off.key):sD .key .b k true (l.map λo=>(o.key,true))=(l.map λo=>(o.key,true))++[(k,true)]:=
 Hm λp a=>by
  grind
theorem h79:Holds Tryz.prog qF:=by
 refine cq (L:=L5) qF ZW hL5 ?_;intro p _;refine bQ (let d:=Ω .i64;let h:=(0:Int);let g:=Δ bw.off p.offers;let K:=decide (iR p≠h);let y:=d (bH p);let A:=γU 1 0 20;let J:=(↑p.offers.length:Int);let f:=(↑p.offers.length:Int);let B:=d f;let I:=γo .i64 0;let C:=([0,0,0,0,0,0,0],true);let v:=bA.map bw.key bw.b true [] C true;let c:=jc p [] p.offers;let G:=bw.off.dflt;let z:=λ(u:Nat) ↦let r:=bA.cells [d p.supply.a0,d p.supply.a1,d p.supply.a2,d p.supply.a3,d p.supply.a4,d p.supply.a5,d p.opn.a0,d p.opn.a1,d p.opn.a2,d p.opn.a3,d p.opn.a4,d p.opn.a5,d p.cls.a0,d p.cls.a1,d p.cls.a2,d p.cls.a3,d p.cls.a4,d p.cls.a5,Δ (bw.i .i64) p.classes,g] u 20 false;r.same r;True/\(K=true->(d (iR p)).same y)/\(K=false->(((A.same A/\(SV.mp 2).same (SV.mp 2)/\g.same g/\(d J).same B/\I.same (d 0)/\True)/\z 27/\z 76/\v.same v/\True)/\h<=h/\h<=f/\c=c)/\∀(x:Int),let m:=τ x.toNat p.offers;let e:=bp p.offers x.toNat G;let w:=decide (kr p e≠h);let l:=nT.mk e.ck e.want;let s:=γd (λ(o:Off) ↦(o.key,true)) m;let q:=(nW bw.key bw.b l s).getD false;let a:=x+(1:Int);let k:=d a;let n:=τ a.toNat p.offers;h<=x/\x<=f/\c=jc p (γd Off.key m) (γ3 x.toNat p.offers)->(decide (x<f)=true->h<=x/\x<J/\x.toNat<p.offers.length/\p.classes.length<=8/\(w=true->(d (kr p e)).same y)/\(w=false->(q=true->(γo .i64 7).same y)/\(q=false->bU .i64 a/\((A.same A/\(SV.mp 2).same (SV.mp 2)/\g.same g/\B.same B/\k.same k/\True)/\z 27/\z 76/\(bA.map bw.key bw.b true (sD bw.key bw.b l true s) C true).same (bA.map bw.key bw.b true (γd (λ(o:Off) ↦(o.key,true)) n) C true)/\True)/\(h<=a/\a<=f/\c=jc p (γd Off.key n) (γ3 a.toNat p.offers))/\(f - a).toNat<(f - x).toNat)))/\(decide (x<f)=false->I.same y))) (by kernel_rfl) ?_;simp only[vcs];refine⟨λh=>by simp[bH,h],λh=>?_⟩;have M:iR p=0:=γa.1 h;obtain⟨S,V,P,U,R⟩:=vH M;refine⟨⟨by omega,by omega⟩,?_⟩;rintro i ⟨D,O,t⟩;refine⟨λF=>?_,λQ=>?_⟩
 ·rw[ua (d:=bw.off.dflt) D F] at t;generalize T:bp p.offers i.toNat bw.off.dflt=x at t ⊢;refine⟨by omega,by omega,by omega,P,λH=>?_,λH=>?_⟩;·simp_all[jc,bH]
  ·simp only[jc,if_neg H] at t;have N:(⟨x.ck,x.want⟩:nT)=x.key:=rfl;simp only[N];refine⟨λE=>?_,λE=>⟨by omega,?_,⟨by omega,by omega,?_⟩,by omega⟩⟩
   ·have j:=of_decide_eq_true ((Dk _ _).symm.trans E);simp_all[bH]
   ·grind[Dk,ZX,ZY,jN]
   ·have j:=of_decide_eq_false ((Dk _ _).symm.trans E);rw[if_neg j] at t;grind[jN]
 ·rw[show i.toNat=p.offers.length from by omega,δV] at t;grind[jc,bH]
def eF (l:List Off) (a:Int):List Int->Option (List Off)
 |[]=>some []
 |i::r=>if i<=a\/l.length<=i then none else(eF l i r).map (bp l i.toNat bw.off.dflt::·)
def gp (p:bz) (c:List Int):Bool:=(eF p.offers (-1) c).isSome
def dy (p:bz) (c:List Int):List Off:=(eF p.offers (-1) c).getD []
def Dl:bL:=⟨60,bz×List Int,.cons dO (.one (cV (.i .i64))),λa=>a.2.length<=9223372036854775807/\a.1.offers.length<=1000,λa=> .bN [.row .off (dy a.1 a.2),.sb (gp a.1 a.2)]⟩
def ZZ (a:bz×List Int):Nat->cC
 |4=> .inv (Int×Int×List Off) (λx=>⟨[(2,.ptr 0 0 20),(6,.ow 1 x.2.2.length 8),(7,.si .i64 x.2.1),(10,.row (.i .i64) a.2),(11,.si .i64 a.2.length),(12,.si .i64 x.1)],
   [.cells a.1.ss 27 20 false,.row .off x.2.2 55 true]⟩) (λs=>(iS s 12,iS s 7,oS .off s 1))
  (λx=>0<=x.1/\x.1<=a.2.length/\(x.2.2.length<=x.2.1+1/\x.2.1<1000)/\ -1<=x.2.1/\eF a.1.offers (-1) a.2=(eF a.1.offers x.2.1 (a.2.drop x.1.toNat)).map (x.2.2++·)) (λx=>(a.2.length - x.1).toNat) λ_ _=> .look
 |_=> .look
theorem h133:Holds Tryz.prog Dl:=by
 refine cq (L:=L5) Dl ZZ hL5 ?_;rintro⟨p,c⟩ ⟨I,o⟩;have I:c.length<=9223372036854775807:=I;have o:p.offers.length<=1000:=o;refine bQ (let d:=Ω .i64;let h:=(0:Int);let j:=(-1:Int);let l:=Δ;let n:=(1000:Int);let o:=γ0 false;let y:=SV.bN;let A:=(1:Int);let u:=γU 0 0 20;let E:=SV.ow 1 0 8;let g:=bw.i .i64;let f:=(↑c.length:Int);let z:=d f;let v:=bA.cells [d p.supply.a0,d p.supply.a1,d p.supply.a2,d p.supply.a3,d p.supply.a4,d p.supply.a5,d p.opn.a0,d p.opn.a1,d p.opn.a2,d p.opn.a3,d p.opn.a4,d p.opn.a5,d p.cls.a0,d p.cls.a1,d p.cls.a2,d p.cls.a3,d p.cls.a4,d p.cls.a5,l g p.classes,l bw.off p.offers] 27 20 false;let G:=bA.row bw.off [] 55 true;let t:=eF p.offers j c;let D:=y [l bw.off (dy p c),γn (gp p c)];let B:=(↑p.offers.length:Int);(((u.same u/\E.same E/\(γo .i64 j).same (d j)/\(l g c).same (l g c)/\(d (↑c.length:Int)).same z/\(γo .i64 0).same (d 0)/\True)/\v.same v/\G.same G/\True)/\h<=h/\h<=f/\(h<=h/\j<n)/\j<=j/\t=ζf (λx ↦(h,j,[]).snd.snd++x) t)/\∀(x:Int×Int×List Off),let a:=bp c x.fst.toNat h;let m:=decide (a<=x.snd.fst);let k:=x.snd.snd.length+1;let b:=x.fst+A;let e:=x.snd.snd++[bp p.offers a.toNat bw.off.dflt];let r:=d a;let s:=d b;let q:=bA.row bw.off e 55 true;h<=x.fst/\x.fst<=f/\((↑x.snd.snd.length:Int)<=x.snd.fst+A/\x.snd.fst<n)/\j<=x.snd.fst/\t=ζf (λw ↦x.snd.snd++w) (eF p.offers x.snd.fst (γ3 x.fst.toNat c))->(decide (x.fst<f)=true->h<=x.fst/\x.fst<(↑c.length:Int)/\x.fst.toNat<c.length/\(m=true->(y [l g [],o]).same D)/\(m=false->(decide (B<=a)=true->(y [l g [],o]).same D)/\(decide (B<=a)=false->h<=a/\a<B/\a.toNat<p.offers.length/\x.snd.snd.length=x.snd.snd.length/\k*64<=140737488355328/\k<=1000000000000/\bU .i64 b/\((u.same u/\(SV.ow 1 e.length 8).same (SV.ow 1 e.length 8)/\r.same r/\(l g c).same (l g c)/\z.same z/\s.same s/\True)/\v.same v/\q.same q/\True)/\(h<=b/\b<=f/\((↑e.length:Int)<=a+A/\a<n)/\j<=a/\t=ζf (λx ↦(b,a,e).snd.snd++x) (eF p.offers a (γ3 b.toNat c)))/\(f - b).toNat<(f - x.fst).toNat)))/\(decide (x.fst<f)=false->x.snd.snd.length=x.snd.snd.length/\(y [l bw.off x.snd.snd,γ0 true]).same D)) (by kernel_rfl) ?_;simp only[vcs];have H:∀{l:List Off},l=[]->(Δ (.i .i64) []).same (Δ .off l):=by rintro l rfl;exact HQ.2 trivial
 refine⟨⟨by omega,by omega,by omega,by simp⟩,?_⟩;rintro⟨i,F,N⟩ ⟨n,y,j,C,h⟩;simp only at n y j C h ⊢;refine⟨λA=>?_,λM=>?_⟩
 ·rw[ua (d:=0) n A] at h;generalize O:bp c i.toNat 0=x at h ⊢;simp only[eF] at h;refine⟨by omega,by omega,by omega,λJ=>?_,λJ=>⟨λK=>?_,λK=>?_⟩⟩;·simp_all[dy,gp]
  ·simp_all[dy,gp]
  ·rw[if_neg (by omega)] at h;simp only[List.length_append,List.length_singleton];refine⟨by omega,by omega,by omega,by omega,by omega,by omega,⟨by omega,by omega,by omega,by omega,?_⟩,by omega⟩;rw[h,Option.map_map];congr 1;grind
 ·rw[show i.toNat=c.length from by omega,δV] at h;grind[eF,dy,gp]
def L6:List bL:=qF::Dl::L5
theorem hL6:∀c∈L6,Holds Tryz.prog c:=by
 grind[L6,h79,h133,hL5]
def cH (p:bz) (c:List Int):Int:=if bH p≠0 then bH p else if gp p c=false then 4 else if gd p (dy p c)=false then 14 else 0
def ub:bL:=⟨34,bz×List Int,.cons dO (.one (cV (.i .i64))),λa=>a.2.length<=9223372036854775807,λa=> .si .i64 (cH a.1 a.2)⟩
theorem Qg {p:bz}:∀{l:List Off} {a:List nT},jc p a l=0->∀x∈l,kr p x=0
 |[],_,_=>by simp;|o::r,a,h=>by
  simp only[jc] at h;split at h;·omega
  ·rename_i c;split at h;·cases h
   ·intro x b;rcases γD.1 b with rfl|b;·omega
    ·exact Qg h x b
theorem vI {p:bz} (h:bH p=0):iR p=0/\∀x∈p.offers,kr p x=0:=by
 unfold bH at h;split at h;·omega
 ·rename_i a;exact⟨γa.1 a,Qg h⟩
theorem Dm {p:bz} {o:Off} (h:kr p o=0):kQ p.classes.length o=0/\o.want≠bG.zero/\gd p [o]=true:=by
 unfold kr at h;grind
theorem zU {l:List Off}:∀{c:List Int} {a:Int} {r:List Off}, -1<=a->eF l a c=some r->r.length+a+1<=l.length\/r=[]
 |[],a,r,_,h=>by grind[eF];|i::c,a,r,d,h=>by
  simp only[eF] at h;split at h;·cases h
  ·rename_i e;obtain⟨f,b,rfl⟩:=ε.1 h;have:=zU (by omega) b;grind
theorem Dn {l:List Off}:∀{c:List Int} {a:Int} {r:List Off}, -1<=a->eF l a c=some r->∀x∈r,x∈l
 |[],a,r,_,h=>by grind[eF];|i::c,a,r,f,h=>by
  simp only[eF] at h;split at h;·cases h
  ·rename_i e;obtain⟨g,d,rfl⟩:=ε.1 h;intro x b;rcases γD.1 b with rfl|b;·grind[dn]
   ·exact Dn (by omega) d x b
theorem h100:Holds Tryz.prog ub:=by
 refine cq (L:=L6) ub (λp=>λ_=> .look) hL6 ?_;rintro⟨p,c⟩ (n:c.length<=9223372036854775807);refine bQ (let a:=γo .i64;let e:=decide (bH p≠(0:Int));let d:=Ω .i64 (cH p c);let f:=!gd p (dy p c);True/\(e=true->(Ω .i64 (bH p)).same d)/\(e=false->(c.length<=9223372036854775807/\p.offers.length<=1000)/\((!gp p c)=true->(a 4).same d)/\((!gp p c)=false->(p.classes.length<=8/\(dy p c).length<=1000/\∀(x:Off),x∈dy p c->(0:Int)<=x.ck/\x.ck<(↑p.classes.length:Int)/\x.want.ok=true)/\(f=true->(a 14).same d)/\(f=false->(a 0).same d)))) (by kernel_rfl) ?_;simp only[vcs];refine⟨λh=>by simp[cH,h],λh=>?_⟩;have g:bH p=0:=γa.1 h;obtain⟨m,j⟩:=vI g;obtain⟨s,o,l,q,t⟩:=vH m;refine⟨⟨n,by omega⟩,λa=>by grind[cH],λa=>⟨⟨l,?_,?_⟩,λk=>by grind[cH],λk=>by grind[cH]⟩⟩
 ·unfold gp at a;obtain⟨r,b⟩:=γk.1 a;have:=zU (by omega) b;grind[dy]
 ·unfold gp at a;obtain⟨r,b⟩:=γk.1 a;simp only[dy,b,Option.getD_some];intro x i;have u:=Dj (Dm (j x (Dn (by omega) b x i))).1;simp_all
def bG.sub (a b:bG):bG:=⟨a.a0 - b.a0,a.a1 - b.a1,a.a2 - b.a2,a.a3 - b.a3,a.a4 - b.a4,a.a5 - b.a5⟩
def bG.meet (a b:bG):bG:=⟨min a.a0 b.a0,min a.a1 b.a1,min a.a2 b.a2,min a.a3 b.a3,min a.a4 b.a4,min a.a5 b.a5⟩
def bG.le (a b:bG):Bool:=decide (a.a0<=b.a0)&&decide (a.a1<=b.a1)&&decide (a.a2<=b.a2)&&decide (a.a3<=b.a3)&&decide (a.a4<=b.a4)&&decide (a.a5<=b.a5)
theorem bG.le_iff {a b:bG}:a.le b=true↔a.a0<=b.a0/\a.a1<=b.a1/\a.a2<=b.a2/\a.a3<=b.a3/\a.a4<=b.a4/\a.a5<=b.a5:=by
 simp[bG.le,and_assoc]
def Dp (p:bz) (m:Int):Int:=if bH p≠0 then bH p else if m<0\/2^p.classes.length<=m then 4 else 0
structure L8 where
 (l0 l1 l2 l3 l4 l5 l6 l7:List Off)
structure Qh where
 p:bz
 ls:L8
 es:List (Sit×Int)
def zV (p:bz) (j:Int):List Off:=p.offers.filter λx=>decide (x.ck=j)
def Qh.o (s:Qh):cu:=
 [.cells [.si .i64 s.p.supply.a0,.si .i64 s.p.supply.a1,.si .i64 s.p.supply.a2,.si .i64 s.p.supply.a3,.si .i64 s.p.supply.a4,.si .i64 s.p.supply.a5,
  .si .i64 s.p.opn.a0,.si .i64 s.p.opn.a1,.si .i64 s.p.opn.a2,.si .i64 s.p.opn.a3,.si .i64 s.p.opn.a4,.si .i64 s.p.opn.a5,
  .si .i64 s.p.cls.a0,.si .i64 s.p.cls.a1,.si .i64 s.p.cls.a2,.si .i64 s.p.cls.a3,.si .i64 s.p.cls.a4,.si .i64 s.p.cls.a5,
  .row (.i .i64) s.p.classes,.row .off s.p.offers,.row .off s.ls.l0,.row .off s.ls.l1,.row .off s.ls.l2,.row .off s.ls.l3,.row .off s.ls.l4,.row .off s.ls.l5,.row .off s.ls.l6,.row .off s.ls.l7,.mp 1] 99999 29 false,
  .map .sit (.i .i64) true s.es ([0,0,0,0,0,0,0,0,0,0,0,0,0],true) true]
def oc (c w a j k:Int):Int:=if j<k/\(c=0\/c=a) then 0 else w
def mg (p:bz) (x:Off):Int:=bp p.classes x.ck.toNat 0
def HZ (p:bz) (x:Off) (k:Int):bG:=⟨oc p.cls.a0 x.want.a0 (mg p x) 0 k,oc p.cls.a1 x.want.a1 (mg p x) 1 k,oc p.cls.a2 x.want.a2 (mg p x) 2 k,oc p.cls.a3 x.want.a3 (mg p x) 3 k,oc p.cls.a4 x.want.a4 (mg p x) 4 k,oc p.cls.a5 x.want.a5 (mg p x) 5 k⟩
def ft (p:bz) (x:Off):bG:=HZ p x 6
def Sit.b (a:Sit):Prop:=a.left.ok=true/\a.opn.ok=true
end Go.Vi
namespace Go.Proofs.YtlphnffeeefcdaaGreat
open Go.ChangeShapes Go.WideShapes Go.ChangeAt Go.RowKit Go.Vi
theorem Tryz.own:ownKnob Tryz.prog.godebug=none:=by kernel_rfl
theorem Tryz.laidOut:laidOutB Tryz.prog=true:=by kernel_rfl
theorem Z1:Reads Tryz.prog 3 (.i .i64):=ZA Tryz.underlying3
theorem Qi:Reads Tryz.prog 23 .eL:=ZE Tryz.underlying23 Tryz.underlying3 (by kernel_rfl) (by kernel_rfl)
theorem Z2:Reads Tryz.prog 55 .off:=ZF Tryz.underlying55 (by kernel_rfl) rfl rfl rfl Tryz.underlying3 (by kernel_rfl) Tryz.underlying2 (by kernel_rfl) Qi (by kernel_rfl) rfl
theorem Z3 {H:Type} {enc:TypeId×Value->H} {w:World} {a:Nat->Bool} {c:Bool} {b:Nat} {cs:List Value} {x:DataW H×List MemPlace} (h:DataW.trod enc Tryz.prog w 0 a c b 27 cs=some x):
  ∃p:bz,bI jL w [] [] (gL p.ss) cs:=
 ZG Tryz.underlying27 (by kernel_rfl) rfl rfl rfl rfl rfl rfl Qi (by kernel_rfl) Tryz.underlying24 Z1 (by kernel_rfl) (by kernel_rfl) Tryz.underlying25 Z2 (by kernel_rfl) (by kernel_rfl) h
theorem Z4 {f:FuncId} {args:List SV} (h:lD Tryz.prog f (gL args) [] (γn true).g []) {W:World} {vs:List Value} (d:bI jL W [] [] (gL args) vs):
  Calls Tryz.prog f vs.toArray W λe c=>e= .returned (.bool true)/\Below W.heap.size W c:=by
 refine(h jL W [] vs (BZ W (λb a=>a.elim)) d).mono ?_;grind[γA,bC,ZI]
end Go.Proofs.YtlphnffeeefcdaaGreat
namespace Go.Vi
open Go.ChangeShapes Go.WideShapes Go.RowKit
def H3 (P:Program) (t:TypeId) (s:bw) (Q:s.T->Prop):Prop:=
 ∀(H:Type) (d:TypeId×Value->H) (w:World) (a:Nat->Bool) (c:Bool) (b:Nat) (e:List Value) (x:DataW H×List MemPlace),DataW.trod d P w 0 a c b t e=some x->∃y:s.T,Q y/\bI jL w [] [] (dC s y) e
theorem C9.q {P:Program} {t:TypeId} {s:bw} (h:C9 P t s):H3 P t s λ_=>True:=λH d w a c b e x f=>by
 obtain⟨y,g⟩:=h H d w a c b e x f;grind
theorem Qj {P:Program} {t:TypeId} {k:IntKind} (a:P.underlying t=some (.int k)):H3 P t (.i k) λn=>k.min<=(show Int from n)/\(show Int from n)<=k.max:=λ_ _ _ _ _ _ c _ h=>by
 obtain⟨n,rfl,_,b⟩:=DataW.trod_int a h;simp_all[Lit.wf,dC,dI,bI,bC,Value.oneCell']
theorem Z5 {P:Program} {t e:TypeId} {s:bw} {Q:s.T->Prop} (C:P.underlying t=some (.slice e)) (r:H3 P e s Q) (F:P.cellsOf e=s.sz)
  {H:Type} {enc:TypeId×Value->H} {w:World} {c:Nat->Bool} {j:Bool} {d:Nat} {cs:List Value} {x:DataW H×List MemPlace} (h:DataW.trod enc P w 0 c j d t cs=some x):
  ∃(v:Value) (l:List s.T),cs=[v]/\l.length<=9223372036854775807/\(∀y∈l,Q y)/\bC jL w [] [] (Δ s l).g v:=by
 rcases ε3 C h with⟨rfl,_⟩|⟨a,b,k,m,n,D,M,rfl,G,A,N,o,_,p⟩;·exact⟨_,[],rfl,by simp,by simp,by grind[γA,bC,cM,dx,dB]⟩
 ·have u:b<=m:=by grind
  have B:∀i,i<b->∃y:s.T,∃cs,Q y/\w.cells? 0 (a.add (i*s.sz)) s.sz=some cs/\bI jL w [] [] (dC s y) cs:=λi J=>by
   obtain⟨q,K,E⟩:=p i (by omega);obtain⟨y,L,z⟩:=r _ _ _ _ _ _ _ _ E;grind
  obtain⟨f,I⟩:=ζe B;refine⟨_,(Θ b).map f,rfl,?_,?_,?_⟩;·grind[maxLen]
  ·simp_all
  simp only[γA,bC,γT,εl];refine⟨some a,k,rfl,A,oV _ _,?_⟩;have:=Da (w:=w) (a:=a) (s:=s) (l:=(Θ b).map f) (i0:=0) (λi y z=>by
   grind);simp_all
abbrev Dq:bw:=.pair .b (.pair (.bP (.i .u32)) (.bP (.i .u32)))
def Qk (l:List Int):Prop:=∀d∈l,0<=d/\d<4294967296
def H4 (x:Bool×(List Int×List Int)):Prop:=Qk x.2.1/\Qk x.2.2
theorem Z6 {P:Program} {t k v:TypeId} {fs:Array Field} (J:P.underlying t=some (.struct fs)) (F:P.cellsOf t=2) (I:fs.size=2)
  (R:(fs[0]?).map (λf=>(f.type,f.offset))=some (k,0)) (B:(fs[1]?).map (λf=>(f.type,f.offset))=some (v,1))
  {e:TypeId} (C:P.underlying k=some (.slice e)) (n:P.underlying e=some (.int .i64)) (p:P.cellsOf e=1) (o:P.cellsOf k=1) (D:P.underlying v=some (.int .i64)) (q:P.cellsOf v=1)
  {H:Type} {enc:TypeId×Value->H} {w:World} {b:Nat->Bool} {c:Bool} {d:Nat} {cs:List Value} {x:DataW H×List MemPlace} (h:DataW.trod enc P w 0 b c d t cs=some x):
  ∃a:Alloc,a.chosen.length<=9223372036854775807/\bI jL w [] [] (gL [.row (.i .i64) a.chosen,.si .i64 a.value]) cs:=by
 obtain⟨U,m,_,_,s,Q,u⟩:=DataW.trod_struct J h;rw[F] at s;obtain⟨M,N,j⟩:=ε.1 R;obtain⟨E,L,l⟩:=ε.1 B;simp only[κ] at j l;have A:=u 0 M N;have y:=u 1 E L;rw[j.1,j.2,o,μ (by omega)] at A;rw[l.1,l.2,q,μ (by omega)] at y;obtain⟨W,K,z,G,_,S⟩:=Z5 C (Qj n) p A;obtain⟨O,r,_⟩:=DataW.trod_int D y;match cs,s with
 |[T,V],_=>
  simp at z r;subst z;subst r;refine⟨⟨K,O⟩,G,?_⟩;grind[gL,bI,γA,bC,Value.oneCell']
end Go.Vi
namespace Go.Proofs.YtlphnffeeefcdaaGreat
open Go.ChangeShapes Go.WideShapes Go.ChangeAt Go.RowKit Go.Vi
theorem Z7 {H:Type} {e:TypeId×Value->H} {w:World} {b:Nat->Bool} {d:Bool} {c:Nat} {f:List Value} {x:DataW H×List MemPlace} (h:DataW.trod e Tryz.prog w 0 b d c 31 f=some x):
  ∃a:Alloc,a.chosen.length<=9223372036854775807/\bI jL w [] [] (gL [.row (.i .i64) a.chosen,.si .i64 a.value]) f:=
 Z6 Tryz.underlying31 (by kernel_rfl) rfl rfl rfl Tryz.underlying24 Tryz.underlying3 (by kernel_rfl) (by kernel_rfl) Tryz.underlying2 (by kernel_rfl) h
end Go.Proofs.YtlphnffeeefcdaaGreat
namespace Go.Vi
open Go.Proofs.YtlphnffeeefcdaaGreat.Ir
open Go.Proofs
def Z8 (m f:Int):Int:=ie.vp .i64 (m / 2^f.toNat) 1
def Z9 (m f:Int):Int:=ie.CJ .i64 m (2^f.toNat)
def rC (m:Int):List Int:=[0,1,2,3,4,5,6,7].filter λf=>decide (Z8 m f≠0)
def Good (p:bz):Prop:=p.classes.length<=8/\p.offers.length<=160/\p.supply.ok=true/\p.opn.ok=true/\∀x∈p.offers,0<=x.ck/\x.ck<p.classes.length/\x.want.ok=true/\1<=x.value/\x.value<=1000000
def ku (p:bz):List Int->bG->bG->Int
 |[],_,_=>0
 |f::a,l,o=>(zV p f).foldl (λv x=>if x.want.le l&&(ft p x).le o then max v (x.value+ku p a (l.sub x.want) (o.sub (ft p x))) else v) (ku p a l o)
def o8 (p:bz) (a:List Int) (l o:bG) (v:Int) (x:Off):Int:=if x.want.le l&&(ft p x).le o then max v (x.value+ku p a (l.sub x.want) (o.sub (ft p x))) else v
def aac (p:bz) (a:Sit):Int:=ku p (rC a.members) a.left a.opn
theorem dR {p:bz} (h:bH p=0):Good p:=by
 obtain⟨e,k⟩:=vI h;obtain⟨b,a,m,g,q⟩:=vH e;refine⟨m,g,b,?_,λx o=>?_⟩
 ·have d:=bG.jM.1 b;have f:=pR.1 (a 0 (by omega));have c:=pR.1 (a 1 (by omega));have i:=pR.1 (a 2 (by omega));have l:=pR.1 (a 3 (by omega));have n:=pR.1 (a 4 (by omega));have j:=pR.1 (a 5 (by omega));simp[bp] at f c i l n j;grind[bG.jM]
 ·have d:=Dj (Dm (k x o)).1;simp_all
theorem zW {n:Nat} (h:n<=8):(2:Int)^n<=256/\0<(2:Int)^n:=by
 have:n=0\/n=1\/n=2\/n=3\/n=4\/n=5\/n=6\/n=7\/n=8:=by omega
 grind
def rD (p:bz) (m:Int):Int:=if Dp p m=0 then aac p ⟨m,p.supply,p.opn⟩ else 0
def allM (p:bz):Int:=2^p.classes.length - 1
def xR (p:bz) (v:List Int) (i:Int):List Int:=v.set (bp p.offers i.toNat bw.off.dflt).ck.toNat (bp p.offers i.toNat bw.off.dflt).value
def od (p:bz) (c:List Int):List Int:=c.foldl (xR p) (List.replicate p.classes.length 0)
def H5 (p:bz) (s:Int) (i:Int):Int:=s+(bp p.offers i.toNat bw.off.dflt).value
def zY (p:bz) (c:List Int):Int:=c.foldl (H5 p) 0
def Ql (p:bz) (c:List Int):Int:=if cH p c≠0 then cH p c else if zY p c<rD p (allM p) then 13 else 0
def bz.zero:bz:=⟨bG.zero,bG.zero,bG.zero,[],[]⟩
theorem Qm {l:List Off}:∀{c:List Int} {a:Int} {r:List Off}, -1<=a->eF l a c=some r->r.length=c.length/\∀i∈c,0<=i/\i<l.length
 |[],a,r,_,h=>by grind[eF];|i::c,a,r,e,h=>by
  simp only[eF] at h;split at h;·cases h
  ·rename_i d;obtain⟨f,b,rfl⟩:=ε.1 h;obtain⟨g,j⟩:=Qm (by omega) b;grind
theorem Qn {p:bz}:∀{c:List Int} {v:List Int},(c.foldl (xR p) v).length=v.length
 |[],v=>rfl
 |i::c,v=>by simp only[List.foldl_cons];rw[Qn];simp[xR]
theorem aad {p:bz} {c:List Int}:(od p c).length=p.classes.length:=by grind[od,Qn]
def three:bz:=⟨⟨1,1,0,0,0,0⟩,⟨1,1,0,0,0,0⟩,bG.zero,[0,0,0],[⟨0,⟨1,1,0,0,0,0⟩,10⟩,⟨1,⟨1,0,0,0,0,0⟩,6⟩,⟨2,⟨0,1,0,0,0,0⟩,6⟩]⟩
end Go.Vi
namespace Go.Proofs.YtlphnffeeefcdaaGreat
open Go.ChangeShapes Go.WideShapes Go.ChangeAt Go.RowKit Go.Vi
end Go.Proofs.YtlphnffeeefcdaaGreat
namespace Go.Proofs.YtlphnffeeefcdaaGreat
open Go.ChangeShapes Go.WideShapes Go.ChangeAt Go.RowKit Go.Vi
end Go.Proofs.YtlphnffeeefcdaaGreat
namespace Go.Proofs.YtlphnffeeefcdaaGreat
open Go.ChangeShapes Go.WideShapes Go.ChangeAt Go.RowKit Go.Vi
end Go.Proofs.YtlphnffeeefcdaaGreat
