/-
  The auction's problems and allocations, and how they lie in values.
  Conditions: none.
-/
import Derived.Test.YtlphnffeeefcdaaGreatWD05
import Derived.Test.YtlphnffeeefcdaaGreatWD01
import Derived.KernelRfl
import Derived.Deep.Slices
import Derived.OpenShut
import Derived.ProofKit
import Derived.Test.YtlphnffeeefcdaaGreatRows
set_option maxRecDepth 100000
set_option maxHeartbeats 4000000
set_option linter.all false
open Bool renaming false_eq_true->χ,not_eq_false->ζa,and_eq_true->ζ
open Classical renaming choose->δP,choose_spec->εd,not_not->Ξ
open Go.Deep renaming open_slice->ε0,choose_lt->ζc
open Go.Vi.AV renaming ren->δz
open Go.Vi.AV.sc renaming injEq->γ9
open Go.Vi.AV.sl renaming injEq->δ4
open Go.Vi.SV renaming g->γE,row->Θ,si->γe,same->εP,il->γx,sb->γw,bl->δa,ptr->γP
open List renaming all_eq_true->κ,take->ω,length_range->δX,range->ψ,length_map->Ω,getElem?_eq_getElem->ν,take_length->π,map->γc,drop->γ4,drop_length->δQ,mem_cons->γC
open List.cons renaming injEq->Δ
open Nat renaming beq->δu
open Option renaming map_eq_some_iff->ε,map_some->γl,bind_some->δN,map->ζd,isSome_iff_exists->γp
open Option.some renaming injEq->γ
open Prod.mk renaming injEq->μ
namespace Go.Vi
structure bn where
 supply:bD
 opn:bD
 cls:bD
 classes:List Int
 offers:List Off
structure Alloc where
 chosen:List Int
 value:Int
def bn.ss (p:bn):List SV:=
 [.si .i64 p.supply.a0,.si .i64 p.supply.a1,.si .i64 p.supply.a2,.si .i64 p.supply.a3,.si .i64 p.supply.a4,.si .i64 p.supply.a5,
  .si .i64 p.opn.a0,.si .i64 p.opn.a1,.si .i64 p.opn.a2,.si .i64 p.opn.a3,.si .i64 p.opn.a4,.si .i64 p.opn.a5,
  .si .i64 p.cls.a0,.si .i64 p.cls.a1,.si .i64 p.cls.a2,.si .i64 p.cls.a3,.si .i64 p.cls.a4,.si .i64 p.cls.a5,
  .row (.i .i64) p.classes,.row .off p.offers]
def vq:List SV->Option bn
 |[g,v,b,q,d,x,a,n,w,h,j,l,t,p,r,u,e,m,k,f]=>match jK .dR [g,v,b,q,d,x],jK .dR [a,n,w,h,j,l],jK .dR [t,p,r,u,e,m],jf (.i .i64) k,jf .off f with
  |some s,some o,some c,some k,some f=>some ⟨s,o,c,k,f⟩
  |_,_,_,_,_=>none
 |_=>none
theorem zA {cs:List SV} {p:bn} (h:vq cs=some p):gL cs=gL p.ss:=by
 unfold vq at h;split at h
 ·split at h
  ·rename_i s o c k f a i b e d;simp only[γ] at h;subst h;have a:=nJ a;have i:=nJ i;have b:=nJ b;have e:=oL e;have d:=oL d;simp_all[dB,dJ,bn.ss,gL,γE,iv]
  ·cases h
 ·cases h
def dE:qm bn where
 put p:=.agg p.ss;dec
  | .agg c=>vq c
  |_=>none;ok v a h:=by
  grind[γE,zA]
 inj a b h:=by
  obtain⟨⟨a0,a1,a2,a3,M,o⟩,⟨A,l,e,b3,I,b5⟩,⟨H,V,Y,J,x,j⟩,k,f⟩:=a;obtain⟨⟨d,t,d2,Z,d4,X⟩,⟨N,R,u,y,S,e5⟩,⟨f0,E,f2,f3,O,q⟩,W,B⟩:=b;simp only[γE,bn.ss,gL,AV.agg.injEq,Δ,and_true,γ9,Value.int.injEq,true_and,δ4] at h;obtain⟨h0,h1,F,P,Q,z,C,L,g2,U,G,T,w,K,k2,r,D,k5,m,n⟩:=h;have s:=lM (.i .i64) m.1 m.2;have n2:=lM .off n.1 n.2;simp_all
def jZ:qm Alloc where
 put a:=.agg [.row (.i .i64) a.chosen,.si .i64 a.value];dec
  | .agg [r,v]=>match jf (.i .i64) r,v.int .i64 with
   |some c,some v=>some ⟨c,v⟩
   |_,_=>none
  |_=>none;ok v a h:=by
  grind[γE,gL,oL,iK]
 inj a b h:=by
  obtain⟨c,v⟩:=a;obtain⟨e,f⟩:=b;simp only[γE,gL,AV.agg.injEq,Δ,and_true,γ9,Value.int.injEq,true_and,δ4] at h;have d:=lM (.i .i64) h.1.1 h.1.2;rw[d,h.2]
def mX:TypeId->Option bp
 |2=>some (.i .i64)
 |3=>some (.i .i64)
 |24=>some (.bH (.i .i64))
 |187=>some (.i .u32)
 |126=>some (.pair .b (.pair (.bH (.i .u32)) (.bH (.i .u32))))
 |31=>some (.pair (.bH (.i .i64)) (.i .i64))
 |66=>some (.bH (.pair .b (.pair (.bH (.i .u32)) (.bH (.i .u32)))))
 |207=>some (.pair (.bH (.pair .b (.pair (.bH (.i .u32)) (.bH (.i .u32))))) (.pair .b (.pair (.bH (.i .u32)) (.bH (.i .u32)))))
 |4=>some .b
 |68=>some (.pair (.i .i64) (.pair (.i .i64) (.pair (.i .i64) (.pair (.i .i64) (.bH (.pair .b (.pair (.bH (.i .u32)) (.bH (.i .u32)))))))))
 |55=>some .off
 |23=>some .dR
 |116=>some (.pair (.i .i64) .b)
 |35=>some (.pair (.bH (.i .i64)) (.pair (.i .i64) (.bH (.pair (.i .i64) (.pair (.i .i64) (.pair (.i .i64) (.pair (.i .i64) (.bH (.pair .b (.pair (.bH (.i .u32)) (.bH (.i .u32))))))))))))
 |_=>none
def mY:List Nat×Bool->Option (bp×bp)
 |([0,0,0,0,0,0,0],true)=>some (.key,.b)
 |([0,0,0,0,0,0,0,0,0,0,0,0,0],true)=>some (.sit,.i .i64)
 |_=>none
mutual
def SV.ren (m:Nat->Option Nat):SV->Option SV
 | .agg cs=>(rf m cs).map .agg
 | .bJ cs=>(rf m cs).map .bJ
 | .ptr id off tot=>(m id).map λi=> .ptr i off tot
 | .ap id a b c d e=>(m id).map λi=> .ap i a b c d e
 | .rp id a b c d=>(m id).map λi=> .rp i a b c d
 | .ow id n sz=>(m id).map λi=> .ow i n sz
 | .os id a b c d=>(m id).map λi=> .os i a b c d
 | .oc id a b c d=>(m id).map λi=> .oc i a b c d
 | .mp id=>(m id).map .mp
 | .fn f a b=>match rf m a,rf m b with
  |some a',some b'=>some (.fn f a' b')
  |_,_=>none
 | .ud=>some .ud
 | .sc v=>some (.sc v)
 | .il k n=>some (.il k n)
 | .si k n=>some (.si k n)
 | .bl b=>some (.bl b)
 | .sb b=>some (.sb b)
 | .row s l=>some (.row s l)
 | .ep s l i o=>some (.ep s l i o)
 | .ia t cs=>some (.ia t cs)
 | .ite c a b=>some (.ite c a b)
def rf (m:Nat->Option Nat):List SV->Option (List SV)
 |[]=>some []
 |c::cs=>match c.ren m,rf m cs with
  |some c',some cs'=>some (c'::cs')
  |_,_=>none
end
mutual
theorem Hl {m:Nat->Option Nat}:∀{v v':SV},v.ren m=some v'->v.g.ren m=some v'.g
 | .agg cs,v',h=>by
  simp only[SV.ren] at h;obtain⟨cs',h1,rfl⟩:=ε.1 h;simp only[γE,δz,vr h1,γl];| .bJ cs,v',h=>by
  simp only[SV.ren] at h;obtain⟨cs',h1,rfl⟩:=ε.1 h;simp only[γE,δz,vr h1,γl];| .fn f a b,v',h=>by
  simp only[SV.ren] at h;split at h
  ·rename_i a' b' h1 h2;simp only[γ] at h;subst h;simp only[γE,δz,vr h1,vr h2]
  ·cases h;| .ptr id _ _,v',h| .ap id _ _ _ _ _,v',h| .rp id _ _ _ _,v',h| .ow id _ _,v',h| .os id _ _ _ _,v',h| .oc id _ _ _ _,v',h| .mp id,v',h=>by
  simp only[SV.ren] at h;obtain⟨i,h1,rfl⟩:=ε.1 h;simp only[γE,δz,h1,γl];| .ud,v',h| .sc _,v',h| .il _ _,v',h| .si _ _,v',h| .bl _,v',h| .sb _,v',h| .row _ _,v',h| .ep _ _ _ _,v',h| .ia _ _,v',h| .ite _ _ _,v',h=>by
  simp only[SV.ren,γ] at h;subst h;simp only[γE,δz]
theorem vr {m:Nat->Option Nat}:∀{l l':List SV},rf m l=some l'->iH m (gL l)=some (gL l')
 |[],l',h=>by simp[rf] at h;subst h;simp[gL,iH];|c::cs,l',h=>by
  simp only[rf] at h;split at h
  ·rename_i c' cs' h1 h2;simp only[γ] at h;subst h;simp only[gL,iH,Hl h1,vr h2]
  ·cases h
end
def bq.ren (m:Nat->Option Nat):bq->Option bq
 | .cells d e c a=>if a then some (.cells d e c a) else(rf m d).map λb=> .cells b e c a
 | .dead=>some .dead
 | .row s l e a=>some (.row s l e a)
 | .map j f g h i a=>some (.map j f g h i a)
 | .oH .. =>none
theorem O3 {m:Nat->Option Nat}:∀{l:List AV},(∀a∈l,Plain a)->iH m l=some l
 |[],_=>by simp[iH];|a::e,h=>by
  have d:=O3 (m:=m) (l:=e) λb c=>h b (by simp[c]);rcases h a (by simp) with⟨v,rfl,_⟩|⟨n,f,rfl,_⟩<;>simp only[iH,δz,d]
theorem O4 {m:Nat->Option Nat}:∀{l:List (Value×AV)},(∀a∈l,∃v,a.2= .sc v)->ox m l=some l
 |[],_=>by simp[ox];|(k,c)::e,h=>by
  obtain⟨v,b⟩:=h (k,c) (by simp);simp only at b;subst b;simp only[ox,δz,O4 (l:=e) λa d=>h a (by simp[d])]
theorem Hm {b sv:bp} {d:Bool} {es:List (b.T×sv.T)}:∀a∈es.map (λp=>(px b d p.1,mQ sv p.2)),∃v,a.2= .sc v:=λa c=>by
 obtain⟨q,_,rfl⟩:=List.mem_map.1 c;exact⟨_,rfl⟩
theorem O5 {m:Nat->Option Nat} {x y:bq} (h:x.ren m=some y):x.g.ren m=some y.g:=by
 cases x with
 |dead=>simp[bq.ren] at h;subst h;rfl;|cells o e k a=>
  simp only[bq.ren] at h;cases a with
  |true=>simp only[if_true,γ] at h;subst h;simp only[bq.g,bR.ren,if_true];|false=>
   simp only[χ,if_false] at h;obtain⟨b,c,rfl⟩:=ε.1 h;simp_all[bq.g,bR.ren,vr]
 |oH s l e t=>grind[bq.ren];|row s l e a=>
  grind[bq.ren,bq.g,bR.ren,O3,mT];|map f n i j d a=>
  simp only[bq.ren,γ] at h;subst h;simp only[bq.g,bR.ren,O4 Hm,γl];grind
def zB (m:Nat->Option Nat):bZ->Option bZ
 |[]=>some []
 |x::r=>match x.ren m,zB m r with
  |some y,some l=>some (y::l)
  |_,_=>none
theorem O6 {m:Nat->Option Nat}:∀{o o':bZ},zB m o=some o'->rP m (gO o)=some (gO o')
 |[],o',h=>by simp[zB] at h;subst h;rfl;|x::r,o',h=>by
  simp only[zB] at h;split at h
  ·rename_i y l b a;simp only[γ] at h;subst h;have:=O6 a;grind[gO,rP,O5]
  ·cases h
def xt (o:bZ) (a:List Nat):List Nat->Option bZ
 |[]=>some []
 |i::r=>match o[i]?,xt o a r with
  |some x,some l=>match x.ren (λj=>idxOf a j) with
   |some y=>some (y::l)
   |none=>none
  |_,_=>none
theorem Hn {o:bZ} {a:List Nat}:∀{r:List Nat} {o':bZ},xt o a r=some o'->kN (gO o) a r=some (gO o')
 |[],o',h=>by simp[xt] at h;subst h;rfl;|i::r,o',h=>by
  simp only[xt] at h;split at h
  ·rename_i x l d b;split at h
   ·rename_i y c;simp only[γ] at h;subst h;simp only[kN,fD d,Hn b,O5 c,γl];rfl
   ·cases h
  ·cases h
def xu (o:bZ):List Nat->bZ->bZ
 |[],_=>o
 |_,[]=>o
 |i::r,x::l=>xu (o.set i x) r l
theorem O7:∀{a:List Nat} {o l:bZ},gO (xu o a l)=lB (gO o) a (gO l)
 |[],o,l=>by simp[xu,lB];|_::_,o,[]=>by simp[xu,lB,gO];|i::r,o,x::l=>by
  simp only[xu];rw[O7,ql];simp[gO,lB]
def pC (o:bZ):Nat->List SV->List Nat->List Nat
 |0,_,c=>c
 |_,[],c=>c
 |d+1,v::i,c=>
  let f (e:Nat) (c:List Nat):List Nat:=
   if c.contains e then c else
   match o[e]? with
   |some (.cells g _ _ h)=>if h then c++[e] else pC o d g (c++[e])
   |_=>c++[e];pC o d i (match v with
   | .agg g| .bJ g=>pC o d g c
   | .ptr e _ _| .ap e _ _ _ _ _| .rp e _ _ _ _| .ow e _ _| .os e _ _ _ _| .oc e _ _ _ _| .mp e=>f e c
   | .fn _ a b=>pC o d b (pC o d a c)
   |_=>c)
theorem zC {o:Store}:∀{d:Nat} {l:List AV} {acc:List Nat},(∀a∈l,Plain a)->cT o d l acc=acc
 |0,_,_,_=>by grind[cT];|d+1,[],_,_=>by grind[cT];|d+1,a::l,acc,h=>by
  have e:=zC (o:=o) (d:=d) (l:=l) (acc:=acc) λb c=>h b (by simp[c]);rcases h a (by simp) with⟨v,rfl,_⟩|⟨n,f,rfl,_⟩<;>(grind[cT])
theorem O8 {o:Store}:∀{d:Nat} {l:List AV} {acc:List Nat},(∀a∈l,∃v,a= .sc v)->cT o d l acc=acc
 |0,_,_,_=>by simp[cT];|d+1,[],_,_=>by simp[cT];|d+1,a::l,acc,h=>by
  obtain⟨v,rfl⟩:=h a (by simp);simp only[cT];exact O8 λa b=>h a (by simp[b])
theorem YV {l:List (Value×AV)} (h:∀a∈l,∃v,a.2= .sc v):∀a∈l.map (·.2),∃v,a= .sc v:=λa b=>by
 grind
def bq.CJ:bq->Bool
 | .oH .. =>false
 |_=>true
theorem O9 {o:bZ} (h:o.all bq.CJ=true):∀{d:Nat} {vs:List SV} {acc:List Nat},cT (gO o) d (gL vs) acc=pC o d vs acc:=by
 intro d;induction d with
 |zero=>grind[cT,pC];|succ d k=>
  intro vs acc;cases vs with
  |nil=>simp[gL,cT,pC];|cons v vs=>
   have m:∀(b:Nat) (acc:List Nat),(if acc.contains b then acc else
     match(gO o)[b]? with
     |some (.cells f _ _ c)=>if c then acc++[b] else cT (gO o) d f (acc++[b])
     |some (.map j _ c)=>if c then acc++[b] else cT (gO o) d (j.map (·.2)) (acc++[b])
     |_=>acc++[b])=(if acc.contains b then acc else
     match o[b]? with
     |some (.cells f _ _ c)=>if c then acc++[b] else pC o d f (acc++[b])
     |_=>acc++[b]):=by
    intro b acc;rw[GL];cases i:o[b]? with
    |none=>rfl;|some x=>
     cases x with
     |oH s l e t=>
      have:=κ.1 h _ (List.mem_of_getElem? i);grind[bq.CJ];|dead=>rfl;|cells f e r c=>grind[bq.g];|row s l e c=>simp only[γl,bq.g,zC (λa n=>mT n),ite_self];|map p u q j w c=>simp only[γl,bq.g,O8 (YV Hm),ite_self]
   simp only[gL,cT,pC];rw[k];congr 1;cases v<;>simp only[γE,k]<;>exact m _ _
def Ho (C:FuncId->List SV->bZ->(SV->bZ->Prop)->Prop) (f:FuncId) (args:List SV) (o:bZ) (K:SV->bZ->Prop):Prop:=
 if o.all bq.CJ=false then False else
 let a:=pC o fz args [];match rf (λj=>idxOf a j) args,xt o a a with
 |some c,some d=>C f c d λr b=>
   if b.length<a.length\/iI.pd a=false then False else
   match r.ren (oz a o.length),zB (oz a o.length) b with
   |some g,some e=>K g (xu o a (e.take a.length)++e.drop a.length)
   |_,_=>False
 |_,_=>False
theorem YW {call:dh} {C:FuncId->List SV->bZ->(SV->bZ->Prop)->Prop}
  (n:∀f args o K,C f args o K->∃(r:SV) (o':bZ),call f (gL args) (gO o) true=some (r.g,gO o')/\K r o')
  {f:FuncId} {args:List SV} {o:bZ} {K:SV->bZ->Prop} (h:Ho C f args o K):
  ∃(r:SV) (o':bZ),iI call f (gL args) (gO o)=some (r.g,gO o')/\K r o':=by
 unfold Ho at h;split at h;·exact h.elim
 rename_i a;simp only[ζa] at a;simp only at h;split at h
 ·rename_i d e i l;obtain⟨r,c,j,b⟩:=n _ _ _ _ h;split at b;·exact b.elim
  ·rename_i p;split at b
   ·rename_i k q m s;refine⟨k,_,?_,b⟩;unfold iI;simp only[O9 a];rw[vr i,Hn l];simp only[j,nQ];rw[if_neg p,Hl m,O6 s];simp only[OU,O7];simp[gO]
   simp_all
 simp_all
section
variable {P:Program} {T:Tab} {p:iR} {Λ:Nat->cC}
theorem YX (A:kB P T) (y:pA T.K p.C) (w:∀f F,p.it f=some F->T.fn f=some F) {f:FuncId} {F:eZ} (u:T.fn f=some F) {args:List SV} {o:bZ} {r:AV} {o':Store} (G:T.K f (gL args) (gO o) true=none) (n:args.length=F.params)
  {Q:SV->bZ->Prop} (m:∀v s,Q v s->v.g=r/\gO s=o') (h:zo p Λ F args o Q):gA P f=true/\kP P f (gL args) (gO o) r o':=by
 unfold zo at h;have i:=vm y w h;have e:(cq.mk (mU 0 args) o).g=⟨iu 0 (gL args),gO o⟩:=by simp[cq.g,vn]
 rw[e] at i;have j:(gO o).length=o.length:=nQ o;rw[<-j] at i;have E:∀(a:cq),(nO a F.res λv=>if v.cj (gO o).length&&a.o.all (λx=>x.cj (gO o).length)&&decide ((gO o).length<=a.o.length) then Q v (a.o.take (gO o).length) else False)->
   (nG a.g F.res).bind (λl=>finish true (gO o).length l a.g.o)=some (r,o'):=by
  intro a t;obtain⟨l,k,b⟩:=xo t;rw[k];simp only[δN,finish,if_true];split at b
  ·rename_i q;simp only[ζ,decide_eq_true_eq,κ] at q;obtain⟨⟨z,D⟩,B⟩:=q;have d:∀x∈a.g.o,x.cj (gO o).length=true:=by
    grind[cq.g,gO,Cd]
   rw[OS (by grind[zq]) d (by grind[cq.g,nQ])];rw[<-(m _ _ b).1,<-(m _ _ b).2];simp_all[cq.g,gO]
  ·exact b.elim
 obtain⟨k,b,_⟩:=BX A u (o:=gO o) (own:=true) G (by grind[jM]) (v:=r) (o':=o') (i.mono λc s H=>by
  obtain⟨a,rfl,t⟩:=H;cases c<;>grind);simp_all
end
structure dF where
 f:FuncId
 α:Type
 put:α->List SV
 st:α->bZ
 dec:List SV->bZ->Option α
 ok:∀v o a,dec v o=some a->gL v=gL (put a)/\gO o=gO (st a)
 inj:∀a b,gL (put a)=gL (put b)->gO (st a)=gO (st b)->a=b
 dom:α->Prop
 res:α->SV
 out:α->bZ
def dZ (P:Program) (c:dF):Prop:=∀a,c.dom a->gA P c.f=true/\kP P c.f (gL (c.put a)) (gO (c.st a)) (c.res a).g (gO (c.out a))
def mZ (f:FuncId):List dF->Option dF
 |[]=>none
 |c::r=>bif δu c.f f then some c else mZ f r
theorem Pe:∀{L:List dF} {f:FuncId} {c:dF},mZ f L=some c->c.f=f/\c∈L
 |[],_,_,h=>by cases h;|d::L,f,c,h=>by
  simp only[mZ] at h;cases a:δu d.f f with
  |true=>
   simp_all;|false=>
   rw[a] at h;simp only[cond_false] at h;obtain⟨b,e⟩:=Pe h;simp_all
def Pg (W:List dF) (f:FuncId) (args:List SV) (o:bZ) (K:SV->bZ->Prop):Prop:=
 match mZ f W with
 |some c=>iT (c.dec args o) λa=>c.dom a/\K (c.res a) (c.out a)
 |none=>False
open Classical in
noncomputable def tL (W:List dF) (f:FuncId) (args:List AV) (o:Store):Option (AV×Store):=
 match mZ f W with
 |some c=>if h:∃a,args=gL (c.put a)/\o=gO (c.st a)/\c.dom a then some ((c.res (δP h)).g,gO (c.out (δP h))) else none
 |none=>none
noncomputable def gB (W:List dF):kQ:=⟨tL W,λf a o K=>Ho (Pg W) f a o K⟩
theorem ln {P:Program} {W:List dF} (u:∀c∈W,dZ P c):mW P (gB W) where
 K:=λf d o r w h=>by
  simp only[gB,tL] at h;split at h
  ·rename_i c k;obtain⟨rfl,v⟩:=Pe k;split at h
   ·rename_i e;simp only[γ,μ] at h;generalize t:δP e=b at h;have n:=εd e;rw[t] at n;obtain⟨p,s,l⟩:=n;obtain⟨j,m⟩:=u c v _ l;simp_all
   ·cases h
  ·cases h
 C:=λq g f d o K h=>by
  refine YW ?_ h;intro f d o K i;simp only[Pg] at i;split at i
  ·rename_i c k;obtain⟨a,p,s,l⟩:=jg i;refine⟨_,_,?_,l⟩;rw[g];obtain⟨j,m⟩:=c.ok _ _ _ p;have e:∃b,gL d=gL (c.put b)/\gO o=gO (c.st b)/\c.dom b:=⟨a,j,m,s⟩;simp only[gB,tL,k,dif_pos e];have:δP e=a:=c.inj _ _ ((εd e).1.symm.trans j) ((εd e).2.1.symm.trans m);rw[this]
  simp_all
theorem Ph {P:Program} {i:FuncId->Option eZ} {L:List bL} {W:List dF} (c:dF) {F:eZ} {m:TypeId->Option bp} {j:List Nat×Bool->Option (bp×bp)} {Λ:c.α->Nat->cC}
  (q:kB P ⟨i,λ_ _ _ _=>none⟩) (k:∀c∈W,dZ P c) (r:∀c∈L,Holds P c)
  (n:i c.f=some F) (e:∀a,(c.put a).length=F.params)
  (a:c.α) (o:∀d,mZ c.f W=some d->∀b,gL (c.put a)=gL (d.put b)->gO (c.st a)=gO (d.st b)->¬d.dom b)
  (h:zo (kR L (gB W) m j i) (Λ a) F (c.put a) (c.st a) λv s=>v.same (c.res a)/\jY s (c.out a)):
  gA P c.f=true/\kP P c.f (gL (c.put a)) (gO (c.st a)) (c.res a).g (gO (c.out a)):=by
 refine YX (p:=kR L (gB W) m j i) (Λ:=Λ a) (Q:=λv s=>v.same (c.res a)/\jY s (c.out a)) (rZ (ln k) r q) (r7 (ln k)) (λ_ _ h=>h) n ?_ (e a) (λv s l=>⟨l.1,xn l.2⟩) ?_
 ·simp only[pB,rc,if_true,gB,tL];grind
 ·exact h
mutual
def kS (o:bZ) (k:Nat):SV->(SV->Prop)->Prop
 | .ow id n sz,K=>if k<=id then(match o[id]? with
   |some (.row s l _ true)=>if sz=s.sz then n=l.length/\K (.row s l) else False
   |some (.row _ _ _ false)=>K (.ow id n sz)
   |_=>False) else K (.ow id n sz)
 | .ptr id f t,K=>if k<=id then(match o[id]? with
   |some (.cells _ _ _ false)=>K (.ptr id f t)
   |_=>False) else K (.ptr id f t)
 | .agg cs,K=>sd o k cs λcs'=>K (.agg cs')
 | .bJ cs,K=>sd o k cs λcs'=>K (.bJ cs')
 | .ud,K=>K .ud
 | .sc v,K=>K (.sc v)
 | .il q n,K=>K (.il q n)
 | .si q n,K=>K (.si q n)
 | .bl b,K=>K (.bl b)
 | .sb b,K=>K (.sb b)
 | .row s l,K=>K (.row s l)
 | .mp i,K=>K (.mp i)
 | .ia t cs,K=>K (.ia t cs)
 | .fn f a b,K=>sd o k a λa'=>sd o k b λb'=>K (.fn f a' b')
 |_,_=>False
def sd (o:bZ) (k:Nat):List SV->(List SV->Prop)->Prop
 |[],K=>K []
 |c::cs,K=>kS o k c λc'=>sd o k cs λcs'=>K (c'::cs')
end
section
variable {o:bZ} {k:Nat}
mutual
theorem Hq:∀{v:SV} {K:SV->Prop},kS o k v K->∃v':SV,v.g.bU (gO o) (λi=>decide (k<=i))=some v'.g/\K v'
 | .ow id n sz,K,h=>by
  simp only[kS] at h;split at h
  ·rename_i hk;split at h
   ·rename_i s l e ho;split at h
    ·rename_i hsz;subst hsz;obtain⟨rfl,h⟩:=h;refine⟨_,?_,h⟩;have htk:ω (l.length*s.sz) (cE s l)=cE s l:=List.take_of_length_le (by rw[fi];omega);simp only[γE,AV.bU,hk,decide_true,if_true,fD ho,bq.g,fi,Nat.zero_add,Nat.le_refl,and_self,List.drop_zero,htk]
    ·exact h.elim
   ·rename_i s l e ho;refine⟨_,?_,h⟩;simp only[γE,AV.bU,hk,decide_true,if_true,fD ho,bq.g,χ,if_false]
   ·exact h.elim
  ·rename_i hk;refine⟨_,?_,h⟩;simp only[γE,AV.bU,decide_eq_true_eq,if_neg hk];| .ptr id f t,K,h=>by
  simp only[kS] at h;split at h
  ·rename_i hk;split at h
   ·rename_i cs e sz ho;refine⟨_,?_,h⟩;simp only[γE,AV.bU,hk,decide_true,if_true,fD ho,bq.g,χ,if_false]
   ·exact h.elim
  ·rename_i hk;refine⟨_,?_,h⟩;simp only[γE,AV.bU,decide_eq_true_eq,if_neg hk];| .agg cs,K,h=>by
  simp only[kS] at h;obtain⟨cs',h1,h2⟩:=xw h;exact⟨_,by simp only[γE,AV.bU,h1,γl],h2⟩;| .bJ cs,K,h=>by
  simp only[kS] at h;obtain⟨cs',h1,h2⟩:=xw h;exact⟨_,by simp only[γE,AV.bU,h1,γl],h2⟩;| .ud,K,h=>⟨.ud,by simp only[γE,AV.bU],by simpa only[kS] using h⟩
 | .sc v,K,h=>⟨.sc v,by simp only[γE,AV.bU],by simpa only[kS] using h⟩
 | .il k n,K,h=>⟨.il k n,by simp only[γE,AV.bU],by simpa only[kS] using h⟩
 | .si k n,K,h=>⟨.si k n,by simp only[γE,AV.bU],by simpa only[kS] using h⟩
 | .bl b,K,h=>⟨.bl b,by simp only[γE,AV.bU],by simpa only[kS] using h⟩
 | .sb b,K,h=>⟨.sb b,by simp only[γE,AV.bU],by simpa only[kS] using h⟩
 | .row s l,K,h=>⟨.row s l,by simp only[γE,AV.bU],by simpa only[kS] using h⟩
 | .mp i,K,h=>⟨.mp i,by simp only[γE,AV.bU],by simpa only[kS] using h⟩
 | .ia t cs,K,h=>⟨.ia t cs,by simp only[γE,AV.bU],by simpa only[kS] using h⟩
 | .fn f a b,K,h=>by
  simp only[kS] at h;obtain⟨a',h1,h2⟩:=xw h;obtain⟨b',h3,h4⟩:=xw h2;exact⟨_,by simp only[γE,AV.bU,h1,h3],h4⟩;| .ep ..,K,h| .ap ..,K,h| .rp ..,K,h| .os ..,K,h| .oc ..,K,h| .ite ..,K,h=>by simp only[kS] at h
theorem xw:∀{cs:List SV} {K:List SV->Prop},sd o k cs K->∃cs':List SV,gW (gO o) (λi=>decide (k<=i)) (gL cs)=some (gL cs')/\K cs'
 |[],K,h=>⟨[],by simp[gL,gW],by simpa only[sd] using h⟩
 |c::cs,K,h=>by
  simp only[sd] at h;obtain⟨c',h1,h2⟩:=Hq h;obtain⟨cs',h3,h4⟩:=xw h2;exact⟨c'::cs',by simp only[gL,gW,h1,h3],h4⟩
end
def oM (o:bZ) (k:Nat):Nat->bZ->(bZ->Prop)->Prop
 |_,[],K=>K []
 |i,x::r,K=>match x with
  | .cells f e m false=>sd o k f λc=>oM o k (i+1) r λa=>K (.cells c e m false::a)
  | .row s l e b=>oM o k (i+1) r λa=>K ((if b&&decide (k<=i) then .dead else .row s l e b)::a)
  | .map g n d j h b=>oM o k (i+1) r λa=>K (.map g n d j h b::a)
  | .dead=>oM o k (i+1) r λa=>K (.dead::a)
  |_=>False
theorem xx:∀{i:Nat} {r:bZ} {K:bZ->Prop},oM o k i r K->∃r' mid,ju (gO o) (λi=>decide (k<=i)) (gO r)=some mid/\fA (λi=>decide (k<=i)) i mid=gO r'/\K r'
 |i,[],K,h=>⟨[],[],rfl,rfl,h⟩
 |i,x::r,K,h=>by
  cases x with
  |dead=>
   simp only[oM] at h;obtain⟨r',mid,m,b,e⟩:=xx h;grind[gO,bq.g,ju,bR.bU,fA];|cells A c z a=>
   cases a with
   |true=>grind[oM];|false=>
    simp only[oM] at h;obtain⟨j,y,f⟩:=xw h;obtain⟨r',mid,m,b,e⟩:=xx f;refine⟨_,.cells (gL j) c z false::mid,?_,?_,e⟩;all_goals simp_all[gO,bq.g,ju,bR.bU,fA]
  |oH s l c t=>grind[oM];|row s l c a=>
   simp only[oM] at h;obtain⟨r',mid,m,b,e⟩:=xx h;refine⟨_,(bq.row s l c a).g::mid,?_,?_,e⟩
   ·have d:(bq.row s l c a).g.bU (gO o) (λi=>decide (k<=i))=some (bq.row s l c a).g:=by
     cases a with
     |true=>simp only[bq.g,bR.bU,if_true];|false=>
      simp only[bq.g,bR.bU,χ,if_false];grind[CC,mT]
    grind[gO,ju]
   ·cases a with
    |true=>
     simp only[bq.g,fA,Bool.true_and];by_cases n:k<=i
     ·simp only[n,decide_true,if_true];rw[b];rfl
     ·simp only[n,decide_false,χ,if_false];rw[b];rfl;|false=>simp only[bq.g,fA,Bool.false_and,χ,if_false];rw[b];rfl
  |map u p q w v a=>
   simp only[oM] at h;obtain⟨r',mid,m,b,e⟩:=xx h;have d:(bq.map u p q w v a).g.bU (gO o) (λi=>decide (k<=i))=some (bq.map u p q w v a).g:=by
    cases a with
    |true=>simp only[bq.g,bR.bU,if_true];|false=>
     simp only[bq.g,bR.bU,χ,if_false];rw[Ha Hm,γl]
   grind[gO,ju,bq.g,fA]
end
def CL (r:SV) (o:bZ) (K:SV->bZ->Prop):Prop:=
 kS o 0 r λc=>oM o 0 0 o λb=>
  if b.all bq.CJ=false then False else
  let a:=pC b fz [c] [];if iI.pd a then match c.ren (λj=>idxOf a j),xt b a a with
   |some e,some d=>K e d
   |_,_=>False
  else False
theorem YY {r:SV} {o:bZ} {K:SV->bZ->Prop} (h:CL r o K):∃r' o',lC 0 r.g (gO o)=some (r'.g,gO o')/\K r' o':=by
 unfold CL at h;obtain⟨m,n,k⟩:=Hq h;obtain⟨c,i,e,f,a⟩:=xx k;split at a;·exact a.elim
 rename_i b;simp only[ζa] at b;simp only at a;split at a
 ·rename_i t;split at a
  ·rename_i j l p q;refine⟨j,l,?_,a⟩;unfold lC;rw[n,e];simp only[f,List.take_zero,List.flatMap_nil,List.range_zero];have s:=O9 (o:=c) b (d:=fz) (vs:=[m]) (acc:=[]);simp_all[gL,Hl,Hn]
  simp_all
 simp_all
def Hr (p:iR) (Λ:Nat->cC) (F:eZ) (args:List SV) (Q:SV->bZ->Prop):Prop:=
 wpS p 0 F.body Λ ⟨mU 0 args,[]⟩ λa b=>match a with
  | .exit _=>False
  | .goto _=>False
  |_=>nO b F.res λr=>CL r b.o Q
theorem YZ {P:Program} {T:Tab} {p:iR} {Λ:Nat->cC} (y:kB P T) (t:pA T.K p.C) (x:∀f F,p.it f=some F->T.fn f=some F) {f:FuncId} {F:eZ} (m:T.fn f=some F) {args:List SV} {r:AV} {o':Store} (A:T.K f (gL args) [] true=none) (j:args.length=F.params)
  {Q:SV->bZ->Prop} (D:∀v s,Q v s->v.g=r/\gO s=o') (h:Hr p Λ F args Q):gA P f=true/\kP P f (gL args) [] r o':=by
 unfold Hr at h;have k:=vm t x h;have b:(cq.mk (mU 0 args) []).g=⟨iu 0 (gL args),[]⟩:=by simp[cq.g,vn,gO]
 rw[b] at k;have n:∀(a:cq),(nO a F.res λv=>CL v a.o Q)->(nG a.g F.res).bind (λc=>finish true 0 c a.g.o)=some (r,o'):=by
  intro a l;obtain⟨c,e,i⟩:=xo l;obtain⟨u,q,w,B⟩:=YY i;rw[e];simp only[δN,finish,if_true];have:lC 0 c.g a.g.o=some (u.g,gO q):=w;grind
 obtain⟨e,i,_⟩:=BX y m (o:=[]) (own:=true) A (by grind[jM]) (v:=r) (o':=o') (k.mono λd s z=>by
  obtain⟨a,rfl,l⟩:=z;cases d<;>simp_all);simp_all
theorem Y0 {W:List dF} {f:FuncId} {args:List AV} {o:Store} (h:mZ f W=none):tL W f args o=none:=by
 grind[tL]
open Go.Proofs.YtlphnffeeefcdaaGreat.Ir
open Go.Proofs
def CN (f:Nat):List (Nat×List RH)->Option (List RH)
 |[]=>none
 |e::r=>bif δu e.1 f then some e.2 else CN f r
noncomputable def fO (f:FuncId):Option eZ:=
 match CN f MC with
 |none=>none
 |some H=>match Tryz.prog.funcs[f]? with
  |none=>none
  |some g=>Bw Tryz.prog H g
noncomputable def fG (f:FuncId):eZ:=(fO f).getD ⟨0,0,.skip,[]⟩
theorem vt {f:FuncId} (h:(fO f).isSome=true):fO f=some (fG f):=by
 unfold fG;cases q:fO f<;>simp_all
theorem Pj {f:Nat} {H:List RH} {p:Nat->Bool}:∀{l:List (Nat×List RH)},CN f l=some H->(l.all λe=>p e.1)=true->p f=true
 |[],h,_=>by cases h;|e::r,h,k=>by
  simp only[CN] at h;simp only[List.all_cons,ζ] at k;cases q:δu e.1 f with
  |true=>simp_all;|false=>rw[q] at h;exact Pj h k.2
theorem Y1:(MC.all λe=>gA Tryz.prog e.1)=true:=by kernel_rfl
theorem qp:kB Tryz.prog ⟨fO,λ_ _ _ _=>none⟩ where
 fn:=λf F h=>by
  simp only[fO] at h;split at h;·cases h
  ·rename_i H q;split at h;·cases h
   ·rename_i g r;exact⟨g,H,r,h,Pj (p:=gA Tryz.prog) q Y1⟩
 K:=λ_ _ _ _ _ _ h=>by cases h
def lk {a:Type}:a->Nat->cC:=λ_ _=> .look
structure Vc (A:Prop):Prop where
 out:A
theorem bO {A:Prop} (B:Prop) (h:B=A) (a:B):Vc A:=⟨h▸a⟩
theorem con {L:List bL} {W:kQ} (c:bL) (Λ:c.α->Nat->cC) (hW:mW Tryz.prog W) (hL:∀c∈L,Holds Tryz.prog c)
  
  (h:∀a,c.dom a->Vc (py (kR L W mX mY fO) (Λ a) (fG c.f) (c.A.put a) λv=>v.qk (c.res a))) (hF:(fO c.f).isSome=true:=by kernel_rfl) (hfr:lL c.f L=none:=by kernel_rfl) (hlen:∀a,(c.A.put a).length=(fG c.f).params:=by intro _;kernel_rfl):Holds Tryz.prog c:=
 holds_of c qp hW hL (vt hF) hfr hlen λa ha=>(h a ha).out
theorem cF {L:List bL} (c:bL) (Λ:c.α->Nat->cC) (hL:∀c∈L,Holds Tryz.prog c) (h:∀a,c.dom a->Vc (py (kR L kQ.none mX mY fO) (Λ a) (fG c.f) (c.A.put a) λv=>v.qk (c.res a)))
  (hF:(fO c.f).isSome=true:=by kernel_rfl) (hfr:lL c.f L=none:=by kernel_rfl) (hlen:∀a,(c.A.put a).length=(fG c.f).params:=by intro _;kernel_rfl):Holds Tryz.prog c:=con c Λ (mW.none _) hL h hF hfr hlen
theorem Y2 {L:List bL} {W:kQ} (c:bL) (ro:FuncId->Bool) (Λ:c.α->Nat->cC) (hW:mW Tryz.prog W) (hL:∀c∈L,Holds Tryz.prog c)
  
  (h:∀a,c.dom a->Vc (py (Hj L W mX mY fO ro) (Λ a) (fG c.f) (c.A.put a) λv=>v.qk (c.res a))) (hF:(fO c.f).isSome=true:=by kernel_rfl) (hfr:lL c.f L=none:=by kernel_rfl) (hlen:∀a,(c.A.put a).length=(fG c.f).params:=by intro _;kernel_rfl):Holds Tryz.prog c:=
 YU c qp hW hL (vt hF) hfr hlen λa ha=>(h a ha).out
theorem lp {L:List bL} {W:List dF} (c:dF) (Λ:c.α->Nat->cC) (i:∀c∈W,dZ Tryz.prog c) (e:∀c∈L,Holds Tryz.prog c)
  
  (h:∀a,c.dom a->Vc (zo (kR L (gB W) mX mY fO) (Λ a) (fG c.f) (c.put a) (c.st a) λv s=>v.same (c.res a)/\jY s (c.out a))) (g:(fO c.f).isSome=true:=by kernel_rfl) (b:∀a,(c.put a).length=(fG c.f).params:=by intro _;kernel_rfl) (k:mZ c.f W=none:=by kernel_rfl):dZ Tryz.prog c:=
 λa j=>Ph c qp i e (vt g) b a (λd l=>by simp_all) (h a j).out
theorem Y3 {L:List bL} {W:List dF} (c:dF) (F:eZ) (Λ:c.α->Nat->cC) (hW:∀c∈W,dZ Tryz.prog c) (hL:∀c∈L,Holds Tryz.prog c)
  
  (h:∀a,c.dom a->Vc (zo (kR L (gB W) mX mY fO) (Λ a) F (c.put a) (c.st a) λv s=>v.same (c.res a)/\jY s (c.out a))) (hF:fO c.f=some F:=by kernel_rfl) (hlen:∀a,(c.put a).length=F.params:=by intro _;kernel_rfl) (hfr:mZ c.f W=none:=by kernel_rfl):dZ Tryz.prog c:=
 λa ha=>Ph c qp hW hL hF hlen a (λd hd=>by rw[hfr] at hd;cases hd) (h a ha).out
theorem Ht {L:List bL} {W:List dF} (c:dF) (g:Nat->Option (Nat×Nat×Nat)) (Λ:c.α->Nat->cC) (i:∀c∈W,dZ Tryz.prog c) (j:∀c∈L,Holds Tryz.prog c)
  
  (h:∀a,c.dom a->Vc (Hr ⟨⟨vo L,(gB W).C⟩,mX,mY,g,λ_=>none,λ_=>false⟩ (Λ a) (fG c.f) (c.put a) λv s=>v.same (c.res a)/\jY s (c.out a))) (l:(fO c.f).isSome=true:=by kernel_rfl) (b:∀a,(c.put a).length=(fG c.f).params:=by intro _;kernel_rfl) (d:∀a,c.st a=[]:=by intro _;rfl) (k:mZ c.f W=none:=by kernel_rfl):dZ Tryz.prog c:=
 λa m=>by
  rw[d a];refine YZ (p:=⟨⟨vo L,(gB W).C⟩,mX,mY,g,λ_=>none,λ_=>false⟩) (Λ:=Λ a) (Q:=λv s=>v.same (c.res a)/\jY s (c.out a)) (rZ (ln i) j qp) (r7 (ln i)) (λ_ _ h=>by cases h) (vt l) ?_ (b a) (λv s e=>⟨e.1,xn e.2⟩) (h a m).out;simp_all[pB,rc,gB,Y0]
open Go.ChangeShapes Go.WideShapes Go.RowKit
abbrev iU:dQ:=⟨λ_=>False,0⟩
instance (s:bp):Inhabited s.T:=⟨s.dflt⟩
theorem Y4 (b:Nat):Fr iU [] b:=⟨by rintro⟨i,c,h⟩;simp at h,λh=>h⟩
theorem Pm {A:dQ} {w:World} {σ:bY} {o:Store}:∀{vs:List Value},(∀v∈vs,v.oneCell'=true)->bF A w σ o (vs.map .sc) vs
 |[],_=>by simp[bF];|v::vs,h=>by
  simp only[List.map_cons,bF];exact⟨v,vs,rfl,by grind[bw],Pm λu a=>h u (by simp[a])⟩
theorem Pn {A:dQ} {w:World} {σ:bY} {o:Store}:∀{a b:List AV} {x:Option Addr} {j:Nat},dA A w σ o a x j->dA A w σ o b x (j+a.length)->dA A w σ o (a++b) x j
 |[],b,x,j,_,h=>by simpa using h;|c::a,b,x,j,h,k=>by
  simp only[List.cons_append,dA] at h ⊢;refine⟨h.1,Pn h.2 ?_⟩;grind
def Reads (P:Program) (t:TypeId) (s:bp):Prop:=
 ∀(H:Type) (e:TypeId×Value->H) (w:World) (d:Nat) (a:Nat->Bool) (c:Bool) (b:Nat) (f:List Value) (x:DataW H×List MemPlace),DataW.trod e P w d a c b t f=some x->∃y:s.T,f=dJ s y
theorem Y5 {P:Program} {t:TypeId} {k:IntKind} (a:P.underlying t=some (.int k)):Reads P t (.i k):=λ_ _ _ _ _ _ _ b _ h=>by
 obtain⟨n,rfl,_,_⟩:=DataW.trod_int a h;exact⟨n,rfl⟩
theorem Y6 {w:World} {base n:Nat} {a:Addr} {cs:List Value} (h:w.cells? base a n=some cs):cs.length=n/\∀i v,cs[i]?=some v->w.cell? (a.add i)=some v:=by
 unfold World.cells? at h;split at h
 ·obtain⟨c,f⟩:=BK h;simp only[δX] at c;refine⟨c,λi v d=>?_⟩;have j:=(List.getElem?_eq_some_iff.1 d).1;obtain⟨b,g,e⟩:=f i i (by simp_all);simp_all
 ·cases h
def CO (P:Program) (t:TypeId) (s:bp):Prop:=
 ∀(H:Type) (d:TypeId×Value->H) (w:World) (a:Nat->Bool) (c:Bool) (b:Nat) (e:List Value) (x:DataW H×List MemPlace),DataW.trod d P w 0 a c b t e=some x->∃y:s.T,bF iU w [] [] (dB s y) e
theorem Reads.g {P:Program} {t:TypeId} {s:bp} (h:Reads P t s) (i:s.flat=true:=by rfl):CO P t s:=λH d w a c b e x f=>by
 obtain⟨y,rfl⟩:=h H d w 0 a c b e x f;exact⟨y,by grind[BY,Pm,B0]⟩
theorem Po {w:World} {a:Addr}:∀{cs:List AV} {vs:List Value} {j:Nat},bF iU w [] [] cs vs->(∀i v,vs[i]?=some v->w.cell? (a.add (j+i))=some v)->dA iU w [] [] cs (some a) j
 |[],_,_,_,_=>by simp[dA];|c::cs,vs,j,b,d=>by
  simp only[bF] at b;obtain⟨v,r,rfl,e,f⟩:=b;simp only[dA];refine⟨⟨a,v,rfl,Y4 _,by simpa using d 0 v (by simp),e⟩,Po f λi u g=>?_⟩;have:=d (i+1) u (by simp_all);grind
theorem CP {w:World} {a:Addr} {s:bp}:∀{l:List s.T} {i0:Nat},(∀i y,l[i]?=some y->∃cs,w.cells? 0 (a.add ((i0+i)*s.sz)) s.sz=some cs/\bF iU w [] [] (dB s y) cs)->dA iU w [] [] (cE s l) (some a) (i0*s.sz)
 |[],_,_=>by simp[cE,dA];|y::l,i0,h=>by
  obtain⟨cs,b,c⟩:=h 0 y (by simp);rw[Nat.add_zero] at b;obtain⟨d,g⟩:=Y6 b;have e:cE s (y::l)=dB s y++cE s l:=by simp[cE]
  rw[e];refine Pn (Po c λi v j=>?_) ?_;·grind[add_add]
  ·rw[lK,show i0*s.sz+s.sz=(i0+1)*s.sz from by grind];refine CP λi z f=>?_;have:=h (i+1) z (by simp_all);grind
theorem Y7 {P:Program} {t e:TypeId} {s:bp} (A:P.underlying t=some (.slice e)) (r:CO P e s) (I:P.cellsOf e=s.sz)
  {H:Type} {enc:TypeId×Value->H} {w:World} {c:Nat->Bool} {j:Bool} {d:Nat} {cs:List Value} {x:DataW H×List MemPlace} (h:DataW.trod enc P w 0 c j d t cs=some x):
  ∃(v:Value) (l:List s.T),cs=[v]/\bw iU w [] [] (Θ s l).g v:=by
 rcases ε0 A h with⟨rfl,_⟩|⟨a,b,k,m,n,D,F,rfl,M,z,L,o,_,q⟩;·exact⟨_,[],rfl,by grind[γE,bw,cE,dr,dA]⟩
 ·have B:b<=m:=by grind
  have C:∀i,i<b->∃y:s.T,∃cs,w.cells? 0 (a.add (i*s.sz)) s.sz=some cs/\bF iU w [] [] (dB s y) cs:=λi J=>by
   obtain⟨p,K,E⟩:=q i (by omega);obtain⟨y,u⟩:=r _ _ _ _ _ _ _ _ E;grind
  obtain⟨f,G⟩:=ζc C;refine⟨_,(ψ b).map f,rfl,?_⟩;simp only[γE,bw,Ω,δX];refine⟨some a,k,rfl,z,oJ _ _,?_⟩;have:=CP (w:=w) (a:=a) (s:=s) (l:=(ψ b).map f) (i0:=0) (λi y u=>by
   grind);simp_all
theorem Pq {P:Program} {t e:TypeId} {s:bp} (i:P.underlying t=some (.slice e)) (f:Reads P e s) (j:P.cellsOf e=s.sz)
  {H:Type} {enc:TypeId×Value->H} {w:World} {a:Nat->Bool} {c:Bool} {b:Nat} {cs:List Value} {x:DataW H×List MemPlace} (h:DataW.trod enc P w 0 a c b t cs=some x) (d:s.flat=true:=by rfl):
  ∃(v:Value) (l:List s.T),cs=[v]/\bw iU w [] [] (Θ s l).g v:=Y7 i (f.g d) j h
theorem Y8 {cs:List Value} {i:Nat} {v:Value} (h:(cs.drop i).take 1=[v]):cs[i]?=some v:=by
 have:((cs.drop i).take 1)[0]?=some v:=by rw[h];rfl
 grind
theorem Y9 {P:Program} {t e:TypeId} (s:P.underlying t=some (.array 6 e)) (F:P.underlying e=some (.int .i64)) (H:P.cellsOf e=1) (l:P.cellsOf t=6):Reads P t .dR:=λ_ _ _ _ _ _ _ c _ h=>by
 obtain⟨z,m,_,_,b,v,D⟩:=DataW.trod_array s h;have a:∀i,i<6->∃n,c[i]?=some (.int .i64 n):=λi w=>by
  grind[DataW.trod_int,Y8]
 rw[l] at b;match c,b,a with
 |[C,A,I,G,B,E],_,a=>
  obtain⟨o,y⟩:=a 0 (by omega);obtain⟨x,d⟩:=a 1 (by omega);obtain⟨p,u⟩:=a 2 (by omega);obtain⟨j,r⟩:=a 3 (by omega);obtain⟨k,f⟩:=a 4 (by omega);obtain⟨q,g⟩:=a 5 (by omega);simp only[List.getElem?_cons_zero,List.getElem?_cons_succ,γ] at y d u r f g;exact⟨⟨o,x,p,j,k,q⟩,by grind[dJ,iv]⟩
theorem Za {P:Program} {t b i v:TypeId} {fs:Array Field} (w:P.underlying t=some (.struct fs)) (r:P.cellsOf t=8) (N:(fs[0]?).map (λf=>(f.type,f.offset))=some (i,0)) (O:(fs[1]?).map (λf=>(f.type,f.offset))=some (b,1)) (u:(fs[2]?).map (λf=>(f.type,f.offset))=some (v,7))
  (x:P.underlying i=some (.int .i64)) (e:P.cellsOf i=1) (q:P.underlying v=some (.int .i64)) (k:P.cellsOf v=1) (z:Reads P b .dR) (d:P.cellsOf b=6) (I:fs.size=3):Reads P t .off:=λ_ _ _ _ _ _ _ B _ h=>by
 obtain⟨T,m,_,_,n,K,j⟩:=DataW.trod_struct w h;rw[r] at n;obtain⟨F,C,g⟩:=ε.1 N;obtain⟨s,D,c⟩:=ε.1 O;obtain⟨J,A,a⟩:=ε.1 u;simp only[μ] at g c a;have o:=j 0 F C;have l:=j 1 s D;have p:=j 2 J A;rw[g.1,g.2,e,ν (by omega)] at o;rw[c.1,c.2,d,ν (by omega)] at l;rw[a.1,a.2,k,ν (by omega)] at p;obtain⟨G,M,_⟩:=DataW.trod_int x o;obtain⟨y,E⟩:=z _ _ _ _ _ _ _ _ _ l;obtain⟨H,L,_⟩:=DataW.trod_int q p;match B,n with
 |[S,U,R,V,Y,X,Q,W],_=>
  simp[dJ] at M E L;exact⟨⟨G,y,H⟩,by grind[dJ,iv]⟩
theorem Zb {P:Program} {t b k o:TypeId} {fs:Array Field} (ht:P.underlying t=some (.struct fs)) (hn:P.cellsOf t=20) (a7:fs.size=5)
  (h0:(fs[0]?).map (λf=>(f.type,f.offset))=some (b,0)) (h1:(fs[1]?).map (λf=>(f.type,f.offset))=some (b,6)) (h2:(fs[2]?).map (λf=>(f.type,f.offset))=some (b,12))
  (U:(fs[3]?).map (λf=>(f.type,f.offset))=some (k,18)) (h4:(fs[4]?).map (λf=>(f.type,f.offset))=some (o,19))
  (s:Reads P b .dR) (d:P.cellsOf b=6) {e:TypeId} (hk:P.underlying k=some (.slice e)) (z:Reads P e (.i .i64)) (A:P.cellsOf e=1) (y:P.cellsOf k=1)
  {f:TypeId} (ho:P.underlying o=some (.slice f)) (F:Reads P f .off) (u:P.cellsOf f=8) (v:P.cellsOf o=1)
  {H:Type} {enc:TypeId×Value->H} {w:World} {c:Nat->Bool} {q:Bool} {j:Nat} {cs:List Value} {x:DataW H×List MemPlace} (h:DataW.trod enc P w 0 c q j t cs=some x):
  ∃p:bn,bF iU w [] [] (gL p.ss) cs:=by
 obtain⟨xs,m,_,_,O,a1,l⟩:=DataW.trod_struct ht h;rw[hn] at O;obtain⟨f0,e0,E⟩:=ε.1 h0;obtain⟨f1,e1,D⟩:=ε.1 h1;obtain⟨Z,e2,r⟩:=ε.1 h2;obtain⟨f3,T,B⟩:=ε.1 U;obtain⟨f4,e4,C⟩:=ε.1 h4;simp only[μ] at E D r B C;have S:=l 0 f0 e0;have I:=l 1 f1 e1;have R:=l 2 Z e2;have J:=l 3 f3 T;have M:=l 4 f4 e4;rw[E.1,E.2,d,ν (by omega)] at S;rw[D.1,D.2,d,ν (by omega)] at I;rw[r.1,r.2,d,ν (by omega)] at R;rw[B.1,B.2,y,ν (by omega)] at J;rw[C.1,C.2,v,ν (by omega)] at M;obtain⟨y0,K⟩:=s _ _ _ _ _ _ _ _ _ S;obtain⟨y1,Q⟩:=s _ _ _ _ _ _ _ _ _ I;obtain⟨y2,G⟩:=s _ _ _ _ _ _ _ _ _ R;obtain⟨v3,l3,L,r3⟩:=Pq hk z A J;obtain⟨v4,W,N,r4⟩:=Pq ho F u M;match cs,O with
 |[c0,c1,c2,c3,c4,c5,c6,c7,c8,c9,a0,a5,V,a6,a8,a2,a4,Y,a3,X],_=>
  simp[dJ,iv] at K Q G L N;obtain⟨rfl,rfl,rfl,rfl,rfl,rfl⟩:=K;obtain⟨rfl,rfl,rfl,rfl,rfl,rfl⟩:=Q;obtain⟨rfl,rfl,rfl,rfl,rfl,rfl⟩:=G;subst L;subst N;refine⟨⟨y0,y1,y2,l3,W⟩,?_⟩;have a:∀n:Int,bw iU w [] [] (γe .i64 n).g (.int .i64 n):=λn=>by simp[γE,bw,Value.oneCell']
  simp only[bn.ss,gL,bF];exact⟨_,_,rfl,a _,_,_,rfl,a _,_,_,rfl,a _,_,_,rfl,a _,_,_,rfl,a _,_,_,rfl,a _,_,_,rfl,a _,_,_,rfl,a _,_,_,rfl,a _,_,_,rfl,a _,_,_,rfl,a _,_,_,rfl,a _,
   _,_,rfl,a _,_,_,rfl,a _,_,_,rfl,a _,_,_,rfl,a _,_,_,rfl,a _,_,_,rfl,a _,_,_,rfl,r3,_,_,rfl,r4,rfl⟩
theorem vu {P:Program} {w:World} {r:Reach} {base:Nat} {t:TypeId} {v:Value} {fs:Array Field} (a:P.underlying t=some (.struct fs)) (h:Value.okWide P w r base t v):∃cs,v= .agg cs/\v.cells.toList=cs.toList:=by
 unfold Value.okWide at h;rw[a] at h;obtain⟨cs,rfl,_⟩:=h;exact⟨cs,rfl,rfl⟩
theorem Pv {P:Program} {w:World} {r:Reach} {base:Nat} {t e:TypeId} {v:Value} (a:P.underlying t=some (.slice e)) (h:Value.okWide P w r base t v):v.cells.toList=[v]:=by
 cases v with
 |agg b=>simp_all[Value.okWide,Cell.okWide,Cell.ok];|_=>rfl
theorem Zc {P:Program} {w:World} {r:Reach} {base:Nat} {t:TypeId} {k:IntKind} {v:Value} (a:P.underlying t=some (.int k)) (h:Value.okWide P w r base t v):v.cells.toList=[v]:=by
 cases v with
 |agg b=>simp_all[Value.okWide,Cell.okWide,Cell.ok];|_=>rfl
theorem vx {H:Type} {enc:TypeId×Value->H} {P:Program} (j:laidOutB P=true) {W l:World} (n:Below W.heap.size W l) {m:Nat->Bool}:
  ∀{f:List TypeId} {vs:List Value} {i:List (DataW H)} {g:List MemPlace},DataW.TrodAll enc P W 0 (λ_=>true) true f vs i g->(∀t∈f,P.readableRec t=true/\t<P.types.size)->(∀p∈g,p.block<W.heap.size)->(∀p∈g,m p.block=true)->
   DataW.TrodAll enc P l 0 m true f vs i g
 |[],_,_,_,h,_,_,_=>by
  obtain⟨rfl,rfl,rfl⟩:=trodAll_nil h;exact rfl;|t::f,_,_,_,h,o,e,k=>by
  obtain⟨v,vs,d,i,a,b,rfl,rfl,rfl,r,s⟩:=trodAll_cons h;obtain⟨x,q⟩:=o t (by simp);exact⟨a,b,WideElems.Trod_stays j x q r (λp c=>n.same (e p (by simp[c]))) (λp c=>k p (by simp[c])),
   vx j n s (λu w=>o u (by simp[w])) (λp c=>e p (by simp[c])) (λp c=>k p (by simp[c])),rfl⟩
theorem Zd {W b:World} {a:bY} {o':Store} (h:Ext W [] [] b a o'):Below W.heap.size W b:=
 ⟨h.os,h.tape,h.output,h.size,λk e=>(h.blk k e (by rintro⟨i,c,d⟩;simp at d)).1⟩
@[simp] theorem Ze {k c:IntKind} {a b:Int}:(γe k a).same (.si c b)↔k=c/\a=b:=by simp[εP,γE]
@[simp] theorem Zf {k c:IntKind} {a b:Int}:(γx k a).same (.si c b)↔k=c/\a=b:=by simp[εP,γE]
@[simp] theorem Zg {a b:Bool}:(γw a).same (.sb b)↔a=b:=by simp[εP,γE]
@[simp] theorem Zh {a b:Bool}:(δa a).same (.sb b)↔a=b:=by simp[εP,γE]
@[simp] theorem Zi {s:bp} {a b:List s.T}:(Θ s a).same (.row s b)↔a=b:=by
 constructor;·intro h;simp only[εP,γE,δ4] at h;exact lM s h.1 h.2
 ·rintro rfl;rfl
@[simp] theorem Zj {k c:IntKind} {a b:Int}:(γe k a).same (.il c b)↔k=c/\a=b:=by simp[εP,γE]
@[simp] theorem Zk {k c:IntKind} {a b:Int}:(γx k a).same (.il c b)↔k=c/\a=b:=by simp[εP,γE]
theorem Zl {v:SV}:v.same v↔True:=iff_true_intro rfl
theorem kT {v:bq}:v.same v↔True:=iff_true_intro rfl
theorem Zm {a b c d:SV}:(SV.bJ [a,b]).same (.bJ [c,d])↔a.same c/\b.same d:=by simp[εP,γE,gL]
theorem Zn {a b c d e f:SV}:(SV.bJ [a,b,c]).same (.bJ [d,e,f])↔a.same d/\b.same e/\c.same f:=by simp[εP,γE,gL]
theorem Hu {s t:bp}:(Θ s []).same (.row t [])↔True:=iff_true_intro (by simp[εP,γE,cE])
theorem Px {s:bp} {l:List s.T}:(Θ (.i .i64) []).same (.row s l)↔l=[]:=by
 constructor;·grind[εP,γE]
 ·rintro rfl;exact Hu.2 trivial
theorem CQ {a b:bD}:a=b↔a.a0=b.a0/\a.a1=b.a1/\a.a2=b.a2/\a.a3=b.a3/\a.a4=b.a4/\a.a5=b.a5:=by
 obtain⟨k,c,n,f,d,l⟩:=a;obtain⟨g,i,e,h,m,j⟩:=b;simp_all
@[simp] theorem Zo {n:Int}:cn .i64 n↔ -9223372036854775808<=n/\n<=9223372036854775807:=Iff.rfl
theorem vcs:(∀{p:Prop} [h:Decidable p],(decide p=true)=p)/\(∀{p:Prop} {x:Decidable p},decide p=false↔¬p)/\(∀{k g:IntKind} {a b:Int},(γx k a).same (γe g b)↔k=g/\a=b)/\(∀{k g:IntKind} {a b:Int},(γe k a).same (γe g b)↔k=g/\a=b)/\(∀{k g:IntKind} {a b:Int},(γe k a).same (γx g b)↔k=g/\a=b)/\(∀{k g:IntKind} {a b:Int},(γx k a).same (γx g b)↔k=g/\a=b)/\(∀{a b:Bool},(γw a).same (γw b)↔a=b)/\(∀{a b:Bool},(δa a).same (γw b)↔a=b)/\(∀{s:bp} {a b:List s.T},(Θ s a).same (Θ s b)↔a=b)/\(∀{a b c d:SV},(SV.bJ [a,b]).same (SV.bJ [c,d])↔a.same c/\b.same d)/\(∀{a b c d e f:SV},(SV.bJ [a,b,c]).same (SV.bJ [d,e,f])↔a.same d/\b.same e/\c.same f)/\(∀{s t:bp},(Θ s []).same (Θ t [])↔True)/\(∀{s:bp} {l:List s.T},(Θ (bp.i IntKind.i64) []).same (Θ s l)↔l=[])/\(∀{v:SV},v.same v↔True)/\(∀{v:bq},v.same v↔True)/\(∀{n:Int},cn IntKind.i64 n↔ -9223372036854775808<=n/\n<=9223372036854775807)/\(∀p:Prop,(True/\p)=p)/\(∀p:Prop,(p/\True)=p)/\(∀a b:Bool,((a&&b)=true)=(a=true/\b=true))/\(∀b:Bool,((!b)=true)=(b=false))/\(∀b:Bool,((!b)=false)=(b=true)):=
 ⟨decide_eq_true_eq,decide_eq_false_iff_not,Zf,Ze,Zj,Zk,Zg,Zh,Zi,Zm,Zn,Hu,Px,Zl,kT,Zo,true_and,and_true,ζ,Bool.not_eq_true',Bool.not_eq_false'⟩
def bD.ok (b:bD):Bool:=[b.a0,b.a1,b.a2,b.a3,b.a4,b.a5].all λn=>decide (0<=n)&&decide (n<=4)
theorem bD.jz {b:bD}:b.ok=true↔(0<=b.a0/\b.a0<=4)/\(0<=b.a1/\b.a1<=4)/\(0<=b.a2/\b.a2<=4)/\(0<=b.a3/\b.a3<=4)/\(0<=b.a4/\b.a4<=4)/\(0<=b.a5/\b.a5<=4):=by
 simp[bD.ok]
def Hv:bL:=⟨70,bD,.one (eG .dR),λ_=>True,λb=> .si .i64 (if b.ok=true then 0 else 4)⟩
theorem h146:Holds Tryz.prog Hv:=by
 refine cF (L:=[]) Hv (λ_ _=> .rb 7) (by simp) ?_;intro b _;refine bO (let h:=γx .i64;let p:=(0:Int);let q:=(4:Int);let i:=decide (b.a0<p);let a:=γe .i64 (if bD.ok b=true then p else q);let l:=decide (q<b.a0);let k:=decide (b.a1<p);let m:=decide (q<b.a1);let o:=decide (b.a2<p);let j:=decide (q<b.a2);let n:=decide (b.a3<p);let f:=decide (q<b.a3);let g:=decide (b.a4<p);let d:=decide (q<b.a4);let c:=decide (b.a5<p);let e:=decide (q<b.a5);(i=true->(h 4).same a)/\(i=false->(l=true->(h 4).same a)/\(l=false->(k=true->(h 4).same a)/\(k=false->(m=true->(h 4).same a)/\(m=false->(o=true->(h 4).same a)/\(o=false->(j=true->(h 4).same a)/\(j=false->(n=true->(h 4).same a)/\(n=false->(f=true->(h 4).same a)/\(f=false->(g=true->(h 4).same a)/\(g=false->(d=true->(h 4).same a)/\(d=false->(c=true->(h 4).same a)/\(c=false->(e=true->(h 4).same a)/\(e=false->(h 0).same a))))))))))))) (by kernel_rfl) ?_;conv=>zeta
 have p:=@bD.jz b;by_cases h:b.ok=true<;>simp_all
def bD.l (b:bD):List Int:=[b.a0,b.a1,b.a2,b.a3,b.a4,b.a5]
def cZ (p:bn):Int:=p.classes.length+12
def df (p:bn) (r:Int):Int:=
 if r - p.classes.length<0 then 1
 else if r - p.classes.length<6 then bj [p.supply.a0,p.supply.a1,p.supply.a2,p.supply.a3,p.supply.a4,p.supply.a5] (r - p.classes.length).toNat 0
 else bj [p.opn.a0,p.opn.a1,p.opn.a2,p.opn.a3,p.opn.a4,p.opn.a5] (r - p.classes.length - 6).toNat 0
def dK (p:bn) (r:Int) (o:Off):Int:=
 if r - p.classes.length<0 then(if o.bX=r then 1 else 0)
 else if r - p.classes.length<6 then bj [o.want.a0,o.want.a1,o.want.a2,o.want.a3,o.want.a4,o.want.a5] (r - p.classes.length).toNat 0
 else if bj [p.cls.a0,p.cls.a1,p.cls.a2,p.cls.a3,p.cls.a4,p.cls.a5] (r - p.classes.length - 6).toNat 0=0\/bj [p.cls.a0,p.cls.a1,p.cls.a2,p.cls.a3,p.cls.a4,p.cls.a5] (r - p.classes.length - 6).toNat 0=bj p.classes o.bX.toNat 0 then 0
 else bj [o.want.a0,o.want.a1,o.want.a2,o.want.a3,o.want.a4,o.want.a5] (r - p.classes.length - 6).toNat 0
def xy:bL:=⟨59,bn,.one dE,λp=>p.classes.length<=8,λp=> .si .i64 (cZ p)⟩
def xA:bL:=⟨91,bn×Int,.cons dE (.one (eK .i64)),λa=>a.1.classes.length<=8/\0<=a.2/\a.2<cZ a.1,λa=> .si .i64 (df a.1 a.2)⟩
def xB:bL:=⟨90,bn×Int×Off,.cons dE (.cons (eK .i64) (.one (eG .off))),λa=>a.1.classes.length<=8/\0<=a.2.1/\a.2.1<cZ a.1/\0<=a.2.2.bX/\a.2.2.bX<a.1.classes.length,λa=> .si .i64 (dK a.1 a.2.1 a.2.2)⟩
theorem h157:Holds Tryz.prog xy:=by
 refine cF (L:=[]) xy (λ_ _=> .rb 7) (by simp) ?_;intro p (b:p.classes.length<=8);refine bO (let a:=(↑p.classes.length:Int)+(12:Int);cn .i64 a/\(γe .i64 a).same (γe .i64 (cZ p))) (by kernel_rfl) ?_;simp only[vcs,cZ];omega
theorem h158:Holds Tryz.prog xA:=by
 refine cF (L:=[]) xA (λ_ _=> .rb 7) (by simp) ?_;rintro⟨p,r⟩ ⟨h,j,i⟩;simp only[cZ] at h j i;refine bO (let h:=(6:Int);let i:=(0:Int);let d:=γe .i64 (df p r);let c:=(↑p.classes.length:Int);let g:=decide (r - c<i);let e:=decide (r - c<h);let f:=λ(u b:Int) (a:bD) ↦i<=u - b/\u - b<h/\(u - b).toNat<6/\(γe .i64 (bj [a.a0,a.a1,a.a2,a.a3,a.a4,a.a5] (u - b).toNat i)).same d;cn .i64 (r - c)/\(g=true->(γx .i64 1).same d)/\(g=false->(e=true->f r c p.supply)/\(e=false->cn .i64 (r - c - h)/\f (r - c) h p.opn))) (by kernel_rfl) ?_;simp only[vcs];grind[df]
theorem h156:Holds Tryz.prog xB:=by
 refine cF (L:=[]) xB (λ_ _=> .rb 7) (by simp) ?_;rintro⟨p,r,x⟩ ⟨m,q,n,l,o⟩;simp only[cZ] at m q n l o;refine bO (let l:=(0:Int);let m:=(6:Int);let n:=γx .i64;let o:=γx .i64 0;let q:=γe .i64;let b:=(↑p.classes.length:Int);let e:=decide (r - b<l);let c:=q (dK p r x);let h:=decide (r - b<m);let k:=[x.want.a0,x.want.a1,x.want.a2,x.want.a3,x.want.a4,x.want.a5];let a:=r - b - m;let j:=bj [p.cls.a0,p.cls.a1,p.cls.a2,p.cls.a3,p.cls.a4,p.cls.a5] a.toNat l;let i:=decide (j=l);let g:=decide (j=bj p.classes x.bX.toNat l);let d:=decide (x.bX=r);let f:=(e=true->(n 0).same c)/\(e=false->(h=true->l<=r - b/\r - b<m/\(r - b).toNat<6/\(q (bj k (r - b).toNat l)).same c)/\(h=false->cn .i64 a/\l<=a/\a<m/\a.toNat<6/\(i=true->(n 0).same c)/\(i=false->l<=a/\a<m/\a.toNat<6/\l<=x.bX/\x.bX<b/\x.bX.toNat<p.classes.length/\(g=true->(n 0).same c)/\(g=false->l<=a/\a<m/\a.toNat<6/\(q (bj k a.toNat l)).same c))));cn .i64 (r - b)/\(e=true->(d=true->(n 1).same c)/\(d=false->f))/\(e=false->f)) (by kernel_rfl) ?_;simp only[vcs];repeat' (first|refine And.intro ?_ ?_|intro _)
 all_goals first
  |trivial;|omega;|(simp only[dK];(repeat' split)<;>first|rfl|omega)
def L2:List bL:=[xB,xy,xA]
theorem hL2:∀c∈L2,Holds Tryz.prog c:=by
 simp_all[L2,h156,h157,h158]
def cG (p:bn) (l:List Off) (r:Int):Int:=(l.map (dK p r)).sum
def fy (p:bn) (l:List Off):Bool:=(ψ (p.classes.length+12)).all λr=>decide (cG p l r<=df p r)
def CS:bL:=⟨61,bn×List Off,.cons dE (.one (dM .off)),λa=>a.1.classes.length<=8/\a.2.length<=1000/\(∀x∈a.2,0<=x.bX/\x.bX<a.1.classes.length/\x.want.ok=true),λa=> .sb (fy a.1 a.2)⟩
def Zp (a:bn×List Off):Nat->cC
 |3=> .inv Int (λi=>⟨[(1,.row .off a.2),(2,.ptr 0 0 20),(5,.fn (.func 90) [] []),(11,.si .i64 (cZ a.1)),(12,.si .i64 i)],[.cells a.1.ss 76 20 false]⟩) (λs=>iS s 12)
  (λi=>0<=i/\i<=cZ a.1/\∀r:Nat,r<i->cG a.1 a.2 r<=df a.1 r) (λi=>(cZ a.1 - i).toNat)
  λi=>λ
   |7=> .inv (Int×Int) (λx=>⟨[(1,.row .off a.2),(2,.ptr 0 0 20),(5,.fn (.func 90) [] []),(6,.si .i64 i),(7,.si .i64 x.2),(11,.si .i64 (cZ a.1)),(12,.si .i64 i),(15,.row .off a.2),(16,.si .i64 a.2.length),(17,.si .i64 x.1)],[.cells a.1.ss 76 20 false]⟩)
    (λs=>(iS s 17,iS s 7))
    (λx=>0<=x.1/\x.1<=a.2.length/\x.2=cG a.1 (a.2.take x.1.toNat) i) (λx=>(a.2.length - x.1).toNat) λ_ _=> .look
   |_=> .look
 |_=> .look
theorem Hw {b:bD} (h:b.ok=true) (k:Nat):0<=bj [b.a0,b.a1,b.a2,b.a3,b.a4,b.a5] k 0/\bj [b.a0,b.a1,b.a2,b.a3,b.a4,b.a5] k 0<=4:=by
 grind[bD.jz,bj]
theorem pD {p:bn} {r:Int} {o:Off} (h:o.want.ok=true):0<=dK p r o/\dK p r o<=4:=by
 unfold dK;have a:=Hw h (r - p.classes.length).toNat;have b:=Hw h (r - p.classes.length - 6).toNat;omega
theorem sf {p:bn} {r:Int}:∀{l:List Off},(∀x∈l,x.want.ok=true)->0<=cG p l r/\cG p l r<=4*l.length
 |[],_=>by simp[cG];|x::l,h=>by
  have b:=@pD p r x (h x (by simp));have c:=@sf p r l λy a=>h y (by simp[a]);grind[cG]
theorem dj {a:Type} {l:List a} {i:Nat} {d:a} (h:i<l.length):bj l i d∈l:=by grind[cV]
theorem kC {a:Type} {l:List a} {i:Int} {d:a} (b:0<=i) (h:i<l.length):l.take (i+1).toNat=l.take i.toNat++[bj l i.toNat d]:=by
 rw[show(i+1).toNat=i.toNat+1 from by omega,cV (by omega),List.take_succ_eq_append_getElem (by omega)]
theorem Hy {p:bn} {r:Int} {l:List Off} {i:Int} {d:Off} (a:0<=i) (h:i<l.length):cG p (l.take (i+1).toNat) r=cG p (l.take i.toNat) r+dK p r (bj l i.toNat d):=by
 grind[kC,cG]
theorem nS {p:bn} {l:List Off}:fy p l=true↔∀r:Nat,r<cZ p->cG p l r<=df p r:=by
 simp only[fy,cZ,κ,List.mem_range,decide_eq_true_eq];grind
theorem h134:Holds Tryz.prog CS:=by
 refine cF (L:=L2) CS Zp hL2 ?_;rintro⟨p,l⟩ ⟨hp,hl,hb⟩;simp only at hp hl hb;refine bO (let a:=γe .i64;let b:=(0:Int);let c:=Θ;let d:=γx .i64 0;let e:=γx .i64;let f:=cn .i64;let g:=γP 0 0 20;let h:=SV.fn (Fn.func 90) [] [];let i:=a (cZ p);let j:=bq.cells (bn.ss p) 76 20 false;let k:=(↑l.length:Int);let q:=a k;p.classes.length<=8/\((((c bp.off l).same (c bp.off l)/\g.same g/\h.same h/\i.same i/\(d).same (a 0)/\True)/\j.same j/\True)/\b<=b/\b<=cZ p/\∀(r:Nat),(↑r:Int)<b->cG p l (↑r:Int)<=df p (↑r:Int))/\∀(x:Int),let u:=decide (x<cZ p);let m:=x+(1:Int);let v:=a m;(b<=x/\x<=cZ p/\∀(r:Nat),(↑r:Int)<x->cG p l (↑r:Int)<=df p (↑r:Int))->(u=true->((((c bp.off l).same (c bp.off l)/\g.same g/\h.same h/\(a x).same (a x)/\(d).same (a 0)/\i.same i/\(a x).same (a x)/\(c bp.off l).same (c bp.off l)/\(a (↑l.length:Int)).same q/\(d).same (a 0)/\True)/\j.same j/\True)/\b<=b/\b<=k/\b=cG p [] x)/\∀(x_1:Int×Int),let s:=bj l x_1.fst.toNat bp.off.dflt;let t:=x_1.snd+dK p x s;let n:=x_1.fst+(1:Int);let o:=a x;let w:=a t;let y:=a n;let z:=decide (df p x<x_1.snd);b<=x_1.fst/\x_1.fst<=k/\x_1.snd=cG p (ω x_1.fst.toNat l) x->(decide (x_1.fst<k)=true->b<=x_1.fst/\x_1.fst<(↑l.length:Int)/\x_1.fst.toNat<l.length/\(p.classes.length<=8/\b<=x/\x<cZ p/\b<=s.bX/\s.bX<(↑p.classes.length:Int))/\f t/\f n/\(((c bp.off l).same (c bp.off l)/\g.same g/\h.same h/\o.same o/\w.same w/\i.same i/\o.same o/\(c bp.off l).same (c bp.off l)/\q.same q/\y.same y/\True)/\j.same j/\True)/\(b<=n/\n<=k/\t=cG p (ω n.toNat l) x)/\(k - n).toNat<(k - x_1.fst).toNat)/\(decide (x_1.fst<k)=false->(p.classes.length<=8/\b<=x/\x<cZ p)/\(z=true->(δa false).same (γw (fy p l)))/\(z=false->f m/\(((c bp.off l).same (c bp.off l)/\g.same g/\h.same h/\i.same i/\v.same v/\True)/\j.same j/\True)/\(b<=m/\m<=cZ p/\∀(r:Nat),(↑r:Int)<m->cG p l (↑r:Int)<=df p (↑r:Int))/\(cZ p - m).toNat<(cZ p - x).toNat)))/\(u=false->(δa true).same (γw (fy p l)))) (by kernel_rfl) ?_;simp only[vcs];have hn:cZ p=p.classes.length+12:=rfl;have ho:∀x∈l,x.want.ok=true:=λx hx=>(hb x hx).2.2;refine⟨hp,⟨by omega,by omega,λr hr=>by omega⟩,?_⟩;rintro i ⟨hi0,hi1,hi⟩;refine⟨λhlt=>⟨⟨by omega,by omega,by simp[cG]⟩,?_⟩,?_⟩
 ·rintro⟨j,s⟩ ⟨hj0,hj1,hs⟩;simp only at hj0 hj1 hs ⊢;have hsb:=@sf p i (l.take j.toNat) λx hx=>ho x (List.mem_of_mem_take hx);have hlen:(l.take j.toNat).length<=l.length:=by simp;omega
  refine⟨λhjl=>?_,λhjl=>?_⟩
  ·have hm:=hb _ (dj (d:=bp.off.dflt) (show j.toNat<l.length by omega));have hc:=@pD p i _ hm.2.2;have hst:=@Hy p i l j bp.off.dflt hj0 hjl;refine⟨by omega,by omega,by omega,⟨hp,by omega,by omega,hm.1,hm.2.1⟩,by omega,by omega,⟨by omega,by omega,by omega⟩,by omega⟩
  ·have:j.toNat=l.length:=by omega
   rw[this,π] at hs;refine⟨⟨hp,by omega,by omega⟩,λhgt=>?_,λhle=>⟨by omega,⟨by omega,by omega,λr hr=>?_⟩,by omega⟩⟩
   ·symm;rw[Bool.eq_false_iff];intro hf;have:=nS.1 hf i.toNat (by omega);rw[show((i.toNat:Nat):Int)=i from by omega] at this;omega
   ·by_cases hr2:(r:Int)<i;·exact hi r hr2
    ·have:(r:Int)=i:=by omega
     rw[this];omega
 ·intro hge;symm;exact nS.2 λr hr=>hi r (by omega)
def L3:List bL:=[CS,Hv,xB,xy,xA]
theorem hL3:∀c∈L3,Holds Tryz.prog c:=by
 simp only[L3,List.forall_mem_cons,List.not_mem_nil,false_implies,implies_true,and_true];grind[h134,h146,h156,h157,h158]
def iC (p:bn) (k:Nat):Prop:=
 let c:=bj [p.cls.a0,p.cls.a1,p.cls.a2,p.cls.a3,p.cls.a4,p.cls.a5] k 0;let o:=bj [p.opn.a0,p.opn.a1,p.opn.a2,p.opn.a3,p.opn.a4,p.opn.a5] k 0;let s:=bj [p.supply.a0,p.supply.a1,p.supply.a2,p.supply.a3,p.supply.a4,p.supply.a5] k 0;0<=c/\c<=4/\0<=o/\o<=s/\(c≠0\/o=s)
instance (p:bn) (k:Nat):Decidable (iC p k):=by unfold iC;infer_instance
def CU (p:bn):Bool:=(ψ 6).all λk=>decide (iC p k)
theorem nT {p:bn} {k:Nat}:iC p k↔(0<=bj [p.cls.a0,p.cls.a1,p.cls.a2,p.cls.a3,p.cls.a4,p.cls.a5] k 0/\bj [p.cls.a0,p.cls.a1,p.cls.a2,p.cls.a3,p.cls.a4,p.cls.a5] k 0<=4/\0<=bj [p.opn.a0,p.opn.a1,p.opn.a2,p.opn.a3,p.opn.a4,p.opn.a5] k 0/\
  bj [p.opn.a0,p.opn.a1,p.opn.a2,p.opn.a3,p.opn.a4,p.opn.a5] k 0<=bj [p.supply.a0,p.supply.a1,p.supply.a2,p.supply.a3,p.supply.a4,p.supply.a5] k 0/\
  (bj [p.cls.a0,p.cls.a1,p.cls.a2,p.cls.a3,p.cls.a4,p.cls.a5] k 0≠0\/bj [p.opn.a0,p.opn.a1,p.opn.a2,p.opn.a3,p.opn.a4,p.opn.a5] k 0=bj [p.supply.a0,p.supply.a1,p.supply.a2,p.supply.a3,p.supply.a4,p.supply.a5] k 0)):=Iff.rfl
attribute [irreducible] iC
theorem zD {p:bn}:CU p=true↔∀k,k<6->iC p k:=by simp[CU]
def iL (p:bn):Int:=
 if p.supply.ok=false then 4
 else if CU p=false then 4
 else if 8<p.classes.length\/160<p.offers.length then 3
 else if ¬∀c∈p.classes,0<=c/\c<=4 then 4
 else 0
def Hz:bL:=⟨43,bn,.one dE,λp=>True,λp=> .si .i64 (iL p)⟩
def Zq (p:bn):Nat->cC
 |5=> .inv Int (λk=>⟨[(1,.ptr 0 0 20),(16,.si .i64 k)],[.cells p.ss 76 20 false]⟩) (λs=>iS s 16) (λk=>0<=k/\k<=6/\∀j:Nat,j<k->iC p j) (λk=>(6 - k).toNat) λ_ _=> .look
 |14=> .inv Int (λk=>⟨[(76,.row (.i .i64) p.classes),(77,.si .i64 p.classes.length),(78,.si .i64 k)],[.cells p.ss 76 20 false]⟩) (λs=>iS s 78)
  (λk=>0<=k/\k<=p.classes.length/\∀c∈p.classes.take k.toNat,0<=c/\c<=4) (λk=>(p.classes.length - k).toNat) λ_ _=> .look
 |_=> .look
theorem Py {p:bn} (h:p.supply.ok=false):iL p=4:=by simp[iL,h]
theorem Pz {p:bn} (h:p.supply.ok=true) {k:Nat} (b:k<6) (a:¬iC p k):iL p=4:=by
 grind[zD,iL]
theorem CV {p:bn} (h:p.supply.ok=true) (b:∀j:Nat,j<6->iC p j) (a:8<p.classes.length\/160<p.offers.length):iL p=3:=by
 grind[iL,zD]
theorem CW {p:bn} (h:p.supply.ok=true) (f:∀j:Nat,j<6->iC p j) (e:¬(8<p.classes.length\/160<p.offers.length)) {c:Int} (b:c∈p.classes) (a:¬(0<=c/\c<=4)):iL p=4:=by
 have:¬∀c∈p.classes,0<=c/\c<=4:=λd=>a (d c b);simp_all[iL]
theorem HA {p:bn} (h:p.supply.ok=true) (b:∀j:Nat,j<6->iC p j) (d:¬(8<p.classes.length\/160<p.offers.length)) (a:∀c∈p.classes,0<=c/\c<=4):iL p=0:=by
 simp_all[iL,zD,if_neg]
theorem tM {p:bn} (h:iL p=0):p.supply.ok=true/\(∀j:Nat,j<6->iC p j)/\p.classes.length<=8/\p.offers.length<=160/\∀c∈p.classes,0<=c/\c<=4:=by
 unfold iL at h;split at h;·cases h
 ·split at h;·cases h
  ·split at h;all_goals simp_all[zD]
theorem PD {l:List Int} {i:Int} {P:Int->Prop} (d:0<=i) (h:i<l.length) (a:∀c∈l.take i.toNat,P c) (b:P (bj l i.toNat 0)):∀c∈l.take (i+1).toNat,P c:=by
 grind[kC]
theorem h118:Holds Tryz.prog Hz:=by
 refine cF (L:=L3) Hz Zq hL3 ?_;intro p _;refine bO (let a:=γe .i64;let b:=(0:Int);let d:=γx .i64;let e:=(6:Int);let f:=(4:Int);let y:=if p.supply.ok=true then b else f;let g:=a (iL p);let q:=γP 0 0 20;let s:=d 0;let n:=Θ (bp.i .i64) p.classes;let h:=bq.cells [a p.supply.a0,a p.supply.a1,a p.supply.a2,a p.supply.a3,a p.supply.a4,a p.supply.a5,a p.opn.a0,a p.opn.a1,a p.opn.a2,a p.opn.a3,a p.opn.a4,a p.opn.a5,a p.cls.a0,a p.cls.a1,a p.cls.a2,a p.cls.a3,a p.cls.a4,a p.cls.a5,n,Θ bp.off p.offers] 76 20 false;let N:=[p.cls.a0,p.cls.a1,p.cls.a2,p.cls.a3,p.cls.a4,p.cls.a5];let O:=[p.opn.a0,p.opn.a1,p.opn.a2,p.opn.a3,p.opn.a4,p.opn.a5];let P:=[p.supply.a0,p.supply.a1,p.supply.a2,p.supply.a3,p.supply.a4,p.supply.a5];let t:=(↑p.classes.length:Int);let z:=decide ((8:Int)<t);let A:=decide ((160:Int)<(↑p.offers.length:Int));let k:=(↑p.classes.length:Int);let v:=a k;let B:=λ(u:Bool) ↦decide (y≠b)=u;True/\(B true->(a y).same g)/\(B false->(((q.same q/\s.same (a 0)/\True)/\h.same h/\True)/\b<=b/\b<=e/\∀(j:Nat),(↑j:Int)<b->iC p j)/\∀(x:Int),let l:=x+(1:Int);let C:=a l;let D:=decide (x<e);let w:=bj N x.toNat b;let E:=decide (w<b);let F:=decide (f<w);let o:=bj O x.toNat b;let G:=decide (o<b);let r:=bj P x.toNat b;let H:=decide (w=b);let I:=cn .i64 l/\((q.same q/\C.same C/\True)/\h.same h/\True)/\(b<=l/\l<=e/\∀(j:Nat),(↑j:Int)<l->iC p j)/\(e - l).toNat<(e - x).toNat;(b<=x/\x<=e/\∀(j:Nat),(↑j:Int)<x->iC p j)->(D=true->b<=x/\x<e/\x.toNat<6/\b<=x/\x<e/\x.toNat<6/\(E=true->(d 4).same g)/\(E=false->(F=true->(d 4).same g)/\(F=false->(G=true->(d 4).same g)/\(G=false->b<=x/\x<e/\x.toNat<6/\(decide (r<o)=true->(d 4).same g)/\(decide (r<o)=false->(H=true->b<=x/\x<e/\x.toNat<6/\(decide (o≠r)=true->(d 4).same g)/\(decide (o≠r)=false->I))/\(H=false->I))))))/\(D=false->(z=true->(d 3).same g)/\(z=false->(A=true->(d 3).same g)/\(A=false->(((n.same n/\(a t).same v/\s.same (a 0)/\True)/\h.same h/\True)/\b<=b/\b<=k/\∀(c:Int),c∈[]->b<=c/\c<=f)/\∀(x:Int),let J:=bj p.classes x.toNat b;let K:=decide (J<b);let L:=decide (f<J);let m:=x+(1:Int);let M:=a m;(b<=x/\x<=k/\∀(c:Int),c∈ω x.toNat p.classes->b<=c/\c<=f)->(decide (x<k)=true->b<=x/\x<t/\x.toNat<p.classes.length/\(K=true->(d 4).same g)/\(K=false->(L=true->(d 4).same g)/\(L=false->cn .i64 m/\((n.same n/\v.same v/\M.same M/\True)/\h.same h/\True)/\(b<=m/\m<=k/\∀(c:Int),c∈ω m.toNat p.classes->b<=c/\c<=f)/\(k - m).toNat<(k - x).toNat)))/\(decide (x<k)=false->s.same g)))))) (by kernel_rfl) ?_;simp only[vcs];by_cases hs:bD.ok p.supply=true
 ·simp only[hs,if_true];refine⟨λh=>absurd rfl h,λ_=>⟨⟨by omega,by omega,λj hj=>by omega⟩,?_⟩⟩;rintro k ⟨hk0,hk1,hk⟩;refine⟨λhlt=>?_,λhge=>?_⟩
  ·have bad:¬iC p k.toNat->(4:Int)=iL p:=λh=>(Pz hs (by omega) h).symm;have HB:iC p k.toNat->∀(j:Nat),(j:Int)<k+1->iC p j:=λh j hj=>by
    by_cases hj2:(j:Int)<k;·exact hk j hj2
    ·rw[show j=k.toNat from by omega];exact h
   repeat' (first|refine And.intro ?_ ?_|intro _)
   all_goals first
    |omega;|exact bad λhh=>by have h2:=nT.1 hh;omega;|exact HB (nT.2 (by omega)) _ (by assumption)
  ·have hall:∀j:Nat,j<6->iC p j:=λj hj=>hk j (by omega);refine⟨λh=>(CV hs hall (.inl (by omega))).symm,λh8=>⟨λh=>(CV hs hall (.inr (by omega))).symm,λh160=>⟨⟨by omega,by omega,by simp⟩,?_⟩⟩⟩;rintro i ⟨hi0,hi1,hi⟩;refine⟨λhlt=>?_,λhge=>?_⟩
   ·have hm:=dj (d:=0) (show i.toNat<p.classes.length by omega);refine⟨by omega,by omega,by omega,λh=>(CW hs hall (by omega) hm (by omega)).symm,λh1=>⟨λh=>(CW hs hall (by omega) hm (by omega)).symm,λh2=>⟨by omega,⟨by omega,by omega,?_⟩,by omega⟩⟩⟩;exact PD hi0 hlt hi (by omega)
   ·rw[show i.toNat=p.classes.length from by omega,π] at hi;exact(HA hs hall (by omega) hi).symm
 ·have hs2:bD.ok p.supply=false:=by simpa using hs
  simp only[hs2,χ,if_false];exact⟨λ_=>(Py hs2).symm,λh=>absurd (by decide) h⟩
def kD (n:Int) (o:Off):Int:=
 if o.bX<0\/n<=o.bX then 6 else if o.value<1\/1000000<o.value then 4 else if o.want.ok then 0 else 4
def HC:bL:=⟨71,Int×Off,.cons (eK .i64) (.one (eG .off)),λp=>True,λp=> .si .i64 (kD p.1 p.2)⟩
theorem h147:Holds Tryz.prog HC:=by
 refine cF (L:=L3) HC (λp=>λ_=> .look) hL3 ?_;rintro⟨n,x⟩ _;refine bO (let f:=γx .i64;let e:=decide (x.bX<(0:Int));let a:=γe .i64 (kD n x);let c:=decide (n<=x.bX);let b:=decide (x.value<(1:Int));let d:=decide ((1000000:Int)<x.value);(e=true->(f 6).same a)/\(e=false->(c=true->(f 6).same a)/\(c=false->(b=true->(f 4).same a)/\(b=false->(d=true->(f 4).same a)/\(d=false->True/\(γe .i64 (if x.want.ok=true then(0:Int) else(4:Int))).same a))))) (by kernel_rfl) ?_;simp only[vcs];grind[kD]
def j3 (p:bn) (o:Off):Int:=
 if kD p.classes.length o≠0 then kD p.classes.length o else if o.want=bD.zero then 4 else if fy p [o]=false then 14 else 0
def HD:bL:=⟨44,bn×Off,.cons dE (.one (eG .off)),λa=>a.1.classes.length<=8,λa=> .si .i64 (j3 a.1 a.2)⟩
def L4:List bL:=HC::L3
theorem hL4:∀c∈L4,Holds Tryz.prog c:=by
 grind[L4,h147,hL3]
theorem CX {n:Int} {o:Off} (h:kD n o=0):0<=o.bX/\o.bX<n/\1<=o.value/\o.value<=1000000/\o.want.ok=true:=by
 grind[kD]
theorem h119:Holds Tryz.prog HD:=by
 refine cF (L:=L4) HD (λp=>λ_=> .look) hL4 ?_;rintro⟨p,x⟩ (i:p.classes.length<=8);refine bO (let f:=(0:Int);let g:=γx .i64;let c:=kD (↑p.classes.length:Int) x;let e:=decide (c≠f);let b:=γe .i64 (j3 p x);let d:=λ(u:Bool) ↦(decide (x.want.a0=f)&&(decide (x.want.a1=f)&&(decide (x.want.a2=f)&&(decide (x.want.a3=f)&&(decide (x.want.a4=f)&&(decide (x.want.a5=f)&&true))))))=u;True/\(e=true->(γe .i64 c).same b)/\(e=false->(d true->(g 4).same b)/\(d false->(p.classes.length<=8/\1<=1000/\∀(a:Off),a∈[x]->f<=a.bX/\a.bX<(↑p.classes.length:Int)/\a.want.ok=true)/\((!fy p [x])=true->(g 14).same b)/\((!fy p [x])=false->(g 0).same b)))) (by kernel_rfl) ?_;conv=>zeta
 have g:(decide (x.want.a0=0)&&(decide (x.want.a1=0)&&(decide (x.want.a2=0)&&(decide (x.want.a3=0)&&(decide (x.want.a4=0)&&decide (x.want.a5=0))))))=decide (x.want=bD.zero):=by
  simp_all[CQ,bD.zero]
 simp only[Bool.and_true,g];simp only[vcs];refine⟨λh=>by simp_all[j3],λh=>?_⟩;have f:kD p.classes.length x=0:=Ξ.1 h;have j:=CX f;grind[j3]
def L5:List bL:=Hz::HD::L4
theorem hL5:∀c∈L5,Holds Tryz.prog c:=by
 grind[L5,h118,h119,hL4]
def Off.key (o:Off):nI:=⟨o.bX,o.want⟩
def iV (p:bn) (a:List nI):List Off->Int
 |[]=>0
 |o::r=>if j3 p o≠0 then j3 p o else if o.key∈a then 7 else iV p (a++[o.key]) r
def bB (p:bn):Int:=if iL p≠0 then iL p else iV p [] p.offers
def qs:bL:=⟨25,bn,.one dE,λp=>True,λp=> .si .i64 (bB p)⟩
def Zr (p:bn):Nat->cC
 |7=> .inv Int (λi=>⟨[(3,.ptr 1 0 20),(5,.mp 2),(19,.row .off p.offers),(20,.si .i64 p.offers.length),(21,.si .i64 i)],
   [.cells p.ss 27 20 false,.cells p.ss 76 20 false,.map .key .b true ((p.offers.take i.toNat).map λo=>(o.key,true)) ([0,0,0,0,0,0,0],true) true]⟩) (λs=>iS s 21)
  (λi=>0<=i/\i<=p.offers.length/\iV p [] p.offers=iV p ((p.offers.take i.toNat).map Off.key) (p.offers.drop i.toNat)) (λi=>(p.offers.length - i).toNat) λ_ _=> .look
 |_=> .look
theorem tN {a:Type} {l:List a} {i:Int} {d:a} (b:0<=i) (h:i<l.length):l.drop i.toNat=bj l i.toNat d::l.drop (i+1).toNat:=by
 rw[show(i+1).toNat=i.toNat+1 from by omega,cV (by omega),List.drop_eq_getElem_cons (by omega)]
theorem CY (k:nI):∀(l:List Off),(nL .key .b k (l.map λo=>(o.key,true))).getD false=decide (k∈l.map Off.key)
 |[]=>by simp[nL];|o::l=>by
  have:=CY k l;grind[nL]
theorem Zs {b sv:bp} {c:Bool} {es a:List (b.T×sv.T)} {d:List Nat×Bool} {pu:Bool} (h:es=a):(bq.map b sv c es d pu).same (.map b sv c a d pu):=by rw[h];rfl
theorem Zt {k:nI} {l:List Off} (h:k∉l.map Off.key):rX .key .b k true (l.map λo=>(o.key,true))=(l.map λo=>(o.key,true))++[(k,true)]:=
 GX λp a=>by
  grind
theorem h79:Holds Tryz.prog qs:=by
 refine cF (L:=L5) qs Zr hL5 ?_;intro p _;refine bO (let a:=γe .i64;let c:=(0:Int);let f:=Θ bp.off p.offers;let q:=decide (iL p≠c);let g:=a (bB p);let h:=γP 1 0 20;let r:=(↑p.offers.length:Int);let d:=(↑p.offers.length:Int);let m:=a d;let s:=γx .i64 0;let n:=([0,0,0,0,0,0,0],true);let t:=bq.map bp.key bp.b true [] n true;let j:=iV p [] p.offers;let E:=bp.off.dflt;let k:=λ(u:Nat) ↦let v:=bq.cells [a p.supply.a0,a p.supply.a1,a p.supply.a2,a p.supply.a3,a p.supply.a4,a p.supply.a5,a p.opn.a0,a p.opn.a1,a p.opn.a2,a p.opn.a3,a p.opn.a4,a p.opn.a5,a p.cls.a0,a p.cls.a1,a p.cls.a2,a p.cls.a3,a p.cls.a4,a p.cls.a5,Θ (bp.i .i64) p.classes,f] u 20 false;v.same v;True/\(q=true->(a (iL p)).same g)/\(q=false->(((h.same h/\(SV.mp 2).same (SV.mp 2)/\f.same f/\(a r).same m/\s.same (a 0)/\True)/\k 27/\k 76/\t.same t/\True)/\c<=c/\c<=d/\j=j)/\∀(x:Int),let w:=ω x.toNat p.offers;let l:=bj p.offers x.toNat E;let y:=decide (j3 p l≠c);let z:=nI.mk l.bX l.want;let A:=γc (λ(o:Off) ↦(o.key,true)) w;let B:=(nL bp.key bp.b z A).getD false;let e:=x+(1:Int);let C:=a e;let D:=ω e.toNat p.offers;c<=x/\x<=d/\j=iV p (γc Off.key w) (γ4 x.toNat p.offers)->(decide (x<d)=true->c<=x/\x<r/\x.toNat<p.offers.length/\p.classes.length<=8/\(y=true->(a (j3 p l)).same g)/\(y=false->(B=true->(γx .i64 7).same g)/\(B=false->cn .i64 e/\((h.same h/\(SV.mp 2).same (SV.mp 2)/\f.same f/\m.same m/\C.same C/\True)/\k 27/\k 76/\(bq.map bp.key bp.b true (rX bp.key bp.b z true A) n true).same (bq.map bp.key bp.b true (γc (λ(o:Off) ↦(o.key,true)) D) n true)/\True)/\(c<=e/\e<=d/\j=iV p (γc Off.key D) (γ4 e.toNat p.offers))/\(d - e).toNat<(d - x).toNat)))/\(decide (x<d)=false->s.same g))) (by kernel_rfl) ?_;simp only[vcs];refine⟨λh=>by simp[bB,h],λh=>?_⟩;have hz:iL p=0:=Ξ.1 h;obtain⟨f1,f2,f3,f4,f5⟩:=tM hz;refine⟨⟨by omega,by omega⟩,?_⟩;rintro i ⟨hi0,hi1,hi⟩;refine⟨λhlt=>?_,λhge=>?_⟩
 ·rw[tN (d:=bp.off.dflt) hi0 hlt] at hi;generalize hx:bj p.offers i.toNat bp.off.dflt=x at hi ⊢;refine⟨by omega,by omega,by omega,f3,λhe=>?_,λhe=>?_⟩
  ·simp only[iV,if_pos he] at hi;simp[bB,hz,hi]
  ·simp only[iV,if_neg he] at hi;have hk:(⟨x.bX,x.want⟩:nI)=x.key:=rfl;simp only[hk];refine⟨λhm=>?_,λhm=>⟨by omega,?_,⟨by omega,by omega,?_⟩,by omega⟩⟩
   ·have hm2:=of_decide_eq_true ((CY _ _).symm.trans hm);rw[if_pos hm2] at hi;simp[bB,hz,hi]
   ·have hm2:=of_decide_eq_false ((CY _ _).symm.trans hm);apply Zs;rw[Zt hm2,kC (d:=bp.off.dflt) hi0 hlt,hx];simp
   ·have hm2:=of_decide_eq_false ((CY _ _).symm.trans hm);rw[if_neg hm2] at hi;rw[hi,kC (d:=bp.off.dflt) hi0 hlt,hx];simp
 ·rw[show i.toNat=p.offers.length from by omega,δQ] at hi;simp only[iV] at hi;simp[bB,hz,hi]
def ek (l:List Off) (a:Int):List Int->Option (List Off)
 |[]=>some []
 |i::r=>if i<=a\/l.length<=i then none else(ek l i r).map (bj l i.toNat bp.off.dflt::·)
def fV (p:bn) (c:List Int):Bool:=(ek p.offers (-1) c).isSome
def dx (p:bn) (c:List Int):List Off:=(ek p.offers (-1) c).getD []
def CZ:bL:=⟨60,bn×List Int,.cons dE (.one (dM (.i .i64))),λa=>a.2.length<=9223372036854775807/\a.1.offers.length<=1000,λa=> .bJ [.row .off (dx a.1 a.2),.sb (fV a.1 a.2)]⟩
def Zu (a:bn×List Int):Nat->cC
 |4=> .inv (Int×Int×List Off) (λx=>⟨[(2,.ptr 0 0 20),(6,.ow 1 x.2.2.length 8),(7,.si .i64 x.2.1),(10,.row (.i .i64) a.2),(11,.si .i64 a.2.length),(12,.si .i64 x.1)],
   [.cells a.1.ss 27 20 false,.row .off x.2.2 55 true]⟩) (λs=>(iS s 12,iS s 7,oS .off s 1))
  (λx=>0<=x.1/\x.1<=a.2.length/\(x.2.2.length<=x.2.1+1/\x.2.1<1000)/\ -1<=x.2.1/\ek a.1.offers (-1) a.2=(ek a.1.offers x.2.1 (a.2.drop x.1.toNat)).map (x.2.2++·)) (λx=>(a.2.length - x.1).toNat) λ_ _=> .look
 |_=> .look
theorem h133:Holds Tryz.prog CZ:=by
 refine cF (L:=L5) CZ Zu hL5 ?_;rintro⟨p,c⟩ ⟨hc,hof⟩;have hc:c.length<=9223372036854775807:=hc;have hof:p.offers.length<=1000:=hof;refine bO (let a:=γe .i64;let b:=(0:Int);let d:=(-1:Int);let e:=Θ;let f:=(1000:Int);let g:=δa false;let h:=SV.bJ;let j:=(1:Int);let q:=γP 0 0 20;let w:=SV.ow 1 0 8;let m:=bp.i .i64;let l:=(↑c.length:Int);let t:=a l;let r:=bq.cells [a p.supply.a0,a p.supply.a1,a p.supply.a2,a p.supply.a3,a p.supply.a4,a p.supply.a5,a p.opn.a0,a p.opn.a1,a p.opn.a2,a p.opn.a3,a p.opn.a4,a p.opn.a5,a p.cls.a0,a p.cls.a1,a p.cls.a2,a p.cls.a3,a p.cls.a4,a p.cls.a5,e m p.classes,e bp.off p.offers] 27 20 false;let y:=bq.row bp.off [] 55 true;let s:=ek p.offers d c;let u:=h [e bp.off (dx p c),γw (fV p c)];let v:=(↑p.offers.length:Int);(((q.same q/\w.same w/\(γx .i64 d).same (a d)/\(e m c).same (e m c)/\(a (↑c.length:Int)).same t/\(γx .i64 0).same (a 0)/\True)/\r.same r/\y.same y/\True)/\b<=b/\b<=l/\(b<=b/\d<f)/\d<=d/\s=ζd (λx ↦(b,d,[]).snd.snd++x) s)/\∀(x:Int×Int×List Off),let k:=bj c x.fst.toNat b;let z:=decide (k<=x.snd.fst);let A:=x.snd.snd.length+1;let n:=x.fst+j;let o:=x.snd.snd++[bj p.offers k.toNat bp.off.dflt];let B:=a k;let C:=a n;let D:=bq.row bp.off o 55 true;b<=x.fst/\x.fst<=l/\((↑x.snd.snd.length:Int)<=x.snd.fst+j/\x.snd.fst<f)/\d<=x.snd.fst/\s=ζd (λx_1 ↦x.snd.snd++x_1) (ek p.offers x.snd.fst (γ4 x.fst.toNat c))->(decide (x.fst<l)=true->b<=x.fst/\x.fst<(↑c.length:Int)/\x.fst.toNat<c.length/\(z=true->(h [e m [],g]).same u)/\(z=false->(decide (v<=k)=true->(h [e m [],g]).same u)/\(decide (v<=k)=false->b<=k/\k<v/\k.toNat<p.offers.length/\x.snd.snd.length=x.snd.snd.length/\A*64<=140737488355328/\A<=1000000000000/\cn .i64 n/\((q.same q/\(SV.ow 1 o.length 8).same (SV.ow 1 o.length 8)/\B.same B/\(e m c).same (e m c)/\t.same t/\C.same C/\True)/\r.same r/\D.same D/\True)/\(b<=n/\n<=l/\((↑o.length:Int)<=k+j/\k<f)/\d<=k/\s=ζd (λx ↦(n,k,o).snd.snd++x) (ek p.offers k (γ4 n.toNat c)))/\(l - n).toNat<(l - x.fst).toNat)))/\(decide (x.fst<l)=false->x.snd.snd.length=x.snd.snd.length/\(h [e bp.off x.snd.snd,δa true]).same u)) (by kernel_rfl) ?_;simp only[vcs];have hrow:∀{l:List Off},l=[]->(Θ (.i .i64) []).same (Θ .off l):=by rintro l rfl;exact Hu.2 trivial
 refine⟨⟨by omega,by omega,by omega,by simp⟩,?_⟩;rintro⟨i,last,out⟩ ⟨hi0,hi1,hlen,hla,hi⟩;simp only at hi0 hi1 hlen hla hi ⊢;refine⟨λhlt=>?_,λhge=>?_⟩
 ·rw[tN (d:=0) hi0 hlt] at hi;generalize hx:bj c i.toNat 0=x at hi ⊢;simp only[ek] at hi;refine⟨by omega,by omega,by omega,λh1=>?_,λh1=>⟨λh2=>?_,λh2=>?_⟩⟩
  ·rw[if_pos (.inl h1)] at hi;exact⟨hrow (by simp[dx,hi]),by simp[fV,hi]⟩
  ·rw[if_pos (.inr (by omega))] at hi;exact⟨hrow (by simp[dx,hi]),by simp[fV,hi]⟩
  ·rw[if_neg (by omega)] at hi;simp only[List.length_append,List.length_singleton];refine⟨by omega,by omega,by omega,by omega,by omega,by omega,⟨by omega,by omega,by omega,by omega,?_⟩,by omega⟩;rw[hi,Option.map_map];congr 1;funext r;simp
 ·rw[show i.toNat=c.length from by omega,δQ] at hi;simp only[ek,γl,List.append_nil] at hi;exact⟨by simp[dx,hi],by simp[fV,hi]⟩
def L6:List bL:=qs::CZ::L5
theorem hL6:∀c∈L6,Holds Tryz.prog c:=by
 grind[L6,h79,h133,hL5]
def bW (p:bn) (c:List Int):Int:=if bB p≠0 then bB p else if fV p c=false then 4 else if fy p (dx p c)=false then 14 else 0
def tO:bL:=⟨34,bn×List Int,.cons dE (.one (dM (.i .i64))),λa=>a.2.length<=9223372036854775807,λa=> .si .i64 (bW a.1 a.2)⟩
theorem PE {p:bn}:∀{l:List Off} {a:List nI},iV p a l=0->∀x∈l,j3 p x=0
 |[],_,_=>by simp;|o::r,a,h=>by
  simp only[iV] at h;split at h;·omega
  ·rename_i c;split at h;·cases h
   ·intro x b;rcases γC.1 b with rfl|b;·omega
    ·exact PE h x b
theorem tP {p:bn} (h:bB p=0):iL p=0/\∀x∈p.offers,j3 p x=0:=by
 unfold bB at h;split at h;·omega
 ·rename_i a;exact⟨Ξ.1 a,PE h⟩
theorem C0 {p:bn} {o:Off} (h:j3 p o=0):kD p.classes.length o=0/\o.want≠bD.zero/\fy p [o]=true:=by
 unfold j3 at h;grind
theorem zE {l:List Off}:∀{c:List Int} {a:Int} {r:List Off}, -1<=a->ek l a c=some r->r.length+a+1<=l.length\/r=[]
 |[],a,r,_,h=>by grind[ek];|i::c,a,r,d,h=>by
  simp only[ek] at h;split at h;·cases h
  ·rename_i e;obtain⟨f,b,rfl⟩:=ε.1 h;have:=zE (by omega) b;grind
theorem C2 {l:List Off}:∀{c:List Int} {a:Int} {r:List Off}, -1<=a->ek l a c=some r->∀x∈r,x∈l
 |[],a,r,_,h=>by grind[ek];|i::c,a,r,f,h=>by
  simp only[ek] at h;split at h;·cases h
  ·rename_i e;obtain⟨g,d,rfl⟩:=ε.1 h;intro x b;rcases γC.1 b with rfl|b;·grind[dj]
   ·exact C2 (by omega) d x b
theorem h100:Holds Tryz.prog tO:=by
 refine cF (L:=L6) tO (λp=>λ_=> .look) hL6 ?_;rintro⟨p,c⟩ (n:c.length<=9223372036854775807);refine bO (let a:=γx .i64;let e:=decide (bB p≠(0:Int));let d:=γe .i64 (bW p c);let f:=!fy p (dx p c);True/\(e=true->(γe .i64 (bB p)).same d)/\(e=false->(c.length<=9223372036854775807/\p.offers.length<=1000)/\((!fV p c)=true->(a 4).same d)/\((!fV p c)=false->(p.classes.length<=8/\(dx p c).length<=1000/\∀(x:Off),x∈dx p c->(0:Int)<=x.bX/\x.bX<(↑p.classes.length:Int)/\x.want.ok=true)/\(f=true->(a 14).same d)/\(f=false->(a 0).same d)))) (by kernel_rfl) ?_;simp only[vcs];refine⟨λh=>by simp[bW,h],λh=>?_⟩;have g:bB p=0:=Ξ.1 h;obtain⟨m,j⟩:=tP g;obtain⟨s,o,l,q,t⟩:=tM m;refine⟨⟨n,by omega⟩,λa=>by grind[bW],λa=>⟨⟨l,?_,?_⟩,λk=>by grind[bW],λk=>by grind[bW]⟩⟩
 ·unfold fV at a;obtain⟨r,b⟩:=γp.1 a;have:=zE (by omega) b;grind[dx]
 ·unfold fV at a;obtain⟨r,b⟩:=γp.1 a;simp only[dx,b,Option.getD_some];intro x i;have u:=CX (C0 (j x (C2 (by omega) b x i))).1;simp_all
def bD.sub (a b:bD):bD:=⟨a.a0 - b.a0,a.a1 - b.a1,a.a2 - b.a2,a.a3 - b.a3,a.a4 - b.a4,a.a5 - b.a5⟩
def bD.meet (a b:bD):bD:=⟨min a.a0 b.a0,min a.a1 b.a1,min a.a2 b.a2,min a.a3 b.a3,min a.a4 b.a4,min a.a5 b.a5⟩
def bD.le (a b:bD):Bool:=decide (a.a0<=b.a0)&&decide (a.a1<=b.a1)&&decide (a.a2<=b.a2)&&decide (a.a3<=b.a3)&&decide (a.a4<=b.a4)&&decide (a.a5<=b.a5)
theorem bD.le_iff {a b:bD}:a.le b=true↔a.a0<=b.a0/\a.a1<=b.a1/\a.a2<=b.a2/\a.a3<=b.a3/\a.a4<=b.a4/\a.a5<=b.a5:=by
 simp[bD.le,and_assoc]
def C4 (p:bn) (m:Int):Int:=if bB p≠0 then bB p else if m<0\/2^p.classes.length<=m then 4 else 0
structure L8 where
 (l0 l1 l2 l3 l4 l5 l6 l7:List Off)
structure PG where
 p:bn
 ls:L8
 es:List (Sit×Int)
def zF (p:bn) (j:Int):List Off:=p.offers.filter λx=>decide (x.bX=j)
def PG.o (s:PG):bZ:=
 [.cells [.si .i64 s.p.supply.a0,.si .i64 s.p.supply.a1,.si .i64 s.p.supply.a2,.si .i64 s.p.supply.a3,.si .i64 s.p.supply.a4,.si .i64 s.p.supply.a5,
  .si .i64 s.p.opn.a0,.si .i64 s.p.opn.a1,.si .i64 s.p.opn.a2,.si .i64 s.p.opn.a3,.si .i64 s.p.opn.a4,.si .i64 s.p.opn.a5,
  .si .i64 s.p.cls.a0,.si .i64 s.p.cls.a1,.si .i64 s.p.cls.a2,.si .i64 s.p.cls.a3,.si .i64 s.p.cls.a4,.si .i64 s.p.cls.a5,
  .row (.i .i64) s.p.classes,.row .off s.p.offers,.row .off s.ls.l0,.row .off s.ls.l1,.row .off s.ls.l2,.row .off s.ls.l3,.row .off s.ls.l4,.row .off s.ls.l5,.row .off s.ls.l6,.row .off s.ls.l7,.mp 1] 99999 29 false,
  .map .sit (.i .i64) true s.es ([0,0,0,0,0,0,0,0,0,0,0,0,0],true) true]
def oc (c w a j k:Int):Int:=if j<k/\(c=0\/c=a) then 0 else w
def lq (p:bn) (x:Off):Int:=bj p.classes x.bX.toNat 0
def HE (p:bn) (x:Off) (k:Int):bD:=⟨oc p.cls.a0 x.want.a0 (lq p x) 0 k,oc p.cls.a1 x.want.a1 (lq p x) 1 k,oc p.cls.a2 x.want.a2 (lq p x) 2 k,oc p.cls.a3 x.want.a3 (lq p x) 3 k,oc p.cls.a4 x.want.a4 (lq p x) 4 k,oc p.cls.a5 x.want.a5 (lq p x) 5 k⟩
def fa (p:bn) (x:Off):bD:=HE p x 6
def Sit.b (a:Sit):Prop:=a.left.ok=true/\a.opn.ok=true
end Go.Vi
namespace Go.Proofs.YtlphnffeeefcdaaGreat
open Go.ChangeShapes Go.WideShapes Go.ChangeAt Go.RowKit Go.Vi
theorem Tryz.own:ownKnob Tryz.prog.godebug=none:=by kernel_rfl
theorem Tryz.laidOut:laidOutB Tryz.prog=true:=by kernel_rfl
theorem Zv:Reads Tryz.prog 3 (.i .i64):=Y5 Tryz.underlying3
theorem PH:Reads Tryz.prog 23 .dR:=Y9 Tryz.underlying23 Tryz.underlying3 (by kernel_rfl) (by kernel_rfl)
theorem Zw:Reads Tryz.prog 55 .off:=Za Tryz.underlying55 (by kernel_rfl) rfl rfl rfl Tryz.underlying3 (by kernel_rfl) Tryz.underlying2 (by kernel_rfl) PH (by kernel_rfl) rfl
theorem xC {H:Type} {enc:TypeId×Value->H} {w:World} {a:Nat->Bool} {c:Bool} {b:Nat} {cs:List Value} {x:DataW H×List MemPlace} (h:DataW.trod enc Tryz.prog w 0 a c b 27 cs=some x):
  ∃p:bn,bF iU w [] [] (gL p.ss) cs:=
 Zb Tryz.underlying27 (by kernel_rfl) rfl rfl rfl rfl rfl rfl PH (by kernel_rfl) Tryz.underlying24 Zv (by kernel_rfl) (by kernel_rfl) Tryz.underlying25 Zw (by kernel_rfl) (by kernel_rfl) h
theorem xE {f:FuncId} {args:List SV} (h:kP Tryz.prog f (gL args) [] (γw true).g []) {W:World} {vs:List Value} (d:bF iU W [] [] (gL args) vs):
  Calls Tryz.prog f vs.toArray W λe c=>e= .returned (.bool true)/\Below W.heap.size W c:=by
 refine(h iU W [] vs (BL W (λb a=>a.elim)) d).mono ?_;grind[γE,bw,Zd]
end Go.Proofs.YtlphnffeeefcdaaGreat
namespace Go.Vi
open Go.ChangeShapes Go.WideShapes Go.RowKit
def HF (P:Program) (t:TypeId) (s:bp) (Q:s.T->Prop):Prop:=
 ∀(H:Type) (d:TypeId×Value->H) (w:World) (a:Nat->Bool) (c:Bool) (b:Nat) (e:List Value) (x:DataW H×List MemPlace),DataW.trod d P w 0 a c b t e=some x->∃y:s.T,Q y/\bF iU w [] [] (dB s y) e
theorem CO.q {P:Program} {t:TypeId} {s:bp} (h:CO P t s):HF P t s λ_=>True:=λH d w a c b e x f=>by
 obtain⟨y,g⟩:=h H d w a c b e x f;grind
theorem HG {P:Program} {t:TypeId} {k:IntKind} (a:P.underlying t=some (.int k)):HF P t (.i k) λn=>k.min<=(show Int from n)/\(show Int from n)<=k.max:=λ_ _ _ _ _ _ c _ h=>by
 obtain⟨n,rfl,_,b⟩:=DataW.trod_int a h;simp_all[Lit.wf,dB,dJ,bF,bw,Value.oneCell']
theorem PI {P:Program} {t e:TypeId} {s:bp} {Q:s.T->Prop} (C:P.underlying t=some (.slice e)) (r:HF P e s Q) (F:P.cellsOf e=s.sz)
  {H:Type} {enc:TypeId×Value->H} {w:World} {c:Nat->Bool} {j:Bool} {d:Nat} {cs:List Value} {x:DataW H×List MemPlace} (h:DataW.trod enc P w 0 c j d t cs=some x):
  ∃(v:Value) (l:List s.T),cs=[v]/\l.length<=9223372036854775807/\(∀y∈l,Q y)/\bw iU w [] [] (Θ s l).g v:=by
 rcases ε0 C h with⟨rfl,_⟩|⟨a,b,k,m,n,D,M,rfl,G,A,N,o,_,p⟩;·exact⟨_,[],rfl,by simp,by simp,by grind[γE,bw,cE,dr,dA]⟩
 ·have u:b<=m:=by grind
  have B:∀i,i<b->∃y:s.T,∃cs,Q y/\w.cells? 0 (a.add (i*s.sz)) s.sz=some cs/\bF iU w [] [] (dB s y) cs:=λi J=>by
   obtain⟨q,K,E⟩:=p i (by omega);obtain⟨y,L,z⟩:=r _ _ _ _ _ _ _ _ E;grind
  obtain⟨f,I⟩:=ζc B;refine⟨_,(ψ b).map f,rfl,?_,?_,?_⟩;·grind[maxLen]
  ·simp_all
  simp only[γE,bw,Ω,δX];refine⟨some a,k,rfl,A,oJ _ _,?_⟩;have:=CP (w:=w) (a:=a) (s:=s) (l:=(ψ b).map f) (i0:=0) (λi y z=>by
   grind);simp_all
abbrev C5:bp:=.pair .b (.pair (.bH (.i .u32)) (.bH (.i .u32)))
def PK (l:List Int):Prop:=∀d∈l,0<=d/\d<4294967296
def HH (x:Bool×(List Int×List Int)):Prop:=PK x.2.1/\PK x.2.2
theorem Zx {P:Program} {t k v:TypeId} {fs:Array Field} (J:P.underlying t=some (.struct fs)) (F:P.cellsOf t=2) (I:fs.size=2)
  (R:(fs[0]?).map (λf=>(f.type,f.offset))=some (k,0)) (B:(fs[1]?).map (λf=>(f.type,f.offset))=some (v,1))
  {e:TypeId} (C:P.underlying k=some (.slice e)) (n:P.underlying e=some (.int .i64)) (p:P.cellsOf e=1) (o:P.cellsOf k=1) (D:P.underlying v=some (.int .i64)) (q:P.cellsOf v=1)
  {H:Type} {enc:TypeId×Value->H} {w:World} {b:Nat->Bool} {c:Bool} {d:Nat} {cs:List Value} {x:DataW H×List MemPlace} (h:DataW.trod enc P w 0 b c d t cs=some x):
  ∃a:Alloc,a.chosen.length<=9223372036854775807/\bF iU w [] [] (gL [.row (.i .i64) a.chosen,.si .i64 a.value]) cs:=by
 obtain⟨U,m,_,_,s,Q,u⟩:=DataW.trod_struct J h;rw[F] at s;obtain⟨M,N,j⟩:=ε.1 R;obtain⟨E,L,l⟩:=ε.1 B;simp only[μ] at j l;have A:=u 0 M N;have y:=u 1 E L;rw[j.1,j.2,o,ν (by omega)] at A;rw[l.1,l.2,q,ν (by omega)] at y;obtain⟨W,K,z,G,_,S⟩:=PI C (HG n) p A;obtain⟨O,r,_⟩:=DataW.trod_int D y;match cs,s with
 |[T,V],_=>
  simp at z r;subst z;subst r;refine⟨⟨K,O⟩,G,?_⟩;grind[gL,bF,γE,bw,Value.oneCell']
end Go.Vi
namespace Go.Proofs.YtlphnffeeefcdaaGreat
open Go.ChangeShapes Go.WideShapes Go.ChangeAt Go.RowKit Go.Vi
theorem Zy {H:Type} {enc:TypeId×Value->H} {w:World} {spare:Nat->Bool} {held:Bool} {fuel:Nat} {cs:List Value} {x:DataW H×List MemPlace} (h:DataW.trod enc Tryz.prog w 0 spare held fuel 31 cs=some x):
  ∃a:Alloc,a.chosen.length<=9223372036854775807/\bF iU w [] [] (gL [.row (.i .i64) a.chosen,.si .i64 a.value]) cs:=
 Zx Tryz.underlying31 (by kernel_rfl) rfl rfl rfl Tryz.underlying24 Tryz.underlying3 (by kernel_rfl) (by kernel_rfl) Tryz.underlying2 (by kernel_rfl) h
end Go.Proofs.YtlphnffeeefcdaaGreat
namespace Go.Vi
open Go.Proofs.YtlphnffeeefcdaaGreat.Ir
open Go.Proofs
def Zz (m f:Int):Int:=gY.vd .i64 (m / 2^f.toNat) 1
def ZA (m f:Int):Int:=gY.B7 .i64 m (2^f.toNat)
def rh (m:Int):List Int:=[0,1,2,3,4,5,6,7].filter λf=>decide (Zz m f≠0)
def Good (p:bn):Prop:=p.classes.length<=8/\p.offers.length<=160/\p.supply.ok=true/\p.opn.ok=true/\∀x∈p.offers,0<=x.bX/\x.bX<p.classes.length/\x.want.ok=true/\1<=x.value/\x.value<=1000000
def j4 (p:bn):List Int->bD->bD->Int
 |[],_,_=>0
 |f::fs,l,o=>(zF p f).foldl (λv x=>if x.want.le l&&(fa p x).le o then max v (x.value+j4 p fs (l.sub x.want) (o.sub (fa p x))) else v) (j4 p fs l o)
def oN (p:bn) (fs:List Int) (l o:bD) (v:Int) (x:Off):Int:=if x.want.le l&&(fa p x).le o then max v (x.value+j4 p fs (l.sub x.want) (o.sub (fa p x))) else v
def ZB (p:bn) (a:Sit):Int:=j4 p (rh a.members) a.left a.opn
theorem dN {p:bn} (h:bB p=0):Good p:=by
 obtain⟨e,k⟩:=tP h;obtain⟨b,a,m,g,q⟩:=tM e;refine⟨m,g,b,?_,λx o=>?_⟩
 ·have d:=bD.jz.1 b;have f:=nT.1 (a 0 (by omega));have c:=nT.1 (a 1 (by omega));have i:=nT.1 (a 2 (by omega));have l:=nT.1 (a 3 (by omega));have n:=nT.1 (a 4 (by omega));have j:=nT.1 (a 5 (by omega));simp[bj] at f c i l n j;grind[bD.jz]
 ·have d:=CX (C0 (k x o)).1;simp_all
theorem zG {n:Nat} (h:n<=8):(2:Int)^n<=256/\0<(2:Int)^n:=by
 have:n=0\/n=1\/n=2\/n=3\/n=4\/n=5\/n=6\/n=7\/n=8:=by omega
 rcases this with h|h|h|h|h|h|h|h|h<;>rw[h]<;>decide
def qt (p:bn) (m:Int):Int:=if C4 p m=0 then ZB p ⟨m,p.supply,p.opn⟩ else 0
def allM (p:bn):Int:=2^p.classes.length - 1
def xF (p:bn) (v:List Int) (i:Int):List Int:=v.set (bj p.offers i.toNat bp.off.dflt).bX.toNat (bj p.offers i.toNat bp.off.dflt).value
def gC (p:bn) (c:List Int):List Int:=c.foldl (xF p) (List.replicate p.classes.length 0)
def HI (p:bn) (s:Int) (i:Int):Int:=s+(bj p.offers i.toNat bp.off.dflt).value
def vy (p:bn) (c:List Int):Int:=c.foldl (HI p) 0
def PL (p:bn) (c:List Int):Int:=if bW p c≠0 then bW p c else if vy p c<qt p (allM p) then 13 else 0
def bn.zero:bn:=⟨bD.zero,bD.zero,bD.zero,[],[]⟩
theorem PN {l:List Off}:∀{c:List Int} {a:Int} {r:List Off}, -1<=a->ek l a c=some r->r.length=c.length/\∀i∈c,0<=i/\i<l.length
 |[],a,r,_,h=>by grind[ek];|i::c,a,r,e,h=>by
  simp only[ek] at h;split at h;·cases h
  ·rename_i d;obtain⟨f,b,rfl⟩:=ε.1 h;obtain⟨g,j⟩:=PN (by omega) b;grind
theorem PO {p:bn}:∀{c:List Int} {v:List Int},(c.foldl (xF p) v).length=v.length
 |[],v=>rfl
 |i::c,v=>by simp only[List.foldl_cons];rw[PO];simp[xF]
theorem C6 {p:bn} {c:List Int}:(gC p c).length=p.classes.length:=by unfold gC;rw[PO];simp
def three:bn:=⟨⟨1,1,0,0,0,0⟩,⟨1,1,0,0,0,0⟩,bD.zero,[0,0,0],[⟨0,⟨1,1,0,0,0,0⟩,10⟩,⟨1,⟨1,0,0,0,0,0⟩,6⟩,⟨2,⟨0,1,0,0,0,0⟩,6⟩]⟩
end Go.Vi
