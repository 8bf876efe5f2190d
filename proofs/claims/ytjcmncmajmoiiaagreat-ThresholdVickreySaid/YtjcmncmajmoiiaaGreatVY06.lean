/-
  The auction's problems and allocations, and how they lie in values.
  Conditions: none.
-/
import Derived.Test.YtjcmncmajmoiiaaGreatVY05
import Derived.Test.YtjcmncmajmoiiaaGreatVY01
import Derived.KernelRfl
import Derived.Deep.Slices
import Derived.OpenShut
import Derived.ProofKit
import Derived.Test.YtjcmncmajmoiiaaGreatRows
set_option maxRecDepth 100000
set_option maxHeartbeats 4000000
set_option linter.all false
open And renaming intro->γj
open Bool renaming false_eq_true->χ,not_eq_false->ζf,and_eq_true->ζ,and_true->δT
open Classical renaming choose->δS,choose_spec->εd,not_not->ω
open Go.Vi.AV renaming ren->δC
open Go.Vi.AV.agg renaming injEq->εy
open Go.Vi.AV.sc renaming injEq->γX
open Go.Vi.AV.sl renaming injEq->δ6
open Go.Vi.SV renaming g->γG,row->Φ,si->Θ,same->εJ,il->γp,sb->γD,bl->δo,ptr->γS,agg->γC
open List renaming all_eq_true->Ξ,take->γa,map_cons->ι,length_range->ζh,range->π,getElem?_eq_getElem->ν,take_length->ψ,forall_mem_cons->γq,map->γf,drop->γ5,drop_length->δ8,mem_cons->γE,map_nil->γt
open List.cons renaming injEq->ξ
open Nat renaming beq->δx
open Option renaming map_eq_some_iff->δ,map_some->γm,bind_some->δQ,map->ζV,isSome_iff_exists->γo
open Option.some renaming injEq->γ
open Prod.mk renaming injEq->μ
namespace Go.Vi
structure bp where
 supply:bz
 opn:bz
 cls:bz
 classes:List Int
 offers:List Off
structure Alloc where
 chosen:List Int
 value:Int
def bp.ss (p:bp):List SV:=
 [.si .i64 p.supply.a0,.si .i64 p.supply.a1,.si .i64 p.supply.a2,.si .i64 p.supply.a3,.si .i64 p.supply.a4,.si .i64 p.supply.a5,
  .si .i64 p.opn.a0,.si .i64 p.opn.a1,.si .i64 p.opn.a2,.si .i64 p.opn.a3,.si .i64 p.opn.a4,.si .i64 p.opn.a5,
  .si .i64 p.cls.a0,.si .i64 p.cls.a1,.si .i64 p.cls.a2,.si .i64 p.cls.a3,.si .i64 p.cls.a4,.si .i64 p.cls.a5,
  .row (.i .i64) p.classes,.row .off p.offers]
def sK:List SV->Option bp
 |[g,v,b,q,d,x,a,n,w,h,j,l,t,p,r,u,e,m,k,f]=>match jH .eD [g,v,b,q,d,x],jH .eD [a,n,w,h,j,l],jH .eD [t,p,r,u,e,m],gj (.i .i64) k,gj .off f with
  |some s,some o,some c,some k,some f=>some ⟨s,o,c,k,f⟩
  |_,_,_,_,_=>none
 |_=>none
theorem vH {cs:List SV} {p:bp} (h:sK cs=some p):gL cs=gL p.ss:=by
 unfold sK at h;split at h
 ·split at h
  ·rename_i s o c k f a i b e d;simp only[γ] at h;subst h;have a:=nY a;have i:=nY i;have b:=nY b;have e:=jK e;have d:=jK d;simp_all[dN,dJ,bp.ss,gL,γG,iv]
  ·cases h
 ·cases h
def cY:oV bp where
 put p:=.agg p.ss;dec
  | .agg c=>sK c
  |_=>none;ok v a h:=by
  grind[γG,vH]
 inj a b h:=by
  obtain⟨⟨a0,a1,a2,a3,M,o⟩,⟨A,l,e,b3,I,b5⟩,⟨H,V,Y,J,x,j⟩,k,f⟩:=a;obtain⟨⟨d,t,d2,Z,d4,X⟩,⟨N,R,u,y,S,e5⟩,⟨f0,E,f2,f3,O,q⟩,W,B⟩:=b;simp only[γG,bp.ss,gL,εy,ξ,and_true,γX,Value.int.injEq,true_and,δ6] at h;obtain⟨h0,h1,F,P,Q,z,C,L,g2,U,G,T,w,K,k2,r,D,k5,m,n⟩:=h;have s:=l8 (.i .i64) m.1 m.2;have n2:=l8 .off n.1 n.2;simp_all
def lC:oV Alloc where
 put a:=.agg [.row (.i .i64) a.chosen,.si .i64 a.value];dec
  | .agg [r,v]=>match gj (.i .i64) r,v.int .i64 with
   |some c,some v=>some ⟨c,v⟩
   |_,_=>none
  |_=>none;ok v a h:=by
  grind[γG,gL,jK,gU]
 inj a b h:=by
  obtain⟨c,v⟩:=a;obtain⟨e,f⟩:=b;simp only[γG,gL,εy,ξ,and_true,γX,Value.int.injEq,true_and,δ6] at h;have d:=l8 (.i .i64) h.1.1 h.1.2;rw[d,h.2]
def oY:TypeId->Option bk
 |2=>some (.i .i64)
 |3=>some (.i .i64)
 |24=>some (.bJ (.i .i64))
 |235=>some (.i .u32)
 |157=>some (.pair .b (.pair (.bJ (.i .u32)) (.bJ (.i .u32))))
 |41=>some (.pair (.bJ (.i .i64)) (.i .i64))
 |91=>some (.bJ (.pair .b (.pair (.bJ (.i .u32)) (.bJ (.i .u32)))))
 |255=>some (.pair (.bJ (.pair .b (.pair (.bJ (.i .u32)) (.bJ (.i .u32))))) (.pair .b (.pair (.bJ (.i .u32)) (.bJ (.i .u32)))))
 |4=>some .b
 |93=>some (.pair (.i .i64) (.pair (.i .i64) (.pair (.i .i64) (.pair (.i .i64) (.bJ (.pair .b (.pair (.bJ (.i .u32)) (.bJ (.i .u32)))))))))
 |39=>some .off
 |_=>none
def oZ:List Nat×Bool->Option (bk×bk)
 |([0,0,0,0,0,0,0],true)=>some (.key,.b)
 |([0,0,0,0,0,0,0,0,0,0,0,0,0],true)=>some (.sit,.i .i64)
 |_=>none
mutual
def SV.ren (m:Nat->Option Nat):SV->Option SV
 | .agg cs=>(rK m cs).map .agg
 | .bH cs=>(rK m cs).map .bH
 | .ptr id off tot=>(m id).map λi=> .ptr i off tot
 | .ap id a b c d e=>(m id).map λi=> .ap i a b c d e
 | .rp id a b c d=>(m id).map λi=> .rp i a b c d
 | .ow id n sz=>(m id).map λi=> .ow i n sz
 | .os id a b c d=>(m id).map λi=> .os i a b c d
 | .oc id a b c d=>(m id).map λi=> .oc i a b c d
 | .mp id=>(m id).map .mp
 | .fn f a b=>match rK m a,rK m b with
  |some a',some b'=>some (.fn f a' b')
  |_,_=>none
 | .ud=>some .ud
 | .sc v=>some (.sc v)
 | .il k n=>some (.il k n)
 | .si k n=>some (.si k n)
 | .bl b=>some (.bl b)
 | .sb b=>some (.sb b)
 | .row s l=>some (.row s l)
 | .ep s l i o=>some (.ep s l i o)
 | .ia t cs=>some (.ia t cs)
 | .ite c a b=>some (.ite c a b)
def rK (m:Nat->Option Nat):List SV->Option (List SV)
 |[]=>some []
 |c::cs=>match c.ren m,rK m cs with
  |some c',some cs'=>some (c'::cs')
  |_,_=>none
end
mutual
theorem HQ {m:Nat->Option Nat}:∀{v v':SV},v.ren m=some v'->v.g.ren m=some v'.g
 | .agg cs,v',h=>by
  simp only[SV.ren] at h;obtain⟨cs',h1,rfl⟩:=δ.1 h;simp only[γG,δC,vI h1,γm];| .bH cs,v',h=>by
  simp only[SV.ren] at h;obtain⟨cs',h1,rfl⟩:=δ.1 h;simp only[γG,δC,vI h1,γm];| .fn f a b,v',h=>by
  simp only[SV.ren] at h;split at h
  ·rename_i a' b' h1 h2;simp only[γ] at h;subst h;simp only[γG,δC,vI h1,vI h2]
  ·cases h;| .ptr id _ _,v',h| .ap id _ _ _ _ _,v',h| .rp id _ _ _ _,v',h| .ow id _ _,v',h| .os id _ _ _ _,v',h| .oc id _ _ _ _,v',h| .mp id,v',h=>by
  simp only[SV.ren] at h;obtain⟨i,h1,rfl⟩:=δ.1 h;simp only[γG,δC,h1,γm];| .ud,v',h| .sc _,v',h| .il _ _,v',h| .si _ _,v',h| .bl _,v',h| .sb _,v',h| .row _ _,v',h| .ep _ _ _ _,v',h| .ia _ _,v',h| .ite _ _ _,v',h=>by
  simp only[SV.ren,γ] at h;subst h;simp only[γG,δC]
theorem vI {m:Nat->Option Nat}:∀{l l':List SV},rK m l=some l'->iG m (gL l)=some (gL l')
 |[],l',h=>by simp[rK] at h;subst h;simp[gL,iG];|c::cs,l',h=>by
  simp only[rK] at h;split at h
  ·rename_i c' cs' h1 h2;simp only[γ] at h;subst h;simp only[gL,iG,HQ h1,vI h2]
  ·cases h
end
def bq.ren (m:Nat->Option Nat):bq->Option bq
 | .cells d e c a=>if a then some (.cells d e c a) else(rK m d).map λb=> .cells b e c a
 | .dead=>some .dead
 | .row s l e a=>some (.row s l e a)
 | .map j f g h i a=>some (.map j f g h i a)
 | .oQ .. =>none
theorem PY {m:Nat->Option Nat}:∀{l:List AV},(∀a∈l,Plain a)->iG m l=some l
 |[],_=>by simp[iG];|a::e,h=>by
  have d:=PY (m:=m) (l:=e) λb c=>h b (by simp[c]);rcases h a (by simp) with⟨v,rfl,_⟩|⟨n,f,rfl,_⟩<;>simp only[iG,δC,d]
theorem PZ {m:Nat->Option Nat}:∀{l:List (Value×AV)},(∀a∈l,∃v,a.2= .sc v)->oM m l=some l
 |[],_=>by simp[oM];|(k,c)::e,h=>by
  obtain⟨v,b⟩:=h (k,c) (by simp);simp only at b;subst b;simp only[oM,δC,PZ (l:=e) λa d=>h a (by simp[d])]
theorem HS {b sv:bk} {d:Bool} {es:List (b.T×sv.T)}:∀a∈es.map (λp=>(oR b d p.1,mP sv p.2)),∃v,a.2= .sc v:=λa c=>by
 obtain⟨q,_,rfl⟩:=List.mem_map.1 c;exact⟨_,rfl⟩
theorem P0 {m:Nat->Option Nat} {x y:bq} (h:x.ren m=some y):x.g.ren m=some y.g:=by
 cases x with
 |dead=>simp[bq.ren] at h;subst h;rfl;|cells o e k a=>
  simp only[bq.ren] at h;cases a with
  |true=>simp only[if_true,γ] at h;subst h;simp only[bq.g,bP.ren,if_true];|false=>
   simp only[χ,if_false] at h;obtain⟨b,c,rfl⟩:=δ.1 h;simp_all[bq.g,bP.ren,vI]
 |oQ s l e t=>grind[bq.ren];|row s l e a=>
  grind[bq.ren,bq.g,bP.ren,PY,ny];|map f n i j d a=>
  simp only[bq.ren,γ] at h;subst h;simp only[bq.g,bP.ren,PZ HS,γm];grind
def zK (m:Nat->Option Nat):bW->Option bW
 |[]=>some []
 |x::r=>match x.ren m,zK m r with
  |some y,some l=>some (y::l)
  |_,_=>none
theorem P3 {m:Nat->Option Nat}:∀{o o':bW},zK m o=some o'->sx m (gO o)=some (gO o')
 |[],o',h=>by simp[zK] at h;subst h;rfl;|x::r,o',h=>by
  simp only[zK] at h;split at h
  ·rename_i y l b a;simp only[γ] at h;subst h;have:=P3 a;grind[gO,sx,P0]
  ·cases h
def xA (o:bW) (a:List Nat):List Nat->Option bW
 |[]=>some []
 |i::r=>match o[i]?,xA o a r with
  |some x,some l=>match x.ren (λj=>idxOf a j) with
   |some y=>some (y::l)
   |none=>none
  |_,_=>none
theorem HT {o:bW} {a:List Nat}:∀{r:List Nat} {o':bW},xA o a r=some o'->kY (gO o) a r=some (gO o')
 |[],o',h=>by simp[xA] at h;subst h;rfl;|i::r,o',h=>by
  simp only[xA] at h;split at h
  ·rename_i x l d b;split at h
   ·rename_i y c;simp only[γ] at h;subst h;simp only[kY,fF d,HT b,P0 c,γm];rfl
   ·cases h
  ·cases h
def xB (o:bW):List Nat->bW->bW
 |[],_=>o
 |_,[]=>o
 |i::r,x::l=>xB (o.set i x) r l
theorem P4:∀{a:List Nat} {o l:bW},gO (xB o a l)=lO (gO o) a (gO l)
 |[],o,l=>by simp[xB,lO];|_::_,o,[]=>by simp[xB,lO,gO];|i::r,o,x::l=>by
  simp only[xB];rw[P4,qE];simp[gO,lO]
def pS (o:bW):Nat->List SV->List Nat->List Nat
 |0,_,c=>c
 |_,[],c=>c
 |d+1,v::i,c=>
  let f (e:Nat) (c:List Nat):List Nat:=
   if c.contains e then c else
   match o[e]? with
   |some (.cells g _ _ h)=>if h then c++[e] else pS o d g (c++[e])
   |_=>c++[e];pS o d i (match v with
   | .agg g| .bH g=>pS o d g c
   | .ptr e _ _| .ap e _ _ _ _ _| .rp e _ _ _ _| .ow e _ _| .os e _ _ _ _| .oc e _ _ _ _| .mp e=>f e c
   | .fn _ a b=>pS o d b (pS o d a c)
   |_=>c)
theorem zL {o:Store}:∀{d:Nat} {l:List AV} {acc:List Nat},(∀a∈l,Plain a)->cJ o d l acc=acc
 |0,_,_,_=>by grind[cJ];|d+1,[],_,_=>by grind[cJ];|d+1,a::l,acc,h=>by
  have e:=zL (o:=o) (d:=d) (l:=l) (acc:=acc) λb c=>h b (by simp[c]);rcases h a (by simp) with⟨v,rfl,_⟩|⟨n,f,rfl,_⟩<;>(grind[cJ])
theorem P5 {o:Store}:∀{d:Nat} {l:List AV} {acc:List Nat},(∀a∈l,∃v,a= .sc v)->cJ o d l acc=acc
 |0,_,_,_=>by simp[cJ];|d+1,[],_,_=>by simp[cJ];|d+1,a::l,acc,h=>by
  obtain⟨v,rfl⟩:=h a (by simp);simp only[cJ];exact P5 λa b=>h a (by simp[b])
theorem ZN {l:List (Value×AV)} (h:∀a∈l,∃v,a.2= .sc v):∀a∈l.map (·.2),∃v,a= .sc v:=λa b=>by
 grind
def bq.C7:bq->Bool
 | .oQ .. =>false
 |_=>true
theorem P6 {o:bW} (h:o.all bq.C7=true):∀{d:Nat} {vs:List SV} {acc:List Nat},cJ (gO o) d (gL vs) acc=pS o d vs acc:=by
 intro d;induction d with
 |zero=>grind[cJ,pS];|succ d k=>
  intro vs acc;cases vs with
  |nil=>simp[gL,cJ,pS];|cons v vs=>
   have m:∀(b:Nat) (acc:List Nat),(if acc.contains b then acc else
     match(gO o)[b]? with
     |some (.cells f _ _ c)=>if c then acc++[b] else cJ (gO o) d f (acc++[b])
     |some (.map j _ c)=>if c then acc++[b] else cJ (gO o) d (j.map (·.2)) (acc++[b])
     |_=>acc++[b])=(if acc.contains b then acc else
     match o[b]? with
     |some (.cells f _ _ c)=>if c then acc++[b] else pS o d f (acc++[b])
     |_=>acc++[b]):=by
    intro b acc;rw[Hn];cases i:o[b]? with
    |none=>rfl;|some x=>
     cases x with
     |oQ s l e t=>
      have:=Ξ.1 h _ (List.mem_of_getElem? i);grind[bq.C7];|dead=>rfl;|cells f e r c=>grind[bq.g];|row s l e c=>simp only[γm,bq.g,zL (λa n=>ny n),ite_self];|map p u q j w c=>simp only[γm,bq.g,P5 (ZN HS),ite_self]
   simp only[gL,cJ,pS];rw[k];congr 1;cases v<;>simp only[γG,k]<;>exact m _ _
def HU (C:FuncId->List SV->bW->(SV->bW->Prop)->Prop) (f:FuncId) (args:List SV) (o:bW) (K:SV->bW->Prop):Prop:=
 if o.all bq.C7=false then False else
 let a:=pS o fD args [];match rK (λj=>idxOf a j) args,xA o a a with
 |some c,some d=>C f c d λr b=>
   if b.length<a.length\/iH.pF a=false then False else
   match r.ren (oN a o.length),zK (oN a o.length) b with
   |some g,some e=>K g (xB o a (e.take a.length)++e.drop a.length)
   |_,_=>False
 |_,_=>False
theorem ZO {call:cV} {C:FuncId->List SV->bW->(SV->bW->Prop)->Prop}
  (n:∀f args o K,C f args o K->∃(r:SV) (o':bW),call f (gL args) (gO o) true=some (r.g,gO o')/\K r o')
  {f:FuncId} {args:List SV} {o:bW} {K:SV->bW->Prop} (h:HU C f args o K):
  ∃(r:SV) (o':bW),iH call f (gL args) (gO o)=some (r.g,gO o')/\K r o':=by
 unfold HU at h;split at h;·exact h.elim
 rename_i a;simp only[ζf] at a;simp only at h;split at h
 ·rename_i d e i l;obtain⟨r,c,j,b⟩:=n _ _ _ _ h;split at b;·exact b.elim
  ·rename_i p;split at b
   ·rename_i k q m s;refine⟨k,_,?_,b⟩;unfold iH;simp only[P6 a];rw[vI i,HT l];simp only[j,oh];rw[if_neg p,HQ m,P3 s];simp only[PO,P4];simp[gO]
   simp_all
 simp_all
section
variable {P:Program} {T:Tab} {p:iM} {Λ:Nat->cB}
theorem ZP (A:kC P T) (y:pQ T.K p.C) (w:∀f F,p.it f=some F->T.fn f=some F) {f:FuncId} {F:fj} (u:T.fn f=some F) {args:List SV} {o:bW} {r:AV} {o':Store} (G:T.K f (gL args) (gO o) true=none) (n:args.length=F.params)
  {Q:SV->bW->Prop} (m:∀v s,Q v s->v.g=r/\gO s=o') (h:vx p Λ F args o Q):gQ P f=true/\lA P f (gL args) (gO o) r o':=by
 unfold vx at h;have i:=vE y w h;have e:(cq.mk (nA 0 args) o).g=⟨ic 0 (gL args),gO o⟩:=by simp[cq.g,vF]
 rw[e] at i;have j:(gO o).length=o.length:=oh o;rw[<-j] at i;have E:∀(a:cq),(od a F.res λv=>if v.bY (gO o).length&&a.o.all (λx=>x.bY (gO o).length)&&decide ((gO o).length<=a.o.length) then Q v (a.o.take (gO o).length) else False)->
   (nW a.g F.res).bind (λl=>finish true (gO o).length l a.g.o)=some (r,o'):=by
  intro a t;obtain⟨l,k,b⟩:=xw t;rw[k];simp only[δQ,finish,if_true];split at b
  ·rename_i q;simp only[ζ,decide_eq_true_eq,Ξ] at q;obtain⟨⟨z,D⟩,B⟩:=q;have d:∀x∈a.g.o,x.bY (gO o).length=true:=by
    grind[cq.g,gO,CU]
   rw[PL (by grind[zD]) d (by grind[cq.g,oh])];rw[<-(m _ _ b).1,<-(m _ _ b).2];simp_all[cq.g,gO]
  ·exact b.elim
 obtain⟨k,b,_⟩:=Cm A u (o:=gO o) (own:=true) G (by grind[jJ]) (v:=r) (o':=o') (i.mono λc s H=>by
  obtain⟨a,rfl,t⟩:=H;cases c<;>grind);simp_all
end
structure cZ where
 f:FuncId
 α:Type
 put:α->List SV
 st:α->bW
 dec:List SV->bW->Option α
 ok:∀v o a,dec v o=some a->gL v=gL (put a)/\gO o=gO (st a)
 inj:∀a b,gL (put a)=gL (put b)->gO (st a)=gO (st b)->a=b
 dom:α->Prop
 res:α->SV
 out:α->bW
def dK (P:Program) (c:cZ):Prop:=∀a,c.dom a->gQ P c.f=true/\lA P c.f (gL (c.put a)) (gO (c.st a)) (c.res a).g (gO (c.out a))
def k9 (f:FuncId):List cZ->Option cZ
 |[]=>none
 |c::r=>bif δx c.f f then some c else k9 f r
theorem P7:∀{L:List cZ} {f:FuncId} {c:cZ},k9 f L=some c->c.f=f/\c∈L
 |[],_,_,h=>by cases h;|d::L,f,c,h=>by
  simp only[k9] at h;cases a:δx d.f f with
  |true=>
   simp_all;|false=>
   rw[a] at h;simp only[cond_false] at h;obtain⟨b,e⟩:=P7 h;simp_all
def P8 (W:List cZ) (f:FuncId) (args:List SV) (o:bW) (K:SV->bW->Prop):Prop:=
 match k9 f W with
 |some c=>iN (c.dec args o) λa=>c.dom a/\K (c.res a) (c.out a)
 |none=>False
open Classical in
noncomputable def uf (W:List cZ) (f:FuncId) (args:List AV) (o:Store):Option (AV×Store):=
 match k9 f W with
 |some c=>if h:∃a,args=gL (c.put a)/\o=gO (c.st a)/\c.dom a then some ((c.res (δS h)).g,gO (c.out (δS h))) else none
 |none=>none
noncomputable def fU (W:List cZ):mR:=⟨uf W,λf a o K=>HU (P8 W) f a o K⟩
theorem lg {P:Program} {W:List cZ} (u:∀c∈W,dK P c):pR P (fU W) where
 K:=λf d o r w h=>by
  simp only[fU,uf] at h;split at h
  ·rename_i c k;obtain⟨rfl,v⟩:=P7 k;split at h
   ·rename_i e;simp only[γ,μ] at h;generalize t:δS e=b at h;have n:=εd e;rw[t] at n;obtain⟨p,s,l⟩:=n;obtain⟨j,m⟩:=u c v _ l;simp_all
   ·cases h
  ·cases h
 C:=λq g f d o K h=>by
  refine ZO ?_ h;intro f d o K i;simp only[P8] at i;split at i
  ·rename_i c k;obtain⟨a,p,s,l⟩:=iV i;refine⟨_,_,?_,l⟩;rw[g];obtain⟨j,m⟩:=c.ok _ _ _ p;have e:∃b,gL d=gL (c.put b)/\gO o=gO (c.st b)/\c.dom b:=⟨a,j,m,s⟩;simp only[fU,uf,k,dif_pos e];have:δS e=a:=c.inj _ _ ((εd e).1.symm.trans j) ((εd e).2.1.symm.trans m);rw[this]
  simp_all
theorem C9 {P:Program} {i:FuncId->Option fj} {L:List bL} {W:List cZ} (c:cZ) {F:fj} {m:TypeId->Option bk} {j:List Nat×Bool->Option (bk×bk)} {Λ:c.α->Nat->cB}
  (q:kC P ⟨i,λ_ _ _ _=>none⟩) (k:∀c∈W,dK P c) (r:∀c∈L,Holds P c)
  (n:i c.f=some F) (e:∀a,(c.put a).length=F.params)
  (a:c.α) (o:∀d,k9 c.f W=some d->∀b,gL (c.put a)=gL (d.put b)->gO (c.st a)=gO (d.st b)->¬d.dom b)
  (h:vx (lZ L (fU W) m j i) (Λ a) F (c.put a) (c.st a) λv s=>v.same (c.res a)/\jk s (c.out a)):
  gQ P c.f=true/\lA P c.f (gL (c.put a)) (gO (c.st a)) (c.res a).g (gO (c.out a)):=by
 refine ZP (p:=lZ L (fU W) m j i) (Λ:=Λ a) (Q:=λv s=>v.same (c.res a)/\jk s (c.out a)) (ua (lg k) r q) (ub (lg k)) (λ_ _ h=>h) n ?_ (e a) (λv s l=>⟨l.1,xu l.2⟩) ?_
 ·simp only[qG,sJ,if_true,fU,uf];grind
 ·exact h
mutual
def lh (o:bW) (k:Nat):SV->(SV->Prop)->Prop
 | .ow id n sz,K=>if k<=id then(match o[id]? with
   |some (.row s l _ true)=>if sz=s.sz then n=l.length/\K (.row s l) else False
   |some (.row _ _ _ false)=>K (.ow id n sz)
   |_=>False) else K (.ow id n sz)
 | .ptr id f t,K=>if k<=id then(match o[id]? with
   |some (.cells _ _ _ false)=>K (.ptr id f t)
   |_=>False) else K (.ptr id f t)
 | .agg cs,K=>sL o k cs λcs'=>K (.agg cs')
 | .bH cs,K=>sL o k cs λcs'=>K (.bH cs')
 | .ud,K=>K .ud
 | .sc v,K=>K (.sc v)
 | .il q n,K=>K (.il q n)
 | .si q n,K=>K (.si q n)
 | .bl b,K=>K (.bl b)
 | .sb b,K=>K (.sb b)
 | .row s l,K=>K (.row s l)
 | .mp i,K=>K (.mp i)
 | .ia t cs,K=>K (.ia t cs)
 | .fn f a b,K=>sL o k a λa'=>sL o k b λb'=>K (.fn f a' b')
 |_,_=>False
def sL (o:bW) (k:Nat):List SV->(List SV->Prop)->Prop
 |[],K=>K []
 |c::cs,K=>lh o k c λc'=>sL o k cs λcs'=>K (c'::cs')
end
section
variable {o:bW} {k:Nat}
mutual
theorem HV:∀{v:SV} {K:SV->Prop},lh o k v K->∃v':SV,v.g.bT (gO o) (λi=>decide (k<=i))=some v'.g/\K v'
 | .ow id n sz,K,h=>by
  simp only[lh] at h;split at h
  ·rename_i hk;split at h
   ·rename_i s l e ho;split at h
    ·rename_i hsz;subst hsz;obtain⟨rfl,h⟩:=h;refine⟨_,?_,h⟩;have htk:γa (l.length*s.sz) (cC s l)=cC s l:=List.take_of_length_le (by rw[ft];omega);simp only[γG,AV.bT,hk,decide_true,if_true,fF ho,bq.g,ft,Nat.zero_add,Nat.le_refl,and_self,List.drop_zero,htk]
    ·exact h.elim
   ·rename_i s l e ho;refine⟨_,?_,h⟩;simp only[γG,AV.bT,hk,decide_true,if_true,fF ho,bq.g,χ,if_false]
   ·exact h.elim
  ·rename_i hk;refine⟨_,?_,h⟩;simp only[γG,AV.bT,decide_eq_true_eq,if_neg hk];| .ptr id f t,K,h=>by
  simp only[lh] at h;split at h
  ·rename_i hk;split at h
   ·rename_i cs e sz ho;refine⟨_,?_,h⟩;simp only[γG,AV.bT,hk,decide_true,if_true,fF ho,bq.g,χ,if_false]
   ·exact h.elim
  ·rename_i hk;refine⟨_,?_,h⟩;simp only[γG,AV.bT,decide_eq_true_eq,if_neg hk];| .agg cs,K,h=>by
  simp only[lh] at h;obtain⟨cs',h1,h2⟩:=xC h;exact⟨_,by simp only[γG,AV.bT,h1,γm],h2⟩;| .bH cs,K,h=>by
  simp only[lh] at h;obtain⟨cs',h1,h2⟩:=xC h;exact⟨_,by simp only[γG,AV.bT,h1,γm],h2⟩;| .ud,K,h=>⟨.ud,by simp only[γG,AV.bT],by simpa only[lh] using h⟩
 | .sc v,K,h=>⟨.sc v,by simp only[γG,AV.bT],by simpa only[lh] using h⟩
 | .il k n,K,h=>⟨.il k n,by simp only[γG,AV.bT],by simpa only[lh] using h⟩
 | .si k n,K,h=>⟨.si k n,by simp only[γG,AV.bT],by simpa only[lh] using h⟩
 | .bl b,K,h=>⟨.bl b,by simp only[γG,AV.bT],by simpa only[lh] using h⟩
 | .sb b,K,h=>⟨.sb b,by simp only[γG,AV.bT],by simpa only[lh] using h⟩
 | .row s l,K,h=>⟨.row s l,by simp only[γG,AV.bT],by simpa only[lh] using h⟩
 | .mp i,K,h=>⟨.mp i,by simp only[γG,AV.bT],by simpa only[lh] using h⟩
 | .ia t cs,K,h=>⟨.ia t cs,by simp only[γG,AV.bT],by simpa only[lh] using h⟩
 | .fn f a b,K,h=>by
  simp only[lh] at h;obtain⟨a',h1,h2⟩:=xC h;obtain⟨b',h3,h4⟩:=xC h2;exact⟨_,by simp only[γG,AV.bT,h1,h3],h4⟩;| .ep ..,K,h| .ap ..,K,h| .rp ..,K,h| .os ..,K,h| .oc ..,K,h| .ite ..,K,h=>by simp only[lh] at h
theorem xC:∀{cs:List SV} {K:List SV->Prop},sL o k cs K->∃cs':List SV,gP (gO o) (λi=>decide (k<=i)) (gL cs)=some (gL cs')/\K cs'
 |[],K,h=>⟨[],by simp[gL,gP],by simpa only[sL] using h⟩
 |c::cs,K,h=>by
  simp only[sL] at h;obtain⟨c',h1,h2⟩:=HV h;obtain⟨cs',h3,h4⟩:=xC h2;exact⟨c'::cs',by simp only[gL,gP,h1,h3],h4⟩
end
def o6 (o:bW) (k:Nat):Nat->bW->(bW->Prop)->Prop
 |_,[],K=>K []
 |i,x::r,K=>match x with
  | .cells f e m false=>sL o k f λc=>o6 o k (i+1) r λa=>K (.cells c e m false::a)
  | .row s l e b=>o6 o k (i+1) r λa=>K ((if b&&decide (k<=i) then .dead else .row s l e b)::a)
  | .map g n d j h b=>o6 o k (i+1) r λa=>K (.map g n d j h b::a)
  | .dead=>o6 o k (i+1) r λa=>K (.dead::a)
  |_=>False
theorem xE:∀{i:Nat} {r:bW} {K:bW->Prop},o6 o k i r K->∃r' mid,jh (gO o) (λi=>decide (k<=i)) (gO r)=some mid/\fE (λi=>decide (k<=i)) i mid=gO r'/\K r'
 |i,[],K,h=>⟨[],[],rfl,rfl,h⟩
 |i,x::r,K,h=>by
  cases x with
  |dead=>
   simp only[o6] at h;obtain⟨r',mid,m,b,e⟩:=xE h;grind[gO,bq.g,jh,bP.bT,fE];|cells A c z a=>
   cases a with
   |true=>grind[o6];|false=>
    simp only[o6] at h;obtain⟨j,y,f⟩:=xC h;obtain⟨r',mid,m,b,e⟩:=xE f;refine⟨_,.cells (gL j) c z false::mid,?_,?_,e⟩;all_goals simp_all[gO,bq.g,jh,bP.bT,fE]
  |oQ s l c t=>grind[o6];|row s l c a=>
   simp only[o6] at h;obtain⟨r',mid,m,b,e⟩:=xE h;refine⟨_,(bq.row s l c a).g::mid,?_,?_,e⟩
   ·have d:(bq.row s l c a).g.bT (gO o) (λi=>decide (k<=i))=some (bq.row s l c a).g:=by
     cases a with
     |true=>simp only[bq.g,bP.bT,if_true];|false=>
      simp only[bq.g,bP.bT,χ,if_false];grind[C2,ny]
    grind[gO,jh]
   ·cases a with
    |true=>
     simp only[bq.g,fE,Bool.true_and];by_cases n:k<=i
     ·simp only[n,decide_true,if_true];rw[b];rfl
     ·simp only[n,decide_false,χ,if_false];rw[b];rfl;|false=>simp only[bq.g,fE,Bool.false_and,χ,if_false];rw[b];rfl
  |map u p q w v a=>
   simp only[o6] at h;obtain⟨r',mid,m,b,e⟩:=xE h;have d:(bq.map u p q w v a).g.bT (gO o) (λi=>decide (k<=i))=some (bq.map u p q w v a).g:=by
    cases a with
    |true=>simp only[bq.g,bP.bT,if_true];|false=>
     simp only[bq.g,bP.bT,χ,if_false];rw[HJ HS,γm]
   grind[gO,jh,bq.g,fE]
end
def Da (r:SV) (o:bW) (K:SV->bW->Prop):Prop:=
 lh o 0 r λc=>o6 o 0 0 o λb=>
  if b.all bq.C7=false then False else
  let a:=pS b fD [c] [];if iH.pF a then match c.ren (λj=>idxOf a j),xA b a a with
   |some e,some d=>K e d
   |_,_=>False
  else False
theorem ZQ {r:SV} {o:bW} {K:SV->bW->Prop} (h:Da r o K):∃r' o',lQ 0 r.g (gO o)=some (r'.g,gO o')/\K r' o':=by
 unfold Da at h;obtain⟨m,n,k⟩:=HV h;obtain⟨c,i,e,f,a⟩:=xE k;split at a;·exact a.elim
 rename_i b;simp only[ζf] at b;simp only at a;split at a
 ·rename_i t;split at a
  ·rename_i j l p q;refine⟨j,l,?_,a⟩;unfold lQ;rw[n,e];simp only[f,List.take_zero,List.flatMap_nil,List.range_zero];have s:=P6 (o:=c) b (d:=fD) (vs:=[m]) (acc:=[]);simp_all[gL,HQ,HT]
  simp_all
 simp_all
def HW (p:iM) (Λ:Nat->cB) (F:fj) (args:List SV) (Q:SV->bW->Prop):Prop:=
 wpS p 0 F.body Λ ⟨nA 0 args,[]⟩ λa b=>match a with
  | .exit _=>False
  | .goto _=>False
  |_=>od b F.res λr=>Da r b.o Q
theorem ZR {P:Program} {T:Tab} {p:iM} {Λ:Nat->cB} (y:kC P T) (t:pQ T.K p.C) (x:∀f F,p.it f=some F->T.fn f=some F) {f:FuncId} {F:fj} (m:T.fn f=some F) {args:List SV} {r:AV} {o':Store} (A:T.K f (gL args) [] true=none) (j:args.length=F.params)
  {Q:SV->bW->Prop} (D:∀v s,Q v s->v.g=r/\gO s=o') (h:HW p Λ F args Q):gQ P f=true/\lA P f (gL args) [] r o':=by
 unfold HW at h;have k:=vE t x h;have b:(cq.mk (nA 0 args) []).g=⟨ic 0 (gL args),[]⟩:=by simp[cq.g,vF,gO]
 rw[b] at k;have n:∀(a:cq),(od a F.res λv=>Da v a.o Q)->(nW a.g F.res).bind (λc=>finish true 0 c a.g.o)=some (r,o'):=by
  intro a l;obtain⟨c,e,i⟩:=xw l;obtain⟨u,q,w,B⟩:=ZQ i;rw[e];simp only[δQ,finish,if_true];have:lQ 0 c.g a.g.o=some (u.g,gO q):=w;grind
 obtain⟨e,i,_⟩:=Cm y m (o:=[]) (own:=true) A (by grind[jJ]) (v:=r) (o':=o') (k.mono λd s z=>by
  obtain⟨a,rfl,l⟩:=z;cases d<;>simp_all);simp_all
theorem ZS {W:List cZ} {f:FuncId} {args:List AV} {o:Store} (h:k9 f W=none):uf W f args o=none:=by
 grind[uf]
open Go.Proofs.YtjcmncmajmoiiaaGreat.Ir
open Go.Proofs
def Db (f:Nat):List (Nat×List RH)->Option (List RH)
 |[]=>none
 |e::r=>bif δx e.1 f then some e.2 else Db f r
noncomputable def gB (f:FuncId):Option fj:=
 match Db f Nn with
 |none=>none
 |some H=>match Tryz.prog.funcs[f]? with
  |none=>none
  |some g=>BQ Tryz.prog H g
noncomputable def fG (f:FuncId):fj:=(gB f).getD ⟨0,0,.skip,[]⟩
theorem vJ {f:FuncId} (h:(gB f).isSome=true):gB f=some (fG f):=by
 unfold fG;cases q:gB f<;>simp_all
theorem P9 {f:Nat} {H:List RH} {p:Nat->Bool}:∀{l:List (Nat×List RH)},Db f l=some H->(l.all λe=>p e.1)=true->p f=true
 |[],h,_=>by cases h;|e::r,h,k=>by
  simp only[Db] at h;simp only[List.all_cons,ζ] at k;cases q:δx e.1 f with
  |true=>simp_all;|false=>rw[q] at h;exact P9 h k.2
theorem ZT:(Nn.all λe=>gQ Tryz.prog e.1)=true:=by kernel_rfl
theorem pT:kC Tryz.prog ⟨gB,λ_ _ _ _=>none⟩ where
 fn:=λf F h=>by
  simp only[gB] at h;split at h;·cases h
  ·rename_i H q;split at h;·cases h
   ·rename_i g r;exact⟨g,H,r,h,P9 (p:=gQ Tryz.prog) q ZT⟩
 K:=λ_ _ _ _ _ _ h=>by cases h
def lk {a:Type}:a->Nat->cB:=λ_ _=> .look
structure Vc (A:Prop):Prop where
 out:A
theorem bN {A:Prop} (B:Prop) (h:B=A) (a:B):Vc A:=⟨h▸a⟩
theorem con {L:List bL} {W:mR} (c:bL) (Λ:c.α->Nat->cB) (hW:pR Tryz.prog W) (hL:∀c∈L,Holds Tryz.prog c)
  
  (h:∀a,c.dom a->Vc (sG (lZ L W oY oZ gB) (Λ a) (fG c.f) (c.A.put a) λv=>v.rH (c.res a))) (hF:(gB c.f).isSome=true:=by kernel_rfl) (hfr:oW c.f L=none:=by kernel_rfl) (hlen:∀a,(c.A.put a).length=(fG c.f).params:=by intro _;kernel_rfl):Holds Tryz.prog c:=
 holds_of c pT hW hL (vJ hF) hfr hlen λa ha=>(h a ha).out
theorem cF {L:List bL} (c:bL) (Λ:c.α->Nat->cB) (hL:∀c∈L,Holds Tryz.prog c) (h:∀a,c.dom a->Vc (sG (lZ L mR.none oY oZ gB) (Λ a) (fG c.f) (c.A.put a) λv=>v.rH (c.res a)))
  (hF:(gB c.f).isSome=true:=by kernel_rfl) (hfr:oW c.f L=none:=by kernel_rfl) (hlen:∀a,(c.A.put a).length=(fG c.f).params:=by intro _;kernel_rfl):Holds Tryz.prog c:=con c Λ (pR.none _) hL h hF hfr hlen
theorem ZU {L:List bL} {W:mR} (c:bL) (ro:FuncId->Bool) (Λ:c.α->Nat->cB) (hW:pR Tryz.prog W) (hL:∀c∈L,Holds Tryz.prog c)
  
  (h:∀a,c.dom a->Vc (sG (HN L W oY oZ gB ro) (Λ a) (fG c.f) (c.A.put a) λv=>v.rH (c.res a))) (hF:(gB c.f).isSome=true:=by kernel_rfl) (hfr:oW c.f L=none:=by kernel_rfl) (hlen:∀a,(c.A.put a).length=(fG c.f).params:=by intro _;kernel_rfl):Holds Tryz.prog c:=
 ZM c pT hW hL (vJ hF) hfr hlen λa ha=>(h a ha).out
theorem jm {L:List bL} {W:List cZ} (c:cZ) (Λ:c.α->Nat->cB) (i:∀c∈W,dK Tryz.prog c) (e:∀c∈L,Holds Tryz.prog c)
  
  (h:∀a,c.dom a->Vc (vx (lZ L (fU W) oY oZ gB) (Λ a) (fG c.f) (c.put a) (c.st a) λv s=>v.same (c.res a)/\jk s (c.out a))) (g:(gB c.f).isSome=true:=by kernel_rfl) (b:∀a,(c.put a).length=(fG c.f).params:=by intro _;kernel_rfl) (k:k9 c.f W=none:=by kernel_rfl):dK Tryz.prog c:=
 λa j=>C9 c pT i e (vJ g) b a (λd l=>by simp_all) (h a j).out
theorem ZV {L:List bL} {W:List cZ} (c:cZ) (F:fj) (Λ:c.α->Nat->cB) (hW:∀c∈W,dK Tryz.prog c) (hL:∀c∈L,Holds Tryz.prog c)
  
  (h:∀a,c.dom a->Vc (vx (lZ L (fU W) oY oZ gB) (Λ a) F (c.put a) (c.st a) λv s=>v.same (c.res a)/\jk s (c.out a))) (hF:gB c.f=some F:=by kernel_rfl) (hlen:∀a,(c.put a).length=F.params:=by intro _;kernel_rfl) (hfr:k9 c.f W=none:=by kernel_rfl):dK Tryz.prog c:=
 λa ha=>C9 c pT hW hL hF hlen a (λd hd=>by rw[hfr] at hd;cases hd) (h a ha).out
theorem zM {L:List bL} {W:List cZ} (c:cZ) (g:Nat->Option (Nat×Nat×Nat)) (Λ:c.α->Nat->cB) (i:∀c∈W,dK Tryz.prog c) (j:∀c∈L,Holds Tryz.prog c)
  
  (h:∀a,c.dom a->Vc (HW ⟨⟨vG L,(fU W).C⟩,oY,oZ,g,λ_=>none,λ_=>false⟩ (Λ a) (fG c.f) (c.put a) λv s=>v.same (c.res a)/\jk s (c.out a))) (l:(gB c.f).isSome=true:=by kernel_rfl) (b:∀a,(c.put a).length=(fG c.f).params:=by intro _;kernel_rfl) (d:∀a,c.st a=[]:=by intro _;rfl) (k:k9 c.f W=none:=by kernel_rfl):dK Tryz.prog c:=
 λa m=>by
  rw[d a];refine ZR (p:=⟨⟨vG L,(fU W).C⟩,oY,oZ,g,λ_=>none,λ_=>false⟩) (Λ:=Λ a) (Q:=λv s=>v.same (c.res a)/\jk s (c.out a)) (ua (lg i) j pT) (ub (lg i)) (λ_ _ h=>by cases h) (vJ l) ?_ (b a) (λv s e=>⟨e.1,xu e.2⟩) (h a m).out;simp_all[qG,sJ,fU,ZS]
open Go.ChangeShapes Go.WideShapes Go.RowKit
abbrev nC:dL:=⟨λ_=>False,0⟩
instance (s:bk):Inhabited s.T:=⟨s.dflt⟩
theorem ZW (b:Nat):Fr nC [] b:=⟨by rintro⟨i,c,h⟩;simp at h,λh=>h⟩
theorem Qa {A:dL} {w:World} {σ:bX} {o:Store}:∀{vs:List Value},(∀v∈vs,v.oneCell'=true)->bE A w σ o (vs.map .sc) vs
 |[],_=>by simp[bE];|v::vs,h=>by
  simp only[ι,bE];exact⟨v,vs,rfl,by grind[bw],Qa λu a=>h u (by simp[a])⟩
theorem Qb {A:dL} {w:World} {σ:bX} {o:Store}:∀{a b:List AV} {x:Option Addr} {j:Nat},dA A w σ o a x j->dA A w σ o b x (j+a.length)->dA A w σ o (a++b) x j
 |[],b,x,j,_,h=>by simpa using h;|c::a,b,x,j,h,k=>by
  simp only[List.cons_append,dA] at h ⊢;refine⟨h.1,Qb h.2 ?_⟩;grind
def Reads (P:Program) (t:TypeId) (s:bk):Prop:=
 ∀(H:Type) (e:TypeId×Value->H) (w:World) (d:Nat) (a:Nat->Bool) (c:Bool) (b:Nat) (f:List Value) (x:DataW H×List MemPlace),DataW.trod e P w d a c b t f=some x->∃y:s.T,f=dJ s y
theorem ZX {P:Program} {t:TypeId} {k:IntKind} (a:P.underlying t=some (.int k)):Reads P t (.i k):=λ_ _ _ _ _ _ _ b _ h=>by
 obtain⟨n,rfl,_,_⟩:=DataW.trod_int a h;exact⟨n,rfl⟩
theorem ZY {w:World} {base n:Nat} {a:Addr} {cs:List Value} (h:w.cells? base a n=some cs):cs.length=n/\∀i v,cs[i]?=some v->w.cell? (a.add i)=some v:=by
 unfold World.cells? at h;split at h
 ·obtain⟨c,f⟩:=B5 h;simp only[ζh] at c;refine⟨c,λi v d=>?_⟩;have j:=(List.getElem?_eq_some_iff.1 d).1;obtain⟨b,g,e⟩:=f i i (by simp_all);simp_all
 ·cases h
def Dc (P:Program) (t:TypeId) (s:bk):Prop:=
 ∀(H:Type) (d:TypeId×Value->H) (w:World) (a:Nat->Bool) (c:Bool) (b:Nat) (e:List Value) (x:DataW H×List MemPlace),DataW.trod d P w 0 a c b t e=some x->∃y:s.T,bE nC w [] [] (dN s y) e
theorem Reads.g {P:Program} {t:TypeId} {s:bk} (h:Reads P t s) (i:s.flat=true:=by rfl):Dc P t s:=λH d w a c b e x f=>by
 obtain⟨y,rfl⟩:=h H d w 0 a c b e x f;exact⟨y,by grind[CB,Qa,CG]⟩
theorem Qc {w:World} {a:Addr}:∀{cs:List AV} {vs:List Value} {j:Nat},bE nC w [] [] cs vs->(∀i v,vs[i]?=some v->w.cell? (a.add (j+i))=some v)->dA nC w [] [] cs (some a) j
 |[],_,_,_,_=>by simp[dA];|c::cs,vs,j,b,d=>by
  simp only[bE] at b;obtain⟨v,r,rfl,e,f⟩:=b;simp only[dA];refine⟨⟨a,v,rfl,ZW _,by simpa using d 0 v (by simp),e⟩,Qc f λi u g=>?_⟩;have:=d (i+1) u (by simp_all);grind
theorem Qd {w:World} {a:Addr} {s:bk}:∀{l:List s.T} {i0:Nat},(∀i y,l[i]?=some y->∃cs,w.cells? 0 (a.add ((i0+i)*s.sz)) s.sz=some cs/\bE nC w [] [] (dN s y) cs)->dA nC w [] [] (cC s l) (some a) (i0*s.sz)
 |[],_,_=>by simp[cC,dA];|y::l,i0,h=>by
  obtain⟨cs,b,c⟩:=h 0 y (by simp);rw[Nat.add_zero] at b;obtain⟨d,g⟩:=ZY b;have e:cC s (y::l)=dN s y++cC s l:=by simp[cC]
  rw[e];refine Qb (Qc c λi v j=>?_) ?_;·grind[add_add]
  ·rw[lY,show i0*s.sz+s.sz=(i0+1)*s.sz from by grind];refine Qd λi z f=>?_;have:=h (i+1) z (by simp_all);grind
theorem ZZ {P:Program} {t e:TypeId} {s:bk} (A:P.underlying t=some (.slice e)) (r:Dc P e s) (I:P.cellsOf e=s.sz)
  {H:Type} {enc:TypeId×Value->H} {w:World} {c:Nat->Bool} {j:Bool} {d:Nat} {cs:List Value} {x:DataW H×List MemPlace} (h:DataW.trod enc P w 0 c j d t cs=some x):
  ∃(v:Value) (l:List s.T),cs=[v]/\bw nC w [] [] (Φ s l).g v:=by
 rcases Go.Deep.open_slice A h with⟨rfl,_⟩|⟨a,b,k,m,n,D,F,rfl,M,z,L,o,_,q⟩;·exact⟨_,[],rfl,by grind[γG,bw,cC,dr,dA]⟩
 ·have B:b<=m:=by grind
  have C:∀i,i<b->∃y:s.T,∃cs,w.cells? 0 (a.add (i*s.sz)) s.sz=some cs/\bE nC w [] [] (dN s y) cs:=λi J=>by
   obtain⟨p,K,E⟩:=q i (by omega);obtain⟨y,u⟩:=r _ _ _ _ _ _ _ _ E;grind
  obtain⟨f,G⟩:=Go.Deep.choose_lt C;refine⟨_,(π b).map f,rfl,?_⟩;simp only[γG,bw,List.length_map,ζh];refine⟨some a,k,rfl,z,qD _ _,?_⟩;have:=Qd (w:=w) (a:=a) (s:=s) (l:=(π b).map f) (i0:=0) (λi y u=>by
   grind);simp_all
theorem Qe {P:Program} {t e:TypeId} {s:bk} (i:P.underlying t=some (.slice e)) (f:Reads P e s) (j:P.cellsOf e=s.sz)
  {H:Type} {enc:TypeId×Value->H} {w:World} {a:Nat->Bool} {c:Bool} {b:Nat} {cs:List Value} {x:DataW H×List MemPlace} (h:DataW.trod enc P w 0 a c b t cs=some x) (d:s.flat=true:=by rfl):
  ∃(v:Value) (l:List s.T),cs=[v]/\bw nC w [] [] (Φ s l).g v:=ZZ i (f.g d) j h
theorem Z1 {cs:List Value} {i:Nat} {v:Value} (h:(cs.drop i).take 1=[v]):cs[i]?=some v:=by
 have:((cs.drop i).take 1)[0]?=some v:=by rw[h];rfl
 grind
theorem Z2 {P:Program} {t e:TypeId} (s:P.underlying t=some (.array 6 e)) (F:P.underlying e=some (.int .i64)) (H:P.cellsOf e=1) (l:P.cellsOf t=6):Reads P t .eD:=λ_ _ _ _ _ _ _ c _ h=>by
 obtain⟨z,m,_,_,b,v,D⟩:=DataW.trod_array s h;have a:∀i,i<6->∃n,c[i]?=some (.int .i64 n):=λi w=>by
  grind[DataW.trod_int,Z1]
 rw[l] at b;match c,b,a with
 |[C,A,I,G,B,E],_,a=>
  obtain⟨o,y⟩:=a 0 (by omega);obtain⟨x,d⟩:=a 1 (by omega);obtain⟨p,u⟩:=a 2 (by omega);obtain⟨j,r⟩:=a 3 (by omega);obtain⟨k,f⟩:=a 4 (by omega);obtain⟨q,g⟩:=a 5 (by omega);simp only[List.getElem?_cons_zero,List.getElem?_cons_succ,γ] at y d u r f g;exact⟨⟨o,x,p,j,k,q⟩,by grind[dJ,iv]⟩
theorem Z3 {P:Program} {t b i v:TypeId} {fs:Array Field} (w:P.underlying t=some (.struct fs)) (r:P.cellsOf t=8) (N:(fs[0]?).map (λf=>(f.type,f.offset))=some (i,0)) (O:(fs[1]?).map (λf=>(f.type,f.offset))=some (b,1)) (u:(fs[2]?).map (λf=>(f.type,f.offset))=some (v,7))
  (x:P.underlying i=some (.int .i64)) (e:P.cellsOf i=1) (q:P.underlying v=some (.int .i64)) (k:P.cellsOf v=1) (z:Reads P b .eD) (d:P.cellsOf b=6) (I:fs.size=3):Reads P t .off:=λ_ _ _ _ _ _ _ B _ h=>by
 obtain⟨T,m,_,_,n,K,j⟩:=DataW.trod_struct w h;rw[r] at n;obtain⟨F,C,g⟩:=δ.1 N;obtain⟨s,D,c⟩:=δ.1 O;obtain⟨J,A,a⟩:=δ.1 u;simp only[μ] at g c a;have o:=j 0 F C;have l:=j 1 s D;have p:=j 2 J A;rw[g.1,g.2,e,ν (by omega)] at o;rw[c.1,c.2,d,ν (by omega)] at l;rw[a.1,a.2,k,ν (by omega)] at p;obtain⟨G,M,_⟩:=DataW.trod_int x o;obtain⟨y,E⟩:=z _ _ _ _ _ _ _ _ _ l;obtain⟨H,L,_⟩:=DataW.trod_int q p;match B,n with
 |[S,U,R,V,Y,X,Q,W],_=>
  simp[dJ] at M E L;exact⟨⟨G,y,H⟩,by grind[dJ,iv]⟩
theorem Z4 {P:Program} {t b k o:TypeId} {fs:Array Field} (ht:P.underlying t=some (.struct fs)) (hn:P.cellsOf t=20) (a7:fs.size=5)
  (h0:(fs[0]?).map (λf=>(f.type,f.offset))=some (b,0)) (h1:(fs[1]?).map (λf=>(f.type,f.offset))=some (b,6)) (h2:(fs[2]?).map (λf=>(f.type,f.offset))=some (b,12))
  (U:(fs[3]?).map (λf=>(f.type,f.offset))=some (k,18)) (h4:(fs[4]?).map (λf=>(f.type,f.offset))=some (o,19))
  (s:Reads P b .eD) (d:P.cellsOf b=6) {e:TypeId} (hk:P.underlying k=some (.slice e)) (z:Reads P e (.i .i64)) (A:P.cellsOf e=1) (y:P.cellsOf k=1)
  {f:TypeId} (ho:P.underlying o=some (.slice f)) (F:Reads P f .off) (u:P.cellsOf f=8) (v:P.cellsOf o=1)
  {H:Type} {enc:TypeId×Value->H} {w:World} {c:Nat->Bool} {q:Bool} {j:Nat} {cs:List Value} {x:DataW H×List MemPlace} (h:DataW.trod enc P w 0 c q j t cs=some x):
  ∃p:bp,bE nC w [] [] (gL p.ss) cs:=by
 obtain⟨xs,m,_,_,O,a1,l⟩:=DataW.trod_struct ht h;rw[hn] at O;obtain⟨f0,e0,E⟩:=δ.1 h0;obtain⟨f1,e1,D⟩:=δ.1 h1;obtain⟨Z,e2,r⟩:=δ.1 h2;obtain⟨f3,T,B⟩:=δ.1 U;obtain⟨f4,e4,C⟩:=δ.1 h4;simp only[μ] at E D r B C;have S:=l 0 f0 e0;have I:=l 1 f1 e1;have R:=l 2 Z e2;have J:=l 3 f3 T;have M:=l 4 f4 e4;rw[E.1,E.2,d,ν (by omega)] at S;rw[D.1,D.2,d,ν (by omega)] at I;rw[r.1,r.2,d,ν (by omega)] at R;rw[B.1,B.2,y,ν (by omega)] at J;rw[C.1,C.2,v,ν (by omega)] at M;obtain⟨y0,K⟩:=s _ _ _ _ _ _ _ _ _ S;obtain⟨y1,Q⟩:=s _ _ _ _ _ _ _ _ _ I;obtain⟨y2,G⟩:=s _ _ _ _ _ _ _ _ _ R;obtain⟨v3,l3,L,r3⟩:=Qe hk z A J;obtain⟨v4,W,N,r4⟩:=Qe ho F u M;match cs,O with
 |[c0,c1,c2,c3,c4,c5,c6,c7,c8,c9,a0,a5,V,a6,a8,a2,a4,Y,a3,X],_=>
  simp[dJ,iv] at K Q G L N;obtain⟨rfl,rfl,rfl,rfl,rfl,rfl⟩:=K;obtain⟨rfl,rfl,rfl,rfl,rfl,rfl⟩:=Q;obtain⟨rfl,rfl,rfl,rfl,rfl,rfl⟩:=G;subst L;subst N;refine⟨⟨y0,y1,y2,l3,W⟩,?_⟩;have a:∀n:Int,bw nC w [] [] (Θ .i64 n).g (.int .i64 n):=λn=>by simp[γG,bw,Value.oneCell']
  simp only[bp.ss,gL,bE];exact⟨_,_,rfl,a _,_,_,rfl,a _,_,_,rfl,a _,_,_,rfl,a _,_,_,rfl,a _,_,_,rfl,a _,_,_,rfl,a _,_,_,rfl,a _,_,_,rfl,a _,_,_,rfl,a _,_,_,rfl,a _,_,_,rfl,a _,
   _,_,rfl,a _,_,_,rfl,a _,_,_,rfl,a _,_,_,rfl,a _,_,_,rfl,a _,_,_,rfl,a _,_,_,rfl,r3,_,_,rfl,r4,rfl⟩
theorem Z5 {P:Program} {w:World} {r:Reach} {base:Nat} {t:TypeId} {v:Value} {fs:Array Field} (a:P.underlying t=some (.struct fs)) (h:Value.okWide P w r base t v):∃cs,v= .agg cs/\v.cells.toList=cs.toList:=by
 unfold Value.okWide at h;rw[a] at h;obtain⟨cs,rfl,_⟩:=h;exact⟨cs,rfl,rfl⟩
theorem Qf {H:Type} {enc:TypeId×Value->H} {P:Program} (j:laidOutB P=true) {W l:World} (n:Below W.heap.size W l) {m:Nat->Bool}:
  ∀{f:List TypeId} {vs:List Value} {i:List (DataW H)} {g:List MemPlace},DataW.TrodAll enc P W 0 (λ_=>true) true f vs i g->(∀t∈f,P.readableRec t=true/\t<P.types.size)->(∀p∈g,p.block<W.heap.size)->(∀p∈g,m p.block=true)->
   DataW.TrodAll enc P l 0 m true f vs i g
 |[],_,_,_,h,_,_,_=>by
  obtain⟨rfl,rfl,rfl⟩:=trodAll_nil h;exact rfl;|t::f,_,_,_,h,o,e,k=>by
  obtain⟨v,vs,d,i,a,b,rfl,rfl,rfl,r,s⟩:=trodAll_cons h;obtain⟨x,q⟩:=o t (by simp);exact⟨a,b,WideElems.Trod_stays j x q r (λp c=>n.same (e p (by simp[c]))) (λp c=>k p (by simp[c])),
   Qf j n s (λu w=>o u (by simp[w])) (λp c=>e p (by simp[c])) (λp c=>k p (by simp[c])),rfl⟩
theorem Z6 {W b:World} {a:bX} {o':Store} (h:Ext W [] [] b a o'):Below W.heap.size W b:=
 ⟨h.os,h.tape,h.output,h.size,λk e=>(h.blk k e (by rintro⟨i,c,d⟩;simp at d)).1⟩
@[simp] theorem Z7 {k c:IntKind} {a b:Int}:(Θ k a).same (.si c b)↔k=c/\a=b:=by simp[εJ,γG]
@[simp] theorem Z8 {k c:IntKind} {a b:Int}:(γp k a).same (.si c b)↔k=c/\a=b:=by simp[εJ,γG]
@[simp] theorem Z9 {a b:Bool}:(γD a).same (.sb b)↔a=b:=by simp[εJ,γG]
@[simp] theorem aac {a b:Bool}:(δo a).same (.sb b)↔a=b:=by simp[εJ,γG]
@[simp] theorem aad {s:bk} {a b:List s.T}:(Φ s a).same (.row s b)↔a=b:=by
 constructor;·intro h;simp only[εJ,γG,δ6] at h;exact l8 s h.1 h.2
 ·rintro rfl;rfl
@[simp] theorem aae {k c:IntKind} {a b:Int}:(Θ k a).same (.il c b)↔k=c/\a=b:=by simp[εJ,γG]
@[simp] theorem aaf {k c:IntKind} {a b:Int}:(γp k a).same (.il c b)↔k=c/\a=b:=by simp[εJ,γG]
theorem aag {v:SV}:v.same v↔True:=iff_true_intro rfl
theorem li {v:bq}:v.same v↔True:=iff_true_intro rfl
theorem aah {a b c d:SV}:(SV.bH [a,b]).same (.bH [c,d])↔a.same c/\b.same d:=by simp[εJ,γG,gL]
theorem aai {a b c d e f:SV}:(SV.bH [a,b,c]).same (.bH [d,e,f])↔a.same d/\b.same e/\c.same f:=by simp[εJ,γG,gL]
theorem HY {s t:bk}:(Φ s []).same (.row t [])↔True:=iff_true_intro (by simp[εJ,γG,cC])
theorem aaj {s:bk} {l:List s.T}:(Φ (.i .i64) []).same (.row s l)↔l=[]:=by
 constructor;·grind[εJ,γG]
 ·rintro rfl;exact HY.2 trivial
theorem Df {a b:bz}:a=b↔a.a0=b.a0/\a.a1=b.a1/\a.a2=b.a2/\a.a3=b.a3/\a.a4=b.a4/\a.a5=b.a5:=by
 obtain⟨k,c,n,f,d,l⟩:=a;obtain⟨g,i,e,h,m,j⟩:=b;simp_all
@[simp] theorem aak {n:Int}:bV .i64 n↔ -9223372036854775808<=n/\n<=9223372036854775807:=Iff.rfl
theorem vcs:(∀{p:Prop} [h:Decidable p],(decide p=true)=p)/\(∀{p:Prop} {x:Decidable p},decide p=false↔¬p)/\(∀{k g:IntKind} {a b:Int},(γp k a).same (Θ g b)↔k=g/\a=b)/\(∀{k g:IntKind} {a b:Int},(Θ k a).same (Θ g b)↔k=g/\a=b)/\(∀{k g:IntKind} {a b:Int},(Θ k a).same (γp g b)↔k=g/\a=b)/\(∀{k g:IntKind} {a b:Int},(γp k a).same (γp g b)↔k=g/\a=b)/\(∀{a b:Bool},(γD a).same (γD b)↔a=b)/\(∀{a b:Bool},(δo a).same (γD b)↔a=b)/\(∀{s:bk} {a b:List s.T},(Φ s a).same (Φ s b)↔a=b)/\(∀{a b c d:SV},(SV.bH [a,b]).same (SV.bH [c,d])↔a.same c/\b.same d)/\(∀{a b c d e f:SV},(SV.bH [a,b,c]).same (SV.bH [d,e,f])↔a.same d/\b.same e/\c.same f)/\(∀{s t:bk},(Φ s []).same (Φ t [])↔True)/\(∀{s:bk} {l:List s.T},(Φ (bk.i IntKind.i64) []).same (Φ s l)↔l=[])/\(∀{v:SV},v.same v↔True)/\(∀{v:bq},v.same v↔True)/\(∀{n:Int},bV IntKind.i64 n↔ -9223372036854775808<=n/\n<=9223372036854775807)/\(∀p:Prop,(True/\p)=p)/\(∀p:Prop,(p/\True)=p)/\(∀a b:Bool,((a&&b)=true)=(a=true/\b=true))/\(∀b:Bool,((!b)=true)=(b=false))/\(∀b:Bool,((!b)=false)=(b=true)):=
 ⟨decide_eq_true_eq,decide_eq_false_iff_not,Z8,Z7,aae,aaf,Z9,aac,aad,aah,aai,HY,aaj,aag,li,aak,true_and,and_true,ζ,Bool.not_eq_true',Bool.not_eq_false'⟩
def bz.ok (b:bz):Bool:=[b.a0,b.a1,b.a2,b.a3,b.a4,b.a5].all λn=>decide (0<=n)&&decide (n<=4)
theorem bz.eL {b:bz}:b.ok=true↔(0<=b.a0/\b.a0<=4)/\(0<=b.a1/\b.a1<=4)/\(0<=b.a2/\b.a2<=4)/\(0<=b.a3/\b.a3<=4)/\(0<=b.a4/\b.a4<=4)/\(0<=b.a5/\b.a5<=4):=by
 simp[bz.ok]
def HZ:bL:=⟨113,bz,.one (eG .eD),λ_=>True,λb=> .si .i64 (if b.ok=true then 0 else 4)⟩
theorem h146:Holds Tryz.prog HZ:=by
 refine cF (L:=[]) HZ (λ_ _=> .pO 7) (by simp) ?_;intro b _;refine bN (let h:=γp .i64;let p:=(0:Int);let q:=(4:Int);let i:=decide (b.a0<p);let a:=Θ .i64 (if bz.ok b=true then p else q);let l:=decide (q<b.a0);let k:=decide (b.a1<p);let m:=decide (q<b.a1);let o:=decide (b.a2<p);let j:=decide (q<b.a2);let n:=decide (b.a3<p);let f:=decide (q<b.a3);let g:=decide (b.a4<p);let d:=decide (q<b.a4);let c:=decide (b.a5<p);let e:=decide (q<b.a5);(i=true->(h 4).same a)/\(i=false->(l=true->(h 4).same a)/\(l=false->(k=true->(h 4).same a)/\(k=false->(m=true->(h 4).same a)/\(m=false->(o=true->(h 4).same a)/\(o=false->(j=true->(h 4).same a)/\(j=false->(n=true->(h 4).same a)/\(n=false->(f=true->(h 4).same a)/\(f=false->(g=true->(h 4).same a)/\(g=false->(d=true->(h 4).same a)/\(d=false->(c=true->(h 4).same a)/\(c=false->(e=true->(h 4).same a)/\(e=false->(h 0).same a))))))))))))) (by kernel_rfl) ?_;conv=>zeta
 have p:=@bz.eL b;by_cases h:b.ok=true<;>simp_all
def bz.l (b:bz):List Int:=[b.a0,b.a1,b.a2,b.a3,b.a4,b.a5]
def dn (p:bp):Int:=p.classes.length+12
def dC (p:bp) (r:Int):Int:=
 if r - p.classes.length<0 then 1
 else if r - p.classes.length<6 then bj [p.supply.a0,p.supply.a1,p.supply.a2,p.supply.a3,p.supply.a4,p.supply.a5] (r - p.classes.length).toNat 0
 else bj [p.opn.a0,p.opn.a1,p.opn.a2,p.opn.a3,p.opn.a4,p.opn.a5] (r - p.classes.length - 6).toNat 0
def eT (p:bp) (r:Int) (o:Off):Int:=
 if r - p.classes.length<0 then(if o.bD=r then 1 else 0)
 else if r - p.classes.length<6 then bj [o.want.a0,o.want.a1,o.want.a2,o.want.a3,o.want.a4,o.want.a5] (r - p.classes.length).toNat 0
 else if bj [p.cls.a0,p.cls.a1,p.cls.a2,p.cls.a3,p.cls.a4,p.cls.a5] (r - p.classes.length - 6).toNat 0=0\/bj [p.cls.a0,p.cls.a1,p.cls.a2,p.cls.a3,p.cls.a4,p.cls.a5] (r - p.classes.length - 6).toNat 0=bj p.classes o.bD.toNat 0 then 0
 else bj [o.want.a0,o.want.a1,o.want.a2,o.want.a3,o.want.a4,o.want.a5] (r - p.classes.length - 6).toNat 0
def xF:bL:=⟨96,bp,.one cY,λp=>p.classes.length<=8,λp=> .si .i64 (dn p)⟩
def xG:bL:=⟨134,bp×Int,.cons cY (.one (dV .i64)),λa=>a.1.classes.length<=8/\0<=a.2/\a.2<dn a.1,λa=> .si .i64 (dC a.1 a.2)⟩
def xH:bL:=⟨133,bp×Int×Off,.cons cY (.cons (dV .i64) (.one (eG .off))),λa=>a.1.classes.length<=8/\0<=a.2.1/\a.2.1<dn a.1/\0<=a.2.2.bD/\a.2.2.bD<a.1.classes.length,λa=> .si .i64 (eT a.1 a.2.1 a.2.2)⟩
theorem h157:Holds Tryz.prog xF:=by
 refine cF (L:=[]) xF (λ_ _=> .pO 7) (by simp) ?_;intro p (b:p.classes.length<=8);refine bN (let a:=(↑p.classes.length:Int)+(12:Int);bV .i64 a/\(Θ .i64 a).same (Θ .i64 (dn p))) (by kernel_rfl) ?_;simp only[vcs,dn];omega
theorem h158:Holds Tryz.prog xG:=by
 refine cF (L:=[]) xG (λ_ _=> .pO 7) (by simp) ?_;rintro⟨p,r⟩ ⟨h,j,i⟩;simp only[dn] at h j i;refine bN (let h:=(6:Int);let i:=(0:Int);let d:=Θ .i64 (dC p r);let c:=(↑p.classes.length:Int);let g:=decide (r - c<i);let e:=decide (r - c<h);let f:=λ(u b:Int) (a:bz) ↦i<=u - b/\u - b<h/\(u - b).toNat<6/\(Θ .i64 (bj [a.a0,a.a1,a.a2,a.a3,a.a4,a.a5] (u - b).toNat i)).same d;bV .i64 (r - c)/\(g=true->(γp .i64 1).same d)/\(g=false->(e=true->f r c p.supply)/\(e=false->bV .i64 (r - c - h)/\f (r - c) h p.opn))) (by kernel_rfl) ?_;simp only[vcs];grind[dC]
theorem h156:Holds Tryz.prog xH:=by
 refine cF (L:=[]) xH (λ_ _=> .pO 7) (by simp) ?_;rintro⟨p,r,x⟩ ⟨m,q,n,l,o⟩;simp only[dn] at m q n l o;refine bN (let l:=(0:Int);let m:=(6:Int);let n:=γp .i64;let o:=γp .i64 0;let q:=Θ .i64;let b:=(↑p.classes.length:Int);let e:=decide (r - b<l);let c:=q (eT p r x);let h:=decide (r - b<m);let k:=[x.want.a0,x.want.a1,x.want.a2,x.want.a3,x.want.a4,x.want.a5];let a:=r - b - m;let j:=bj [p.cls.a0,p.cls.a1,p.cls.a2,p.cls.a3,p.cls.a4,p.cls.a5] a.toNat l;let i:=decide (j=l);let g:=decide (j=bj p.classes x.bD.toNat l);let d:=decide (x.bD=r);let f:=(e=true->(n 0).same c)/\(e=false->(h=true->l<=r - b/\r - b<m/\(r - b).toNat<6/\(q (bj k (r - b).toNat l)).same c)/\(h=false->bV .i64 a/\l<=a/\a<m/\a.toNat<6/\(i=true->(n 0).same c)/\(i=false->l<=a/\a<m/\a.toNat<6/\l<=x.bD/\x.bD<b/\x.bD.toNat<p.classes.length/\(g=true->(n 0).same c)/\(g=false->l<=a/\a<m/\a.toNat<6/\(q (bj k a.toNat l)).same c))));bV .i64 (r - b)/\(e=true->(d=true->(n 1).same c)/\(d=false->f))/\(e=false->f)) (by kernel_rfl) ?_;simp only[vcs];repeat' (first|refine γj ?_ ?_|intro _)
 all_goals first
  |trivial;|omega;|(simp only[eT];(repeat' split)<;>first|rfl|omega)
def L2:List bL:=[xH,xF,xG]
theorem hL2:∀c∈L2,Holds Tryz.prog c:=by
 simp_all[L2,h156,h157,h158]
def cT (p:bp) (l:List Off) (r:Int):Int:=(l.map (eT p r)).sum
def fV (p:bp) (l:List Off):Bool:=(π (p.classes.length+12)).all λr=>decide (cT p l r<=dC p r)
def Dh:bL:=⟨98,bp×List Off,.cons cY (.one (dW .off)),λa=>a.1.classes.length<=8/\a.2.length<=1000/\(∀x∈a.2,0<=x.bD/\x.bD<a.1.classes.length/\x.want.ok=true),λa=> .sb (fV a.1 a.2)⟩
def aal (a:bp×List Off):Nat->cB
 |3=> .inv Int (λi=>⟨[(1,.row .off a.2),(2,.ptr 0 0 20),(5,.fn (.func 133) [] []),(11,.si .i64 (dn a.1)),(12,.si .i64 i)],[.cells a.1.ss 110 20 false]⟩) (λs=>iS s 12)
  (λi=>0<=i/\i<=dn a.1/\∀r:Nat,r<i->cT a.1 a.2 r<=dC a.1 r) (λi=>(dn a.1 - i).toNat)
  λi=>λ
   |7=> .inv (Int×Int) (λx=>⟨[(1,.row .off a.2),(2,.ptr 0 0 20),(5,.fn (.func 133) [] []),(6,.si .i64 i),(7,.si .i64 x.2),(11,.si .i64 (dn a.1)),(12,.si .i64 i),(15,.row .off a.2),(16,.si .i64 a.2.length),(17,.si .i64 x.1)],[.cells a.1.ss 110 20 false]⟩)
    (λs=>(iS s 17,iS s 7))
    (λx=>0<=x.1/\x.1<=a.2.length/\x.2=cT a.1 (a.2.take x.1.toNat) i) (λx=>(a.2.length - x.1).toNat) λ_ _=> .look
   |_=> .look
 |_=> .look
theorem H3 {b:bz} (h:b.ok=true) (k:Nat):0<=bj [b.a0,b.a1,b.a2,b.a3,b.a4,b.a5] k 0/\bj [b.a0,b.a1,b.a2,b.a3,b.a4,b.a5] k 0<=4:=by
 grind[bz.eL,bj]
theorem rL {p:bp} {r:Int} {o:Off} (h:o.want.ok=true):0<=eT p r o/\eT p r o<=4:=by
 unfold eT;have a:=H3 h (r - p.classes.length).toNat;have b:=H3 h (r - p.classes.length - 6).toNat;omega
theorem ug {p:bp} {r:Int}:∀{l:List Off},(∀x∈l,x.want.ok=true)->0<=cT p l r/\cT p l r<=4*l.length
 |[],_=>by simp[cT];|x::l,h=>by
  have b:=@rL p r x (h x (by simp));have c:=@ug p r l λy a=>h y (by simp[a]);grind[cT]
theorem cK {a:Type} {l:List a} {i:Nat} {d:a} (h:i<l.length):bj l i d∈l:=by grind[cM]
theorem jo {a:Type} {l:List a} {i:Int} {d:a} (b:0<=i) (h:i<l.length):l.take (i+1).toNat=l.take i.toNat++[bj l i.toNat d]:=by
 rw[show(i+1).toNat=i.toNat+1 from by omega,cM (by omega),List.take_succ_eq_append_getElem (by omega)]
theorem H4 {p:bp} {r:Int} {l:List Off} {i:Int} {d:Off} (a:0<=i) (h:i<l.length):cT p (l.take (i+1).toNat) r=cT p (l.take i.toNat) r+eT p r (bj l i.toNat d):=by
 grind[jo,cT]
theorem o7 {p:bp} {l:List Off}:fV p l=true↔∀r:Nat,r<dn p->cT p l r<=dC p r:=by
 simp only[fV,dn,Ξ,List.mem_range,decide_eq_true_eq];grind
theorem h134:Holds Tryz.prog Dh:=by
 refine cF (L:=L2) Dh aal hL2 ?_;rintro⟨p,l⟩ ⟨hp,hl,hb⟩;simp only at hp hl hb;refine bN (let a:=Θ .i64;let b:=(0:Int);let c:=Φ;let d:=γp .i64 0;let e:=γp .i64;let f:=bV .i64;let g:=γS 0 0 20;let h:=SV.fn (Fn.func 133) [] [];let i:=a (dn p);let j:=bq.cells (bp.ss p) 110 20 false;let k:=(↑l.length:Int);let q:=a k;p.classes.length<=8/\((((c bk.off l).same (c bk.off l)/\g.same g/\h.same h/\i.same i/\(d).same (a 0)/\True)/\j.same j/\True)/\b<=b/\b<=dn p/\∀(r:Nat),(↑r:Int)<b->cT p l (↑r:Int)<=dC p (↑r:Int))/\∀(x:Int),let u:=decide (x<dn p);let m:=x+(1:Int);let v:=a m;(b<=x/\x<=dn p/\∀(r:Nat),(↑r:Int)<x->cT p l (↑r:Int)<=dC p (↑r:Int))->(u=true->((((c bk.off l).same (c bk.off l)/\g.same g/\h.same h/\(a x).same (a x)/\(d).same (a 0)/\i.same i/\(a x).same (a x)/\(c bk.off l).same (c bk.off l)/\(a (↑l.length:Int)).same q/\(d).same (a 0)/\True)/\j.same j/\True)/\b<=b/\b<=k/\b=cT p [] x)/\∀(x_1:Int×Int),let s:=bj l x_1.fst.toNat bk.off.dflt;let t:=x_1.snd+eT p x s;let n:=x_1.fst+(1:Int);let o:=a x;let w:=a t;let y:=a n;let z:=decide (dC p x<x_1.snd);b<=x_1.fst/\x_1.fst<=k/\x_1.snd=cT p (γa x_1.fst.toNat l) x->(decide (x_1.fst<k)=true->b<=x_1.fst/\x_1.fst<(↑l.length:Int)/\x_1.fst.toNat<l.length/\(p.classes.length<=8/\b<=x/\x<dn p/\b<=s.bD/\s.bD<(↑p.classes.length:Int))/\f t/\f n/\(((c bk.off l).same (c bk.off l)/\g.same g/\h.same h/\o.same o/\w.same w/\i.same i/\o.same o/\(c bk.off l).same (c bk.off l)/\q.same q/\y.same y/\True)/\j.same j/\True)/\(b<=n/\n<=k/\t=cT p (γa n.toNat l) x)/\(k - n).toNat<(k - x_1.fst).toNat)/\(decide (x_1.fst<k)=false->(p.classes.length<=8/\b<=x/\x<dn p)/\(z=true->(δo false).same (γD (fV p l)))/\(z=false->f m/\(((c bk.off l).same (c bk.off l)/\g.same g/\h.same h/\i.same i/\v.same v/\True)/\j.same j/\True)/\(b<=m/\m<=dn p/\∀(r:Nat),(↑r:Int)<m->cT p l (↑r:Int)<=dC p (↑r:Int))/\(dn p - m).toNat<(dn p - x).toNat)))/\(u=false->(δo true).same (γD (fV p l)))) (by kernel_rfl) ?_;simp only[vcs];have hn:dn p=p.classes.length+12:=rfl;have ho:∀x∈l,x.want.ok=true:=λx hx=>(hb x hx).2.2;refine⟨hp,⟨by omega,by omega,λr hr=>by omega⟩,?_⟩;rintro i ⟨hi0,hi1,hi⟩;refine⟨λhlt=>⟨⟨by omega,by omega,by simp[cT]⟩,?_⟩,?_⟩
 ·rintro⟨j,s⟩ ⟨hj0,hj1,hs⟩;simp only at hj0 hj1 hs ⊢;have hsb:=@ug p i (l.take j.toNat) λx hx=>ho x (List.mem_of_mem_take hx);have hlen:(l.take j.toNat).length<=l.length:=by simp;omega
  refine⟨λhjl=>?_,λhjl=>?_⟩
  ·have hm:=hb _ (cK (d:=bk.off.dflt) (show j.toNat<l.length by omega));have hc:=@rL p i _ hm.2.2;have hst:=@H4 p i l j bk.off.dflt hj0 hjl;refine⟨by omega,by omega,by omega,⟨hp,by omega,by omega,hm.1,hm.2.1⟩,by omega,by omega,⟨by omega,by omega,by omega⟩,by omega⟩
  ·have:j.toNat=l.length:=by omega
   rw[this,ψ] at hs;refine⟨⟨hp,by omega,by omega⟩,λhgt=>?_,λhle=>⟨by omega,⟨by omega,by omega,λr hr=>?_⟩,by omega⟩⟩
   ·symm;rw[Bool.eq_false_iff];intro hf;have:=o7.1 hf i.toNat (by omega);rw[show((i.toNat:Nat):Int)=i from by omega] at this;omega
   ·by_cases hr2:(r:Int)<i;·exact hi r hr2
    ·have:(r:Int)=i:=by omega
     rw[this];omega
 ·intro hge;symm;exact o7.2 λr hr=>hi r (by omega)
def L3:List bL:=[Dh,HZ,xH,xF,xG]
theorem hL3:∀c∈L3,Holds Tryz.prog c:=by
 simp only[L3,γq,List.not_mem_nil,false_implies,implies_true,and_true];grind[h134,h146,h156,h157,h158]
def ix (p:bp) (k:Nat):Prop:=
 let c:=bj [p.cls.a0,p.cls.a1,p.cls.a2,p.cls.a3,p.cls.a4,p.cls.a5] k 0;let o:=bj [p.opn.a0,p.opn.a1,p.opn.a2,p.opn.a3,p.opn.a4,p.opn.a5] k 0;let s:=bj [p.supply.a0,p.supply.a1,p.supply.a2,p.supply.a3,p.supply.a4,p.supply.a5] k 0;0<=c/\c<=4/\0<=o/\o<=s/\(c≠0\/o=s)
instance (p:bp) (k:Nat):Decidable (ix p k):=by unfold ix;infer_instance
def Di (p:bp):Bool:=(π 6).all λk=>decide (ix p k)
theorem l9 {p:bp} {k:Nat}:ix p k↔(0<=bj [p.cls.a0,p.cls.a1,p.cls.a2,p.cls.a3,p.cls.a4,p.cls.a5] k 0/\bj [p.cls.a0,p.cls.a1,p.cls.a2,p.cls.a3,p.cls.a4,p.cls.a5] k 0<=4/\0<=bj [p.opn.a0,p.opn.a1,p.opn.a2,p.opn.a3,p.opn.a4,p.opn.a5] k 0/\
  bj [p.opn.a0,p.opn.a1,p.opn.a2,p.opn.a3,p.opn.a4,p.opn.a5] k 0<=bj [p.supply.a0,p.supply.a1,p.supply.a2,p.supply.a3,p.supply.a4,p.supply.a5] k 0/\
  (bj [p.cls.a0,p.cls.a1,p.cls.a2,p.cls.a3,p.cls.a4,p.cls.a5] k 0≠0\/bj [p.opn.a0,p.opn.a1,p.opn.a2,p.opn.a3,p.opn.a4,p.opn.a5] k 0=bj [p.supply.a0,p.supply.a1,p.supply.a2,p.supply.a3,p.supply.a4,p.supply.a5] k 0)):=Iff.rfl
attribute [irreducible] ix
theorem zO {p:bp}:Di p=true↔∀k,k<6->ix p k:=by simp[Di]
def gV (p:bp):Int:=
 if p.supply.ok=false then 4
 else if Di p=false then 4
 else if 8<p.classes.length\/160<p.offers.length then 3
 else if ¬∀c∈p.classes,0<=c/\c<=4 then 4
 else 0
def H5:bL:=⟨80,bp,.one cY,λp=>True,λp=> .si .i64 (gV p)⟩
def aam (p:bp):Nat->cB
 |5=> .inv Int (λk=>⟨[(1,.ptr 0 0 20),(16,.si .i64 k)],[.cells p.ss 110 20 false]⟩) (λs=>iS s 16) (λk=>0<=k/\k<=6/\∀j:Nat,j<k->ix p j) (λk=>(6 - k).toNat) λ_ _=> .look
 |14=> .inv Int (λk=>⟨[(76,.row (.i .i64) p.classes),(77,.si .i64 p.classes.length),(78,.si .i64 k)],[.cells p.ss 110 20 false]⟩) (λs=>iS s 78)
  (λk=>0<=k/\k<=p.classes.length/\∀c∈p.classes.take k.toNat,0<=c/\c<=4) (λk=>(p.classes.length - k).toNat) λ_ _=> .look
 |_=> .look
theorem Qg {p:bp} (h:p.supply.ok=false):gV p=4:=by simp[gV,h]
theorem Qh {p:bp} (h:p.supply.ok=true) {k:Nat} (b:k<6) (a:¬ix p k):gV p=4:=by
 grind[zO,gV]
theorem Dj {p:bp} (h:p.supply.ok=true) (b:∀j:Nat,j<6->ix p j) (a:8<p.classes.length\/160<p.offers.length):gV p=3:=by
 grind[gV,zO]
theorem Dk {p:bp} (h:p.supply.ok=true) (f:∀j:Nat,j<6->ix p j) (e:¬(8<p.classes.length\/160<p.offers.length)) {c:Int} (b:c∈p.classes) (a:¬(0<=c/\c<=4)):gV p=4:=by
 have:¬∀c∈p.classes,0<=c/\c<=4:=λd=>a (d c b);simp_all[gV]
theorem Dl {p:bp} (h:p.supply.ok=true) (b:∀j:Nat,j<6->ix p j) (d:¬(8<p.classes.length\/160<p.offers.length)) (a:∀c∈p.classes,0<=c/\c<=4):gV p=0:=by
 simp_all[gV,zO,if_neg]
theorem qH {p:bp} (h:gV p=0):p.supply.ok=true/\(∀j:Nat,j<6->ix p j)/\p.classes.length<=8/\p.offers.length<=160/\∀c∈p.classes,0<=c/\c<=4:=by
 unfold gV at h;split at h;·cases h
 ·split at h;·cases h
  ·split at h;all_goals simp_all[zO]
theorem Qi {l:List Int} {i:Int} {P:Int->Prop} (d:0<=i) (h:i<l.length) (a:∀c∈l.take i.toNat,P c) (b:P (bj l i.toNat 0)):∀c∈l.take (i+1).toNat,P c:=by
 grind[jo]
theorem h118:Holds Tryz.prog H5:=by
 refine cF (L:=L3) H5 aam hL3 ?_;intro p _;refine bN (let a:=Θ .i64;let b:=(0:Int);let d:=γp .i64;let e:=(6:Int);let f:=(4:Int);let y:=if p.supply.ok=true then b else f;let g:=a (gV p);let q:=γS 0 0 20;let s:=d 0;let n:=Φ (bk.i .i64) p.classes;let h:=bq.cells [a p.supply.a0,a p.supply.a1,a p.supply.a2,a p.supply.a3,a p.supply.a4,a p.supply.a5,a p.opn.a0,a p.opn.a1,a p.opn.a2,a p.opn.a3,a p.opn.a4,a p.opn.a5,a p.cls.a0,a p.cls.a1,a p.cls.a2,a p.cls.a3,a p.cls.a4,a p.cls.a5,n,Φ bk.off p.offers] 110 20 false;let N:=[p.cls.a0,p.cls.a1,p.cls.a2,p.cls.a3,p.cls.a4,p.cls.a5];let O:=[p.opn.a0,p.opn.a1,p.opn.a2,p.opn.a3,p.opn.a4,p.opn.a5];let P:=[p.supply.a0,p.supply.a1,p.supply.a2,p.supply.a3,p.supply.a4,p.supply.a5];let t:=(↑p.classes.length:Int);let z:=decide ((8:Int)<t);let A:=decide ((160:Int)<(↑p.offers.length:Int));let k:=(↑p.classes.length:Int);let v:=a k;let B:=λ(u:Bool) ↦decide (y≠b)=u;True/\(B true->(a y).same g)/\(B false->(((q.same q/\s.same (a 0)/\True)/\h.same h/\True)/\b<=b/\b<=e/\∀(j:Nat),(↑j:Int)<b->ix p j)/\∀(x:Int),let l:=x+(1:Int);let C:=a l;let D:=decide (x<e);let w:=bj N x.toNat b;let E:=decide (w<b);let F:=decide (f<w);let o:=bj O x.toNat b;let G:=decide (o<b);let r:=bj P x.toNat b;let H:=decide (w=b);let I:=bV .i64 l/\((q.same q/\C.same C/\True)/\h.same h/\True)/\(b<=l/\l<=e/\∀(j:Nat),(↑j:Int)<l->ix p j)/\(e - l).toNat<(e - x).toNat;(b<=x/\x<=e/\∀(j:Nat),(↑j:Int)<x->ix p j)->(D=true->b<=x/\x<e/\x.toNat<6/\b<=x/\x<e/\x.toNat<6/\(E=true->(d 4).same g)/\(E=false->(F=true->(d 4).same g)/\(F=false->(G=true->(d 4).same g)/\(G=false->b<=x/\x<e/\x.toNat<6/\(decide (r<o)=true->(d 4).same g)/\(decide (r<o)=false->(H=true->b<=x/\x<e/\x.toNat<6/\(decide (o≠r)=true->(d 4).same g)/\(decide (o≠r)=false->I))/\(H=false->I))))))/\(D=false->(z=true->(d 3).same g)/\(z=false->(A=true->(d 3).same g)/\(A=false->(((n.same n/\(a t).same v/\s.same (a 0)/\True)/\h.same h/\True)/\b<=b/\b<=k/\∀(c:Int),c∈[]->b<=c/\c<=f)/\∀(x:Int),let J:=bj p.classes x.toNat b;let K:=decide (J<b);let L:=decide (f<J);let m:=x+(1:Int);let M:=a m;(b<=x/\x<=k/\∀(c:Int),c∈γa x.toNat p.classes->b<=c/\c<=f)->(decide (x<k)=true->b<=x/\x<t/\x.toNat<p.classes.length/\(K=true->(d 4).same g)/\(K=false->(L=true->(d 4).same g)/\(L=false->bV .i64 m/\((n.same n/\v.same v/\M.same M/\True)/\h.same h/\True)/\(b<=m/\m<=k/\∀(c:Int),c∈γa m.toNat p.classes->b<=c/\c<=f)/\(k - m).toNat<(k - x).toNat)))/\(decide (x<k)=false->s.same g)))))) (by kernel_rfl) ?_;simp only[vcs];by_cases hs:bz.ok p.supply=true
 ·simp only[hs,if_true];refine⟨λh=>absurd rfl h,λ_=>⟨⟨by omega,by omega,λj hj=>by omega⟩,?_⟩⟩;rintro k ⟨hk0,hk1,hk⟩;refine⟨λhlt=>?_,λhge=>?_⟩
  ·have bad:¬ix p k.toNat->(4:Int)=gV p:=λh=>(Qh hs (by omega) h).symm;have H6:ix p k.toNat->∀(j:Nat),(j:Int)<k+1->ix p j:=λh j hj=>by
    by_cases hj2:(j:Int)<k;·exact hk j hj2
    ·rw[show j=k.toNat from by omega];exact h
   repeat' (first|refine γj ?_ ?_|intro _)
   all_goals first
    |omega;|exact bad λhh=>by have h2:=l9.1 hh;omega;|exact H6 (l9.2 (by omega)) _ (by assumption)
  ·have hall:∀j:Nat,j<6->ix p j:=λj hj=>hk j (by omega);refine⟨λh=>(Dj hs hall (.inl (by omega))).symm,λh8=>⟨λh=>(Dj hs hall (.inr (by omega))).symm,λh160=>⟨⟨by omega,by omega,by simp⟩,?_⟩⟩⟩;rintro i ⟨hi0,hi1,hi⟩;refine⟨λhlt=>?_,λhge=>?_⟩
   ·have hm:=cK (d:=0) (show i.toNat<p.classes.length by omega);refine⟨by omega,by omega,by omega,λh=>(Dk hs hall (by omega) hm (by omega)).symm,λh1=>⟨λh=>(Dk hs hall (by omega) hm (by omega)).symm,λh2=>⟨by omega,⟨by omega,by omega,?_⟩,by omega⟩⟩⟩;exact Qi hi0 hlt hi (by omega)
   ·rw[show i.toNat=p.classes.length from by omega,ψ] at hi;exact(Dl hs hall (by omega) hi).symm
 ·have hs2:bz.ok p.supply=false:=by simpa using hs
  simp only[hs2,χ,if_false];exact⟨λ_=>(Qg hs2).symm,λh=>absurd (by decide) h⟩
def j5 (n:Int) (o:Off):Int:=
 if o.bD<0\/n<=o.bD then 6 else if o.value<1\/1000000<o.value then 4 else if o.want.ok then 0 else 4
def H7:bL:=⟨114,Int×Off,.cons (dV .i64) (.one (eG .off)),λp=>True,λp=> .si .i64 (j5 p.1 p.2)⟩
theorem h147:Holds Tryz.prog H7:=by
 refine cF (L:=L3) H7 (λp=>λ_=> .look) hL3 ?_;rintro⟨n,x⟩ _;refine bN (let f:=γp .i64;let e:=decide (x.bD<(0:Int));let a:=Θ .i64 (j5 n x);let c:=decide (n<=x.bD);let b:=decide (x.value<(1:Int));let d:=decide ((1000000:Int)<x.value);(e=true->(f 6).same a)/\(e=false->(c=true->(f 6).same a)/\(c=false->(b=true->(f 4).same a)/\(b=false->(d=true->(f 4).same a)/\(d=false->True/\(Θ .i64 (if x.want.ok=true then(0:Int) else(4:Int))).same a))))) (by kernel_rfl) ?_;simp only[vcs];grind[j5]
def iW (p:bp) (o:Off):Int:=
 if j5 p.classes.length o≠0 then j5 p.classes.length o else if o.want=bz.zero then 4 else if fV p [o]=false then 14 else 0
def H8:bL:=⟨81,bp×Off,.cons cY (.one (eG .off)),λa=>a.1.classes.length<=8,λa=> .si .i64 (iW a.1 a.2)⟩
def L4:List bL:=H7::L3
theorem hL4:∀c∈L4,Holds Tryz.prog c:=by
 grind[L4,h147,hL3]
theorem Dm {n:Int} {o:Off} (h:j5 n o=0):0<=o.bD/\o.bD<n/\1<=o.value/\o.value<=1000000/\o.want.ok=true:=by
 grind[j5]
theorem h119:Holds Tryz.prog H8:=by
 refine cF (L:=L4) H8 (λp=>λ_=> .look) hL4 ?_;rintro⟨p,x⟩ (i:p.classes.length<=8);refine bN (let f:=(0:Int);let g:=γp .i64;let c:=j5 (↑p.classes.length:Int) x;let e:=decide (c≠f);let b:=Θ .i64 (iW p x);let d:=λ(u:Bool) ↦(decide (x.want.a0=f)&&(decide (x.want.a1=f)&&(decide (x.want.a2=f)&&(decide (x.want.a3=f)&&(decide (x.want.a4=f)&&(decide (x.want.a5=f)&&true))))))=u;True/\(e=true->(Θ .i64 c).same b)/\(e=false->(d true->(g 4).same b)/\(d false->(p.classes.length<=8/\1<=1000/\∀(a:Off),a∈[x]->f<=a.bD/\a.bD<(↑p.classes.length:Int)/\a.want.ok=true)/\((!fV p [x])=true->(g 14).same b)/\((!fV p [x])=false->(g 0).same b)))) (by kernel_rfl) ?_;conv=>zeta
 have g:(decide (x.want.a0=0)&&(decide (x.want.a1=0)&&(decide (x.want.a2=0)&&(decide (x.want.a3=0)&&(decide (x.want.a4=0)&&decide (x.want.a5=0))))))=decide (x.want=bz.zero):=by
  simp_all[Df,bz.zero]
 simp only[δT,g];simp only[vcs];refine⟨λh=>by simp_all[iW],λh=>?_⟩;have f:j5 p.classes.length x=0:=ω.1 h;have j:=Dm f;grind[iW]
def L5:List bL:=H5::H8::L4
theorem hL5:∀c∈L5,Holds Tryz.prog c:=by
 grind[L5,h118,h119,hL4]
def Off.key (o:Off):mO:=⟨o.bD,o.want⟩
def fH (p:bp) (a:List mO):List Off->Int
 |[]=>0
 |o::r=>if iW p o≠0 then iW p o else if o.key∈a then 7 else fH p (a++[o.key]) r
def bC (p:bp):Int:=if gV p≠0 then gV p else fH p [] p.offers
def pU:bL:=⟨51,bp,.one cY,λp=>True,λp=> .si .i64 (bC p)⟩
def aan (p:bp):Nat->cB
 |7=> .inv Int (λi=>⟨[(3,.ptr 1 0 20),(5,.mp 2),(19,.row .off p.offers),(20,.si .i64 p.offers.length),(21,.si .i64 i)],
   [.cells p.ss 27 20 false,.cells p.ss 110 20 false,.map .key .b true ((p.offers.take i.toNat).map λo=>(o.key,true)) ([0,0,0,0,0,0,0],true) true]⟩) (λs=>iS s 21)
  (λi=>0<=i/\i<=p.offers.length/\fH p [] p.offers=fH p ((p.offers.take i.toNat).map Off.key) (p.offers.drop i.toNat)) (λi=>(p.offers.length - i).toNat) λ_ _=> .look
 |_=> .look
theorem sM {a:Type} {l:List a} {i:Int} {d:a} (b:0<=i) (h:i<l.length):l.drop i.toNat=bj l i.toNat d::l.drop (i+1).toNat:=by
 rw[show(i+1).toNat=i.toNat+1 from by omega,cM (by omega),List.drop_eq_getElem_cons (by omega)]
theorem Dn (k:mO):∀(l:List Off),(j4 .key .b k (l.map λo=>(o.key,true))).getD false=decide (k∈l.map Off.key)
 |[]=>by simp[j4];|o::l=>by
  have:=Dn k l;grind[j4]
theorem aao {b sv:bk} {c:Bool} {es a:List (b.T×sv.T)} {d:List Nat×Bool} {pu:Bool} (h:es=a):(bq.map b sv c es d pu).same (.map b sv c a d pu):=by rw[h];rfl
theorem aap {k:mO} {l:List Off} (h:k∉l.map Off.key):nz .key .b k true (l.map λo=>(o.key,true))=(l.map λo=>(o.key,true))++[(k,true)]:=
 Hw λp a=>by
  grind
theorem h79:Holds Tryz.prog pU:=by
 refine cF (L:=L5) pU aan hL5 ?_;intro p _;refine bN (let a:=Θ .i64;let c:=(0:Int);let f:=Φ bk.off p.offers;let q:=decide (gV p≠c);let g:=a (bC p);let h:=γS 1 0 20;let r:=(↑p.offers.length:Int);let d:=(↑p.offers.length:Int);let m:=a d;let s:=γp .i64 0;let n:=([0,0,0,0,0,0,0],true);let t:=bq.map bk.key bk.b true [] n true;let j:=fH p [] p.offers;let E:=bk.off.dflt;let k:=λ(u:Nat) ↦let v:=bq.cells [a p.supply.a0,a p.supply.a1,a p.supply.a2,a p.supply.a3,a p.supply.a4,a p.supply.a5,a p.opn.a0,a p.opn.a1,a p.opn.a2,a p.opn.a3,a p.opn.a4,a p.opn.a5,a p.cls.a0,a p.cls.a1,a p.cls.a2,a p.cls.a3,a p.cls.a4,a p.cls.a5,Φ (bk.i .i64) p.classes,f] u 20 false;v.same v;True/\(q=true->(a (gV p)).same g)/\(q=false->(((h.same h/\(SV.mp 2).same (SV.mp 2)/\f.same f/\(a r).same m/\s.same (a 0)/\True)/\k 27/\k 110/\t.same t/\True)/\c<=c/\c<=d/\j=j)/\∀(x:Int),let w:=γa x.toNat p.offers;let l:=bj p.offers x.toNat E;let y:=decide (iW p l≠c);let z:=mO.mk l.bD l.want;let A:=γf (λ(o:Off) ↦(o.key,true)) w;let B:=(j4 bk.key bk.b z A).getD false;let e:=x+(1:Int);let C:=a e;let D:=γa e.toNat p.offers;c<=x/\x<=d/\j=fH p (γf Off.key w) (γ5 x.toNat p.offers)->(decide (x<d)=true->c<=x/\x<r/\x.toNat<p.offers.length/\p.classes.length<=8/\(y=true->(a (iW p l)).same g)/\(y=false->(B=true->(γp .i64 7).same g)/\(B=false->bV .i64 e/\((h.same h/\(SV.mp 2).same (SV.mp 2)/\f.same f/\m.same m/\C.same C/\True)/\k 27/\k 110/\(bq.map bk.key bk.b true (nz bk.key bk.b z true A) n true).same (bq.map bk.key bk.b true (γf (λ(o:Off) ↦(o.key,true)) D) n true)/\True)/\(c<=e/\e<=d/\j=fH p (γf Off.key D) (γ5 e.toNat p.offers))/\(d - e).toNat<(d - x).toNat)))/\(decide (x<d)=false->s.same g))) (by kernel_rfl) ?_;simp only[vcs];refine⟨λh=>by simp[bC,h],λh=>?_⟩;have hz:gV p=0:=ω.1 h;obtain⟨f1,f2,f3,f4,f5⟩:=qH hz;refine⟨⟨by omega,by omega⟩,?_⟩;rintro i ⟨hi0,hi1,hi⟩;refine⟨λhlt=>?_,λhge=>?_⟩
 ·rw[sM (d:=bk.off.dflt) hi0 hlt] at hi;generalize hx:bj p.offers i.toNat bk.off.dflt=x at hi ⊢;refine⟨by omega,by omega,by omega,f3,λhe=>?_,λhe=>?_⟩
  ·simp only[fH,if_pos he] at hi;simp[bC,hz,hi]
  ·simp only[fH,if_neg he] at hi;have hk:(⟨x.bD,x.want⟩:mO)=x.key:=rfl;simp only[hk];refine⟨λhm=>?_,λhm=>⟨by omega,?_,⟨by omega,by omega,?_⟩,by omega⟩⟩
   ·have hm2:=of_decide_eq_true ((Dn _ _).symm.trans hm);rw[if_pos hm2] at hi;simp[bC,hz,hi]
   ·have hm2:=of_decide_eq_false ((Dn _ _).symm.trans hm);apply aao;rw[aap hm2,jo (d:=bk.off.dflt) hi0 hlt,hx];simp
   ·have hm2:=of_decide_eq_false ((Dn _ _).symm.trans hm);rw[if_neg hm2] at hi;rw[hi,jo (d:=bk.off.dflt) hi0 hlt,hx];simp
 ·rw[show i.toNat=p.offers.length from by omega,δ8] at hi;simp only[fH] at hi;simp[bC,hz,hi]
def fW (l:List Off) (a:Int):List Int->Option (List Off)
 |[]=>some []
 |i::r=>if i<=a\/l.length<=i then none else(fW l i r).map (bj l i.toNat bk.off.dflt::·)
def jq (p:bp) (c:List Int):Bool:=(fW p.offers (-1) c).isSome
def eE (p:bp) (c:List Int):List Off:=(fW p.offers (-1) c).getD []
def Dp:bL:=⟨97,bp×List Int,.cons cY (.one (dW (.i .i64))),λa=>a.2.length<=9223372036854775807/\a.1.offers.length<=1000,λa=> .bH [.row .off (eE a.1 a.2),.sb (jq a.1 a.2)]⟩
def aaq (a:bp×List Int):Nat->cB
 |4=> .inv (Int×Int×List Off) (λx=>⟨[(2,.ptr 0 0 20),(6,.ow 1 x.2.2.length 8),(7,.si .i64 x.2.1),(10,.row (.i .i64) a.2),(11,.si .i64 a.2.length),(12,.si .i64 x.1)],
   [.cells a.1.ss 27 20 false,.row .off x.2.2 39 true]⟩) (λs=>(iS s 12,iS s 7,oS .off s 1))
  (λx=>0<=x.1/\x.1<=a.2.length/\(x.2.2.length<=x.2.1+1/\x.2.1<1000)/\ -1<=x.2.1/\fW a.1.offers (-1) a.2=(fW a.1.offers x.2.1 (a.2.drop x.1.toNat)).map (x.2.2++·)) (λx=>(a.2.length - x.1).toNat) λ_ _=> .look
 |_=> .look
theorem h133:Holds Tryz.prog Dp:=by
 refine cF (L:=L5) Dp aaq hL5 ?_;rintro⟨p,c⟩ ⟨hc,hof⟩;have hc:c.length<=9223372036854775807:=hc;have hof:p.offers.length<=1000:=hof;refine bN (let a:=Θ .i64;let b:=(0:Int);let d:=(-1:Int);let e:=Φ;let f:=(1000:Int);let g:=δo false;let h:=SV.bH;let j:=(1:Int);let q:=γS 0 0 20;let w:=SV.ow 1 0 8;let m:=bk.i .i64;let l:=(↑c.length:Int);let t:=a l;let r:=bq.cells [a p.supply.a0,a p.supply.a1,a p.supply.a2,a p.supply.a3,a p.supply.a4,a p.supply.a5,a p.opn.a0,a p.opn.a1,a p.opn.a2,a p.opn.a3,a p.opn.a4,a p.opn.a5,a p.cls.a0,a p.cls.a1,a p.cls.a2,a p.cls.a3,a p.cls.a4,a p.cls.a5,e m p.classes,e bk.off p.offers] 27 20 false;let y:=bq.row bk.off [] 39 true;let s:=fW p.offers d c;let u:=h [e bk.off (eE p c),γD (jq p c)];let v:=(↑p.offers.length:Int);(((q.same q/\w.same w/\(γp .i64 d).same (a d)/\(e m c).same (e m c)/\(a (↑c.length:Int)).same t/\(γp .i64 0).same (a 0)/\True)/\r.same r/\y.same y/\True)/\b<=b/\b<=l/\(b<=b/\d<f)/\d<=d/\s=ζV (λx ↦(b,d,[]).snd.snd++x) s)/\∀(x:Int×Int×List Off),let k:=bj c x.fst.toNat b;let z:=decide (k<=x.snd.fst);let A:=x.snd.snd.length+1;let n:=x.fst+j;let o:=x.snd.snd++[bj p.offers k.toNat bk.off.dflt];let B:=a k;let C:=a n;let D:=bq.row bk.off o 39 true;b<=x.fst/\x.fst<=l/\((↑x.snd.snd.length:Int)<=x.snd.fst+j/\x.snd.fst<f)/\d<=x.snd.fst/\s=ζV (λx_1 ↦x.snd.snd++x_1) (fW p.offers x.snd.fst (γ5 x.fst.toNat c))->(decide (x.fst<l)=true->b<=x.fst/\x.fst<(↑c.length:Int)/\x.fst.toNat<c.length/\(z=true->(h [e m [],g]).same u)/\(z=false->(decide (v<=k)=true->(h [e m [],g]).same u)/\(decide (v<=k)=false->b<=k/\k<v/\k.toNat<p.offers.length/\x.snd.snd.length=x.snd.snd.length/\A*64<=140737488355328/\A<=1000000000000/\bV .i64 n/\((q.same q/\(SV.ow 1 o.length 8).same (SV.ow 1 o.length 8)/\B.same B/\(e m c).same (e m c)/\t.same t/\C.same C/\True)/\r.same r/\D.same D/\True)/\(b<=n/\n<=l/\((↑o.length:Int)<=k+j/\k<f)/\d<=k/\s=ζV (λx ↦(n,k,o).snd.snd++x) (fW p.offers k (γ5 n.toNat c)))/\(l - n).toNat<(l - x.fst).toNat)))/\(decide (x.fst<l)=false->x.snd.snd.length=x.snd.snd.length/\(h [e bk.off x.snd.snd,δo true]).same u)) (by kernel_rfl) ?_;simp only[vcs];have hrow:∀{l:List Off},l=[]->(Φ (.i .i64) []).same (Φ .off l):=by rintro l rfl;exact HY.2 trivial
 refine⟨⟨by omega,by omega,by omega,by simp⟩,?_⟩;rintro⟨i,last,out⟩ ⟨hi0,hi1,hlen,hla,hi⟩;simp only at hi0 hi1 hlen hla hi ⊢;refine⟨λhlt=>?_,λhge=>?_⟩
 ·rw[sM (d:=0) hi0 hlt] at hi;generalize hx:bj c i.toNat 0=x at hi ⊢;simp only[fW] at hi;refine⟨by omega,by omega,by omega,λh1=>?_,λh1=>⟨λh2=>?_,λh2=>?_⟩⟩
  ·rw[if_pos (.inl h1)] at hi;exact⟨hrow (by simp[eE,hi]),by simp[jq,hi]⟩
  ·rw[if_pos (.inr (by omega))] at hi;exact⟨hrow (by simp[eE,hi]),by simp[jq,hi]⟩
  ·rw[if_neg (by omega)] at hi;simp only[List.length_append,List.length_singleton];refine⟨by omega,by omega,by omega,by omega,by omega,by omega,⟨by omega,by omega,by omega,by omega,?_⟩,by omega⟩;rw[hi,Option.map_map];congr 1;funext r;simp
 ·rw[show i.toNat=c.length from by omega,δ8] at hi;simp only[fW,γm,List.append_nil] at hi;exact⟨by simp[eE,hi],by simp[jq,hi]⟩
def L6:List bL:=pU::Dp::L5
theorem hL6:∀c∈L6,Holds Tryz.prog c:=by
 grind[L6,h79,h133,hL5]
def dc (p:bp) (c:List Int):Int:=if bC p≠0 then bC p else if jq p c=false then 4 else if fV p (eE p c)=false then 14 else 0
def zQ:bL:=⟨61,bp×List Int,.cons cY (.one (dW (.i .i64))),λa=>a.2.length<=9223372036854775807,λa=> .si .i64 (dc a.1 a.2)⟩
theorem Qj {p:bp}:∀{l:List Off} {a:List mO},fH p a l=0->∀x∈l,iW p x=0
 |[],_,_=>by simp;|o::r,a,h=>by
  simp only[fH] at h;split at h;·omega
  ·rename_i c;split at h;·cases h
   ·intro x b;rcases γE.1 b with rfl|b;·omega
    ·exact Qj h x b
theorem qI {p:bp} (h:bC p=0):gV p=0/\∀x∈p.offers,iW p x=0:=by
 unfold bC at h;split at h;·omega
 ·rename_i a;exact⟨ω.1 a,Qj h⟩
theorem xI {p:bp} {o:Off} (h:iW p o=0):j5 p.classes.length o=0/\o.want≠bz.zero/\fV p [o]=true:=by
 unfold iW at h;grind
theorem xJ {l:List Off}:∀{c:List Int} {a:Int} {r:List Off}, -1<=a->fW l a c=some r->r.length+a+1<=l.length\/r=[]
 |[],a,r,_,h=>by grind[fW];|i::c,a,r,d,h=>by
  simp only[fW] at h;split at h;·cases h
  ·rename_i e;obtain⟨f,b,rfl⟩:=δ.1 h;have:=xJ (by omega) b;grind
theorem H9 {l:List Off}:∀{c:List Int} {a:Int} {r:List Off}, -1<=a->fW l a c=some r->∀x∈r,x∈l
 |[],a,r,_,h=>by grind[fW];|i::c,a,r,f,h=>by
  simp only[fW] at h;split at h;·cases h
  ·rename_i e;obtain⟨g,d,rfl⟩:=δ.1 h;intro x b;rcases γE.1 b with rfl|b;·grind[cK]
   ·exact H9 (by omega) d x b
theorem h100:Holds Tryz.prog zQ:=by
 refine cF (L:=L6) zQ (λp=>λ_=> .look) hL6 ?_;rintro⟨p,c⟩ (n:c.length<=9223372036854775807);refine bN (let a:=γp .i64;let e:=decide (bC p≠(0:Int));let d:=Θ .i64 (dc p c);let f:=!fV p (eE p c);True/\(e=true->(Θ .i64 (bC p)).same d)/\(e=false->(c.length<=9223372036854775807/\p.offers.length<=1000)/\((!jq p c)=true->(a 4).same d)/\((!jq p c)=false->(p.classes.length<=8/\(eE p c).length<=1000/\∀(x:Off),x∈eE p c->(0:Int)<=x.bD/\x.bD<(↑p.classes.length:Int)/\x.want.ok=true)/\(f=true->(a 14).same d)/\(f=false->(a 0).same d)))) (by kernel_rfl) ?_;simp only[vcs];refine⟨λh=>by simp[dc,h],λh=>?_⟩;have g:bC p=0:=ω.1 h;obtain⟨m,j⟩:=qI g;obtain⟨s,o,l,q,t⟩:=qH m;refine⟨⟨n,by omega⟩,λa=>by grind[dc],λa=>⟨⟨l,?_,?_⟩,λk=>by grind[dc],λk=>by grind[dc]⟩⟩
 ·unfold jq at a;obtain⟨r,b⟩:=γo.1 a;have:=xJ (by omega) b;grind[eE]
 ·unfold jq at a;obtain⟨r,b⟩:=γo.1 a;simp only[eE,b,Option.getD_some];intro x i;have u:=Dm (xI (j x (H9 (by omega) b x i))).1;simp_all
def L7:List bL:=zQ::L6
theorem hL7:∀c∈L7,Holds Tryz.prog c:=by
 simp only[L7,γq];exact⟨h100,hL6⟩
def bz.sub (a b:bz):bz:=⟨a.a0 - b.a0,a.a1 - b.a1,a.a2 - b.a2,a.a3 - b.a3,a.a4 - b.a4,a.a5 - b.a5⟩
def bz.meet (a b:bz):bz:=⟨min a.a0 b.a0,min a.a1 b.a1,min a.a2 b.a2,min a.a3 b.a3,min a.a4 b.a4,min a.a5 b.a5⟩
def bz.le (a b:bz):Bool:=decide (a.a0<=b.a0)&&decide (a.a1<=b.a1)&&decide (a.a2<=b.a2)&&decide (a.a3<=b.a3)&&decide (a.a4<=b.a4)&&decide (a.a5<=b.a5)
theorem bz.le_iff {a b:bz}:a.le b=true↔a.a0<=b.a0/\a.a1<=b.a1/\a.a2<=b.a2/\a.a3<=b.a3/\a.a4<=b.a4/\a.a5<=b.a5:=by
 simp[bz.le,and_assoc]
theorem aar {x y:Int}:min x y=x↔x<=y:=by
 rw[Int.min_def];split<;>omega
theorem Qk {a b:List SV}:(γC a).same (.agg b)↔gL a=gL b:=by simp[εJ,γG]
def Dq:bL:=⟨182,bz×bz,.cons (eG .eD) (.one (eG .eD)),λ_=>True,λa=> .agg (encS .eD (a.1.meet a.2))⟩
theorem h163:Holds Tryz.prog Dq:=by
 refine cF (L:=[]) Dq (λ_=>λ_=> .pO 7) (by simp) ?_;rintro⟨a,b⟩ _;refine bN (let c:=Θ .i64;(γC [c (min a.a0 b.a0),c (min a.a1 b.a1),c (min a.a2 b.a2),c (min a.a3 b.a3),c (min a.a4 b.a4),c (min a.a5 b.a5)]).same (γC [c (a.meet b).a0,c (a.meet b).a1,c (a.meet b).a2,c (a.meet b).a3,c (a.meet b).a4,c (a.meet b).a5])) (by kernel_rfl) ?_;simp only[vcs,Qk,gL,γG,bz.meet,and_self]
def Ia:bL:=⟨148,bz×bz,.cons (eG .eD) (.one (eG .eD)),λ_=>True,λa=> .sb (a.1.le a.2)⟩
theorem h144:Holds Tryz.prog Ia:=by
 refine cF (L:=[Dq]) Ia (λ_=>λ_=> .pO 7) (by simpa using h163) ?_;rintro⟨a,b⟩ _;refine bN (True/\(γD (decide ((a.meet b).a0=a.a0)&&(decide ((a.meet b).a1=a.a1)&&(decide ((a.meet b).a2=a.a2)&&(decide ((a.meet b).a3=a.a3)&&(decide ((a.meet b).a4=a.a4)&&(decide ((a.meet b).a5=a.a5)&&true))))))).same (γD (a.le b))) (by kernel_rfl) ?_;simp only[vcs,bz.meet];rw[Bool.eq_iff_iff];simp only[ζ,decide_eq_true_eq,bz.le_iff,δT,aar]
def Ib:bL:=⟨149,bz×bz,.cons (eG .eD) (.one (eG .eD)),λa=>a.1.ok=true/\a.2.ok=true,λa=> .agg (encS .eD (a.1.sub a.2))⟩
theorem h145:Holds Tryz.prog Ib:=by
 refine cF (L:=[]) Ib (λ_=>λ_=> .pO 7) (by simp) ?_;rintro⟨a,b⟩ ⟨h1,h2⟩;have h1:=bz.eL.1 h1;have h2:=bz.eL.1 h2;simp only at h1 h2;refine bN (let c:=Θ .i64;let d:=bV .i64;d (a.a0 - b.a0)/\d (a.a1 - b.a1)/\d (a.a2 - b.a2)/\d (a.a3 - b.a3)/\d (a.a4 - b.a4)/\d (a.a5 - b.a5)/\(γC [c (a.a0 - b.a0),c (a.a1 - b.a1),c (a.a2 - b.a2),c (a.a3 - b.a3),c (a.a4 - b.a4),c (a.a5 - b.a5)]).same (γC [c (a.sub b).a0,c (a.sub b).a1,c (a.sub b).a2,c (a.sub b).a3,c (a.sub b).a4,c (a.sub b).a5])) (by kernel_rfl) ?_;simp only[vcs,Qk,gL,γG,bz.sub,and_self];repeat' (first|refine γj ?_ ?_|intro _)
 all_goals first|trivial|omega
def fA (p:bp) (m:Int):Int:=if bC p≠0 then bC p else if m<0\/2^p.classes.length<=m then 4 else 0
def Dt:bL:=⟨106,bp×Int,.cons cY (.one (dV .i64)),λ_=>True,λa=> .si .i64 (fA a.1 a.2)⟩
theorem h112:Holds Tryz.prog Dt:=by
 refine cF (L:=L7) Dt (λ_=>λ_=> .pO 7) hL7 ?_;rintro⟨p,m⟩ _;refine bN (let a:=γp .i64;let b:=(0:Int);let f:=decide (bC p≠b);let c:=Θ .i64 (fA p m);let g:=decide (m<b);let d:=(↑p.classes.length:Int);let e:=(1:Int)*(2:Int)^d.toNat;True/\(f=true->(Θ .i64 (bC p)).same c)/\(f=false->(g=true->(a 4).same c)/\(g=false->b<=d/\d<=(64:Int)/\bV .i64 e/\(decide (e<=m)=true->(a 4).same c)/\(decide (e<=m)=false->(a 0).same c)))) (by kernel_rfl) ?_;simp only[vcs];refine⟨λh=>by simp[fA,h],λh=>⟨λh1=>?_,λh1=>?_⟩⟩
 ·have hz:=ω.1 h;simp[fA,hz,h1]
 ·have hz:bC p=0:=ω.1 h;obtain⟨f1,f2,f3,f4,f5⟩:=qH (qI hz).1;have hp:(1:Int)*2^((p.classes.length:Int)).toNat=2^p.classes.length:=by simp
  have hb:(2:Int)^p.classes.length<=256:=by
   have:p.classes.length=0\/p.classes.length=1\/p.classes.length=2\/p.classes.length=3\/p.classes.length=4\/p.classes.length=5\/p.classes.length=6\/p.classes.length=7\/p.classes.length=8:=by omega
   rcases this with h|h|h|h|h|h|h|h|h<;>rw[h]<;>decide
  have hb0:(0:Int)<2^p.classes.length:=Int.pow_pos (by decide);rw[hp];refine⟨by omega,by omega,⟨by omega,by omega⟩,λh2=>?_,λh2=>?_⟩;·simp only[fA,hz,ne_eq,not_true,if_false,if_pos (show m<0\/2^p.classes.length<=m from .inr h2)]
  ·simp only[fA,hz,ne_eq,not_true,if_false,if_neg (show ¬(m<0\/2^p.classes.length<=m) by omega)]
structure L8 where
 (l0 l1 l2 l3 l4 l5 l6 l7:List Off)
structure kD where
 p:bp
 ls:L8
 es:List (Sit×Int)
def iY (p:bp) (j:Int):List Off:=p.offers.filter λx=>decide (x.bD=j)
def L8.of (p:bp):L8:=⟨iY p 0,iY p 1,iY p 2,iY p 3,iY p 4,iY p 5,iY p 6,iY p 7⟩
def kD.o (s:kD):bW:=
 [.cells [.si .i64 s.p.supply.a0,.si .i64 s.p.supply.a1,.si .i64 s.p.supply.a2,.si .i64 s.p.supply.a3,.si .i64 s.p.supply.a4,.si .i64 s.p.supply.a5,
  .si .i64 s.p.opn.a0,.si .i64 s.p.opn.a1,.si .i64 s.p.opn.a2,.si .i64 s.p.opn.a3,.si .i64 s.p.opn.a4,.si .i64 s.p.opn.a5,
  .si .i64 s.p.cls.a0,.si .i64 s.p.cls.a1,.si .i64 s.p.cls.a2,.si .i64 s.p.cls.a3,.si .i64 s.p.cls.a4,.si .i64 s.p.cls.a5,
  .row (.i .i64) s.p.classes,.row .off s.p.offers,.row .off s.ls.l0,.row .off s.ls.l1,.row .off s.ls.l2,.row .off s.ls.l3,.row .off s.ls.l4,.row .off s.ls.l5,.row .off s.ls.l6,.row .off s.ls.l7,.mp 1] 214 29 false,
  .map .sit (.i .i64) true s.es ([0,0,0,0,0,0,0,0,0,0,0,0,0],true) true]
def Ic:bW->Option kD
 |[.cells [s0,s1,s2,s3,s4,s5,o0,o1,o2,o3,o4,o5,c0,c1,c2,c3,c4,c5,k,f,l0,l1,l2,l3,l4,l5,l6,l7,.mp 1] 214 29 false,.map sk sv true es ([0,0,0,0,0,0,0,0,0,0,0,0,0],true) true]=>
  match sK [s0,s1,s2,s3,s4,s5,o0,o1,o2,o3,o4,o5,c0,c1,c2,c3,c4,c5,k,f],CO sk sv .sit (.i .i64) es with
  |some p,some es=>match gj .off l0,gj .off l1,gj .off l2,gj .off l3,gj .off l4,gj .off l5,gj .off l6,gj .off l7 with
   |some l0,some l1,some l2,some l3,some l4,some l5,some l6,some l7=>some ⟨p,⟨l0,l1,l2,l3,l4,l5,l6,l7⟩,es⟩
   |_,_,_,_,_,_,_,_=>none
  |_,_=>none
 |_=>none
theorem aas {k v k' v':bk} {es:List (k.T×v.T)} {es':List (k'.T×v'.T)} (h:CO k v k' v' es=some es'):k=k'/\v=v'/\HEq es es':=by
 unfold CO at h;split at h
 ·rename_i hh;obtain⟨rfl,rfl⟩:=hh;simp only[γ] at h;exact⟨rfl,rfl,heq_of_eq h⟩
 ·cases h
theorem aat {o:bW} {s:kD} (h:Ic o=some s):gO o=gO s.o:=by
 unfold Ic at h;split at h
 ·split at h
  ·rename_i p es' h1 h2;split at h
   ·rename_i k0 k1 k2 k3 k4 k5 k6 k7;simp only[γ] at h;obtain⟨rfl,rfl,he⟩:=aas h2;cases he;have hp:=vH h1;subst h;simp only[bp.ss,gL,ξ,and_true] at hp;simp only[kD.o,gO,ι,γt,bq.g,gL,jK k0,jK k1,jK k2,jK k3,jK k4,jK k5,jK k6,jK k7];simp only[hp]
   ·cases h
  ·cases h
 ·cases h
theorem aau {s t:kD} (h:gO s.o=gO t.o):s=t:=by
 obtain⟨p,⟨l0,l1,l2,l3,l4,l5,l6,l7⟩,es⟩:=s;obtain⟨q,⟨m0,m1,m2,m3,m4,m5,m6,m7⟩,fs⟩:=t;simp only[kD.o,gO,ι,γt,bq.g,gL,ξ,bP.cells.injEq,bP.map.injEq,and_true,true_and] at h;obtain⟨h,he⟩:=h;have hp:p=q:=by
  apply cY.inj;show(γC p.ss).g=(γC q.ss).g;simp only[γG,bp.ss,gL,εy,ξ,and_true] at h ⊢;simp only[h,and_self]
 subst hp;have hr:∀{a b:List Off},(Φ .off a).g=(Φ .off b).g->a=b:=λhab=>(dW .off).inj _ _ hab;have h0:=h.2.2.2.2.2.2.2.2.2.2.2.2.2.2.2.2.2.2.2.2;obtain⟨h0,h1,h2,h3,h4,h5,h6,h7⟩:=h0;have e0:=hr h0;have e1:=hr h1;have e2:=hr h2;have e3:=hr h3;have e4:=hr h4;have e5:=hr h5;have e6:=hr h6;have e7:=hr h7;subst e0 e1 e2 e3 e4 e5 e6 e7;have hes:es=fs:=by
  revert fs;induction es with
  |nil=>intro fs he;cases fs with
   |nil=>rfl;|cons=>simp at he
  |cons a es ih=>
   intro fs he;cases fs with
   |nil=>simp at he;|cons b fs=>
    simp only[ι,ξ,μ] at he;obtain⟨⟨h1,h2⟩,h3⟩:=he;have hb:=ih fs h3;obtain⟨a1,a2⟩:=a;obtain⟨b1,b2⟩:=b;simp only[oR,if_true,Value.agg.injEq,mP,dJ,List.headD_cons,γX,Value.int.injEq,true_and] at h1 h2;have h1:=rJ .sit a1 b1 (by simpa[dJ] using h1);rw[hb,h1,h2]
 rw[hes]
def xK:List bL:=Dt::Ia::Ib::Dq::L7
theorem Du:∀c∈xK,Holds Tryz.prog c:=by
 simp only[xK,γq];exact⟨h112,h144,h145,h163,hL7⟩
def Dv (f:FuncId) (β:Type) (A:qF β) (dom:kD×β->Prop) (res:kD×β->SV) (out:kD×β->kD):cZ where
 f:=f;α:=kD×β;put a:=.ptr 0 0 29::A.put a.2;st a:=a.1.o;dec v o:=match v with
  | .ptr 0 0 29::r=>match Ic o,A.dec r with
   |some s,some b=>some (s,b)
   |_,_=>none
  |_=>none;ok v o a h:=by
  split at h
  ·split at h
   ·rename_i h1 h2;simp only[γ] at h;subst h;exact⟨by simp only[gL,A.ok _ _ h2],aat h1⟩
   ·cases h
  ·cases h
 inj a b h1 h2:=by
  simp only[gL,ξ,true_and] at h1;exact Prod.ext (aau h2) (A.inj _ _ h1)
 dom:=dom;res:=res;out a:=(out a).o
def Dw:cZ:=Dv 109 Int (.one (dV .i64)) (λ_=>True) (λa=> .agg (encS .sit ⟨a.2,a.1.p.supply,a.1.p.opn⟩)) (λa=>a.1)
theorem h114:dK Tryz.prog Dw:=by
 refine jm (L:=[]) (W:=[]) Dw lk (by simp) (by simp) ?_;rintro⟨s,m⟩ _;refine bN (let a:=Θ .i64;let b:=Φ;let c:=a s.p.supply.a0;let d:=a s.p.supply.a1;let e:=a s.p.supply.a2;let f:=a s.p.supply.a3;let g:=a s.p.supply.a4;let h:=a s.p.supply.a5;let j:=a s.p.opn.a0;let k:=a s.p.opn.a1;let l:=a s.p.opn.a2;let n:=a s.p.opn.a3;let o:=a s.p.opn.a4;let q:=a s.p.opn.a5;let r:=γC [a m,c,d,e,f,g,h,j,k,l,n,o,q];let t:=bq.cells [c,d,e,f,g,h,j,k,l,n,o,q,a s.p.cls.a0,a s.p.cls.a1,a s.p.cls.a2,a s.p.cls.a3,a s.p.cls.a4,a s.p.cls.a5,b (bk.i .i64) s.p.classes,b bk.off s.p.offers,b bk.off s.ls.l0,b bk.off s.ls.l1,b bk.off s.ls.l2,b bk.off s.ls.l3,b bk.off s.ls.l4,b bk.off s.ls.l5,b bk.off s.ls.l6,b bk.off s.ls.l7,SV.mp 1] 214 29 false;let u:=bq.map bk.sit (bk.i .i64) true s.es ([0,0,0,0,0,0,0,0,0,0,0,0,0],true) true;r.same r/\t.same t/\u.same u/\True) (by kernel_rfl) ?_;simp only[vcs]
def oc (c w a j k:Int):Int:=if j<k/\(c=0\/c=a) then 0 else w
def gv (p:bp) (x:Off):Int:=bj p.classes x.bD.toNat 0
def eO (p:bp) (x:Off) (k:Int):bz:=⟨oc p.cls.a0 x.want.a0 (gv p x) 0 k,oc p.cls.a1 x.want.a1 (gv p x) 1 k,oc p.cls.a2 x.want.a2 (gv p x) 2 k,oc p.cls.a3 x.want.a3 (gv p x) 3 k,oc p.cls.a4 x.want.a4 (gv p x) 4 k,oc p.cls.a5 x.want.a5 (gv p x) 5 k⟩
def dE (p:bp) (x:Off):bz:=eO p x 6
def Ie:cZ:=Dv 147 Off (.one (eG .off)) (λa=>0<=a.2.bD/\a.2.bD<a.1.p.classes.length) (λa=> .agg (encS .eD (dE a.1.p a.2))) (λa=>a.1)
def aav (a:kD×Off):Nat->cB
 |3=> .inv Int (λk=>⟨[(0,.ptr 0 0 29),(3,.ptr 2 0 8),(4,.ptr 3 0 6),(5,.ptr 4 0 6),(9,.si .i64 k)],a.1.o++[.cells (encS .off a.2) 39 8 false,.cells [.il .i64 0,.il .i64 0,.il .i64 0,.il .i64 0,.il .i64 0,.il .i64 0] 23 6 false,.cells (encS .eD (eO a.1.p a.2 k)) 23 6 false]⟩) (λs=>iS s 9)
  (λk=>0<=k/\k<=6) (λk=>(6 - k).toNat) λ_ _=> .look
 |_=> .look
theorem h143:dK Tryz.prog Ie:=by
 refine jm (L:=[]) (W:=[]) Ie aav (by simp) (by simp) ?_;rintro⟨s,x⟩ ⟨h1,h2⟩;simp only at h1 h2;refine bN (let a:=Θ .i64;let b:=(0:Int);let c:=(6:Int);let d:=bq.cells;let e:=Φ;let f:=γS;let m:=f 0 0 29;let n:=f 2 0 8;let o:=f 3 0 6;let q:=f 4 0 6;let l:=γp .i64 0;let j:=d [a s.p.supply.a0,a s.p.supply.a1,a s.p.supply.a2,a s.p.supply.a3,a s.p.supply.a4,a s.p.supply.a5,a s.p.opn.a0,a s.p.opn.a1,a s.p.opn.a2,a s.p.opn.a3,a s.p.opn.a4,a s.p.opn.a5,a s.p.cls.a0,a s.p.cls.a1,a s.p.cls.a2,a s.p.cls.a3,a s.p.cls.a4,a s.p.cls.a5,e (bk.i .i64) s.p.classes,e bk.off s.p.offers,e bk.off s.ls.l0,e bk.off s.ls.l1,e bk.off s.ls.l2,e bk.off s.ls.l3,e bk.off s.ls.l4,e bk.off s.ls.l5,e bk.off s.ls.l6,e bk.off s.ls.l7,SV.mp 1] 214 29 false;let k:=bq.map bk.sit (bk.i .i64) true s.es ([0,0,0,0,0,0,0,0,0,0,0,0,0],true) true;let z:=a x.want.a0;let A:=a x.want.a1;let B:=a x.want.a2;let C:=a x.want.a3;let D:=a x.want.a4;let E:=a x.want.a5;let r:=d [a x.bD,z,A,B,C,D,E,a x.value] 39 8 false;let t:=d [l,l,l,l,l,l] 23 6 false;let u:=eO s.p x b;let M:=[s.p.cls.a0,s.p.cls.a1,s.p.cls.a2,s.p.cls.a3,s.p.cls.a4,s.p.cls.a5];(((m.same m/\n.same n/\o.same o/\q.same q/\l.same (a 0)/\True)/\j.same j/\k.same k/\r.same r/\t.same t/\(d [z,A,B,C,D,E] 23 6 false).same (d [a u.a0,a u.a1,a u.a2,a u.a3,a u.a4,a u.a5] 23 6 false)/\True)/\b<=b/\b<=c)/\∀(x_1:Int),let h:=x_1+(1:Int);let y:=a h;let g:=eO s.p x x_1;let v:=eO s.p x h;let F:=d [a v.a0,a v.a1,a v.a2,a v.a3,a v.a4,a v.a5] 23 6 false;let G:=decide (x_1<c);let H:=bj M x_1.toNat b;let I:=decide (H=b);let J:=decide (H=bj s.p.classes x.bD.toNat b);let K:=[a g.a0,a g.a1,a g.a2,a g.a3,a g.a4,a g.a5];let w:=dE s.p x;let L:=b<=x_1/\x_1<c/\x_1.toNat<6/\bV .i64 h/\((m.same m/\n.same n/\o.same o/\q.same q/\y.same y/\True)/\j.same j/\k.same k/\r.same r/\t.same t/\(d [a (if x_1.toNat=0 then b else g.a0),a (if x_1.toNat=1 then b else g.a1),a (if x_1.toNat=2 then b else g.a2),a (if x_1.toNat=3 then b else g.a3),a (if x_1.toNat=4 then b else g.a4),a (if x_1.toNat=5 then b else g.a5)] 23 6 false).same F/\True)/\(b<=h/\h<=c)/\(c - h).toNat<(c - x_1).toNat;b<=x_1/\x_1<=c->(G=true->b<=x_1/\x_1<c/\x_1.toNat<6/\(I=true->L)/\(I=false->b<=x_1/\x_1<c/\x_1.toNat<6/\b<=x.bD/\x.bD<(↑s.p.classes.length:Int)/\x.bD.toNat<s.p.classes.length/\(J=true->L)/\(J=false->bV .i64 h/\((m.same m/\n.same n/\o.same o/\q.same q/\y.same y/\True)/\j.same j/\k.same k/\r.same r/\t.same t/\(d K 23 6 false).same F/\True)/\(b<=h/\h<=c)/\(c - h).toNat<(c - x_1).toNat)))/\(G=false->(γC K).same (γC [a w.a0,a w.a1,a w.a2,a w.a3,a w.a4,a w.a5])/\j.same j/\k.same k/\True)) (by kernel_rfl) ?_;simp only[vcs];have hc:∀{a0 a1 a2 a3 a4 a5 b0 b1 b2 b3 b4 b5:Int},a0=b0/\a1=b1/\a2=b2/\a3=b3/\a4=b4/\a5=b5->
   (bq.cells [Θ .i64 a0,Θ .i64 a1,Θ .i64 a2,Θ .i64 a3,Θ .i64 a4,Θ .i64 a5] 23 6 false).same (bq.cells [Θ .i64 b0,Θ .i64 b1,Θ .i64 b2,Θ .i64 b3,Θ .i64 b4,Θ .i64 b5] 23 6 false):=by
  rintro _ _ _ _ _ _ _ _ _ _ _ _ ⟨rfl,rfl,rfl,rfl,rfl,rfl⟩;rfl
 have xM:∀c w cl j:Int,0<=j->oc c w cl j 0=w:=λc w cl j hj=>by unfold oc;rw[if_neg (by omega)]
 have ag1:∀c w cl j k:Int,j≠k->oc c w cl j (k+1)=oc c w cl j k:=λc w cl j k hj=>by
  unfold oc;by_cases h:j<k/\(c=0\/c=cl);·rw[if_pos h,if_pos ⟨by omega,h.2⟩]
  ·rw[if_neg h,if_neg (by omega)]
 have ag2:∀c w cl k:Int,(c=0\/c=cl)->oc c w cl k (k+1)=0:=λc w cl k h=>by unfold oc;rw[if_pos ⟨by omega,h⟩]
 have ag3:∀c w cl k:Int,¬(c=0\/c=cl)->oc c w cl k (k+1)=oc c w cl k k:=λc w cl k h=>by
  unfold oc;rw[if_neg (by omega),if_neg (by omega)]
 have hset:∀k:Int,0<=k->k<6->(bj [s.p.cls.a0,s.p.cls.a1,s.p.cls.a2,s.p.cls.a3,s.p.cls.a4,s.p.cls.a5] k.toNat 0=0\/bj [s.p.cls.a0,s.p.cls.a1,s.p.cls.a2,s.p.cls.a3,s.p.cls.a4,s.p.cls.a5] k.toNat 0=gv s.p x)->
   (if k.toNat=0 then 0 else(eO s.p x k).a0)=(eO s.p x (k+1)).a0/\(if k.toNat=1 then 0 else(eO s.p x k).a1)=(eO s.p x (k+1)).a1/\(if k.toNat=2 then 0 else(eO s.p x k).a2)=(eO s.p x (k+1)).a2/\
   (if k.toNat=3 then 0 else(eO s.p x k).a3)=(eO s.p x (k+1)).a3/\(if k.toNat=4 then 0 else(eO s.p x k).a4)=(eO s.p x (k+1)).a4/\(if k.toNat=5 then 0 else(eO s.p x k).a5)=(eO s.p x (k+1)).a5:=by
  intro k hk0 Ql hcl;have hk:k=0\/k=1\/k=2\/k=3\/k=4\/k=5:=by omega
  rcases hk with rfl|rfl|rfl|rfl|rfl|rfl<;>simp[bj] at hcl<;>simp[eO,oc,hcl]
 have hkeep:∀k:Int,0<=k->k<6->¬(bj [s.p.cls.a0,s.p.cls.a1,s.p.cls.a2,s.p.cls.a3,s.p.cls.a4,s.p.cls.a5] k.toNat 0=0\/bj [s.p.cls.a0,s.p.cls.a1,s.p.cls.a2,s.p.cls.a3,s.p.cls.a4,s.p.cls.a5] k.toNat 0=gv s.p x)->
   (eO s.p x k).a0=(eO s.p x (k+1)).a0/\(eO s.p x k).a1=(eO s.p x (k+1)).a1/\(eO s.p x k).a2=(eO s.p x (k+1)).a2/\
   (eO s.p x k).a3=(eO s.p x (k+1)).a3/\(eO s.p x k).a4=(eO s.p x (k+1)).a4/\(eO s.p x k).a5=(eO s.p x (k+1)).a5:=by
  intro k hk0 Ql hcl;have hk:k=0\/k=1\/k=2\/k=3\/k=4\/k=5:=by omega
  rcases hk with rfl|rfl|rfl|rfl|rfl|rfl<;>simp[bj] at hcl<;>simp[eO,oc,hcl]
 refine⟨⟨hc ⟨by simp[eO,xM],by simp[eO,xM],by simp[eO,xM],by simp[eO,xM],by simp[eO,xM],by simp[eO,xM]⟩,by omega,by omega⟩,?_⟩;rintro k ⟨hk0,Ql⟩;refine⟨λhlt=>⟨by omega,by omega,by omega,λhA=>⟨by omega,by omega,by omega,by omega,hc (hset k hk0 hlt (.inl hA)),by omega,by omega⟩,λhA=>⟨by omega,by omega,by omega,by omega,by omega,by omega,
  λhB=>⟨by omega,by omega,by omega,by omega,hc (hset k hk0 hlt (.inr hB)),by omega,by omega⟩,λhB=>⟨by omega,hc (hkeep k hk0 hlt (by rintro(h|h);exact hA h;exact hB h)),by omega,by omega⟩⟩⟩,λhge=>?_⟩;have:k=6:=by omega
 subst this;rfl
def Sit.b (a:Sit):Prop:=a.left.ok=true/\a.opn.ok=true
def fitsAt (p:bp) (a:Sit) (x:Off):Bool:=x.want.le a.left&&(dE p x).le a.opn
def eU (p:bp) (a:Sit) (x:Off):Sit:=⟨eJ.pN .i64 a.members (2^x.bD.toNat),a.left.sub x.want,a.opn.sub (dE p x)⟩
def Sit.zero:Sit:=⟨0,bz.zero,bz.zero⟩
def pV (p:bp) (a:Sit) (x:Off):Sit:=if fitsAt p a x=true then eU p a x else Sit.zero
theorem xN {c w cl j k:Int} (h:0<=w/\w<=4):0<=oc c w cl j k/\oc c w cl j k<=4:=by
 unfold oc;split<;>omega
theorem If {p:bp} {x:Off} (h:x.want.ok=true):(dE p x).ok=true:=by
 have h:=bz.eL.1 h;exact bz.eL.2 ⟨xN h.1,xN h.2.1,xN h.2.2.1,xN h.2.2.2.1,xN h.2.2.2.2.1,xN h.2.2.2.2.2⟩
def Dx:cZ:=Dv 110 (Sit×Off) (.cons (eG .sit) (.one (eG .off))) (λa=>a.1.p.classes.length<=8/\0<=a.2.2.bD/\a.2.2.bD<a.1.p.classes.length/\a.2.1.b/\a.2.2.want.ok=true)
 (λa=> .bH [.agg (encS .sit (pV a.1.p a.2.1 a.2.2)),.sb (fitsAt a.1.p a.2.1 a.2.2)]) (λa=>a.1)
theorem h116:dK Tryz.prog Dx:=by
 refine jm (L:=xK) (W:=[Ie]) Dx lk (by simpa using h143) Du ?_;rintro⟨s,a,x⟩ ⟨h1,h2,h3,h4,h5⟩;simp only at h1 h2 h3 h4 h5;refine bN (let b:=Θ .i64;let c:=Φ;let d:=γC;let e:=SV.bH;let f:=γp .i64 0;let g:=pV s.p a x;let h:=g.left;let n:=e [d [b g.members,b h.a0,b h.a1,b h.a2,b h.a3,b h.a4,b h.a5,b g.opn.a0,b g.opn.a1,b g.opn.a2,b g.opn.a3,b g.opn.a4,b g.opn.a5],γD (fitsAt s.p a x)];let l:=bq.cells [b s.p.supply.a0,b s.p.supply.a1,b s.p.supply.a2,b s.p.supply.a3,b s.p.supply.a4,b s.p.supply.a5,b s.p.opn.a0,b s.p.opn.a1,b s.p.opn.a2,b s.p.opn.a3,b s.p.opn.a4,b s.p.opn.a5,b s.p.cls.a0,b s.p.cls.a1,b s.p.cls.a2,b s.p.cls.a3,b s.p.cls.a4,b s.p.cls.a5,c (bk.i .i64) s.p.classes,c bk.off s.p.offers,c bk.off s.ls.l0,c bk.off s.ls.l1,c bk.off s.ls.l2,c bk.off s.ls.l3,c bk.off s.ls.l4,c bk.off s.ls.l5,c bk.off s.ls.l6,c bk.off s.ls.l7,SV.mp 1] 214 29 false;let m:=bq.map bk.sit (bk.i .i64) true s.es ([0,0,0,0,0,0,0,0,0,0,0,0,0],true) true;let o:=!(dE s.p x).le a.opn;let q:=(1:Int)*(2:Int)^x.bD.toNat;let j:=a.left.sub x.want;let k:=a.opn.sub (dE s.p x);let r:=(e [d [f,f,f,f,f,f,f,f,f,f,f,f,f],δo false]).same n/\l.same l/\m.same m/\True;((0:Int)<=x.bD/\x.bD<(↑s.p.classes.length:Int))/\True/\((!x.want.le a.left)=true->r)/\((!x.want.le a.left)=false->True/\(o=true->r)/\(o=false->(0:Int)<=x.bD/\x.bD<=(64:Int)/\bV .i64 q/\(a.left.ok=true/\x.want.ok=true)/\(a.opn.ok=true/\(dE s.p x).ok=true)/\(e [d [b (eJ.pN .i64 a.members q),b j.a0,b j.a1,b j.a2,b j.a3,b j.a4,b j.a5,b k.a0,b k.a1,b k.a2,b k.a3,b k.a4,b k.a5],δo true]).same n/\l.same l/\m.same m/\True))) (by kernel_rfl) ?_;simp only[vcs];have hz:∀b:Sit,b=Sit.zero->(γC [γp .i64 0,γp .i64 0,γp .i64 0,γp .i64 0,γp .i64 0,γp .i64 0,γp .i64 0,γp .i64 0,γp .i64 0,γp .i64 0,γp .i64 0,γp .i64 0,γp .i64 0]).same
   (γC [Θ .i64 b.members,Θ .i64 b.left.a0,Θ .i64 b.left.a1,Θ .i64 b.left.a2,Θ .i64 b.left.a3,Θ .i64 b.left.a4,Θ .i64 b.left.a5,Θ .i64 b.opn.a0,Θ .i64 b.opn.a1,Θ .i64 b.opn.a2,Θ .i64 b.opn.a3,Θ .i64 b.opn.a4,Θ .i64 b.opn.a5]):=by
  rintro b rfl;rfl
 have h2b:(1:Int)*2^x.bD.toNat<=256/\0<(1:Int)*2^x.bD.toNat:=by
  have:x.bD.toNat=0\/x.bD.toNat=1\/x.bD.toNat=2\/x.bD.toNat=3\/x.bD.toNat=4\/x.bD.toNat=5\/x.bD.toNat=6\/x.bD.toNat=7:=by omega
  rcases this with h|h|h|h|h|h|h|h<;>rw[h]<;>decide
 refine⟨⟨h2,h3⟩,λhw=>?_,λhw=>⟨λho=>?_,λho=>?_⟩⟩
 ·have hf:fitsAt s.p a x=false:=by simp[fitsAt,hw]
  exact⟨hz _ (by simp[pV,hf]),hf.symm⟩
 ·have hf:fitsAt s.p a x=false:=by simp[fitsAt,ho]
  exact⟨hz _ (by simp[pV,hf]),hf.symm⟩
 ·have hf:fitsAt s.p a x=true:=by simp[fitsAt,hw,ho]
  have ha:pV s.p a x=eU s.p a x:=by simp[pV,hf]
  refine⟨by omega,by omega,by omega,⟨h4.1,h5⟩,⟨h4.2,If h5⟩,?_,hf.symm⟩;rw[ha];simp only[eU,Int.one_mul];rfl
end Go.Vi
namespace Go.Proofs.YtjcmncmajmoiiaaGreat
open Go.ChangeShapes Go.WideShapes Go.ChangeAt Go.RowKit Go.Vi
theorem Tryz.own:ownKnob Tryz.prog.godebug=none:=by kernel_rfl
theorem Tryz.laidOut:laidOutB Tryz.prog=true:=by kernel_rfl
theorem aaw:Reads Tryz.prog 3 (.i .i64):=ZX Tryz.underlying3
theorem Qm:Reads Tryz.prog 23 .eD:=Z2 Tryz.underlying23 Tryz.underlying3 (by kernel_rfl) (by kernel_rfl)
theorem aax:Reads Tryz.prog 39 .off:=Z3 Tryz.underlying39 (by kernel_rfl) rfl rfl rfl Tryz.underlying3 (by kernel_rfl) Tryz.underlying2 (by kernel_rfl) Qm (by kernel_rfl) rfl
theorem aay {H:Type} {enc:TypeId×Value->H} {w:World} {a:Nat->Bool} {c:Bool} {b:Nat} {cs:List Value} {x:DataW H×List MemPlace} (h:DataW.trod enc Tryz.prog w 0 a c b 27 cs=some x):
  ∃p:bp,bE nC w [] [] (gL p.ss) cs:=
 Z4 Tryz.underlying27 (by kernel_rfl) rfl rfl rfl rfl rfl rfl Qm (by kernel_rfl) Tryz.underlying24 aaw (by kernel_rfl) (by kernel_rfl) Tryz.underlying25 aax (by kernel_rfl) (by kernel_rfl) h
theorem aaz {f:FuncId} {args:List SV} (h:lA Tryz.prog f (gL args) [] (γD true).g []) {W:World} {vs:List Value} (d:bE nC W [] [] (gL args) vs):
  Calls Tryz.prog f vs.toArray W λe c=>e= .returned (.bool true)/\Below W.heap.size W c:=by
 refine(h nC W [] vs (B6 W (λb a=>a.elim)) d).mono ?_;grind[γG,bw,Z6]
end Go.Proofs.YtjcmncmajmoiiaaGreat
namespace Go.Vi
open Go.ChangeShapes Go.WideShapes Go.RowKit
def aaA (P:Program) (t:TypeId) (s:bk) (Q:s.T->Prop):Prop:=
 ∀(H:Type) (d:TypeId×Value->H) (w:World) (a:Nat->Bool) (c:Bool) (b:Nat) (e:List Value) (x:DataW H×List MemPlace),DataW.trod d P w 0 a c b t e=some x->∃y:s.T,Q y/\bE nC w [] [] (dN s y) e
theorem Dc.q {P:Program} {t:TypeId} {s:bk} (h:Dc P t s):aaA P t s λ_=>True:=λH d w a c b e x f=>by
 obtain⟨y,g⟩:=h H d w a c b e x f;grind
end Go.Vi
namespace Go.Proofs.YtjcmncmajmoiiaaGreat
open Go.ChangeShapes Go.WideShapes Go.ChangeAt Go.RowKit Go.Vi
end Go.Proofs.YtjcmncmajmoiiaaGreat
