/-
  The auction's problems and allocations, and how they lie in values.
  Conditions: none.
-/
import Derived.Test.YtjcmncmajmoiiaaGreatEX05
import Derived.Test.YtjcmncmajmoiiaaGreatEX01
import Derived.KernelRfl
import Derived.Deep.Slices
import Derived.OpenShut
import Derived.ProofKit
import Derived.Test.YtjcmncmajmoiiaaGreatRows
set_option maxRecDepth 100000
set_option maxHeartbeats 4000000
set_option linter.all false
open And renaming intro->γj
open Bool renaming false_eq_true->ω,not_eq_false->ζl,and_eq_true->ζ,and_true->δZ
open Classical renaming choose->δY,choose_spec->εn,not_not->Θ
open Go.Vi.AV renaming ren->δH
open Go.Vi.AV.agg renaming injEq->ζc
open Go.Vi.AV.sc renaming injEq->γ4
open Go.Vi.AV.sl renaming injEq->εe
open Go.Vi.SV renaming g->γI,row->γc,si->γb,same->εY,il->γy,sb->γG,bl->δs,ptr->γV,agg->γK
open List renaming all_eq_true->Φ,take->γe,map_cons->θ,length_range->ζn,range->χ,getElem?_eq_getElem->ξ,take_length->ψ,forall_mem_cons->γF,map->γk,drop->γ8,drop_length->εg,mem_cons->γh,map_nil->γo
open List.cons renaming injEq->τ
open Nat renaming beq->δD
open Option renaming map_eq_some_iff->δ,map_some->μ,bind_some->δX,map->ζ1,isSome_iff_exists->γw
open Option.some renaming injEq->γ
open Prod.mk renaming injEq->κ
namespace Go.Vi
structure bp where
 supply:bz
 opn:bz
 cls:bz
 classes:List Int
 offers:List Off
structure Alloc where
 chosen:List Int
 value:Int
def bp.ss (p:bp):List SV:=
 [.si .i64 p.supply.a0,.si .i64 p.supply.a1,.si .i64 p.supply.a2,.si .i64 p.supply.a3,.si .i64 p.supply.a4,.si .i64 p.supply.a5,
  .si .i64 p.opn.a0,.si .i64 p.opn.a1,.si .i64 p.opn.a2,.si .i64 p.opn.a3,.si .i64 p.opn.a4,.si .i64 p.opn.a5,
  .si .i64 p.cls.a0,.si .i64 p.cls.a1,.si .i64 p.cls.a2,.si .i64 p.cls.a3,.si .i64 p.cls.a4,.si .i64 p.cls.a5,
  .row (.i .i64) p.classes,.row .off p.offers]
def t7:List SV->Option bp
 |[g,v,b,q,d,x,a,n,w,h,j,l,t,p,r,u,e,m,k,f]=>match jJ .eD [g,v,b,q,d,x],jJ .eD [a,n,w,h,j,l],jJ .eD [t,p,r,u,e,m],gu (.i .i64) k,gu .off f with
  |some s,some o,some c,some k,some f=>some ⟨s,o,c,k,f⟩
  |_,_,_,_,_=>none
 |_=>none
theorem xw {cs:List SV} {p:bp} (h:t7 cs=some p):gL cs=gL p.ss:=by
 unfold t7 at h;split at h
 ·split at h
  ·rename_i s o c k f a i b e d;simp only[γ] at h;subst h;have a:=nY a;have i:=nY i;have b:=nY b;have e:=j7 e;have d:=j7 d;simp_all[dO,dK,bp.ss,gL,γI,iv]
  ·cases h
 ·cases h
def cZ:qA bp where
 put p:=.agg p.ss;dec
  | .agg c=>t7 c
  |_=>none;ok v a h:=by
  grind[γI,xw]
 inj a b h:=by
  obtain⟨⟨a0,a1,a2,a3,M,o⟩,⟨A,l,e,b3,I,b5⟩,⟨H,V,Y,J,x,j⟩,k,f⟩:=a;obtain⟨⟨d,t,d2,Z,d4,X⟩,⟨N,R,u,y,S,e5⟩,⟨f0,E,f2,f3,O,q⟩,W,B⟩:=b;simp only[γI,bp.ss,gL,ζc,τ,and_true,γ4,Value.int.injEq,true_and,εe] at h;obtain⟨h0,h1,F,P,Q,z,C,L,g2,U,G,T,w,K,k2,r,D,k5,m,n⟩:=h;have s:=l9 (.i .i64) m.1 m.2;have n2:=l9 .off n.1 n.2;simp_all
def mT:qA Alloc where
 put a:=.agg [.row (.i .i64) a.chosen,.si .i64 a.value];dec
  | .agg [r,v]=>match gu (.i .i64) r,v.int .i64 with
   |some c,some v=>some ⟨c,v⟩
   |_,_=>none
  |_=>none;ok v a h:=by
  grind[γI,gL,j7,iw]
 inj a b h:=by
  obtain⟨c,v⟩:=a;obtain⟨e,f⟩:=b;simp only[γI,gL,ζc,τ,and_true,γ4,Value.int.injEq,true_and,εe] at h;have d:=l9 (.i .i64) h.1.1 h.1.2;rw[d,h.2]
def oW:TypeId->Option bn
 |2=>some (.i .i64)
 |3=>some (.i .i64)
 |24=>some (.bK (.i .i64))
 |235=>some (.i .u32)
 |157=>some (.pair .b (.pair (.bK (.i .u32)) (.bK (.i .u32))))
 |41=>some (.pair (.bK (.i .i64)) (.i .i64))
 |91=>some (.bK (.pair .b (.pair (.bK (.i .u32)) (.bK (.i .u32)))))
 |255=>some (.pair (.bK (.pair .b (.pair (.bK (.i .u32)) (.bK (.i .u32))))) (.pair .b (.pair (.bK (.i .u32)) (.bK (.i .u32)))))
 |4=>some .b
 |93=>some (.pair (.i .i64) (.pair (.i .i64) (.pair (.i .i64) (.pair (.i .i64) (.bK (.pair .b (.pair (.bK (.i .u32)) (.bK (.i .u32)))))))))
 |39=>some .off
 |_=>none
def oY:List Nat×Bool->Option (bn×bn)
 |([0,0,0,0,0,0,0],true)=>some (.key,.b)
 |([0,0,0,0,0,0,0,0,0,0,0,0,0],true)=>some (.sit,.i .i64)
 |_=>none
mutual
def SV.ren (m:Nat->Option Nat):SV->Option SV
 | .agg cs=>(rE m cs).map .agg
 | .bH cs=>(rE m cs).map .bH
 | .ptr id off tot=>(m id).map λi=> .ptr i off tot
 | .ap id a b c d e=>(m id).map λi=> .ap i a b c d e
 | .rp id a b c d=>(m id).map λi=> .rp i a b c d
 | .ow id n sz=>(m id).map λi=> .ow i n sz
 | .os id a b c d=>(m id).map λi=> .os i a b c d
 | .oc id a b c d=>(m id).map λi=> .oc i a b c d
 | .mp id=>(m id).map .mp
 | .fn f a b=>match rE m a,rE m b with
  |some a',some b'=>some (.fn f a' b')
  |_,_=>none
 | .ud=>some .ud
 | .sc v=>some (.sc v)
 | .il k n=>some (.il k n)
 | .si k n=>some (.si k n)
 | .bl b=>some (.bl b)
 | .sb b=>some (.sb b)
 | .row s l=>some (.row s l)
 | .ep s l i o=>some (.ep s l i o)
 | .ia t cs=>some (.ia t cs)
 | .ite c a b=>some (.ite c a b)
def rE (m:Nat->Option Nat):List SV->Option (List SV)
 |[]=>some []
 |c::cs=>match c.ren m,rE m cs with
  |some c',some cs'=>some (c'::cs')
  |_,_=>none
end
mutual
theorem HJ {m:Nat->Option Nat}:∀{v v':SV},v.ren m=some v'->v.g.ren m=some v'.g
 | .agg cs,v',h=>by
  simp only[SV.ren] at h;obtain⟨cs',h1,rfl⟩:=δ.1 h;simp only[γI,δH,vC h1,μ];| .bH cs,v',h=>by
  simp only[SV.ren] at h;obtain⟨cs',h1,rfl⟩:=δ.1 h;simp only[γI,δH,vC h1,μ];| .fn f a b,v',h=>by
  simp only[SV.ren] at h;split at h
  ·rename_i a' b' h1 h2;simp only[γ] at h;subst h;simp only[γI,δH,vC h1,vC h2]
  ·cases h;| .ptr id _ _,v',h| .ap id _ _ _ _ _,v',h| .rp id _ _ _ _,v',h| .ow id _ _,v',h| .os id _ _ _ _,v',h| .oc id _ _ _ _,v',h| .mp id,v',h=>by
  simp only[SV.ren] at h;obtain⟨i,h1,rfl⟩:=δ.1 h;simp only[γI,δH,h1,μ];| .ud,v',h| .sc _,v',h| .il _ _,v',h| .si _ _,v',h| .bl _,v',h| .sb _,v',h| .row _ _,v',h| .ep _ _ _ _,v',h| .ia _ _,v',h| .ite _ _ _,v',h=>by
  simp only[SV.ren,γ] at h;subst h;simp only[γI,δH]
theorem vC {m:Nat->Option Nat}:∀{l l':List SV},rE m l=some l'->iG m (gL l)=some (gL l')
 |[],l',h=>by simp[rE] at h;subst h;simp[gL,iG];|c::cs,l',h=>by
  simp only[rE] at h;split at h
  ·rename_i c' cs' h1 h2;simp only[γ] at h;subst h;simp only[gL,iG,HJ h1,vC h2]
  ·cases h
end
def bq.ren (m:Nat->Option Nat):bq->Option bq
 | .cells d e c a=>if a then some (.cells d e c a) else(rE m d).map λb=> .cells b e c a
 | .dead=>some .dead
 | .row s l e a=>some (.row s l e a)
 | .map j f g h i a=>some (.map j f g h i a)
 | .oQ .. =>none
theorem PH {m:Nat->Option Nat}:∀{l:List AV},(∀a∈l,Plain a)->iG m l=some l
 |[],_=>by simp[iG];|a::e,h=>by
  have d:=PH (m:=m) (l:=e) λb c=>h b (by simp[c]);rcases h a (by simp) with⟨v,rfl,_⟩|⟨n,f,rfl,_⟩<;>simp only[iG,δH,d]
theorem PI {m:Nat->Option Nat}:∀{l:List (Value×AV)},(∀a∈l,∃v,a.2= .sc v)->oK m l=some l
 |[],_=>by simp[oK];|(k,c)::e,h=>by
  obtain⟨v,b⟩:=h (k,c) (by simp);simp only at b;subst b;simp only[oK,δH,PI (l:=e) λa d=>h a (by simp[d])]
theorem HK {b sv:bn} {d:Bool} {es:List (b.T×sv.T)}:∀a∈es.map (λp=>(oR b d p.1,mP sv p.2)),∃v,a.2= .sc v:=λa c=>by
 obtain⟨q,_,rfl⟩:=List.mem_map.1 c;exact⟨_,rfl⟩
theorem PK {m:Nat->Option Nat} {x y:bq} (h:x.ren m=some y):x.g.ren m=some y.g:=by
 cases x with
 |dead=>simp[bq.ren] at h;subst h;rfl;|cells o e k a=>
  simp only[bq.ren] at h;cases a with
  |true=>simp only[if_true,γ] at h;subst h;simp only[bq.g,bP.ren,if_true];|false=>
   simp only[ω,if_false] at h;obtain⟨b,c,rfl⟩:=δ.1 h;simp_all[bq.g,bP.ren,vC]
 |oQ s l e t=>grind[bq.ren];|row s l e a=>
  grind[bq.ren,bq.g,bP.ren,PH,nA];|map f n i j d a=>
  simp only[bq.ren,γ] at h;subst h;simp only[bq.g,bP.ren,PI HK,μ];grind
def zF (m:Nat->Option Nat):bX->Option bX
 |[]=>some []
 |x::r=>match x.ren m,zF m r with
  |some y,some l=>some (y::l)
  |_,_=>none
theorem PL {m:Nat->Option Nat}:∀{o o':bX},zF m o=some o'->sf m (gO o)=some (gO o')
 |[],o',h=>by simp[zF] at h;subst h;rfl;|x::r,o',h=>by
  simp only[zF] at h;split at h
  ·rename_i y l b a;simp only[γ] at h;subst h;have:=PL a;grind[gO,sf,PK]
  ·cases h
def xx (o:bX) (a:List Nat):List Nat->Option bX
 |[]=>some []
 |i::r=>match o[i]?,xx o a r with
  |some x,some l=>match x.ren (λj=>idxOf a j) with
   |some y=>some (y::l)
   |none=>none
  |_,_=>none
theorem HL {o:bX} {a:List Nat}:∀{r:List Nat} {o':bX},xx o a r=some o'->kX (gO o) a r=some (gO o')
 |[],o',h=>by simp[xx] at h;subst h;rfl;|i::r,o',h=>by
  simp only[xx] at h;split at h
  ·rename_i x l d b;split at h
   ·rename_i y c;simp only[γ] at h;subst h;simp only[kX,fK d,HL b,PK c,μ];rfl
   ·cases h
  ·cases h
def xy (o:bX):List Nat->bX->bX
 |[],_=>o
 |_,[]=>o
 |i::r,x::l=>xy (o.set i x) r l
theorem PN:∀{a:List Nat} {o l:bX},gO (xy o a l)=lO (gO o) a (gO l)
 |[],o,l=>by simp[xy,lO];|_::_,o,[]=>by simp[xy,lO,gO];|i::r,o,x::l=>by
  simp only[xy];rw[PN,qy];simp[gO,lO]
def pM (o:bX):Nat->List SV->List Nat->List Nat
 |0,_,c=>c
 |_,[],c=>c
 |d+1,v::i,c=>
  let f (e:Nat) (c:List Nat):List Nat:=
   if c.contains e then c else
   match o[e]? with
   |some (.cells g _ _ h)=>if h then c++[e] else pM o d g (c++[e])
   |_=>c++[e];pM o d i (match v with
   | .agg g| .bH g=>pM o d g c
   | .ptr e _ _| .ap e _ _ _ _ _| .rp e _ _ _ _| .ow e _ _| .os e _ _ _ _| .oc e _ _ _ _| .mp e=>f e c
   | .fn _ a b=>pM o d b (pM o d a c)
   |_=>c)
theorem zG {o:Store}:∀{d:Nat} {l:List AV} {acc:List Nat},(∀a∈l,Plain a)->cH o d l acc=acc
 |0,_,_,_=>by grind[cH];|d+1,[],_,_=>by grind[cH];|d+1,a::l,acc,h=>by
  have e:=zG (o:=o) (d:=d) (l:=l) (acc:=acc) λb c=>h b (by simp[c]);rcases h a (by simp) with⟨v,rfl,_⟩|⟨n,f,rfl,_⟩<;>(grind[cH])
theorem PO {o:Store}:∀{d:Nat} {l:List AV} {acc:List Nat},(∀a∈l,∃v,a= .sc v)->cH o d l acc=acc
 |0,_,_,_=>by simp[cH];|d+1,[],_,_=>by simp[cH];|d+1,a::l,acc,h=>by
  obtain⟨v,rfl⟩:=h a (by simp);simp only[cH];exact PO λa b=>h a (by simp[b])
theorem Zy {l:List (Value×AV)} (h:∀a∈l,∃v,a.2= .sc v):∀a∈l.map (·.2),∃v,a= .sc v:=λa b=>by
 grind
def bq.C4:bq->Bool
 | .oQ .. =>false
 |_=>true
theorem PQ {o:bX} (h:o.all bq.C4=true):∀{d:Nat} {vs:List SV} {acc:List Nat},cH (gO o) d (gL vs) acc=pM o d vs acc:=by
 intro d;induction d with
 |zero=>grind[cH,pM];|succ d k=>
  intro vs acc;cases vs with
  |nil=>simp[gL,cH,pM];|cons v vs=>
   have m:∀(b:Nat) (acc:List Nat),(if acc.contains b then acc else
     match(gO o)[b]? with
     |some (.cells f _ _ c)=>if c then acc++[b] else cH (gO o) d f (acc++[b])
     |some (.map j _ c)=>if c then acc++[b] else cH (gO o) d (j.map (·.2)) (acc++[b])
     |_=>acc++[b])=(if acc.contains b then acc else
     match o[b]? with
     |some (.cells f _ _ c)=>if c then acc++[b] else pM o d f (acc++[b])
     |_=>acc++[b]):=by
    intro b acc;rw[Hf];cases i:o[b]? with
    |none=>rfl;|some x=>
     cases x with
     |oQ s l e t=>
      have:=Φ.1 h _ (List.mem_of_getElem? i);grind[bq.C4];|dead=>rfl;|cells f e r c=>grind[bq.g];|row s l e c=>simp only[μ,bq.g,zG (λa n=>nA n),ite_self];|map p u q j w c=>simp only[μ,bq.g,PO (Zy HK),ite_self]
   simp only[gL,cH,pM];rw[k];congr 1;cases v<;>simp only[γI,k]<;>exact m _ _
def HM (C:FuncId->List SV->bX->(SV->bX->Prop)->Prop) (f:FuncId) (args:List SV) (o:bX) (K:SV->bX->Prop):Prop:=
 if o.all bq.C4=false then False else
 let a:=pM o fH args [];match rE (λj=>idxOf a j) args,xx o a a with
 |some c,some d=>C f c d λr b=>
   if b.length<a.length\/iH.pB a=false then False else
   match r.ren (oL a o.length),zF (oL a o.length) b with
   |some g,some e=>K g (xy o a (e.take a.length)++e.drop a.length)
   |_,_=>False
 |_,_=>False
theorem Zz {call:cV} {C:FuncId->List SV->bX->(SV->bX->Prop)->Prop}
  (n:∀f args o K,C f args o K->∃(r:SV) (o':bX),call f (gL args) (gO o) true=some (r.g,gO o')/\K r o')
  {f:FuncId} {args:List SV} {o:bX} {K:SV->bX->Prop} (h:HM C f args o K):
  ∃(r:SV) (o':bX),iH call f (gL args) (gO o)=some (r.g,gO o')/\K r o':=by
 unfold HM at h;split at h;·exact h.elim
 rename_i a;simp only[ζl] at a;simp only at h;split at h
 ·rename_i d e i l;obtain⟨r,c,j,b⟩:=n _ _ _ _ h;split at b;·exact b.elim
  ·rename_i p;split at b
   ·rename_i k q m s;refine⟨k,_,?_,b⟩;unfold iH;simp only[PQ a];rw[vC i,HL l];simp only[j,oh];rw[if_neg p,HJ m,PL s];simp only[Po,PN];simp[gO]
   simp_all
 simp_all
section
variable {P:Program} {T:Tab} {p:iN} {Λ:Nat->cB}
theorem ZA (A:kE P T) (y:pK T.K p.C) (w:∀f F,p.it f=some F->T.fn f=some F) {f:FuncId} {F:fp} (u:T.fn f=some F) {args:List SV} {o:bX} {r:AV} {o':Store} (G:T.K f (gL args) (gO o) true=none) (n:args.length=F.params)
  {Q:SV->bX->Prop} (m:∀v s,Q v s->v.g=r/\gO s=o') (h:vq p Λ F args o Q):gU P f=true/\lB P f (gL args) (gO o) r o':=by
 unfold vq at h;have i:=vz y w h;have e:(cq.mk (nC 0 args) o).g=⟨ic 0 (gL args),gO o⟩:=by simp[cq.g,vA]
 rw[e] at i;have j:(gO o).length=o.length:=oh o;rw[<-j] at i;have E:∀(a:cq),(od a F.res λv=>if v.ca (gO o).length&&a.o.all (λx=>x.ca (gO o).length)&&decide ((gO o).length<=a.o.length) then Q v (a.o.take (gO o).length) else False)->
   (nW a.g F.res).bind (λl=>finish true (gO o).length l a.g.o)=some (r,o'):=by
  intro a t;obtain⟨l,k,b⟩:=xr t;rw[k];simp only[δX,finish,if_true];split at b
  ·rename_i q;simp only[ζ,decide_eq_true_eq,Φ] at q;obtain⟨⟨z,D⟩,B⟩:=q;have d:∀x∈a.g.o,x.ca (gO o).length=true:=by
    grind[cq.g,gO,CP]
   rw[Pm (by grind[zy]) d (by grind[cq.g,oh])];rw[<-(m _ _ b).1,<-(m _ _ b).2];simp_all[cq.g,gO]
  ·exact b.elim
 obtain⟨k,b,_⟩:=Cf A u (o:=gO o) (own:=true) G (by grind[jL]) (v:=r) (o':=o') (i.mono λc s H=>by
  obtain⟨a,rfl,t⟩:=H;cases c<;>grind);simp_all
end
structure cY where
 f:FuncId
 α:Type
 put:α->List SV
 st:α->bX
 dec:List SV->bX->Option α
 ok:∀v o a,dec v o=some a->gL v=gL (put a)/\gO o=gO (st a)
 inj:∀a b,gL (put a)=gL (put b)->gO (st a)=gO (st b)->a=b
 dom:α->Prop
 res:α->SV
 out:α->bX
def dL (P:Program) (c:cY):Prop:=∀a,c.dom a->gU P c.f=true/\lB P c.f (gL (c.put a)) (gO (c.st a)) (c.res a).g (gO (c.out a))
def k9 (f:FuncId):List cY->Option cY
 |[]=>none
 |c::r=>bif δD c.f f then some c else k9 f r
theorem PR:∀{L:List cY} {f:FuncId} {c:cY},k9 f L=some c->c.f=f/\c∈L
 |[],_,_,h=>by cases h;|d::L,f,c,h=>by
  simp only[k9] at h;cases a:δD d.f f with
  |true=>
   simp_all;|false=>
   rw[a] at h;simp only[cond_false] at h;obtain⟨b,e⟩:=PR h;simp_all
def PS (W:List cY) (f:FuncId) (args:List SV) (o:bX) (K:SV->bX->Prop):Prop:=
 match k9 f W with
 |some c=>iO (c.dec args o) λa=>c.dom a/\K (c.res a) (c.out a)
 |none=>False
open Classical in
noncomputable def t8 (W:List cY) (f:FuncId) (args:List AV) (o:Store):Option (AV×Store):=
 match k9 f W with
 |some c=>if h:∃a,args=gL (c.put a)/\o=gO (c.st a)/\c.dom a then some ((c.res (δY h)).g,gO (c.out (δY h))) else none
 |none=>none
noncomputable def fV (W:List cY):mR:=⟨t8 W,λf a o K=>HM (PS W) f a o K⟩
theorem lg {P:Program} {W:List cY} (u:∀c∈W,dL P c):pL P (fV W) where
 K:=λf d o r w h=>by
  simp only[fV,t8] at h;split at h
  ·rename_i c k;obtain⟨rfl,v⟩:=PR k;split at h
   ·rename_i e;simp only[γ,κ] at h;generalize t:δY e=b at h;have n:=εn e;rw[t] at n;obtain⟨p,s,l⟩:=n;obtain⟨j,m⟩:=u c v _ l;simp_all
   ·cases h
  ·cases h
 C:=λq g f d o K h=>by
  refine Zz ?_ h;intro f d o K i;simp only[PS] at i;split at i
  ·rename_i c k;obtain⟨a,p,s,l⟩:=i6 i;refine⟨_,_,?_,l⟩;rw[g];obtain⟨j,m⟩:=c.ok _ _ _ p;have e:∃b,gL d=gL (c.put b)/\gO o=gO (c.st b)/\c.dom b:=⟨a,j,m,s⟩;simp only[fV,t8,k,dif_pos e];have:δY e=a:=c.inj _ _ ((εn e).1.symm.trans j) ((εn e).2.1.symm.trans m);rw[this]
  simp_all
theorem C5 {P:Program} {i:FuncId->Option fp} {L:List bM} {W:List cY} (c:cY) {F:fp} {m:TypeId->Option bn} {j:List Nat×Bool->Option (bn×bn)} {Λ:c.α->Nat->cB}
  (q:kE P ⟨i,λ_ _ _ _=>none⟩) (k:∀c∈W,dL P c) (r:∀c∈L,Holds P c)
  (n:i c.f=some F) (e:∀a,(c.put a).length=F.params)
  (a:c.α) (o:∀d,k9 c.f W=some d->∀b,gL (c.put a)=gL (d.put b)->gO (c.st a)=gO (d.st b)->¬d.dom b)
  (h:vq (l8 L (fV W) m j i) (Λ a) F (c.put a) (c.st a) λv s=>v.same (c.res a)/\jo s (c.out a)):
  gU P c.f=true/\lB P c.f (gL (c.put a)) (gO (c.st a)) (c.res a).g (gO (c.out a)):=by
 refine ZA (p:=l8 L (fV W) m j i) (Λ:=Λ a) (Q:=λv s=>v.same (c.res a)/\jo s (c.out a)) (tZ (lg k) r q) (t6 (lg k)) (λ_ _ h=>h) n ?_ (e a) (λv s l=>⟨l.1,xq l.2⟩) ?_
 ·simp only[qC,sB,if_true,fV,t8];grind
 ·exact h
mutual
def lh (o:bX) (k:Nat):SV->(SV->Prop)->Prop
 | .ow id n sz,K=>if k<=id then(match o[id]? with
   |some (.row s l _ true)=>if sz=s.sz then n=l.length/\K (.row s l) else False
   |some (.row _ _ _ false)=>K (.ow id n sz)
   |_=>False) else K (.ow id n sz)
 | .ptr id f t,K=>if k<=id then(match o[id]? with
   |some (.cells _ _ _ false)=>K (.ptr id f t)
   |_=>False) else K (.ptr id f t)
 | .agg cs,K=>sC o k cs λcs'=>K (.agg cs')
 | .bH cs,K=>sC o k cs λcs'=>K (.bH cs')
 | .ud,K=>K .ud
 | .sc v,K=>K (.sc v)
 | .il q n,K=>K (.il q n)
 | .si q n,K=>K (.si q n)
 | .bl b,K=>K (.bl b)
 | .sb b,K=>K (.sb b)
 | .row s l,K=>K (.row s l)
 | .mp i,K=>K (.mp i)
 | .ia t cs,K=>K (.ia t cs)
 | .fn f a b,K=>sC o k a λa'=>sC o k b λb'=>K (.fn f a' b')
 |_,_=>False
def sC (o:bX) (k:Nat):List SV->(List SV->Prop)->Prop
 |[],K=>K []
 |c::cs,K=>lh o k c λc'=>sC o k cs λcs'=>K (c'::cs')
end
section
variable {o:bX} {k:Nat}
mutual
theorem HN:∀{v:SV} {K:SV->Prop},lh o k v K->∃v':SV,v.g.bT (gO o) (λi=>decide (k<=i))=some v'.g/\K v'
 | .ow id n sz,K,h=>by
  simp only[lh] at h;split at h
  ·rename_i hk;split at h
   ·rename_i s l e ho;split at h
    ·rename_i hsz;subst hsz;obtain⟨rfl,h⟩:=h;refine⟨_,?_,h⟩;have htk:γe (l.length*s.sz) (cC s l)=cC s l:=List.take_of_length_le (by rw[fu];omega);simp only[γI,AV.bT,hk,decide_true,if_true,fK ho,bq.g,fu,Nat.zero_add,Nat.le_refl,and_self,List.drop_zero,htk]
    ·exact h.elim
   ·rename_i s l e ho;refine⟨_,?_,h⟩;simp only[γI,AV.bT,hk,decide_true,if_true,fK ho,bq.g,ω,if_false]
   ·exact h.elim
  ·rename_i hk;refine⟨_,?_,h⟩;simp only[γI,AV.bT,decide_eq_true_eq,if_neg hk];| .ptr id f t,K,h=>by
  simp only[lh] at h;split at h
  ·rename_i hk;split at h
   ·rename_i cs e sz ho;refine⟨_,?_,h⟩;simp only[γI,AV.bT,hk,decide_true,if_true,fK ho,bq.g,ω,if_false]
   ·exact h.elim
  ·rename_i hk;refine⟨_,?_,h⟩;simp only[γI,AV.bT,decide_eq_true_eq,if_neg hk];| .agg cs,K,h=>by
  simp only[lh] at h;obtain⟨cs',h1,h2⟩:=xA h;exact⟨_,by simp only[γI,AV.bT,h1,μ],h2⟩;| .bH cs,K,h=>by
  simp only[lh] at h;obtain⟨cs',h1,h2⟩:=xA h;exact⟨_,by simp only[γI,AV.bT,h1,μ],h2⟩;| .ud,K,h=>⟨.ud,by simp only[γI,AV.bT],by simpa only[lh] using h⟩
 | .sc v,K,h=>⟨.sc v,by simp only[γI,AV.bT],by simpa only[lh] using h⟩
 | .il k n,K,h=>⟨.il k n,by simp only[γI,AV.bT],by simpa only[lh] using h⟩
 | .si k n,K,h=>⟨.si k n,by simp only[γI,AV.bT],by simpa only[lh] using h⟩
 | .bl b,K,h=>⟨.bl b,by simp only[γI,AV.bT],by simpa only[lh] using h⟩
 | .sb b,K,h=>⟨.sb b,by simp only[γI,AV.bT],by simpa only[lh] using h⟩
 | .row s l,K,h=>⟨.row s l,by simp only[γI,AV.bT],by simpa only[lh] using h⟩
 | .mp i,K,h=>⟨.mp i,by simp only[γI,AV.bT],by simpa only[lh] using h⟩
 | .ia t cs,K,h=>⟨.ia t cs,by simp only[γI,AV.bT],by simpa only[lh] using h⟩
 | .fn f a b,K,h=>by
  simp only[lh] at h;obtain⟨a',h1,h2⟩:=xA h;obtain⟨b',h3,h4⟩:=xA h2;exact⟨_,by simp only[γI,AV.bT,h1,h3],h4⟩;| .ep ..,K,h| .ap ..,K,h| .rp ..,K,h| .os ..,K,h| .oc ..,K,h| .ite ..,K,h=>by simp only[lh] at h
theorem xA:∀{cs:List SV} {K:List SV->Prop},sC o k cs K->∃cs':List SV,gR (gO o) (λi=>decide (k<=i)) (gL cs)=some (gL cs')/\K cs'
 |[],K,h=>⟨[],by simp[gL,gR],by simpa only[sC] using h⟩
 |c::cs,K,h=>by
  simp only[sC] at h;obtain⟨c',h1,h2⟩:=HN h;obtain⟨cs',h3,h4⟩:=xA h2;exact⟨c'::cs',by simp only[gL,gR,h1,h3],h4⟩
end
def oZ (o:bX) (k:Nat):Nat->bX->(bX->Prop)->Prop
 |_,[],K=>K []
 |i,x::r,K=>match x with
  | .cells f e m false=>sC o k f λc=>oZ o k (i+1) r λa=>K (.cells c e m false::a)
  | .row s l e b=>oZ o k (i+1) r λa=>K ((if b&&decide (k<=i) then .dead else .row s l e b)::a)
  | .map g n d j h b=>oZ o k (i+1) r λa=>K (.map g n d j h b::a)
  | .dead=>oZ o k (i+1) r λa=>K (.dead::a)
  |_=>False
theorem xB:∀{i:Nat} {r:bX} {K:bX->Prop},oZ o k i r K->∃r' mid,jk (gO o) (λi=>decide (k<=i)) (gO r)=some mid/\fJ (λi=>decide (k<=i)) i mid=gO r'/\K r'
 |i,[],K,h=>⟨[],[],rfl,rfl,h⟩
 |i,x::r,K,h=>by
  cases x with
  |dead=>
   simp only[oZ] at h;obtain⟨r',mid,m,b,e⟩:=xB h;grind[gO,bq.g,jk,bP.bT,fJ];|cells A c z a=>
   cases a with
   |true=>grind[oZ];|false=>
    simp only[oZ] at h;obtain⟨j,y,f⟩:=xA h;obtain⟨r',mid,m,b,e⟩:=xB f;refine⟨_,.cells (gL j) c z false::mid,?_,?_,e⟩;all_goals simp_all[gO,bq.g,jk,bP.bT,fJ]
  |oQ s l c t=>grind[oZ];|row s l c a=>
   simp only[oZ] at h;obtain⟨r',mid,m,b,e⟩:=xB h;refine⟨_,(bq.row s l c a).g::mid,?_,?_,e⟩
   ·have d:(bq.row s l c a).g.bT (gO o) (λi=>decide (k<=i))=some (bq.row s l c a).g:=by
     cases a with
     |true=>simp only[bq.g,bP.bT,if_true];|false=>
      simp only[bq.g,bP.bT,ω,if_false];grind[CY,nA]
    grind[gO,jk]
   ·cases a with
    |true=>
     simp only[bq.g,fJ,Bool.true_and];by_cases n:k<=i
     ·simp only[n,decide_true,if_true];rw[b];rfl
     ·simp only[n,decide_false,ω,if_false];rw[b];rfl;|false=>simp only[bq.g,fJ,Bool.false_and,ω,if_false];rw[b];rfl
  |map u p q w v a=>
   simp only[oZ] at h;obtain⟨r',mid,m,b,e⟩:=xB h;have d:(bq.map u p q w v a).g.bT (gO o) (λi=>decide (k<=i))=some (bq.map u p q w v a).g:=by
    cases a with
    |true=>simp only[bq.g,bP.bT,if_true];|false=>
     simp only[bq.g,bP.bT,ω,if_false];rw[HD HK,μ]
   grind[gO,jk,bq.g,fJ]
end
def C6 (r:SV) (o:bX) (K:SV->bX->Prop):Prop:=
 lh o 0 r λc=>oZ o 0 0 o λb=>
  if b.all bq.C4=false then False else
  let a:=pM b fH [c] [];if iH.pB a then match c.ren (λj=>idxOf a j),xx b a a with
   |some e,some d=>K e d
   |_,_=>False
  else False
theorem ZB {r:SV} {o:bX} {K:SV->bX->Prop} (h:C6 r o K):∃r' o',lQ 0 r.g (gO o)=some (r'.g,gO o')/\K r' o':=by
 unfold C6 at h;obtain⟨m,n,k⟩:=HN h;obtain⟨c,i,e,f,a⟩:=xB k;split at a;·exact a.elim
 rename_i b;simp only[ζl] at b;simp only at a;split at a
 ·rename_i t;split at a
  ·rename_i j l p q;refine⟨j,l,?_,a⟩;unfold lQ;rw[n,e];simp only[f,List.take_zero,List.flatMap_nil,List.range_zero];have s:=PQ (o:=c) b (d:=fH) (vs:=[m]) (acc:=[]);simp_all[gL,HJ,HL]
  simp_all
 simp_all
def HO (p:iN) (Λ:Nat->cB) (F:fp) (args:List SV) (Q:SV->bX->Prop):Prop:=
 wpS p 0 F.body Λ ⟨nC 0 args,[]⟩ λa b=>match a with
  | .exit _=>False
  | .goto _=>False
  |_=>od b F.res λr=>C6 r b.o Q
theorem ZC {P:Program} {T:Tab} {p:iN} {Λ:Nat->cB} (y:kE P T) (t:pK T.K p.C) (x:∀f F,p.it f=some F->T.fn f=some F) {f:FuncId} {F:fp} (m:T.fn f=some F) {args:List SV} {r:AV} {o':Store} (A:T.K f (gL args) [] true=none) (j:args.length=F.params)
  {Q:SV->bX->Prop} (D:∀v s,Q v s->v.g=r/\gO s=o') (h:HO p Λ F args Q):gU P f=true/\lB P f (gL args) [] r o':=by
 unfold HO at h;have k:=vz t x h;have b:(cq.mk (nC 0 args) []).g=⟨ic 0 (gL args),[]⟩:=by simp[cq.g,vA,gO]
 rw[b] at k;have n:∀(a:cq),(od a F.res λv=>C6 v a.o Q)->(nW a.g F.res).bind (λc=>finish true 0 c a.g.o)=some (r,o'):=by
  intro a l;obtain⟨c,e,i⟩:=xr l;obtain⟨u,q,w,B⟩:=ZB i;rw[e];simp only[δX,finish,if_true];have:lQ 0 c.g a.g.o=some (u.g,gO q):=w;grind
 obtain⟨e,i,_⟩:=Cf y m (o:=[]) (own:=true) A (by grind[jL]) (v:=r) (o':=o') (k.mono λd s z=>by
  obtain⟨a,rfl,l⟩:=z;cases d<;>simp_all);simp_all
theorem ZD {W:List cY} {f:FuncId} {args:List AV} {o:Store} (h:k9 f W=none):t8 W f args o=none:=by
 grind[t8]
open Go.Proofs.YtjcmncmajmoiiaaGreat.Ir
open Go.Proofs
def C7 (f:Nat):List (Nat×List RH)->Option (List RH)
 |[]=>none
 |e::r=>bif δD e.1 f then some e.2 else C7 f r
noncomputable def gG (f:FuncId):Option fp:=
 match C7 f M4 with
 |none=>none
 |some H=>match Tryz.prog.funcs[f]? with
  |none=>none
  |some g=>BN Tryz.prog H g
noncomputable def fG (f:FuncId):fp:=(gG f).getD ⟨0,0,.skip,[]⟩
theorem vD {f:FuncId} (h:(gG f).isSome=true):gG f=some (fG f):=by
 unfold fG;cases q:gG f<;>simp_all
theorem PT {f:Nat} {H:List RH} {p:Nat->Bool}:∀{l:List (Nat×List RH)},C7 f l=some H->(l.all λe=>p e.1)=true->p f=true
 |[],h,_=>by cases h;|e::r,h,k=>by
  simp only[C7] at h;simp only[List.all_cons,ζ] at k;cases q:δD e.1 f with
  |true=>simp_all;|false=>rw[q] at h;exact PT h k.2
theorem ZE:(M4.all λe=>gU Tryz.prog e.1)=true:=by kernel_rfl
theorem pN:kE Tryz.prog ⟨gG,λ_ _ _ _=>none⟩ where
 fn:=λf F h=>by
  simp only[gG] at h;split at h;·cases h
  ·rename_i H q;split at h;·cases h
   ·rename_i g r;exact⟨g,H,r,h,PT (p:=gU Tryz.prog) q ZE⟩
 K:=λ_ _ _ _ _ _ h=>by cases h
def lk {a:Type}:a->Nat->cB:=λ_ _=> .look
structure Vc (A:Prop):Prop where
 out:A
theorem bQ {A:Prop} (B:Prop) (h:B=A) (a:B):Vc A:=⟨h▸a⟩
theorem con {L:List bM} {W:mR} (c:bM) (Λ:c.α->Nat->cB) (hW:pL Tryz.prog W) (hL:∀c∈L,Holds Tryz.prog c)
  
  (h:∀a,c.dom a->Vc (sy (l8 L W oW oY gG) (Λ a) (fG c.f) (c.A.put a) λv=>v.rB (c.res a))) (hF:(gG c.f).isSome=true:=by kernel_rfl) (hfr:oV c.f L=none:=by kernel_rfl) (hlen:∀a,(c.A.put a).length=(fG c.f).params:=by intro _;kernel_rfl):Holds Tryz.prog c:=
 holds_of c pN hW hL (vD hF) hfr hlen λa ha=>(h a ha).out
theorem cJ {L:List bM} (c:bM) (Λ:c.α->Nat->cB) (hL:∀c∈L,Holds Tryz.prog c) (h:∀a,c.dom a->Vc (sy (l8 L mR.none oW oY gG) (Λ a) (fG c.f) (c.A.put a) λv=>v.rB (c.res a)))
  (hF:(gG c.f).isSome=true:=by kernel_rfl) (hfr:oV c.f L=none:=by kernel_rfl) (hlen:∀a,(c.A.put a).length=(fG c.f).params:=by intro _;kernel_rfl):Holds Tryz.prog c:=con c Λ (pL.none _) hL h hF hfr hlen
theorem ZF {L:List bM} {W:mR} (c:bM) (ro:FuncId->Bool) (Λ:c.α->Nat->cB) (hW:pL Tryz.prog W) (hL:∀c∈L,Holds Tryz.prog c)
  
  (h:∀a,c.dom a->Vc (sy (HH L W oW oY gG ro) (Λ a) (fG c.f) (c.A.put a) λv=>v.rB (c.res a))) (hF:(gG c.f).isSome=true:=by kernel_rfl) (hfr:oV c.f L=none:=by kernel_rfl) (hlen:∀a,(c.A.put a).length=(fG c.f).params:=by intro _;kernel_rfl):Holds Tryz.prog c:=
 Zx c pN hW hL (vD hF) hfr hlen λa ha=>(h a ha).out
theorem jr {L:List bM} {W:List cY} (c:cY) (Λ:c.α->Nat->cB) (i:∀c∈W,dL Tryz.prog c) (e:∀c∈L,Holds Tryz.prog c)
  
  (h:∀a,c.dom a->Vc (vq (l8 L (fV W) oW oY gG) (Λ a) (fG c.f) (c.put a) (c.st a) λv s=>v.same (c.res a)/\jo s (c.out a))) (g:(gG c.f).isSome=true:=by kernel_rfl) (b:∀a,(c.put a).length=(fG c.f).params:=by intro _;kernel_rfl) (k:k9 c.f W=none:=by kernel_rfl):dL Tryz.prog c:=
 λa j=>C5 c pN i e (vD g) b a (λd l=>by simp_all) (h a j).out
theorem ZG {L:List bM} {W:List cY} (c:cY) (F:fp) (Λ:c.α->Nat->cB) (hW:∀c∈W,dL Tryz.prog c) (hL:∀c∈L,Holds Tryz.prog c)
  
  (h:∀a,c.dom a->Vc (vq (l8 L (fV W) oW oY gG) (Λ a) F (c.put a) (c.st a) λv s=>v.same (c.res a)/\jo s (c.out a))) (hF:gG c.f=some F:=by kernel_rfl) (hlen:∀a,(c.put a).length=F.params:=by intro _;kernel_rfl) (hfr:k9 c.f W=none:=by kernel_rfl):dL Tryz.prog c:=
 λa ha=>C5 c pN hW hL hF hlen a (λd hd=>by rw[hfr] at hd;cases hd) (h a ha).out
theorem zH {L:List bM} {W:List cY} (c:cY) (g:Nat->Option (Nat×Nat×Nat)) (Λ:c.α->Nat->cB) (i:∀c∈W,dL Tryz.prog c) (j:∀c∈L,Holds Tryz.prog c)
  
  (h:∀a,c.dom a->Vc (HO ⟨⟨vB L,(fV W).C⟩,oW,oY,g,λ_=>none,λ_=>false⟩ (Λ a) (fG c.f) (c.put a) λv s=>v.same (c.res a)/\jo s (c.out a))) (l:(gG c.f).isSome=true:=by kernel_rfl) (b:∀a,(c.put a).length=(fG c.f).params:=by intro _;kernel_rfl) (d:∀a,c.st a=[]:=by intro _;rfl) (k:k9 c.f W=none:=by kernel_rfl):dL Tryz.prog c:=
 λa m=>by
  rw[d a];refine ZC (p:=⟨⟨vB L,(fV W).C⟩,oW,oY,g,λ_=>none,λ_=>false⟩) (Λ:=Λ a) (Q:=λv s=>v.same (c.res a)/\jo s (c.out a)) (tZ (lg i) j pN) (t6 (lg i)) (λ_ _ h=>by cases h) (vD l) ?_ (b a) (λv s e=>⟨e.1,xq e.2⟩) (h a m).out;simp_all[qC,sB,fV,ZD]
open Go.ChangeShapes Go.WideShapes Go.RowKit
abbrev me:dM:=⟨λ_=>False,0⟩
instance (s:bn):Inhabited s.T:=⟨s.dflt⟩
theorem ZH (b:Nat):Fr me [] b:=⟨by rintro⟨i,c,h⟩;simp at h,λh=>h⟩
theorem PU {A:dM} {w:World} {σ:bW} {o:Store}:∀{vs:List Value},(∀v∈vs,v.oneCell'=true)->bD A w σ o (vs.map .sc) vs
 |[],_=>by simp[bD];|v::vs,h=>by
  simp only[θ,bD];exact⟨v,vs,rfl,by grind[bw],PU λu a=>h u (by simp[a])⟩
theorem PV {A:dM} {w:World} {σ:bW} {o:Store}:∀{a b:List AV} {x:Option Addr} {j:Nat},dB A w σ o a x j->dB A w σ o b x (j+a.length)->dB A w σ o (a++b) x j
 |[],b,x,j,_,h=>by simpa using h;|c::a,b,x,j,h,k=>by
  simp only[List.cons_append,dB] at h ⊢;refine⟨h.1,PV h.2 ?_⟩;grind
def Reads (P:Program) (t:TypeId) (s:bn):Prop:=
 ∀(H:Type) (e:TypeId×Value->H) (w:World) (d:Nat) (a:Nat->Bool) (c:Bool) (b:Nat) (f:List Value) (x:DataW H×List MemPlace),DataW.trod e P w d a c b t f=some x->∃y:s.T,f=dK s y
theorem ZI {P:Program} {t:TypeId} {k:IntKind} (a:P.underlying t=some (.int k)):Reads P t (.i k):=λ_ _ _ _ _ _ _ b _ h=>by
 obtain⟨n,rfl,_,_⟩:=DataW.trod_int a h;exact⟨n,rfl⟩
theorem ZJ {w:World} {base n:Nat} {a:Addr} {cs:List Value} (h:w.cells? base a n=some cs):cs.length=n/\∀i v,cs[i]?=some v->w.cell? (a.add i)=some v:=by
 unfold World.cells? at h;split at h
 ·obtain⟨c,f⟩:=BZ h;simp only[ζn] at c;refine⟨c,λi v d=>?_⟩;have j:=(List.getElem?_eq_some_iff.1 d).1;obtain⟨b,g,e⟩:=f i i (by simp_all);simp_all
 ·cases h
def C9 (P:Program) (t:TypeId) (s:bn):Prop:=
 ∀(H:Type) (d:TypeId×Value->H) (w:World) (a:Nat->Bool) (c:Bool) (b:Nat) (e:List Value) (x:DataW H×List MemPlace),DataW.trod d P w 0 a c b t e=some x->∃y:s.T,bD me w [] [] (dO s y) e
theorem Reads.g {P:Program} {t:TypeId} {s:bn} (h:Reads P t s) (i:s.flat=true:=by rfl):C9 P t s:=λH d w a c b e x f=>by
 obtain⟨y,rfl⟩:=h H d w 0 a c b e x f;exact⟨y,by grind[Ci,PU,Cm]⟩
theorem PW {w:World} {a:Addr}:∀{cs:List AV} {vs:List Value} {j:Nat},bD me w [] [] cs vs->(∀i v,vs[i]?=some v->w.cell? (a.add (j+i))=some v)->dB me w [] [] cs (some a) j
 |[],_,_,_,_=>by simp[dB];|c::cs,vs,j,b,d=>by
  simp only[bD] at b;obtain⟨v,r,rfl,e,f⟩:=b;simp only[dB];refine⟨⟨a,v,rfl,ZH _,by simpa using d 0 v (by simp),e⟩,PW f λi u g=>?_⟩;have:=d (i+1) u (by simp_all);grind
theorem PX {w:World} {a:Addr} {s:bn}:∀{l:List s.T} {i0:Nat},(∀i y,l[i]?=some y->∃cs,w.cells? 0 (a.add ((i0+i)*s.sz)) s.sz=some cs/\bD me w [] [] (dO s y) cs)->dB me w [] [] (cC s l) (some a) (i0*s.sz)
 |[],_,_=>by simp[cC,dB];|y::l,i0,h=>by
  obtain⟨cs,b,c⟩:=h 0 y (by simp);rw[Nat.add_zero] at b;obtain⟨d,g⟩:=ZJ b;have e:cC s (y::l)=dO s y++cC s l:=by simp[cC]
  rw[e];refine PV (PW c λi v j=>?_) ?_;·grind[add_add]
  ·rw[lZ,show i0*s.sz+s.sz=(i0+1)*s.sz from by grind];refine PX λi z f=>?_;have:=h (i+1) z (by simp_all);grind
theorem ZK {P:Program} {t e:TypeId} {s:bn} (A:P.underlying t=some (.slice e)) (r:C9 P e s) (I:P.cellsOf e=s.sz)
  {H:Type} {enc:TypeId×Value->H} {w:World} {c:Nat->Bool} {j:Bool} {d:Nat} {cs:List Value} {x:DataW H×List MemPlace} (h:DataW.trod enc P w 0 c j d t cs=some x):
  ∃(v:Value) (l:List s.T),cs=[v]/\bw me w [] [] (γc s l).g v:=by
 rcases Go.Deep.open_slice A h with⟨rfl,_⟩|⟨a,b,k,m,n,D,F,rfl,M,z,L,o,_,q⟩;·exact⟨_,[],rfl,by grind[γI,bw,cC,dr,dB]⟩
 ·have B:b<=m:=by grind
  have C:∀i,i<b->∃y:s.T,∃cs,w.cells? 0 (a.add (i*s.sz)) s.sz=some cs/\bD me w [] [] (dO s y) cs:=λi J=>by
   obtain⟨p,K,E⟩:=q i (by omega);obtain⟨y,u⟩:=r _ _ _ _ _ _ _ _ E;grind
  obtain⟨f,G⟩:=Go.Deep.choose_lt C;refine⟨_,(χ b).map f,rfl,?_⟩;simp only[γI,bw,List.length_map,ζn];refine⟨some a,k,rfl,z,qx _ _,?_⟩;have:=PX (w:=w) (a:=a) (s:=s) (l:=(χ b).map f) (i0:=0) (λi y u=>by
   grind);simp_all
theorem PY {P:Program} {t e:TypeId} {s:bn} (i:P.underlying t=some (.slice e)) (f:Reads P e s) (j:P.cellsOf e=s.sz)
  {H:Type} {enc:TypeId×Value->H} {w:World} {a:Nat->Bool} {c:Bool} {b:Nat} {cs:List Value} {x:DataW H×List MemPlace} (h:DataW.trod enc P w 0 a c b t cs=some x) (d:s.flat=true:=by rfl):
  ∃(v:Value) (l:List s.T),cs=[v]/\bw me w [] [] (γc s l).g v:=ZK i (f.g d) j h
theorem ZL {cs:List Value} {i:Nat} {v:Value} (h:(cs.drop i).take 1=[v]):cs[i]?=some v:=by
 have:((cs.drop i).take 1)[0]?=some v:=by rw[h];rfl
 grind
theorem ZM {P:Program} {t e:TypeId} (s:P.underlying t=some (.array 6 e)) (F:P.underlying e=some (.int .i64)) (H:P.cellsOf e=1) (l:P.cellsOf t=6):Reads P t .eD:=λ_ _ _ _ _ _ _ c _ h=>by
 obtain⟨z,m,_,_,b,v,D⟩:=DataW.trod_array s h;have a:∀i,i<6->∃n,c[i]?=some (.int .i64 n):=λi w=>by
  grind[DataW.trod_int,ZL]
 rw[l] at b;match c,b,a with
 |[C,A,I,G,B,E],_,a=>
  obtain⟨o,y⟩:=a 0 (by omega);obtain⟨x,d⟩:=a 1 (by omega);obtain⟨p,u⟩:=a 2 (by omega);obtain⟨j,r⟩:=a 3 (by omega);obtain⟨k,f⟩:=a 4 (by omega);obtain⟨q,g⟩:=a 5 (by omega);simp only[List.getElem?_cons_zero,List.getElem?_cons_succ,γ] at y d u r f g;exact⟨⟨o,x,p,j,k,q⟩,by grind[dK,iv]⟩
theorem ZN {P:Program} {t b i v:TypeId} {fs:Array Field} (w:P.underlying t=some (.struct fs)) (r:P.cellsOf t=8) (N:(fs[0]?).map (λf=>(f.type,f.offset))=some (i,0)) (O:(fs[1]?).map (λf=>(f.type,f.offset))=some (b,1)) (u:(fs[2]?).map (λf=>(f.type,f.offset))=some (v,7))
  (x:P.underlying i=some (.int .i64)) (e:P.cellsOf i=1) (q:P.underlying v=some (.int .i64)) (k:P.cellsOf v=1) (z:Reads P b .eD) (d:P.cellsOf b=6) (I:fs.size=3):Reads P t .off:=λ_ _ _ _ _ _ _ B _ h=>by
 obtain⟨T,m,_,_,n,K,j⟩:=DataW.trod_struct w h;rw[r] at n;obtain⟨F,C,g⟩:=δ.1 N;obtain⟨s,D,c⟩:=δ.1 O;obtain⟨J,A,a⟩:=δ.1 u;simp only[κ] at g c a;have o:=j 0 F C;have l:=j 1 s D;have p:=j 2 J A;rw[g.1,g.2,e,ξ (by omega)] at o;rw[c.1,c.2,d,ξ (by omega)] at l;rw[a.1,a.2,k,ξ (by omega)] at p;obtain⟨G,M,_⟩:=DataW.trod_int x o;obtain⟨y,E⟩:=z _ _ _ _ _ _ _ _ _ l;obtain⟨H,L,_⟩:=DataW.trod_int q p;match B,n with
 |[S,U,R,V,Y,X,Q,W],_=>
  simp[dK] at M E L;exact⟨⟨G,y,H⟩,by grind[dK,iv]⟩
theorem ZO {P:Program} {t b k o:TypeId} {fs:Array Field} (ht:P.underlying t=some (.struct fs)) (hn:P.cellsOf t=20) (a7:fs.size=5)
  (h0:(fs[0]?).map (λf=>(f.type,f.offset))=some (b,0)) (h1:(fs[1]?).map (λf=>(f.type,f.offset))=some (b,6)) (h2:(fs[2]?).map (λf=>(f.type,f.offset))=some (b,12))
  (U:(fs[3]?).map (λf=>(f.type,f.offset))=some (k,18)) (h4:(fs[4]?).map (λf=>(f.type,f.offset))=some (o,19))
  (s:Reads P b .eD) (d:P.cellsOf b=6) {e:TypeId} (hk:P.underlying k=some (.slice e)) (z:Reads P e (.i .i64)) (A:P.cellsOf e=1) (y:P.cellsOf k=1)
  {f:TypeId} (ho:P.underlying o=some (.slice f)) (F:Reads P f .off) (u:P.cellsOf f=8) (v:P.cellsOf o=1)
  {H:Type} {enc:TypeId×Value->H} {w:World} {c:Nat->Bool} {q:Bool} {j:Nat} {cs:List Value} {x:DataW H×List MemPlace} (h:DataW.trod enc P w 0 c q j t cs=some x):
  ∃p:bp,bD me w [] [] (gL p.ss) cs:=by
 obtain⟨xs,m,_,_,O,a1,l⟩:=DataW.trod_struct ht h;rw[hn] at O;obtain⟨f0,e0,E⟩:=δ.1 h0;obtain⟨f1,e1,D⟩:=δ.1 h1;obtain⟨Z,e2,r⟩:=δ.1 h2;obtain⟨f3,T,B⟩:=δ.1 U;obtain⟨f4,e4,C⟩:=δ.1 h4;simp only[κ] at E D r B C;have S:=l 0 f0 e0;have I:=l 1 f1 e1;have R:=l 2 Z e2;have J:=l 3 f3 T;have M:=l 4 f4 e4;rw[E.1,E.2,d,ξ (by omega)] at S;rw[D.1,D.2,d,ξ (by omega)] at I;rw[r.1,r.2,d,ξ (by omega)] at R;rw[B.1,B.2,y,ξ (by omega)] at J;rw[C.1,C.2,v,ξ (by omega)] at M;obtain⟨y0,K⟩:=s _ _ _ _ _ _ _ _ _ S;obtain⟨y1,Q⟩:=s _ _ _ _ _ _ _ _ _ I;obtain⟨y2,G⟩:=s _ _ _ _ _ _ _ _ _ R;obtain⟨v3,l3,L,r3⟩:=PY hk z A J;obtain⟨v4,W,N,r4⟩:=PY ho F u M;match cs,O with
 |[c0,c1,c2,c3,c4,c5,c6,c7,c8,c9,a0,a5,V,a6,a8,a2,a4,Y,a3,X],_=>
  simp[dK,iv] at K Q G L N;obtain⟨rfl,rfl,rfl,rfl,rfl,rfl⟩:=K;obtain⟨rfl,rfl,rfl,rfl,rfl,rfl⟩:=Q;obtain⟨rfl,rfl,rfl,rfl,rfl,rfl⟩:=G;subst L;subst N;refine⟨⟨y0,y1,y2,l3,W⟩,?_⟩;have a:∀n:Int,bw me w [] [] (γb .i64 n).g (.int .i64 n):=λn=>by simp[γI,bw,Value.oneCell']
  simp only[bp.ss,gL,bD];exact⟨_,_,rfl,a _,_,_,rfl,a _,_,_,rfl,a _,_,_,rfl,a _,_,_,rfl,a _,_,_,rfl,a _,_,_,rfl,a _,_,_,rfl,a _,_,_,rfl,a _,_,_,rfl,a _,_,_,rfl,a _,_,_,rfl,a _,
   _,_,rfl,a _,_,_,rfl,a _,_,_,rfl,a _,_,_,rfl,a _,_,_,rfl,a _,_,_,rfl,a _,_,_,rfl,r3,_,_,rfl,r4,rfl⟩
theorem ZP {P:Program} {w:World} {r:Reach} {base:Nat} {t:TypeId} {v:Value} {fs:Array Field} (a:P.underlying t=some (.struct fs)) (h:Value.okWide P w r base t v):∃cs,v= .agg cs/\v.cells.toList=cs.toList:=by
 unfold Value.okWide at h;rw[a] at h;obtain⟨cs,rfl,_⟩:=h;exact⟨cs,rfl,rfl⟩
theorem PZ {P:Program} {w:World} {r:Reach} {base:Nat} {t:TypeId} {k:IntKind} {v:Value} (a:P.underlying t=some (.int k)) (h:Value.okWide P w r base t v):v.cells.toList=[v]:=by
 cases v with
 |agg b=>simp_all[Value.okWide,Cell.okWide,Cell.ok];|_=>rfl
theorem P0 {H:Type} {enc:TypeId×Value->H} {P:Program} (j:laidOutB P=true) {W l:World} (n:Below W.heap.size W l) {m:Nat->Bool}:
  ∀{f:List TypeId} {vs:List Value} {i:List (DataW H)} {g:List MemPlace},DataW.TrodAll enc P W 0 (λ_=>true) true f vs i g->(∀t∈f,P.readableRec t=true/\t<P.types.size)->(∀p∈g,p.block<W.heap.size)->(∀p∈g,m p.block=true)->
   DataW.TrodAll enc P l 0 m true f vs i g
 |[],_,_,_,h,_,_,_=>by
  obtain⟨rfl,rfl,rfl⟩:=trodAll_nil h;exact rfl;|t::f,_,_,_,h,o,e,k=>by
  obtain⟨v,vs,d,i,a,b,rfl,rfl,rfl,r,s⟩:=trodAll_cons h;obtain⟨x,q⟩:=o t (by simp);exact⟨a,b,WideElems.Trod_stays j x q r (λp c=>n.same (e p (by simp[c]))) (λp c=>k p (by simp[c])),
   P0 j n s (λu w=>o u (by simp[w])) (λp c=>e p (by simp[c])) (λp c=>k p (by simp[c])),rfl⟩
theorem ZQ {W b:World} {a:bW} {o':Store} (h:Ext W [] [] b a o'):Below W.heap.size W b:=
 ⟨h.os,h.tape,h.output,h.size,λk e=>(h.blk k e (by rintro⟨i,c,d⟩;simp at d)).1⟩
@[simp] theorem ZR {k c:IntKind} {a b:Int}:(γb k a).same (.si c b)↔k=c/\a=b:=by simp[εY,γI]
@[simp] theorem ZS {k c:IntKind} {a b:Int}:(γy k a).same (.si c b)↔k=c/\a=b:=by simp[εY,γI]
@[simp] theorem ZT {a b:Bool}:(γG a).same (.sb b)↔a=b:=by simp[εY,γI]
@[simp] theorem ZU {a b:Bool}:(δs a).same (.sb b)↔a=b:=by simp[εY,γI]
@[simp] theorem ZV {s:bn} {a b:List s.T}:(γc s a).same (.row s b)↔a=b:=by
 constructor;·intro h;simp only[εY,γI,εe] at h;exact l9 s h.1 h.2
 ·rintro rfl;rfl
@[simp] theorem ZW {k c:IntKind} {a b:Int}:(γb k a).same (.il c b)↔k=c/\a=b:=by simp[εY,γI]
@[simp] theorem ZX {k c:IntKind} {a b:Int}:(γy k a).same (.il c b)↔k=c/\a=b:=by simp[εY,γI]
theorem ZY {v:SV}:v.same v↔True:=iff_true_intro rfl
theorem li {v:bq}:v.same v↔True:=iff_true_intro rfl
theorem ZZ {a b c d:SV}:(SV.bH [a,b]).same (.bH [c,d])↔a.same c/\b.same d:=by simp[εY,γI,gL]
theorem Z1 {a b c d e f:SV}:(SV.bH [a,b,c]).same (.bH [d,e,f])↔a.same d/\b.same e/\c.same f:=by simp[εY,γI,gL]
theorem HQ {s t:bn}:(γc s []).same (.row t [])↔True:=iff_true_intro (by simp[εY,γI,cC])
theorem Z2 {s:bn} {l:List s.T}:(γc (.i .i64) []).same (.row s l)↔l=[]:=by
 constructor;·grind[εY,γI]
 ·rintro rfl;exact HQ.2 trivial
theorem Da {a b:bz}:a=b↔a.a0=b.a0/\a.a1=b.a1/\a.a2=b.a2/\a.a3=b.a3/\a.a4=b.a4/\a.a5=b.a5:=by
 obtain⟨k,c,n,f,d,l⟩:=a;obtain⟨g,i,e,h,m,j⟩:=b;simp_all
@[simp] theorem Z3 {n:Int}:bY .i64 n↔ -9223372036854775808<=n/\n<=9223372036854775807:=Iff.rfl
theorem vcs:(∀{p:Prop} [h:Decidable p],(decide p=true)=p)/\(∀{p:Prop} {x:Decidable p},decide p=false↔¬p)/\(∀{k g:IntKind} {a b:Int},(γy k a).same (γb g b)↔k=g/\a=b)/\(∀{k g:IntKind} {a b:Int},(γb k a).same (γb g b)↔k=g/\a=b)/\(∀{k g:IntKind} {a b:Int},(γb k a).same (γy g b)↔k=g/\a=b)/\(∀{k g:IntKind} {a b:Int},(γy k a).same (γy g b)↔k=g/\a=b)/\(∀{a b:Bool},(γG a).same (γG b)↔a=b)/\(∀{a b:Bool},(δs a).same (γG b)↔a=b)/\(∀{s:bn} {a b:List s.T},(γc s a).same (γc s b)↔a=b)/\(∀{a b c d:SV},(SV.bH [a,b]).same (SV.bH [c,d])↔a.same c/\b.same d)/\(∀{a b c d e f:SV},(SV.bH [a,b,c]).same (SV.bH [d,e,f])↔a.same d/\b.same e/\c.same f)/\(∀{s t:bn},(γc s []).same (γc t [])↔True)/\(∀{s:bn} {l:List s.T},(γc (bn.i IntKind.i64) []).same (γc s l)↔l=[])/\(∀{v:SV},v.same v↔True)/\(∀{v:bq},v.same v↔True)/\(∀{n:Int},bY IntKind.i64 n↔ -9223372036854775808<=n/\n<=9223372036854775807)/\(∀p:Prop,(True/\p)=p)/\(∀p:Prop,(p/\True)=p)/\(∀a b:Bool,((a&&b)=true)=(a=true/\b=true))/\(∀b:Bool,((!b)=true)=(b=false))/\(∀b:Bool,((!b)=false)=(b=true)):=
 ⟨decide_eq_true_eq,decide_eq_false_iff_not,ZS,ZR,ZW,ZX,ZT,ZU,ZV,ZZ,Z1,HQ,Z2,ZY,li,Z3,true_and,and_true,ζ,Bool.not_eq_true',Bool.not_eq_false'⟩
def bz.ok (b:bz):Bool:=[b.a0,b.a1,b.a2,b.a3,b.a4,b.a5].all λn=>decide (0<=n)&&decide (n<=4)
theorem bz.eT {b:bz}:b.ok=true↔(0<=b.a0/\b.a0<=4)/\(0<=b.a1/\b.a1<=4)/\(0<=b.a2/\b.a2<=4)/\(0<=b.a3/\b.a3<=4)/\(0<=b.a4/\b.a4<=4)/\(0<=b.a5/\b.a5<=4):=by
 simp[bz.ok]
def HS:bM:=⟨113,bz,.one (eG .eD),λ_=>True,λb=> .si .i64 (if b.ok=true then 0 else 4)⟩
theorem h146:Holds Tryz.prog HS:=by
 refine cJ (L:=[]) HS (λ_ _=> .pI 7) (by simp) ?_;intro b _;refine bQ (let h:=γy .i64;let p:=(0:Int);let q:=(4:Int);let i:=decide (b.a0<p);let a:=γb .i64 (if bz.ok b=true then p else q);let l:=decide (q<b.a0);let k:=decide (b.a1<p);let m:=decide (q<b.a1);let o:=decide (b.a2<p);let j:=decide (q<b.a2);let n:=decide (b.a3<p);let f:=decide (q<b.a3);let g:=decide (b.a4<p);let d:=decide (q<b.a4);let c:=decide (b.a5<p);let e:=decide (q<b.a5);(i=true->(h 4).same a)/\(i=false->(l=true->(h 4).same a)/\(l=false->(k=true->(h 4).same a)/\(k=false->(m=true->(h 4).same a)/\(m=false->(o=true->(h 4).same a)/\(o=false->(j=true->(h 4).same a)/\(j=false->(n=true->(h 4).same a)/\(n=false->(f=true->(h 4).same a)/\(f=false->(g=true->(h 4).same a)/\(g=false->(d=true->(h 4).same a)/\(d=false->(c=true->(h 4).same a)/\(c=false->(e=true->(h 4).same a)/\(e=false->(h 0).same a))))))))))))) (by kernel_rfl) ?_;conv=>zeta
 have p:=@bz.eT b;by_cases h:b.ok=true<;>simp_all
def bz.l (b:bz):List Int:=[b.a0,b.a1,b.a2,b.a3,b.a4,b.a5]
def dj (p:bp):Int:=p.classes.length+12
def dD (p:bp) (r:Int):Int:=
 if r - p.classes.length<0 then 1
 else if r - p.classes.length<6 then bj [p.supply.a0,p.supply.a1,p.supply.a2,p.supply.a3,p.supply.a4,p.supply.a5] (r - p.classes.length).toNat 0
 else bj [p.opn.a0,p.opn.a1,p.opn.a2,p.opn.a3,p.opn.a4,p.opn.a5] (r - p.classes.length - 6).toNat 0
def eU (p:bp) (r:Int) (o:Off):Int:=
 if r - p.classes.length<0 then(if o.bF=r then 1 else 0)
 else if r - p.classes.length<6 then bj [o.want.a0,o.want.a1,o.want.a2,o.want.a3,o.want.a4,o.want.a5] (r - p.classes.length).toNat 0
 else if bj [p.cls.a0,p.cls.a1,p.cls.a2,p.cls.a3,p.cls.a4,p.cls.a5] (r - p.classes.length - 6).toNat 0=0\/bj [p.cls.a0,p.cls.a1,p.cls.a2,p.cls.a3,p.cls.a4,p.cls.a5] (r - p.classes.length - 6).toNat 0=bj p.classes o.bF.toNat 0 then 0
 else bj [o.want.a0,o.want.a1,o.want.a2,o.want.a3,o.want.a4,o.want.a5] (r - p.classes.length - 6).toNat 0
def xC:bM:=⟨96,bp,.one cZ,λp=>p.classes.length<=8,λp=> .si .i64 (dj p)⟩
def xE:bM:=⟨134,bp×Int,.cons cZ (.one (dU .i64)),λa=>a.1.classes.length<=8/\0<=a.2/\a.2<dj a.1,λa=> .si .i64 (dD a.1 a.2)⟩
def xF:bM:=⟨133,bp×Int×Off,.cons cZ (.cons (dU .i64) (.one (eG .off))),λa=>a.1.classes.length<=8/\0<=a.2.1/\a.2.1<dj a.1/\0<=a.2.2.bF/\a.2.2.bF<a.1.classes.length,λa=> .si .i64 (eU a.1 a.2.1 a.2.2)⟩
theorem h157:Holds Tryz.prog xC:=by
 refine cJ (L:=[]) xC (λ_ _=> .pI 7) (by simp) ?_;intro p (b:p.classes.length<=8);refine bQ (let a:=(↑p.classes.length:Int)+(12:Int);bY .i64 a/\(γb .i64 a).same (γb .i64 (dj p))) (by kernel_rfl) ?_;simp only[vcs,dj];omega
theorem h158:Holds Tryz.prog xE:=by
 refine cJ (L:=[]) xE (λ_ _=> .pI 7) (by simp) ?_;rintro⟨p,r⟩ ⟨h,j,i⟩;simp only[dj] at h j i;refine bQ (let h:=(6:Int);let i:=(0:Int);let d:=γb .i64 (dD p r);let c:=(↑p.classes.length:Int);let g:=decide (r - c<i);let e:=decide (r - c<h);let f:=λ(u b:Int) (a:bz) ↦i<=u - b/\u - b<h/\(u - b).toNat<6/\(γb .i64 (bj [a.a0,a.a1,a.a2,a.a3,a.a4,a.a5] (u - b).toNat i)).same d;bY .i64 (r - c)/\(g=true->(γy .i64 1).same d)/\(g=false->(e=true->f r c p.supply)/\(e=false->bY .i64 (r - c - h)/\f (r - c) h p.opn))) (by kernel_rfl) ?_;simp only[vcs];grind[dD]
theorem h156:Holds Tryz.prog xF:=by
 refine cJ (L:=[]) xF (λ_ _=> .pI 7) (by simp) ?_;rintro⟨p,r,x⟩ ⟨m,q,n,l,o⟩;simp only[dj] at m q n l o;refine bQ (let l:=(0:Int);let m:=(6:Int);let n:=γy .i64;let o:=γy .i64 0;let q:=γb .i64;let b:=(↑p.classes.length:Int);let e:=decide (r - b<l);let c:=q (eU p r x);let h:=decide (r - b<m);let k:=[x.want.a0,x.want.a1,x.want.a2,x.want.a3,x.want.a4,x.want.a5];let a:=r - b - m;let j:=bj [p.cls.a0,p.cls.a1,p.cls.a2,p.cls.a3,p.cls.a4,p.cls.a5] a.toNat l;let i:=decide (j=l);let g:=decide (j=bj p.classes x.bF.toNat l);let d:=decide (x.bF=r);let f:=(e=true->(n 0).same c)/\(e=false->(h=true->l<=r - b/\r - b<m/\(r - b).toNat<6/\(q (bj k (r - b).toNat l)).same c)/\(h=false->bY .i64 a/\l<=a/\a<m/\a.toNat<6/\(i=true->(n 0).same c)/\(i=false->l<=a/\a<m/\a.toNat<6/\l<=x.bF/\x.bF<b/\x.bF.toNat<p.classes.length/\(g=true->(n 0).same c)/\(g=false->l<=a/\a<m/\a.toNat<6/\(q (bj k a.toNat l)).same c))));bY .i64 (r - b)/\(e=true->(d=true->(n 1).same c)/\(d=false->f))/\(e=false->f)) (by kernel_rfl) ?_;simp only[vcs];repeat' (first|refine γj ?_ ?_|intro _)
 all_goals first
  |trivial;|omega;|(simp only[eU];(repeat' split)<;>first|rfl|omega)
def L2:List bM:=[xF,xC,xE]
theorem hL2:∀c∈L2,Holds Tryz.prog c:=by
 simp_all[L2,h156,h157,h158]
def cQ (p:bp) (l:List Off) (r:Int):Int:=(l.map (eU p r)).sum
def fF (p:bp) (l:List Off):Bool:=(χ (p.classes.length+12)).all λr=>decide (cQ p l r<=dD p r)
def Db:bM:=⟨98,bp×List Off,.cons cZ (.one (dY .off)),λa=>a.1.classes.length<=8/\a.2.length<=1000/\(∀x∈a.2,0<=x.bF/\x.bF<a.1.classes.length/\x.want.ok=true),λa=> .sb (fF a.1 a.2)⟩
def Z4 (a:bp×List Off):Nat->cB
 |3=> .inv Int (λi=>⟨[(1,.row .off a.2),(2,.ptr 0 0 20),(5,.fn (.func 133) [] []),(11,.si .i64 (dj a.1)),(12,.si .i64 i)],[.cells a.1.ss 110 20 false]⟩) (λs=>iS s 12)
  (λi=>0<=i/\i<=dj a.1/\∀r:Nat,r<i->cQ a.1 a.2 r<=dD a.1 r) (λi=>(dj a.1 - i).toNat)
  λi=>λ
   |7=> .inv (Int×Int) (λx=>⟨[(1,.row .off a.2),(2,.ptr 0 0 20),(5,.fn (.func 133) [] []),(6,.si .i64 i),(7,.si .i64 x.2),(11,.si .i64 (dj a.1)),(12,.si .i64 i),(15,.row .off a.2),(16,.si .i64 a.2.length),(17,.si .i64 x.1)],[.cells a.1.ss 110 20 false]⟩)
    (λs=>(iS s 17,iS s 7))
    (λx=>0<=x.1/\x.1<=a.2.length/\x.2=cQ a.1 (a.2.take x.1.toNat) i) (λx=>(a.2.length - x.1).toNat) λ_ _=> .look
   |_=> .look
 |_=> .look
theorem HT {b:bz} (h:b.ok=true) (k:Nat):0<=bj [b.a0,b.a1,b.a2,b.a3,b.a4,b.a5] k 0/\bj [b.a0,b.a1,b.a2,b.a3,b.a4,b.a5] k 0<=4:=by
 grind[bz.eT,bj]
theorem rF {p:bp} {r:Int} {o:Off} (h:o.want.ok=true):0<=eU p r o/\eU p r o<=4:=by
 unfold eU;have a:=HT h (r - p.classes.length).toNat;have b:=HT h (r - p.classes.length - 6).toNat;omega
theorem ua {p:bp} {r:Int}:∀{l:List Off},(∀x∈l,x.want.ok=true)->0<=cQ p l r/\cQ p l r<=4*l.length
 |[],_=>by simp[cQ];|x::l,h=>by
  have b:=@rF p r x (h x (by simp));have c:=@ua p r l λy a=>h y (by simp[a]);grind[cQ]
theorem cT {a:Type} {l:List a} {i:Nat} {d:a} (h:i<l.length):bj l i d∈l:=by grind[cO]
theorem j8 {a:Type} {l:List a} {i:Int} {d:a} (b:0<=i) (h:i<l.length):l.take (i+1).toNat=l.take i.toNat++[bj l i.toNat d]:=by
 rw[show(i+1).toNat=i.toNat+1 from by omega,cO (by omega),List.take_succ_eq_append_getElem (by omega)]
theorem HU {p:bp} {r:Int} {l:List Off} {i:Int} {d:Off} (a:0<=i) (h:i<l.length):cQ p (l.take (i+1).toNat) r=cQ p (l.take i.toNat) r+eU p r (bj l i.toNat d):=by
 grind[j8,cQ]
theorem o6 {p:bp} {l:List Off}:fF p l=true↔∀r:Nat,r<dj p->cQ p l r<=dD p r:=by
 simp only[fF,dj,Φ,List.mem_range,decide_eq_true_eq];grind
theorem h134:Holds Tryz.prog Db:=by
 refine cJ (L:=L2) Db Z4 hL2 ?_;rintro⟨p,l⟩ ⟨hp,hl,hb⟩;simp only at hp hl hb;refine bQ (let a:=γb .i64;let b:=(0:Int);let c:=γc;let d:=γy .i64 0;let e:=γy .i64;let f:=bY .i64;let g:=γV 0 0 20;let h:=SV.fn (Fn.func 133) [] [];let i:=a (dj p);let j:=bq.cells (bp.ss p) 110 20 false;let k:=(↑l.length:Int);let q:=a k;p.classes.length<=8/\((((c bn.off l).same (c bn.off l)/\g.same g/\h.same h/\i.same i/\(d).same (a 0)/\True)/\j.same j/\True)/\b<=b/\b<=dj p/\∀(r:Nat),(↑r:Int)<b->cQ p l (↑r:Int)<=dD p (↑r:Int))/\∀(x:Int),let u:=decide (x<dj p);let m:=x+(1:Int);let v:=a m;(b<=x/\x<=dj p/\∀(r:Nat),(↑r:Int)<x->cQ p l (↑r:Int)<=dD p (↑r:Int))->(u=true->((((c bn.off l).same (c bn.off l)/\g.same g/\h.same h/\(a x).same (a x)/\(d).same (a 0)/\i.same i/\(a x).same (a x)/\(c bn.off l).same (c bn.off l)/\(a (↑l.length:Int)).same q/\(d).same (a 0)/\True)/\j.same j/\True)/\b<=b/\b<=k/\b=cQ p [] x)/\∀(x_1:Int×Int),let s:=bj l x_1.fst.toNat bn.off.dflt;let t:=x_1.snd+eU p x s;let n:=x_1.fst+(1:Int);let o:=a x;let w:=a t;let y:=a n;let z:=decide (dD p x<x_1.snd);b<=x_1.fst/\x_1.fst<=k/\x_1.snd=cQ p (γe x_1.fst.toNat l) x->(decide (x_1.fst<k)=true->b<=x_1.fst/\x_1.fst<(↑l.length:Int)/\x_1.fst.toNat<l.length/\(p.classes.length<=8/\b<=x/\x<dj p/\b<=s.bF/\s.bF<(↑p.classes.length:Int))/\f t/\f n/\(((c bn.off l).same (c bn.off l)/\g.same g/\h.same h/\o.same o/\w.same w/\i.same i/\o.same o/\(c bn.off l).same (c bn.off l)/\q.same q/\y.same y/\True)/\j.same j/\True)/\(b<=n/\n<=k/\t=cQ p (γe n.toNat l) x)/\(k - n).toNat<(k - x_1.fst).toNat)/\(decide (x_1.fst<k)=false->(p.classes.length<=8/\b<=x/\x<dj p)/\(z=true->(δs false).same (γG (fF p l)))/\(z=false->f m/\(((c bn.off l).same (c bn.off l)/\g.same g/\h.same h/\i.same i/\v.same v/\True)/\j.same j/\True)/\(b<=m/\m<=dj p/\∀(r:Nat),(↑r:Int)<m->cQ p l (↑r:Int)<=dD p (↑r:Int))/\(dj p - m).toNat<(dj p - x).toNat)))/\(u=false->(δs true).same (γG (fF p l)))) (by kernel_rfl) ?_;simp only[vcs];have hn:dj p=p.classes.length+12:=rfl;have ho:∀x∈l,x.want.ok=true:=λx hx=>(hb x hx).2.2;refine⟨hp,⟨by omega,by omega,λr hr=>by omega⟩,?_⟩;rintro i ⟨hi0,hi1,hi⟩;refine⟨λhlt=>⟨⟨by omega,by omega,by simp[cQ]⟩,?_⟩,?_⟩
 ·rintro⟨j,s⟩ ⟨hj0,hj1,hs⟩;simp only at hj0 hj1 hs ⊢;have hsb:=@ua p i (l.take j.toNat) λx hx=>ho x (List.mem_of_mem_take hx);have hlen:(l.take j.toNat).length<=l.length:=by simp;omega
  refine⟨λhjl=>?_,λhjl=>?_⟩
  ·have hm:=hb _ (cT (d:=bn.off.dflt) (show j.toNat<l.length by omega));have hc:=@rF p i _ hm.2.2;have hst:=@HU p i l j bn.off.dflt hj0 hjl;refine⟨by omega,by omega,by omega,⟨hp,by omega,by omega,hm.1,hm.2.1⟩,by omega,by omega,⟨by omega,by omega,by omega⟩,by omega⟩
  ·have:j.toNat=l.length:=by omega
   rw[this,ψ] at hs;refine⟨⟨hp,by omega,by omega⟩,λhgt=>?_,λhle=>⟨by omega,⟨by omega,by omega,λr hr=>?_⟩,by omega⟩⟩
   ·symm;rw[Bool.eq_false_iff];intro hf;have:=o6.1 hf i.toNat (by omega);rw[show((i.toNat:Nat):Int)=i from by omega] at this;omega
   ·by_cases hr2:(r:Int)<i;·exact hi r hr2
    ·have:(r:Int)=i:=by omega
     rw[this];omega
 ·intro hge;symm;exact o6.2 λr hr=>hi r (by omega)
def L3:List bM:=[Db,HS,xF,xC,xE]
theorem hL3:∀c∈L3,Holds Tryz.prog c:=by
 simp only[L3,γF,List.not_mem_nil,false_implies,implies_true,and_true];grind[h134,h146,h156,h157,h158]
def ix (p:bp) (k:Nat):Prop:=
 let c:=bj [p.cls.a0,p.cls.a1,p.cls.a2,p.cls.a3,p.cls.a4,p.cls.a5] k 0;let o:=bj [p.opn.a0,p.opn.a1,p.opn.a2,p.opn.a3,p.opn.a4,p.opn.a5] k 0;let s:=bj [p.supply.a0,p.supply.a1,p.supply.a2,p.supply.a3,p.supply.a4,p.supply.a5] k 0;0<=c/\c<=4/\0<=o/\o<=s/\(c≠0\/o=s)
instance (p:bp) (k:Nat):Decidable (ix p k):=by unfold ix;infer_instance
def Dc (p:bp):Bool:=(χ 6).all λk=>decide (ix p k)
theorem lj {p:bp} {k:Nat}:ix p k↔(0<=bj [p.cls.a0,p.cls.a1,p.cls.a2,p.cls.a3,p.cls.a4,p.cls.a5] k 0/\bj [p.cls.a0,p.cls.a1,p.cls.a2,p.cls.a3,p.cls.a4,p.cls.a5] k 0<=4/\0<=bj [p.opn.a0,p.opn.a1,p.opn.a2,p.opn.a3,p.opn.a4,p.opn.a5] k 0/\
  bj [p.opn.a0,p.opn.a1,p.opn.a2,p.opn.a3,p.opn.a4,p.opn.a5] k 0<=bj [p.supply.a0,p.supply.a1,p.supply.a2,p.supply.a3,p.supply.a4,p.supply.a5] k 0/\
  (bj [p.cls.a0,p.cls.a1,p.cls.a2,p.cls.a3,p.cls.a4,p.cls.a5] k 0≠0\/bj [p.opn.a0,p.opn.a1,p.opn.a2,p.opn.a3,p.opn.a4,p.opn.a5] k 0=bj [p.supply.a0,p.supply.a1,p.supply.a2,p.supply.a3,p.supply.a4,p.supply.a5] k 0)):=Iff.rfl
attribute [irreducible] ix
theorem zI {p:bp}:Dc p=true↔∀k,k<6->ix p k:=by simp[Dc]
def gI (p:bp):Int:=
 if p.supply.ok=false then 4
 else if Dc p=false then 4
 else if 8<p.classes.length\/160<p.offers.length then 3
 else if ¬∀c∈p.classes,0<=c/\c<=4 then 4
 else 0
def HV:bM:=⟨80,bp,.one cZ,λp=>True,λp=> .si .i64 (gI p)⟩
def Z5 (p:bp):Nat->cB
 |5=> .inv Int (λk=>⟨[(1,.ptr 0 0 20),(16,.si .i64 k)],[.cells p.ss 110 20 false]⟩) (λs=>iS s 16) (λk=>0<=k/\k<=6/\∀j:Nat,j<k->ix p j) (λk=>(6 - k).toNat) λ_ _=> .look
 |14=> .inv Int (λk=>⟨[(76,.row (.i .i64) p.classes),(77,.si .i64 p.classes.length),(78,.si .i64 k)],[.cells p.ss 110 20 false]⟩) (λs=>iS s 78)
  (λk=>0<=k/\k<=p.classes.length/\∀c∈p.classes.take k.toNat,0<=c/\c<=4) (λk=>(p.classes.length - k).toNat) λ_ _=> .look
 |_=> .look
theorem P3 {p:bp} (h:p.supply.ok=false):gI p=4:=by simp[gI,h]
theorem P4 {p:bp} (h:p.supply.ok=true) {k:Nat} (b:k<6) (a:¬ix p k):gI p=4:=by
 grind[zI,gI]
theorem Df {p:bp} (h:p.supply.ok=true) (b:∀j:Nat,j<6->ix p j) (a:8<p.classes.length\/160<p.offers.length):gI p=3:=by
 grind[gI,zI]
theorem Dh {p:bp} (h:p.supply.ok=true) (f:∀j:Nat,j<6->ix p j) (e:¬(8<p.classes.length\/160<p.offers.length)) {c:Int} (b:c∈p.classes) (a:¬(0<=c/\c<=4)):gI p=4:=by
 have:¬∀c∈p.classes,0<=c/\c<=4:=λd=>a (d c b);simp_all[gI]
theorem zJ {p:bp} (h:p.supply.ok=true) (b:∀j:Nat,j<6->ix p j) (d:¬(8<p.classes.length\/160<p.offers.length)) (a:∀c∈p.classes,0<=c/\c<=4):gI p=0:=by
 simp_all[gI,zI,if_neg]
theorem pO {p:bp} (h:gI p=0):p.supply.ok=true/\(∀j:Nat,j<6->ix p j)/\p.classes.length<=8/\p.offers.length<=160/\∀c∈p.classes,0<=c/\c<=4:=by
 unfold gI at h;split at h;·cases h
 ·split at h;·cases h
  ·split at h;all_goals simp_all[zI]
theorem P5 {l:List Int} {i:Int} {P:Int->Prop} (d:0<=i) (h:i<l.length) (a:∀c∈l.take i.toNat,P c) (b:P (bj l i.toNat 0)):∀c∈l.take (i+1).toNat,P c:=by
 grind[j8]
theorem h118:Holds Tryz.prog HV:=by
 refine cJ (L:=L3) HV Z5 hL3 ?_;intro p _;refine bQ (let a:=γb .i64;let b:=(0:Int);let d:=γy .i64;let e:=(6:Int);let f:=(4:Int);let y:=if p.supply.ok=true then b else f;let g:=a (gI p);let q:=γV 0 0 20;let s:=d 0;let n:=γc (bn.i .i64) p.classes;let h:=bq.cells [a p.supply.a0,a p.supply.a1,a p.supply.a2,a p.supply.a3,a p.supply.a4,a p.supply.a5,a p.opn.a0,a p.opn.a1,a p.opn.a2,a p.opn.a3,a p.opn.a4,a p.opn.a5,a p.cls.a0,a p.cls.a1,a p.cls.a2,a p.cls.a3,a p.cls.a4,a p.cls.a5,n,γc bn.off p.offers] 110 20 false;let N:=[p.cls.a0,p.cls.a1,p.cls.a2,p.cls.a3,p.cls.a4,p.cls.a5];let O:=[p.opn.a0,p.opn.a1,p.opn.a2,p.opn.a3,p.opn.a4,p.opn.a5];let P:=[p.supply.a0,p.supply.a1,p.supply.a2,p.supply.a3,p.supply.a4,p.supply.a5];let t:=(↑p.classes.length:Int);let z:=decide ((8:Int)<t);let A:=decide ((160:Int)<(↑p.offers.length:Int));let k:=(↑p.classes.length:Int);let v:=a k;let B:=λ(u:Bool) ↦decide (y≠b)=u;True/\(B true->(a y).same g)/\(B false->(((q.same q/\s.same (a 0)/\True)/\h.same h/\True)/\b<=b/\b<=e/\∀(j:Nat),(↑j:Int)<b->ix p j)/\∀(x:Int),let l:=x+(1:Int);let C:=a l;let D:=decide (x<e);let w:=bj N x.toNat b;let E:=decide (w<b);let F:=decide (f<w);let o:=bj O x.toNat b;let G:=decide (o<b);let r:=bj P x.toNat b;let H:=decide (w=b);let I:=bY .i64 l/\((q.same q/\C.same C/\True)/\h.same h/\True)/\(b<=l/\l<=e/\∀(j:Nat),(↑j:Int)<l->ix p j)/\(e - l).toNat<(e - x).toNat;(b<=x/\x<=e/\∀(j:Nat),(↑j:Int)<x->ix p j)->(D=true->b<=x/\x<e/\x.toNat<6/\b<=x/\x<e/\x.toNat<6/\(E=true->(d 4).same g)/\(E=false->(F=true->(d 4).same g)/\(F=false->(G=true->(d 4).same g)/\(G=false->b<=x/\x<e/\x.toNat<6/\(decide (r<o)=true->(d 4).same g)/\(decide (r<o)=false->(H=true->b<=x/\x<e/\x.toNat<6/\(decide (o≠r)=true->(d 4).same g)/\(decide (o≠r)=false->I))/\(H=false->I))))))/\(D=false->(z=true->(d 3).same g)/\(z=false->(A=true->(d 3).same g)/\(A=false->(((n.same n/\(a t).same v/\s.same (a 0)/\True)/\h.same h/\True)/\b<=b/\b<=k/\∀(c:Int),c∈[]->b<=c/\c<=f)/\∀(x:Int),let J:=bj p.classes x.toNat b;let K:=decide (J<b);let L:=decide (f<J);let m:=x+(1:Int);let M:=a m;(b<=x/\x<=k/\∀(c:Int),c∈γe x.toNat p.classes->b<=c/\c<=f)->(decide (x<k)=true->b<=x/\x<t/\x.toNat<p.classes.length/\(K=true->(d 4).same g)/\(K=false->(L=true->(d 4).same g)/\(L=false->bY .i64 m/\((n.same n/\v.same v/\M.same M/\True)/\h.same h/\True)/\(b<=m/\m<=k/\∀(c:Int),c∈γe m.toNat p.classes->b<=c/\c<=f)/\(k - m).toNat<(k - x).toNat)))/\(decide (x<k)=false->s.same g)))))) (by kernel_rfl) ?_;simp only[vcs];by_cases hs:bz.ok p.supply=true
 ·simp only[hs,if_true];refine⟨λh=>absurd rfl h,λ_=>⟨⟨by omega,by omega,λj hj=>by omega⟩,?_⟩⟩;rintro k ⟨hk0,hk1,hk⟩;refine⟨λhlt=>?_,λhge=>?_⟩
  ·have bad:¬ix p k.toNat->(4:Int)=gI p:=λh=>(P4 hs (by omega) h).symm;have HW:ix p k.toNat->∀(j:Nat),(j:Int)<k+1->ix p j:=λh j hj=>by
    by_cases hj2:(j:Int)<k;·exact hk j hj2
    ·rw[show j=k.toNat from by omega];exact h
   repeat' (first|refine γj ?_ ?_|intro _)
   all_goals first
    |omega;|exact bad λhh=>by have h2:=lj.1 hh;omega;|exact HW (lj.2 (by omega)) _ (by assumption)
  ·have hall:∀j:Nat,j<6->ix p j:=λj hj=>hk j (by omega);refine⟨λh=>(Df hs hall (.inl (by omega))).symm,λh8=>⟨λh=>(Df hs hall (.inr (by omega))).symm,λh160=>⟨⟨by omega,by omega,by simp⟩,?_⟩⟩⟩;rintro i ⟨hi0,hi1,hi⟩;refine⟨λhlt=>?_,λhge=>?_⟩
   ·have hm:=cT (d:=0) (show i.toNat<p.classes.length by omega);refine⟨by omega,by omega,by omega,λh=>(Dh hs hall (by omega) hm (by omega)).symm,λh1=>⟨λh=>(Dh hs hall (by omega) hm (by omega)).symm,λh2=>⟨by omega,⟨by omega,by omega,?_⟩,by omega⟩⟩⟩;exact P5 hi0 hlt hi (by omega)
   ·rw[show i.toNat=p.classes.length from by omega,ψ] at hi;exact(zJ hs hall (by omega) hi).symm
 ·have hs2:bz.ok p.supply=false:=by simpa using hs
  simp only[hs2,ω,if_false];exact⟨λ_=>(P3 hs2).symm,λh=>absurd (by decide) h⟩
def i7 (n:Int) (o:Off):Int:=
 if o.bF<0\/n<=o.bF then 6 else if o.value<1\/1000000<o.value then 4 else if o.want.ok then 0 else 4
def HY:bM:=⟨114,Int×Off,.cons (dU .i64) (.one (eG .off)),λp=>True,λp=> .si .i64 (i7 p.1 p.2)⟩
theorem h147:Holds Tryz.prog HY:=by
 refine cJ (L:=L3) HY (λp=>λ_=> .look) hL3 ?_;rintro⟨n,x⟩ _;refine bQ (let f:=γy .i64;let e:=decide (x.bF<(0:Int));let a:=γb .i64 (i7 n x);let c:=decide (n<=x.bF);let b:=decide (x.value<(1:Int));let d:=decide ((1000000:Int)<x.value);(e=true->(f 6).same a)/\(e=false->(c=true->(f 6).same a)/\(c=false->(b=true->(f 4).same a)/\(b=false->(d=true->(f 4).same a)/\(d=false->True/\(γb .i64 (if x.want.ok=true then(0:Int) else(4:Int))).same a))))) (by kernel_rfl) ?_;simp only[vcs];grind[i7]
def gW (p:bp) (o:Off):Int:=
 if i7 p.classes.length o≠0 then i7 p.classes.length o else if o.want=bz.zero then 4 else if fF p [o]=false then 14 else 0
def HZ:bM:=⟨81,bp×Off,.cons cZ (.one (eG .off)),λa=>a.1.classes.length<=8,λa=> .si .i64 (gW a.1 a.2)⟩
def L4:List bM:=HY::L3
theorem hL4:∀c∈L4,Holds Tryz.prog c:=by
 grind[L4,h147,hL3]
theorem zK {n:Int} {o:Off} (h:i7 n o=0):0<=o.bF/\o.bF<n/\1<=o.value/\o.value<=1000000/\o.want.ok=true:=by
 grind[i7]
theorem h119:Holds Tryz.prog HZ:=by
 refine cJ (L:=L4) HZ (λp=>λ_=> .look) hL4 ?_;rintro⟨p,x⟩ (i:p.classes.length<=8);refine bQ (let f:=(0:Int);let g:=γy .i64;let c:=i7 (↑p.classes.length:Int) x;let e:=decide (c≠f);let b:=γb .i64 (gW p x);let d:=λ(u:Bool) ↦(decide (x.want.a0=f)&&(decide (x.want.a1=f)&&(decide (x.want.a2=f)&&(decide (x.want.a3=f)&&(decide (x.want.a4=f)&&(decide (x.want.a5=f)&&true))))))=u;True/\(e=true->(γb .i64 c).same b)/\(e=false->(d true->(g 4).same b)/\(d false->(p.classes.length<=8/\1<=1000/\∀(a:Off),a∈[x]->f<=a.bF/\a.bF<(↑p.classes.length:Int)/\a.want.ok=true)/\((!fF p [x])=true->(g 14).same b)/\((!fF p [x])=false->(g 0).same b)))) (by kernel_rfl) ?_;conv=>zeta
 have g:(decide (x.want.a0=0)&&(decide (x.want.a1=0)&&(decide (x.want.a2=0)&&(decide (x.want.a3=0)&&(decide (x.want.a4=0)&&decide (x.want.a5=0))))))=decide (x.want=bz.zero):=by
  simp_all[Da,bz.zero]
 simp only[δZ,g];simp only[vcs];refine⟨λh=>by simp_all[gW],λh=>?_⟩;have f:i7 p.classes.length x=0:=Θ.1 h;have j:=zK f;grind[gW]
def L5:List bM:=HV::HZ::L4
theorem hL5:∀c∈L5,Holds Tryz.prog c:=by
 grind[L5,h118,h119,hL4]
def Off.key (o:Off):lY:=⟨o.bF,o.want⟩
def eJ (p:bp) (a:List lY):List Off->Int
 |[]=>0
 |o::r=>if gW p o≠0 then gW p o else if o.key∈a then 7 else eJ p (a++[o.key]) r
def bC (p:bp):Int:=if gI p≠0 then gI p else eJ p [] p.offers
def pP:bM:=⟨51,bp,.one cZ,λp=>True,λp=> .si .i64 (bC p)⟩
def Z6 (p:bp):Nat->cB
 |7=> .inv Int (λi=>⟨[(3,.ptr 1 0 20),(5,.mp 2),(19,.row .off p.offers),(20,.si .i64 p.offers.length),(21,.si .i64 i)],
   [.cells p.ss 27 20 false,.cells p.ss 110 20 false,.map .key .b true ((p.offers.take i.toNat).map λo=>(o.key,true)) ([0,0,0,0,0,0,0],true) true]⟩) (λs=>iS s 21)
  (λi=>0<=i/\i<=p.offers.length/\eJ p [] p.offers=eJ p ((p.offers.take i.toNat).map Off.key) (p.offers.drop i.toNat)) (λi=>(p.offers.length - i).toNat) λ_ _=> .look
 |_=> .look
theorem sD {a:Type} {l:List a} {i:Int} {d:a} (b:0<=i) (h:i<l.length):l.drop i.toNat=bj l i.toNat d::l.drop (i+1).toNat:=by
 rw[show(i+1).toNat=i.toNat+1 from by omega,cO (by omega),List.drop_eq_getElem_cons (by omega)]
theorem Di (k:lY):∀(l:List Off),(j5 .key .b k (l.map λo=>(o.key,true))).getD false=decide (k∈l.map Off.key)
 |[]=>by simp[j5];|o::l=>by
  have:=Di k l;grind[j5]
theorem Z7 {b sv:bn} {c:Bool} {es a:List (b.T×sv.T)} {d:List Nat×Bool} {pu:Bool} (h:es=a):(bq.map b sv c es d pu).same (.map b sv c a d pu):=by rw[h];rfl
theorem Z8 {k:lY} {l:List Off} (h:k∉l.map Off.key):nB .key .b k true (l.map λo=>(o.key,true))=(l.map λo=>(o.key,true))++[(k,true)]:=
 Ho λp a=>by
  grind
theorem h79:Holds Tryz.prog pP:=by
 refine cJ (L:=L5) pP Z6 hL5 ?_;intro p _;refine bQ (let a:=γb .i64;let c:=(0:Int);let f:=γc bn.off p.offers;let q:=decide (gI p≠c);let g:=a (bC p);let h:=γV 1 0 20;let r:=(↑p.offers.length:Int);let d:=(↑p.offers.length:Int);let m:=a d;let s:=γy .i64 0;let n:=([0,0,0,0,0,0,0],true);let t:=bq.map bn.key bn.b true [] n true;let j:=eJ p [] p.offers;let E:=bn.off.dflt;let k:=λ(u:Nat) ↦let v:=bq.cells [a p.supply.a0,a p.supply.a1,a p.supply.a2,a p.supply.a3,a p.supply.a4,a p.supply.a5,a p.opn.a0,a p.opn.a1,a p.opn.a2,a p.opn.a3,a p.opn.a4,a p.opn.a5,a p.cls.a0,a p.cls.a1,a p.cls.a2,a p.cls.a3,a p.cls.a4,a p.cls.a5,γc (bn.i .i64) p.classes,f] u 20 false;v.same v;True/\(q=true->(a (gI p)).same g)/\(q=false->(((h.same h/\(SV.mp 2).same (SV.mp 2)/\f.same f/\(a r).same m/\s.same (a 0)/\True)/\k 27/\k 110/\t.same t/\True)/\c<=c/\c<=d/\j=j)/\∀(x:Int),let w:=γe x.toNat p.offers;let l:=bj p.offers x.toNat E;let y:=decide (gW p l≠c);let z:=lY.mk l.bF l.want;let A:=γk (λ(o:Off) ↦(o.key,true)) w;let B:=(j5 bn.key bn.b z A).getD false;let e:=x+(1:Int);let C:=a e;let D:=γe e.toNat p.offers;c<=x/\x<=d/\j=eJ p (γk Off.key w) (γ8 x.toNat p.offers)->(decide (x<d)=true->c<=x/\x<r/\x.toNat<p.offers.length/\p.classes.length<=8/\(y=true->(a (gW p l)).same g)/\(y=false->(B=true->(γy .i64 7).same g)/\(B=false->bY .i64 e/\((h.same h/\(SV.mp 2).same (SV.mp 2)/\f.same f/\m.same m/\C.same C/\True)/\k 27/\k 110/\(bq.map bn.key bn.b true (nB bn.key bn.b z true A) n true).same (bq.map bn.key bn.b true (γk (λ(o:Off) ↦(o.key,true)) D) n true)/\True)/\(c<=e/\e<=d/\j=eJ p (γk Off.key D) (γ8 e.toNat p.offers))/\(d - e).toNat<(d - x).toNat)))/\(decide (x<d)=false->s.same g))) (by kernel_rfl) ?_;simp only[vcs];refine⟨λh=>by simp[bC,h],λh=>?_⟩;have hz:gI p=0:=Θ.1 h;obtain⟨f1,f2,f3,f4,f5⟩:=pO hz;refine⟨⟨by omega,by omega⟩,?_⟩;rintro i ⟨hi0,hi1,hi⟩;refine⟨λhlt=>?_,λhge=>?_⟩
 ·rw[sD (d:=bn.off.dflt) hi0 hlt] at hi;generalize hx:bj p.offers i.toNat bn.off.dflt=x at hi ⊢;refine⟨by omega,by omega,by omega,f3,λhe=>?_,λhe=>?_⟩
  ·simp only[eJ,if_pos he] at hi;simp[bC,hz,hi]
  ·simp only[eJ,if_neg he] at hi;have hk:(⟨x.bF,x.want⟩:lY)=x.key:=rfl;simp only[hk];refine⟨λhm=>?_,λhm=>⟨by omega,?_,⟨by omega,by omega,?_⟩,by omega⟩⟩
   ·have hm2:=of_decide_eq_true ((Di _ _).symm.trans hm);rw[if_pos hm2] at hi;simp[bC,hz,hi]
   ·have hm2:=of_decide_eq_false ((Di _ _).symm.trans hm);apply Z7;rw[Z8 hm2,j8 (d:=bn.off.dflt) hi0 hlt,hx];simp
   ·have hm2:=of_decide_eq_false ((Di _ _).symm.trans hm);rw[if_neg hm2] at hi;rw[hi,j8 (d:=bn.off.dflt) hi0 hlt,hx];simp
 ·rw[show i.toNat=p.offers.length from by omega,εg] at hi;simp only[eJ] at hi;simp[bC,hz,hi]
def fW (l:List Off) (a:Int):List Int->Option (List Off)
 |[]=>some []
 |i::r=>if i<=a\/l.length<=i then none else(fW l i r).map (bj l i.toNat bn.off.dflt::·)
def j9 (p:bp) (c:List Int):Bool:=(fW p.offers (-1) c).isSome
def eE (p:bp) (c:List Int):List Off:=(fW p.offers (-1) c).getD []
def Dj:bM:=⟨97,bp×List Int,.cons cZ (.one (dY (.i .i64))),λa=>a.2.length<=9223372036854775807/\a.1.offers.length<=1000,λa=> .bH [.row .off (eE a.1 a.2),.sb (j9 a.1 a.2)]⟩
def Z9 (a:bp×List Int):Nat->cB
 |4=> .inv (Int×Int×List Off) (λx=>⟨[(2,.ptr 0 0 20),(6,.ow 1 x.2.2.length 8),(7,.si .i64 x.2.1),(10,.row (.i .i64) a.2),(11,.si .i64 a.2.length),(12,.si .i64 x.1)],
   [.cells a.1.ss 27 20 false,.row .off x.2.2 39 true]⟩) (λs=>(iS s 12,iS s 7,oS .off s 1))
  (λx=>0<=x.1/\x.1<=a.2.length/\(x.2.2.length<=x.2.1+1/\x.2.1<1000)/\ -1<=x.2.1/\fW a.1.offers (-1) a.2=(fW a.1.offers x.2.1 (a.2.drop x.1.toNat)).map (x.2.2++·)) (λx=>(a.2.length - x.1).toNat) λ_ _=> .look
 |_=> .look
theorem h133:Holds Tryz.prog Dj:=by
 refine cJ (L:=L5) Dj Z9 hL5 ?_;rintro⟨p,c⟩ ⟨hc,hof⟩;have hc:c.length<=9223372036854775807:=hc;have hof:p.offers.length<=1000:=hof;refine bQ (let a:=γb .i64;let b:=(0:Int);let d:=(-1:Int);let e:=γc;let f:=(1000:Int);let g:=δs false;let h:=SV.bH;let j:=(1:Int);let q:=γV 0 0 20;let w:=SV.ow 1 0 8;let m:=bn.i .i64;let l:=(↑c.length:Int);let t:=a l;let r:=bq.cells [a p.supply.a0,a p.supply.a1,a p.supply.a2,a p.supply.a3,a p.supply.a4,a p.supply.a5,a p.opn.a0,a p.opn.a1,a p.opn.a2,a p.opn.a3,a p.opn.a4,a p.opn.a5,a p.cls.a0,a p.cls.a1,a p.cls.a2,a p.cls.a3,a p.cls.a4,a p.cls.a5,e m p.classes,e bn.off p.offers] 27 20 false;let y:=bq.row bn.off [] 39 true;let s:=fW p.offers d c;let u:=h [e bn.off (eE p c),γG (j9 p c)];let v:=(↑p.offers.length:Int);(((q.same q/\w.same w/\(γy .i64 d).same (a d)/\(e m c).same (e m c)/\(a (↑c.length:Int)).same t/\(γy .i64 0).same (a 0)/\True)/\r.same r/\y.same y/\True)/\b<=b/\b<=l/\(b<=b/\d<f)/\d<=d/\s=ζ1 (λx ↦(b,d,[]).snd.snd++x) s)/\∀(x:Int×Int×List Off),let k:=bj c x.fst.toNat b;let z:=decide (k<=x.snd.fst);let A:=x.snd.snd.length+1;let n:=x.fst+j;let o:=x.snd.snd++[bj p.offers k.toNat bn.off.dflt];let B:=a k;let C:=a n;let D:=bq.row bn.off o 39 true;b<=x.fst/\x.fst<=l/\((↑x.snd.snd.length:Int)<=x.snd.fst+j/\x.snd.fst<f)/\d<=x.snd.fst/\s=ζ1 (λx_1 ↦x.snd.snd++x_1) (fW p.offers x.snd.fst (γ8 x.fst.toNat c))->(decide (x.fst<l)=true->b<=x.fst/\x.fst<(↑c.length:Int)/\x.fst.toNat<c.length/\(z=true->(h [e m [],g]).same u)/\(z=false->(decide (v<=k)=true->(h [e m [],g]).same u)/\(decide (v<=k)=false->b<=k/\k<v/\k.toNat<p.offers.length/\x.snd.snd.length=x.snd.snd.length/\A*64<=140737488355328/\A<=1000000000000/\bY .i64 n/\((q.same q/\(SV.ow 1 o.length 8).same (SV.ow 1 o.length 8)/\B.same B/\(e m c).same (e m c)/\t.same t/\C.same C/\True)/\r.same r/\D.same D/\True)/\(b<=n/\n<=l/\((↑o.length:Int)<=k+j/\k<f)/\d<=k/\s=ζ1 (λx ↦(n,k,o).snd.snd++x) (fW p.offers k (γ8 n.toNat c)))/\(l - n).toNat<(l - x.fst).toNat)))/\(decide (x.fst<l)=false->x.snd.snd.length=x.snd.snd.length/\(h [e bn.off x.snd.snd,δs true]).same u)) (by kernel_rfl) ?_;simp only[vcs];have hrow:∀{l:List Off},l=[]->(γc (.i .i64) []).same (γc .off l):=by rintro l rfl;exact HQ.2 trivial
 refine⟨⟨by omega,by omega,by omega,by simp⟩,?_⟩;rintro⟨i,last,out⟩ ⟨hi0,hi1,hlen,hla,hi⟩;simp only at hi0 hi1 hlen hla hi ⊢;refine⟨λhlt=>?_,λhge=>?_⟩
 ·rw[sD (d:=0) hi0 hlt] at hi;generalize hx:bj c i.toNat 0=x at hi ⊢;simp only[fW] at hi;refine⟨by omega,by omega,by omega,λh1=>?_,λh1=>⟨λh2=>?_,λh2=>?_⟩⟩
  ·rw[if_pos (.inl h1)] at hi;exact⟨hrow (by simp[eE,hi]),by simp[j9,hi]⟩
  ·rw[if_pos (.inr (by omega))] at hi;exact⟨hrow (by simp[eE,hi]),by simp[j9,hi]⟩
  ·rw[if_neg (by omega)] at hi;simp only[List.length_append,List.length_singleton];refine⟨by omega,by omega,by omega,by omega,by omega,by omega,⟨by omega,by omega,by omega,by omega,?_⟩,by omega⟩;rw[hi,Option.map_map];congr 1;funext r;simp
 ·rw[show i.toNat=c.length from by omega,εg] at hi;simp only[fW,μ,List.append_nil] at hi;exact⟨by simp[eE,hi],by simp[j9,hi]⟩
def L6:List bM:=pP::Dj::L5
theorem hL6:∀c∈L6,Holds Tryz.prog c:=by
 grind[L6,h79,h133,hL5]
def dp (p:bp) (c:List Int):Int:=if bC p≠0 then bC p else if j9 p c=false then 4 else if fF p (eE p c)=false then 14 else 0
def zL:bM:=⟨61,bp×List Int,.cons cZ (.one (dY (.i .i64))),λa=>a.2.length<=9223372036854775807,λa=> .si .i64 (dp a.1 a.2)⟩
theorem P6 {p:bp}:∀{l:List Off} {a:List lY},eJ p a l=0->∀x∈l,gW p x=0
 |[],_,_=>by simp;|o::r,a,h=>by
  simp only[eJ] at h;split at h;·omega
  ·rename_i c;split at h;·cases h
   ·intro x b;rcases γh.1 b with rfl|b;·omega
    ·exact P6 h x b
theorem pQ {p:bp} (h:bC p=0):gI p=0/\∀x∈p.offers,gW p x=0:=by
 unfold bC at h;split at h;·omega
 ·rename_i a;exact⟨Θ.1 a,P6 h⟩
theorem vE {p:bp} {o:Off} (h:gW p o=0):i7 p.classes.length o=0/\o.want≠bz.zero/\fF p [o]=true:=by
 unfold gW at h;grind
theorem Dk {l:List Off}:∀{c:List Int} {a:Int} {r:List Off}, -1<=a->fW l a c=some r->r.length+a+1<=l.length\/r=[]
 |[],a,r,_,h=>by grind[fW];|i::c,a,r,d,h=>by
  simp only[fW] at h;split at h;·cases h
  ·rename_i e;obtain⟨f,b,rfl⟩:=δ.1 h;have:=Dk (by omega) b;grind
theorem H3 {l:List Off}:∀{c:List Int} {a:Int} {r:List Off}, -1<=a->fW l a c=some r->∀x∈r,x∈l
 |[],a,r,_,h=>by grind[fW];|i::c,a,r,f,h=>by
  simp only[fW] at h;split at h;·cases h
  ·rename_i e;obtain⟨g,d,rfl⟩:=δ.1 h;intro x b;rcases γh.1 b with rfl|b;·grind[cT]
   ·exact H3 (by omega) d x b
theorem h100:Holds Tryz.prog zL:=by
 refine cJ (L:=L6) zL (λp=>λ_=> .look) hL6 ?_;rintro⟨p,c⟩ (n:c.length<=9223372036854775807);refine bQ (let a:=γy .i64;let e:=decide (bC p≠(0:Int));let d:=γb .i64 (dp p c);let f:=!fF p (eE p c);True/\(e=true->(γb .i64 (bC p)).same d)/\(e=false->(c.length<=9223372036854775807/\p.offers.length<=1000)/\((!j9 p c)=true->(a 4).same d)/\((!j9 p c)=false->(p.classes.length<=8/\(eE p c).length<=1000/\∀(x:Off),x∈eE p c->(0:Int)<=x.bF/\x.bF<(↑p.classes.length:Int)/\x.want.ok=true)/\(f=true->(a 14).same d)/\(f=false->(a 0).same d)))) (by kernel_rfl) ?_;simp only[vcs];refine⟨λh=>by simp[dp,h],λh=>?_⟩;have g:bC p=0:=Θ.1 h;obtain⟨m,j⟩:=pQ g;obtain⟨s,o,l,q,t⟩:=pO m;refine⟨⟨n,by omega⟩,λa=>by grind[dp],λa=>⟨⟨l,?_,?_⟩,λk=>by grind[dp],λk=>by grind[dp]⟩⟩
 ·unfold j9 at a;obtain⟨r,b⟩:=γw.1 a;have:=Dk (by omega) b;grind[eE]
 ·unfold j9 at a;obtain⟨r,b⟩:=γw.1 a;simp only[eE,b,Option.getD_some];intro x i;have u:=zK (vE (j x (H3 (by omega) b x i))).1;simp_all
def L7:List bM:=zL::L6
theorem hL7:∀c∈L7,Holds Tryz.prog c:=by
 simp only[L7,γF];exact⟨h100,hL6⟩
def bz.sub (a b:bz):bz:=⟨a.a0 - b.a0,a.a1 - b.a1,a.a2 - b.a2,a.a3 - b.a3,a.a4 - b.a4,a.a5 - b.a5⟩
def bz.meet (a b:bz):bz:=⟨min a.a0 b.a0,min a.a1 b.a1,min a.a2 b.a2,min a.a3 b.a3,min a.a4 b.a4,min a.a5 b.a5⟩
def bz.le (a b:bz):Bool:=decide (a.a0<=b.a0)&&decide (a.a1<=b.a1)&&decide (a.a2<=b.a2)&&decide (a.a3<=b.a3)&&decide (a.a4<=b.a4)&&decide (a.a5<=b.a5)
theorem bz.le_iff {a b:bz}:a.le b=true↔a.a0<=b.a0/\a.a1<=b.a1/\a.a2<=b.a2/\a.a3<=b.a3/\a.a4<=b.a4/\a.a5<=b.a5:=by
 simp[bz.le,and_assoc]
theorem aac {x y:Int}:min x y=x↔x<=y:=by
 rw[Int.min_def];split<;>omega
theorem P7 {a b:List SV}:(γK a).same (.agg b)↔gL a=gL b:=by simp[εY,γI]
def Dl:bM:=⟨182,bz×bz,.cons (eG .eD) (.one (eG .eD)),λ_=>True,λa=> .agg (encS .eD (a.1.meet a.2))⟩
theorem h163:Holds Tryz.prog Dl:=by
 refine cJ (L:=[]) Dl (λ_=>λ_=> .pI 7) (by simp) ?_;rintro⟨a,b⟩ _;refine bQ (let c:=γb .i64;(γK [c (min a.a0 b.a0),c (min a.a1 b.a1),c (min a.a2 b.a2),c (min a.a3 b.a3),c (min a.a4 b.a4),c (min a.a5 b.a5)]).same (γK [c (a.meet b).a0,c (a.meet b).a1,c (a.meet b).a2,c (a.meet b).a3,c (a.meet b).a4,c (a.meet b).a5])) (by kernel_rfl) ?_;simp only[vcs,P7,gL,γI,bz.meet,and_self]
def H4:bM:=⟨148,bz×bz,.cons (eG .eD) (.one (eG .eD)),λ_=>True,λa=> .sb (a.1.le a.2)⟩
theorem h144:Holds Tryz.prog H4:=by
 refine cJ (L:=[Dl]) H4 (λ_=>λ_=> .pI 7) (by simpa using h163) ?_;rintro⟨a,b⟩ _;refine bQ (True/\(γG (decide ((a.meet b).a0=a.a0)&&(decide ((a.meet b).a1=a.a1)&&(decide ((a.meet b).a2=a.a2)&&(decide ((a.meet b).a3=a.a3)&&(decide ((a.meet b).a4=a.a4)&&(decide ((a.meet b).a5=a.a5)&&true))))))).same (γG (a.le b))) (by kernel_rfl) ?_;simp only[vcs,bz.meet];rw[Bool.eq_iff_iff];simp only[ζ,decide_eq_true_eq,bz.le_iff,δZ,aac]
def H5:bM:=⟨149,bz×bz,.cons (eG .eD) (.one (eG .eD)),λa=>a.1.ok=true/\a.2.ok=true,λa=> .agg (encS .eD (a.1.sub a.2))⟩
theorem h145:Holds Tryz.prog H5:=by
 refine cJ (L:=[]) H5 (λ_=>λ_=> .pI 7) (by simp) ?_;rintro⟨a,b⟩ ⟨h1,h2⟩;have h1:=bz.eT.1 h1;have h2:=bz.eT.1 h2;simp only at h1 h2;refine bQ (let c:=γb .i64;let d:=bY .i64;d (a.a0 - b.a0)/\d (a.a1 - b.a1)/\d (a.a2 - b.a2)/\d (a.a3 - b.a3)/\d (a.a4 - b.a4)/\d (a.a5 - b.a5)/\(γK [c (a.a0 - b.a0),c (a.a1 - b.a1),c (a.a2 - b.a2),c (a.a3 - b.a3),c (a.a4 - b.a4),c (a.a5 - b.a5)]).same (γK [c (a.sub b).a0,c (a.sub b).a1,c (a.sub b).a2,c (a.sub b).a3,c (a.sub b).a4,c (a.sub b).a5])) (by kernel_rfl) ?_;simp only[vcs,P7,gL,γI,bz.sub,and_self];repeat' (first|refine γj ?_ ?_|intro _)
 all_goals first|trivial|omega
def gv (p:bp) (m:Int):Int:=if bC p≠0 then bC p else if m<0\/2^p.classes.length<=m then 4 else 0
def Dm:bM:=⟨106,bp×Int,.cons cZ (.one (dU .i64)),λ_=>True,λa=> .si .i64 (gv a.1 a.2)⟩
theorem h112:Holds Tryz.prog Dm:=by
 refine cJ (L:=L7) Dm (λ_=>λ_=> .pI 7) hL7 ?_;rintro⟨p,m⟩ _;refine bQ (let a:=γy .i64;let b:=(0:Int);let f:=decide (bC p≠b);let c:=γb .i64 (gv p m);let g:=decide (m<b);let d:=(↑p.classes.length:Int);let e:=(1:Int)*(2:Int)^d.toNat;True/\(f=true->(γb .i64 (bC p)).same c)/\(f=false->(g=true->(a 4).same c)/\(g=false->b<=d/\d<=(64:Int)/\bY .i64 e/\(decide (e<=m)=true->(a 4).same c)/\(decide (e<=m)=false->(a 0).same c)))) (by kernel_rfl) ?_;simp only[vcs];refine⟨λh=>by simp[gv,h],λh=>⟨λh1=>?_,λh1=>?_⟩⟩
 ·have hz:=Θ.1 h;simp[gv,hz,h1]
 ·have hz:bC p=0:=Θ.1 h;obtain⟨f1,f2,f3,f4,f5⟩:=pO (pQ hz).1;have hp:(1:Int)*2^((p.classes.length:Int)).toNat=2^p.classes.length:=by simp
  have hb:(2:Int)^p.classes.length<=256:=by
   have:p.classes.length=0\/p.classes.length=1\/p.classes.length=2\/p.classes.length=3\/p.classes.length=4\/p.classes.length=5\/p.classes.length=6\/p.classes.length=7\/p.classes.length=8:=by omega
   rcases this with h|h|h|h|h|h|h|h|h<;>rw[h]<;>decide
  have hb0:(0:Int)<2^p.classes.length:=Int.pow_pos (by decide);rw[hp];refine⟨by omega,by omega,⟨by omega,by omega⟩,λh2=>?_,λh2=>?_⟩;·simp only[gv,hz,ne_eq,not_true,if_false,if_pos (show m<0\/2^p.classes.length<=m from .inr h2)]
  ·simp only[gv,hz,ne_eq,not_true,if_false,if_neg (show ¬(m<0\/2^p.classes.length<=m) by omega)]
structure L8 where
 (l0 l1 l2 l3 l4 l5 l6 l7:List Off)
structure kF where
 p:bp
 ls:L8
 es:List (Sit×Int)
def ja (p:bp) (j:Int):List Off:=p.offers.filter λx=>decide (x.bF=j)
def L8.of (p:bp):L8:=⟨ja p 0,ja p 1,ja p 2,ja p 3,ja p 4,ja p 5,ja p 6,ja p 7⟩
def kF.o (s:kF):bX:=
 [.cells [.si .i64 s.p.supply.a0,.si .i64 s.p.supply.a1,.si .i64 s.p.supply.a2,.si .i64 s.p.supply.a3,.si .i64 s.p.supply.a4,.si .i64 s.p.supply.a5,
  .si .i64 s.p.opn.a0,.si .i64 s.p.opn.a1,.si .i64 s.p.opn.a2,.si .i64 s.p.opn.a3,.si .i64 s.p.opn.a4,.si .i64 s.p.opn.a5,
  .si .i64 s.p.cls.a0,.si .i64 s.p.cls.a1,.si .i64 s.p.cls.a2,.si .i64 s.p.cls.a3,.si .i64 s.p.cls.a4,.si .i64 s.p.cls.a5,
  .row (.i .i64) s.p.classes,.row .off s.p.offers,.row .off s.ls.l0,.row .off s.ls.l1,.row .off s.ls.l2,.row .off s.ls.l3,.row .off s.ls.l4,.row .off s.ls.l5,.row .off s.ls.l6,.row .off s.ls.l7,.mp 1] 214 29 false,
  .map .sit (.i .i64) true s.es ([0,0,0,0,0,0,0,0,0,0,0,0,0],true) true]
def H6:bX->Option kF
 |[.cells [s0,s1,s2,s3,s4,s5,o0,o1,o2,o3,o4,o5,c0,c1,c2,c3,c4,c5,k,f,l0,l1,l2,l3,l4,l5,l6,l7,.mp 1] 214 29 false,.map sk sv true es ([0,0,0,0,0,0,0,0,0,0,0,0,0],true) true]=>
  match t7 [s0,s1,s2,s3,s4,s5,o0,o1,o2,o3,o4,o5,c0,c1,c2,c3,c4,c5,k,f],CJ sk sv .sit (.i .i64) es with
  |some p,some es=>match gu .off l0,gu .off l1,gu .off l2,gu .off l3,gu .off l4,gu .off l5,gu .off l6,gu .off l7 with
   |some l0,some l1,some l2,some l3,some l4,some l5,some l6,some l7=>some ⟨p,⟨l0,l1,l2,l3,l4,l5,l6,l7⟩,es⟩
   |_,_,_,_,_,_,_,_=>none
  |_,_=>none
 |_=>none
theorem aad {k v k' v':bn} {es:List (k.T×v.T)} {es':List (k'.T×v'.T)} (h:CJ k v k' v' es=some es'):k=k'/\v=v'/\HEq es es':=by
 unfold CJ at h;split at h
 ·rename_i hh;obtain⟨rfl,rfl⟩:=hh;simp only[γ] at h;exact⟨rfl,rfl,heq_of_eq h⟩
 ·cases h
theorem aae {o:bX} {s:kF} (h:H6 o=some s):gO o=gO s.o:=by
 unfold H6 at h;split at h
 ·split at h
  ·rename_i p es' h1 h2;split at h
   ·rename_i k0 k1 k2 k3 k4 k5 k6 k7;simp only[γ] at h;obtain⟨rfl,rfl,he⟩:=aad h2;cases he;have hp:=xw h1;subst h;simp only[bp.ss,gL,τ,and_true] at hp;simp only[kF.o,gO,θ,γo,bq.g,gL,j7 k0,j7 k1,j7 k2,j7 k3,j7 k4,j7 k5,j7 k6,j7 k7];simp only[hp]
   ·cases h
  ·cases h
 ·cases h
theorem aaf {s t:kF} (h:gO s.o=gO t.o):s=t:=by
 obtain⟨p,⟨l0,l1,l2,l3,l4,l5,l6,l7⟩,es⟩:=s;obtain⟨q,⟨m0,m1,m2,m3,m4,m5,m6,m7⟩,fs⟩:=t;simp only[kF.o,gO,θ,γo,bq.g,gL,τ,bP.cells.injEq,bP.map.injEq,and_true,true_and] at h;obtain⟨h,he⟩:=h;have hp:p=q:=by
  apply cZ.inj;show(γK p.ss).g=(γK q.ss).g;simp only[γI,bp.ss,gL,ζc,τ,and_true] at h ⊢;simp only[h,and_self]
 subst hp;have hr:∀{a b:List Off},(γc .off a).g=(γc .off b).g->a=b:=λhab=>(dY .off).inj _ _ hab;have h0:=h.2.2.2.2.2.2.2.2.2.2.2.2.2.2.2.2.2.2.2.2;obtain⟨h0,h1,h2,h3,h4,h5,h6,h7⟩:=h0;have e0:=hr h0;have e1:=hr h1;have e2:=hr h2;have e3:=hr h3;have e4:=hr h4;have e5:=hr h5;have e6:=hr h6;have e7:=hr h7;subst e0 e1 e2 e3 e4 e5 e6 e7;have hes:es=fs:=by
  revert fs;induction es with
  |nil=>intro fs he;cases fs with
   |nil=>rfl;|cons=>simp at he
  |cons a es ih=>
   intro fs he;cases fs with
   |nil=>simp at he;|cons b fs=>
    simp only[θ,τ,κ] at he;obtain⟨⟨h1,h2⟩,h3⟩:=he;have hb:=ih fs h3;obtain⟨a1,a2⟩:=a;obtain⟨b1,b2⟩:=b;simp only[oR,if_true,Value.agg.injEq,mP,dK,List.headD_cons,γ4,Value.int.injEq,true_and] at h1 h2;have h1:=rD .sit a1 b1 (by simpa[dK] using h1);rw[hb,h1,h2]
 rw[hes]
def zM:List bM:=Dm::H4::H5::Dl::L7
theorem H7:∀c∈zM,Holds Tryz.prog c:=by
 simp only[zM,γF];exact⟨h112,h144,h145,h163,hL7⟩
def Dn (f:FuncId) (β:Type) (A:qB β) (dom:kF×β->Prop) (res:kF×β->SV) (out:kF×β->kF):cY where
 f:=f;α:=kF×β;put a:=.ptr 0 0 29::A.put a.2;st a:=a.1.o;dec v o:=match v with
  | .ptr 0 0 29::r=>match H6 o,A.dec r with
   |some s,some b=>some (s,b)
   |_,_=>none
  |_=>none;ok v o a h:=by
  split at h
  ·split at h
   ·rename_i h1 h2;simp only[γ] at h;subst h;exact⟨by simp only[gL,A.ok _ _ h2],aae h1⟩
   ·cases h
  ·cases h
 inj a b h1 h2:=by
  simp only[gL,τ,true_and] at h1;exact Prod.ext (aaf h2) (A.inj _ _ h1)
 dom:=dom;res:=res;out a:=(out a).o
def Dp:cY:=Dn 109 Int (.one (dU .i64)) (λ_=>True) (λa=> .agg (encS .sit ⟨a.2,a.1.p.supply,a.1.p.opn⟩)) (λa=>a.1)
theorem h114:dL Tryz.prog Dp:=by
 refine jr (L:=[]) (W:=[]) Dp lk (by simp) (by simp) ?_;rintro⟨s,m⟩ _;refine bQ (let a:=γb .i64;let b:=γc;let c:=a s.p.supply.a0;let d:=a s.p.supply.a1;let e:=a s.p.supply.a2;let f:=a s.p.supply.a3;let g:=a s.p.supply.a4;let h:=a s.p.supply.a5;let j:=a s.p.opn.a0;let k:=a s.p.opn.a1;let l:=a s.p.opn.a2;let n:=a s.p.opn.a3;let o:=a s.p.opn.a4;let q:=a s.p.opn.a5;let r:=γK [a m,c,d,e,f,g,h,j,k,l,n,o,q];let t:=bq.cells [c,d,e,f,g,h,j,k,l,n,o,q,a s.p.cls.a0,a s.p.cls.a1,a s.p.cls.a2,a s.p.cls.a3,a s.p.cls.a4,a s.p.cls.a5,b (bn.i .i64) s.p.classes,b bn.off s.p.offers,b bn.off s.ls.l0,b bn.off s.ls.l1,b bn.off s.ls.l2,b bn.off s.ls.l3,b bn.off s.ls.l4,b bn.off s.ls.l5,b bn.off s.ls.l6,b bn.off s.ls.l7,SV.mp 1] 214 29 false;let u:=bq.map bn.sit (bn.i .i64) true s.es ([0,0,0,0,0,0,0,0,0,0,0,0,0],true) true;r.same r/\t.same t/\u.same u/\True) (by kernel_rfl) ?_;simp only[vcs]
def oc (c w a j k:Int):Int:=if j<k/\(c=0\/c=a) then 0 else w
def fy (p:bp) (x:Off):Int:=bj p.classes x.bF.toNat 0
def eM (p:bp) (x:Off) (k:Int):bz:=⟨oc p.cls.a0 x.want.a0 (fy p x) 0 k,oc p.cls.a1 x.want.a1 (fy p x) 1 k,oc p.cls.a2 x.want.a2 (fy p x) 2 k,oc p.cls.a3 x.want.a3 (fy p x) 3 k,oc p.cls.a4 x.want.a4 (fy p x) 4 k,oc p.cls.a5 x.want.a5 (fy p x) 5 k⟩
def dx (p:bp) (x:Off):bz:=eM p x 6
def H8:cY:=Dn 147 Off (.one (eG .off)) (λa=>0<=a.2.bF/\a.2.bF<a.1.p.classes.length) (λa=> .agg (encS .eD (dx a.1.p a.2))) (λa=>a.1)
def aag (a:kF×Off):Nat->cB
 |3=> .inv Int (λk=>⟨[(0,.ptr 0 0 29),(3,.ptr 2 0 8),(4,.ptr 3 0 6),(5,.ptr 4 0 6),(9,.si .i64 k)],a.1.o++[.cells (encS .off a.2) 39 8 false,.cells [.il .i64 0,.il .i64 0,.il .i64 0,.il .i64 0,.il .i64 0,.il .i64 0] 23 6 false,.cells (encS .eD (eM a.1.p a.2 k)) 23 6 false]⟩) (λs=>iS s 9)
  (λk=>0<=k/\k<=6) (λk=>(6 - k).toNat) λ_ _=> .look
 |_=> .look
theorem h143:dL Tryz.prog H8:=by
 refine jr (L:=[]) (W:=[]) H8 aag (by simp) (by simp) ?_;rintro⟨s,x⟩ ⟨h1,h2⟩;simp only at h1 h2;refine bQ (let a:=γb .i64;let b:=(0:Int);let c:=(6:Int);let d:=bq.cells;let e:=γc;let f:=γV;let m:=f 0 0 29;let n:=f 2 0 8;let o:=f 3 0 6;let q:=f 4 0 6;let l:=γy .i64 0;let j:=d [a s.p.supply.a0,a s.p.supply.a1,a s.p.supply.a2,a s.p.supply.a3,a s.p.supply.a4,a s.p.supply.a5,a s.p.opn.a0,a s.p.opn.a1,a s.p.opn.a2,a s.p.opn.a3,a s.p.opn.a4,a s.p.opn.a5,a s.p.cls.a0,a s.p.cls.a1,a s.p.cls.a2,a s.p.cls.a3,a s.p.cls.a4,a s.p.cls.a5,e (bn.i .i64) s.p.classes,e bn.off s.p.offers,e bn.off s.ls.l0,e bn.off s.ls.l1,e bn.off s.ls.l2,e bn.off s.ls.l3,e bn.off s.ls.l4,e bn.off s.ls.l5,e bn.off s.ls.l6,e bn.off s.ls.l7,SV.mp 1] 214 29 false;let k:=bq.map bn.sit (bn.i .i64) true s.es ([0,0,0,0,0,0,0,0,0,0,0,0,0],true) true;let z:=a x.want.a0;let A:=a x.want.a1;let B:=a x.want.a2;let C:=a x.want.a3;let D:=a x.want.a4;let E:=a x.want.a5;let r:=d [a x.bF,z,A,B,C,D,E,a x.value] 39 8 false;let t:=d [l,l,l,l,l,l] 23 6 false;let u:=eM s.p x b;let M:=[s.p.cls.a0,s.p.cls.a1,s.p.cls.a2,s.p.cls.a3,s.p.cls.a4,s.p.cls.a5];(((m.same m/\n.same n/\o.same o/\q.same q/\l.same (a 0)/\True)/\j.same j/\k.same k/\r.same r/\t.same t/\(d [z,A,B,C,D,E] 23 6 false).same (d [a u.a0,a u.a1,a u.a2,a u.a3,a u.a4,a u.a5] 23 6 false)/\True)/\b<=b/\b<=c)/\∀(x_1:Int),let h:=x_1+(1:Int);let y:=a h;let g:=eM s.p x x_1;let v:=eM s.p x h;let F:=d [a v.a0,a v.a1,a v.a2,a v.a3,a v.a4,a v.a5] 23 6 false;let G:=decide (x_1<c);let H:=bj M x_1.toNat b;let I:=decide (H=b);let J:=decide (H=bj s.p.classes x.bF.toNat b);let K:=[a g.a0,a g.a1,a g.a2,a g.a3,a g.a4,a g.a5];let w:=dx s.p x;let L:=b<=x_1/\x_1<c/\x_1.toNat<6/\bY .i64 h/\((m.same m/\n.same n/\o.same o/\q.same q/\y.same y/\True)/\j.same j/\k.same k/\r.same r/\t.same t/\(d [a (if x_1.toNat=0 then b else g.a0),a (if x_1.toNat=1 then b else g.a1),a (if x_1.toNat=2 then b else g.a2),a (if x_1.toNat=3 then b else g.a3),a (if x_1.toNat=4 then b else g.a4),a (if x_1.toNat=5 then b else g.a5)] 23 6 false).same F/\True)/\(b<=h/\h<=c)/\(c - h).toNat<(c - x_1).toNat;b<=x_1/\x_1<=c->(G=true->b<=x_1/\x_1<c/\x_1.toNat<6/\(I=true->L)/\(I=false->b<=x_1/\x_1<c/\x_1.toNat<6/\b<=x.bF/\x.bF<(↑s.p.classes.length:Int)/\x.bF.toNat<s.p.classes.length/\(J=true->L)/\(J=false->bY .i64 h/\((m.same m/\n.same n/\o.same o/\q.same q/\y.same y/\True)/\j.same j/\k.same k/\r.same r/\t.same t/\(d K 23 6 false).same F/\True)/\(b<=h/\h<=c)/\(c - h).toNat<(c - x_1).toNat)))/\(G=false->(γK K).same (γK [a w.a0,a w.a1,a w.a2,a w.a3,a w.a4,a w.a5])/\j.same j/\k.same k/\True)) (by kernel_rfl) ?_;simp only[vcs];have hc:∀{a0 a1 a2 a3 a4 a5 b0 b1 b2 b3 b4 b5:Int},a0=b0/\a1=b1/\a2=b2/\a3=b3/\a4=b4/\a5=b5->
   (bq.cells [γb .i64 a0,γb .i64 a1,γb .i64 a2,γb .i64 a3,γb .i64 a4,γb .i64 a5] 23 6 false).same (bq.cells [γb .i64 b0,γb .i64 b1,γb .i64 b2,γb .i64 b3,γb .i64 b4,γb .i64 b5] 23 6 false):=by
  rintro _ _ _ _ _ _ _ _ _ _ _ _ ⟨rfl,rfl,rfl,rfl,rfl,rfl⟩;rfl
 have xG:∀c w cl j:Int,0<=j->oc c w cl j 0=w:=λc w cl j hj=>by unfold oc;rw[if_neg (by omega)]
 have agK:∀c w cl j k:Int,j≠k->oc c w cl j (k+1)=oc c w cl j k:=λc w cl j k hj=>by
  unfold oc;by_cases h:j<k/\(c=0\/c=cl);·rw[if_pos h,if_pos ⟨by omega,h.2⟩]
  ·rw[if_neg h,if_neg (by omega)]
 have agL:∀c w cl k:Int,(c=0\/c=cl)->oc c w cl k (k+1)=0:=λc w cl k h=>by unfold oc;rw[if_pos ⟨by omega,h⟩]
 have agM:∀c w cl k:Int,¬(c=0\/c=cl)->oc c w cl k (k+1)=oc c w cl k k:=λc w cl k h=>by
  unfold oc;rw[if_neg (by omega),if_neg (by omega)]
 have hset:∀k:Int,0<=k->k<6->(bj [s.p.cls.a0,s.p.cls.a1,s.p.cls.a2,s.p.cls.a3,s.p.cls.a4,s.p.cls.a5] k.toNat 0=0\/bj [s.p.cls.a0,s.p.cls.a1,s.p.cls.a2,s.p.cls.a3,s.p.cls.a4,s.p.cls.a5] k.toNat 0=fy s.p x)->
   (if k.toNat=0 then 0 else(eM s.p x k).a0)=(eM s.p x (k+1)).a0/\(if k.toNat=1 then 0 else(eM s.p x k).a1)=(eM s.p x (k+1)).a1/\(if k.toNat=2 then 0 else(eM s.p x k).a2)=(eM s.p x (k+1)).a2/\
   (if k.toNat=3 then 0 else(eM s.p x k).a3)=(eM s.p x (k+1)).a3/\(if k.toNat=4 then 0 else(eM s.p x k).a4)=(eM s.p x (k+1)).a4/\(if k.toNat=5 then 0 else(eM s.p x k).a5)=(eM s.p x (k+1)).a5:=by
  intro k hk0 P8 hcl;have hk:k=0\/k=1\/k=2\/k=3\/k=4\/k=5:=by omega
  rcases hk with rfl|rfl|rfl|rfl|rfl|rfl<;>simp[bj] at hcl<;>simp[eM,oc,hcl]
 have hkeep:∀k:Int,0<=k->k<6->¬(bj [s.p.cls.a0,s.p.cls.a1,s.p.cls.a2,s.p.cls.a3,s.p.cls.a4,s.p.cls.a5] k.toNat 0=0\/bj [s.p.cls.a0,s.p.cls.a1,s.p.cls.a2,s.p.cls.a3,s.p.cls.a4,s.p.cls.a5] k.toNat 0=fy s.p x)->
   (eM s.p x k).a0=(eM s.p x (k+1)).a0/\(eM s.p x k).a1=(eM s.p x (k+1)).a1/\(eM s.p x k).a2=(eM s.p x (k+1)).a2/\
   (eM s.p x k).a3=(eM s.p x (k+1)).a3/\(eM s.p x k).a4=(eM s.p x (k+1)).a4/\(eM s.p x k).a5=(eM s.p x (k+1)).a5:=by
  intro k hk0 P8 hcl;have hk:k=0\/k=1\/k=2\/k=3\/k=4\/k=5:=by omega
  rcases hk with rfl|rfl|rfl|rfl|rfl|rfl<;>simp[bj] at hcl<;>simp[eM,oc,hcl]
 refine⟨⟨hc ⟨by simp[eM,xG],by simp[eM,xG],by simp[eM,xG],by simp[eM,xG],by simp[eM,xG],by simp[eM,xG]⟩,by omega,by omega⟩,?_⟩;rintro k ⟨hk0,P8⟩;refine⟨λhlt=>⟨by omega,by omega,by omega,λhA=>⟨by omega,by omega,by omega,by omega,hc (hset k hk0 hlt (.inl hA)),by omega,by omega⟩,λhA=>⟨by omega,by omega,by omega,by omega,by omega,by omega,
  λhB=>⟨by omega,by omega,by omega,by omega,hc (hset k hk0 hlt (.inr hB)),by omega,by omega⟩,λhB=>⟨by omega,hc (hkeep k hk0 hlt (by rintro(h|h);exact hA h;exact hB h)),by omega,by omega⟩⟩⟩,λhge=>?_⟩;have:k=6:=by omega
 subst this;rfl
def Sit.b (a:Sit):Prop:=a.left.ok=true/\a.opn.ok=true
def fitsAt (p:bp) (a:Sit) (x:Off):Bool:=x.want.le a.left&&(dx p x).le a.opn
def eL (p:bp) (a:Sit) (x:Off):Sit:=⟨eQ.rA .i64 a.members (2^x.bF.toNat),a.left.sub x.want,a.opn.sub (dx p x)⟩
def Sit.zero:Sit:=⟨0,bz.zero,bz.zero⟩
def pR (p:bp) (a:Sit) (x:Off):Sit:=if fitsAt p a x=true then eL p a x else Sit.zero
theorem xH {c w cl j k:Int} (h:0<=w/\w<=4):0<=oc c w cl j k/\oc c w cl j k<=4:=by
 unfold oc;split<;>omega
theorem H9 {p:bp} {x:Off} (h:x.want.ok=true):(dx p x).ok=true:=by
 have h:=bz.eT.1 h;exact bz.eT.2 ⟨xH h.1,xH h.2.1,xH h.2.2.1,xH h.2.2.2.1,xH h.2.2.2.2.1,xH h.2.2.2.2.2⟩
def Dq:cY:=Dn 110 (Sit×Off) (.cons (eG .sit) (.one (eG .off))) (λa=>a.1.p.classes.length<=8/\0<=a.2.2.bF/\a.2.2.bF<a.1.p.classes.length/\a.2.1.b/\a.2.2.want.ok=true)
 (λa=> .bH [.agg (encS .sit (pR a.1.p a.2.1 a.2.2)),.sb (fitsAt a.1.p a.2.1 a.2.2)]) (λa=>a.1)
theorem h116:dL Tryz.prog Dq:=by
 refine jr (L:=zM) (W:=[H8]) Dq lk (by simpa using h143) H7 ?_;rintro⟨s,a,x⟩ ⟨h1,h2,h3,h4,h5⟩;simp only at h1 h2 h3 h4 h5;refine bQ (let b:=γb .i64;let c:=γc;let d:=γK;let e:=SV.bH;let f:=γy .i64 0;let g:=pR s.p a x;let h:=g.left;let n:=e [d [b g.members,b h.a0,b h.a1,b h.a2,b h.a3,b h.a4,b h.a5,b g.opn.a0,b g.opn.a1,b g.opn.a2,b g.opn.a3,b g.opn.a4,b g.opn.a5],γG (fitsAt s.p a x)];let l:=bq.cells [b s.p.supply.a0,b s.p.supply.a1,b s.p.supply.a2,b s.p.supply.a3,b s.p.supply.a4,b s.p.supply.a5,b s.p.opn.a0,b s.p.opn.a1,b s.p.opn.a2,b s.p.opn.a3,b s.p.opn.a4,b s.p.opn.a5,b s.p.cls.a0,b s.p.cls.a1,b s.p.cls.a2,b s.p.cls.a3,b s.p.cls.a4,b s.p.cls.a5,c (bn.i .i64) s.p.classes,c bn.off s.p.offers,c bn.off s.ls.l0,c bn.off s.ls.l1,c bn.off s.ls.l2,c bn.off s.ls.l3,c bn.off s.ls.l4,c bn.off s.ls.l5,c bn.off s.ls.l6,c bn.off s.ls.l7,SV.mp 1] 214 29 false;let m:=bq.map bn.sit (bn.i .i64) true s.es ([0,0,0,0,0,0,0,0,0,0,0,0,0],true) true;let o:=!(dx s.p x).le a.opn;let q:=(1:Int)*(2:Int)^x.bF.toNat;let j:=a.left.sub x.want;let k:=a.opn.sub (dx s.p x);let r:=(e [d [f,f,f,f,f,f,f,f,f,f,f,f,f],δs false]).same n/\l.same l/\m.same m/\True;((0:Int)<=x.bF/\x.bF<(↑s.p.classes.length:Int))/\True/\((!x.want.le a.left)=true->r)/\((!x.want.le a.left)=false->True/\(o=true->r)/\(o=false->(0:Int)<=x.bF/\x.bF<=(64:Int)/\bY .i64 q/\(a.left.ok=true/\x.want.ok=true)/\(a.opn.ok=true/\(dx s.p x).ok=true)/\(e [d [b (eQ.rA .i64 a.members q),b j.a0,b j.a1,b j.a2,b j.a3,b j.a4,b j.a5,b k.a0,b k.a1,b k.a2,b k.a3,b k.a4,b k.a5],δs true]).same n/\l.same l/\m.same m/\True))) (by kernel_rfl) ?_;simp only[vcs];have hz:∀b:Sit,b=Sit.zero->(γK [γy .i64 0,γy .i64 0,γy .i64 0,γy .i64 0,γy .i64 0,γy .i64 0,γy .i64 0,γy .i64 0,γy .i64 0,γy .i64 0,γy .i64 0,γy .i64 0,γy .i64 0]).same
   (γK [γb .i64 b.members,γb .i64 b.left.a0,γb .i64 b.left.a1,γb .i64 b.left.a2,γb .i64 b.left.a3,γb .i64 b.left.a4,γb .i64 b.left.a5,γb .i64 b.opn.a0,γb .i64 b.opn.a1,γb .i64 b.opn.a2,γb .i64 b.opn.a3,γb .i64 b.opn.a4,γb .i64 b.opn.a5]):=by
  rintro b rfl;rfl
 have h2b:(1:Int)*2^x.bF.toNat<=256/\0<(1:Int)*2^x.bF.toNat:=by
  have:x.bF.toNat=0\/x.bF.toNat=1\/x.bF.toNat=2\/x.bF.toNat=3\/x.bF.toNat=4\/x.bF.toNat=5\/x.bF.toNat=6\/x.bF.toNat=7:=by omega
  rcases this with h|h|h|h|h|h|h|h<;>rw[h]<;>decide
 refine⟨⟨h2,h3⟩,λhw=>?_,λhw=>⟨λho=>?_,λho=>?_⟩⟩
 ·have hf:fitsAt s.p a x=false:=by simp[fitsAt,hw]
  exact⟨hz _ (by simp[pR,hf]),hf.symm⟩
 ·have hf:fitsAt s.p a x=false:=by simp[fitsAt,ho]
  exact⟨hz _ (by simp[pR,hf]),hf.symm⟩
 ·have hf:fitsAt s.p a x=true:=by simp[fitsAt,hw,ho]
  have ha:pR s.p a x=eL s.p a x:=by simp[pR,hf]
  refine⟨by omega,by omega,by omega,⟨h4.1,h5⟩,⟨h4.2,H9 h5⟩,?_,hf.symm⟩;rw[ha];simp only[eL,Int.one_mul];rfl
end Go.Vi
namespace Go.Proofs.YtjcmncmajmoiiaaGreat
open Go.ChangeShapes Go.WideShapes Go.ChangeAt Go.RowKit Go.Vi
theorem Tryz.own:ownKnob Tryz.prog.godebug=none:=by kernel_rfl
theorem Tryz.laidOut:laidOutB Tryz.prog=true:=by kernel_rfl
theorem aah:Reads Tryz.prog 3 (.i .i64):=ZI Tryz.underlying3
theorem P9:Reads Tryz.prog 23 .eD:=ZM Tryz.underlying23 Tryz.underlying3 (by kernel_rfl) (by kernel_rfl)
theorem aai:Reads Tryz.prog 39 .off:=ZN Tryz.underlying39 (by kernel_rfl) rfl rfl rfl Tryz.underlying3 (by kernel_rfl) Tryz.underlying2 (by kernel_rfl) P9 (by kernel_rfl) rfl
theorem aaj {H:Type} {enc:TypeId×Value->H} {w:World} {a:Nat->Bool} {c:Bool} {b:Nat} {cs:List Value} {x:DataW H×List MemPlace} (h:DataW.trod enc Tryz.prog w 0 a c b 27 cs=some x):
  ∃p:bp,bD me w [] [] (gL p.ss) cs:=
 ZO Tryz.underlying27 (by kernel_rfl) rfl rfl rfl rfl rfl rfl P9 (by kernel_rfl) Tryz.underlying24 aah (by kernel_rfl) (by kernel_rfl) Tryz.underlying25 aai (by kernel_rfl) (by kernel_rfl) h
theorem aak {f:FuncId} {args:List SV} (h:lB Tryz.prog f (gL args) [] (γG true).g []) {W:World} {vs:List Value} (d:bD me W [] [] (gL args) vs):
  Calls Tryz.prog f vs.toArray W λe c=>e= .returned (.bool true)/\Below W.heap.size W c:=by
 refine(h me W [] vs (B0 W (λb a=>a.elim)) d).mono ?_;grind[γI,bw,ZQ]
theorem aal {W:World} (n:Int):bw me W [] [] ((dU .i64).put n).g (.int .i64 n):=by
 simp[dU,γI,bw,Value.oneCell']
end Go.Proofs.YtjcmncmajmoiiaaGreat
namespace Go.Vi
open Go.ChangeShapes Go.WideShapes Go.RowKit
def aam (P:Program) (t:TypeId) (s:bn) (Q:s.T->Prop):Prop:=
 ∀(H:Type) (d:TypeId×Value->H) (w:World) (a:Nat->Bool) (c:Bool) (b:Nat) (e:List Value) (x:DataW H×List MemPlace),DataW.trod d P w 0 a c b t e=some x->∃y:s.T,Q y/\bD me w [] [] (dO s y) e
theorem C9.q {P:Program} {t:TypeId} {s:bn} (h:C9 P t s):aam P t s λ_=>True:=λH d w a c b e x f=>by
 obtain⟨y,g⟩:=h H d w a c b e x f;grind
end Go.Vi
namespace Go.Proofs.YtjcmncmajmoiiaaGreat
open Go.ChangeShapes Go.WideShapes Go.ChangeAt Go.RowKit Go.Vi
end Go.Proofs.YtjcmncmajmoiiaaGreat
namespace Go.Proofs.YtjcmncmajmoiiaaGreat
open Go.ChangeShapes Go.WideShapes Go.ChangeAt Go.RowKit Go.Vi
theorem aan {H:Type} {enc:TypeId×Value->H} {w:World} {spare:Nat->Bool} {held:Bool} {fuel:Nat} {cs:List Value} {x:DataW H×List MemPlace} (h:DataW.trod enc Tryz.prog w 0 spare held fuel 2 cs=some x):
  ∃n:Int,(-9223372036854775808<=n/\n<=9223372036854775807)/\cs=[.int .i64 n]:=by
 obtain⟨n,rfl,_,hw⟩:=DataW.trod_int Tryz.underlying2 h;simp only[Lit.wf,ζ,decide_eq_true_eq] at hw;exact⟨n,hw,rfl⟩
end Go.Proofs.YtjcmncmajmoiiaaGreat
namespace Go.Proofs.YtjcmncmajmoiiaaGreat
open Go.ChangeShapes Go.WideShapes Go.ChangeAt Go.RowKit Go.Vi
theorem aao {H:Type} {enc:TypeId×Value->H} {w:World} {spare:Nat->Bool} {held:Bool} {fuel:Nat} {cs:List Value} {x:DataW H×List MemPlace} (h:DataW.trod enc Tryz.prog w 0 spare held fuel 5 cs=some x):
  ∃n:Int,(0<=n/\n<=255)/\cs=[.int .u8 n]:=by
 obtain⟨n,rfl,_,hw⟩:=DataW.trod_int Tryz.underlying5 h;simp only[Lit.wf,ζ,decide_eq_true_eq] at hw;exact⟨n,hw,rfl⟩
theorem aap {W:World} (n:Int):bw me W [] [] ((dU .u8).put n).g (.int .u8 n):=by
 simp[dU,γI,bw,Value.oneCell']
end Go.Proofs.YtjcmncmajmoiiaaGreat
