/-
  The auction's problems and allocations, and how they lie in values.
  Conditions: none.
-/
import Derived.Test.YtjcmncmajmoiiaaGreatDY05
import Derived.Test.YtjcmncmajmoiiaaGreatDY01
import Derived.KernelRfl
import Derived.Deep.Slices
import Derived.OpenShut
import Derived.ProofKit
import Derived.Test.YtjcmncmajmoiiaaGreatRows
set_option maxRecDepth 100000
set_option maxHeartbeats 4000000
set_option linter.all false
open And renaming intro->γi
open Bool renaming false_eq_true->χ,not_eq_false->ζj,and_eq_true->ζ,and_true->δW
open Classical renaming choose->δV,choose_spec->εk,not_not->ω
open Go.Vi.AV renaming ren->δE
open Go.Vi.AV.agg renaming injEq->εE
open Go.Vi.AV.sc renaming injEq->γX
open Go.Vi.AV.sl renaming injEq->εc
open Go.Vi.SV renaming g->γH,row->Ψ,si->Ξ,same->εN,il->γr,sb->γI,bl->δw,ptr->γV,agg->γG
open List renaming all_eq_true->Φ,take->γd,map_cons->ι,length_range->ζl,range->τ,getElem?_eq_getElem->ξ,take_length->Δ,forall_mem_cons->γs,map->γj,drop->γ7,drop_length->εe,mem_cons->γq,map_nil->γp
open List.cons renaming injEq->π
open Nat renaming beq->δA
open Option renaming map_eq_some_iff->δ,map_some->μ,bind_some->δU,map->ζW,isSome_iff_exists->γo
open Option.some renaming injEq->γ
open Prod.mk renaming injEq->κ
namespace Go.Vi
structure bp where
 supply:bz
 opn:bz
 cls:bz
 classes:List Int
 offers:List Off
structure Alloc where
 chosen:List Int
 value:Int
def bp.ss (p:bp):List SV:=
 [.si .i64 p.supply.a0,.si .i64 p.supply.a1,.si .i64 p.supply.a2,.si .i64 p.supply.a3,.si .i64 p.supply.a4,.si .i64 p.supply.a5,
  .si .i64 p.opn.a0,.si .i64 p.opn.a1,.si .i64 p.opn.a2,.si .i64 p.opn.a3,.si .i64 p.opn.a4,.si .i64 p.opn.a5,
  .si .i64 p.cls.a0,.si .i64 p.cls.a1,.si .i64 p.cls.a2,.si .i64 p.cls.a3,.si .i64 p.cls.a4,.si .i64 p.cls.a5,
  .row (.i .i64) p.classes,.row .off p.offers]
def sL:List SV->Option bp
 |[g,v,b,q,d,x,a,n,w,h,j,l,t,p,r,u,e,m,k,f]=>match jF .eD [g,v,b,q,d,x],jF .eD [a,n,w,h,j,l],jF .eD [t,p,r,u,e,m],fZ (.i .i64) k,fZ .off f with
  |some s,some o,some c,some k,some f=>some ⟨s,o,c,k,f⟩
  |_,_,_,_,_=>none
 |_=>none
theorem vH {cs:List SV} {p:bp} (h:sL cs=some p):gL cs=gL p.ss:=by
 unfold sL at h;split at h
 ·split at h
  ·rename_i s o c k f a i b e d;simp only[γ] at h;subst h;have a:=nV a;have i:=nV i;have b:=nV b;have e:=jI e;have d:=jI d;simp_all[dM,dI,bp.ss,gL,γH,iv]
  ·cases h
 ·cases h
def cY:oV bp where
 put p:=.agg p.ss;dec
  | .agg c=>sL c
  |_=>none;ok v a h:=by
  grind[γH,vH]
 inj a b h:=by
  obtain⟨⟨a0,a1,a2,a3,M,o⟩,⟨A,l,e,b3,I,b5⟩,⟨H,V,Y,J,x,j⟩,k,f⟩:=a;obtain⟨⟨d,t,d2,Z,d4,X⟩,⟨N,R,u,y,S,e5⟩,⟨f0,E,f2,f3,O,q⟩,W,B⟩:=b;simp only[γH,bp.ss,gL,εE,π,and_true,γX,Value.int.injEq,true_and,εc] at h;obtain⟨h0,h1,F,P,Q,z,C,L,g2,U,G,T,w,K,k2,r,D,k5,m,n⟩:=h;have s:=lU (.i .i64) m.1 m.2;have n2:=lU .off n.1 n.2;simp_all
def lV:oV Alloc where
 put a:=.agg [.row (.i .i64) a.chosen,.si .i64 a.value];dec
  | .agg [r,v]=>match fZ (.i .i64) r,v.int .i64 with
   |some c,some v=>some ⟨c,v⟩
   |_,_=>none
  |_=>none;ok v a h:=by
  grind[γH,gL,jI,gP]
 inj a b h:=by
  obtain⟨c,v⟩:=a;obtain⟨e,f⟩:=b;simp only[γH,gL,εE,π,and_true,γX,Value.int.injEq,true_and,εc] at h;have d:=lU (.i .i64) h.1.1 h.1.2;rw[d,h.2]
def oY:TypeId->Option bn
 |2=>some (.i .i64)
 |3=>some (.i .i64)
 |24=>some (.bK (.i .i64))
 |235=>some (.i .u32)
 |157=>some (.pair .b (.pair (.bK (.i .u32)) (.bK (.i .u32))))
 |41=>some (.pair (.bK (.i .i64)) (.i .i64))
 |91=>some (.bK (.pair .b (.pair (.bK (.i .u32)) (.bK (.i .u32)))))
 |255=>some (.pair (.bK (.pair .b (.pair (.bK (.i .u32)) (.bK (.i .u32))))) (.pair .b (.pair (.bK (.i .u32)) (.bK (.i .u32)))))
 |4=>some .b
 |93=>some (.pair (.i .i64) (.pair (.i .i64) (.pair (.i .i64) (.pair (.i .i64) (.bK (.pair .b (.pair (.bK (.i .u32)) (.bK (.i .u32)))))))))
 |39=>some .off
 |_=>none
def oZ:List Nat×Bool->Option (bn×bn)
 |([0,0,0,0,0,0,0],true)=>some (.key,.b)
 |([0,0,0,0,0,0,0,0,0,0,0,0,0],true)=>some (.sit,.i .i64)
 |_=>none
mutual
def SV.ren (m:Nat->Option Nat):SV->Option SV
 | .agg cs=>(rK m cs).map .agg
 | .bH cs=>(rK m cs).map .bH
 | .ptr id off tot=>(m id).map λi=> .ptr i off tot
 | .ap id a b c d e=>(m id).map λi=> .ap i a b c d e
 | .rp id a b c d=>(m id).map λi=> .rp i a b c d
 | .ow id n sz=>(m id).map λi=> .ow i n sz
 | .os id a b c d=>(m id).map λi=> .os i a b c d
 | .oc id a b c d=>(m id).map λi=> .oc i a b c d
 | .mp id=>(m id).map .mp
 | .fn f a b=>match rK m a,rK m b with
  |some a',some b'=>some (.fn f a' b')
  |_,_=>none
 | .ud=>some .ud
 | .sc v=>some (.sc v)
 | .il k n=>some (.il k n)
 | .si k n=>some (.si k n)
 | .bl b=>some (.bl b)
 | .sb b=>some (.sb b)
 | .row s l=>some (.row s l)
 | .ep s l i o=>some (.ep s l i o)
 | .ia t cs=>some (.ia t cs)
 | .ite c a b=>some (.ite c a b)
def rK (m:Nat->Option Nat):List SV->Option (List SV)
 |[]=>some []
 |c::cs=>match c.ren m,rK m cs with
  |some c',some cs'=>some (c'::cs')
  |_,_=>none
end
mutual
theorem HF {m:Nat->Option Nat}:∀{v v':SV},v.ren m=some v'->v.g.ren m=some v'.g
 | .agg cs,v',h=>by
  simp only[SV.ren] at h;obtain⟨cs',h1,rfl⟩:=δ.1 h;simp only[γH,δE,vI h1,μ];| .bH cs,v',h=>by
  simp only[SV.ren] at h;obtain⟨cs',h1,rfl⟩:=δ.1 h;simp only[γH,δE,vI h1,μ];| .fn f a b,v',h=>by
  simp only[SV.ren] at h;split at h
  ·rename_i a' b' h1 h2;simp only[γ] at h;subst h;simp only[γH,δE,vI h1,vI h2]
  ·cases h;| .ptr id _ _,v',h| .ap id _ _ _ _ _,v',h| .rp id _ _ _ _,v',h| .ow id _ _,v',h| .os id _ _ _ _,v',h| .oc id _ _ _ _,v',h| .mp id,v',h=>by
  simp only[SV.ren] at h;obtain⟨i,h1,rfl⟩:=δ.1 h;simp only[γH,δE,h1,μ];| .ud,v',h| .sc _,v',h| .il _ _,v',h| .si _ _,v',h| .bl _,v',h| .sb _,v',h| .row _ _,v',h| .ep _ _ _ _,v',h| .ia _ _,v',h| .ite _ _ _,v',h=>by
  simp only[SV.ren,γ] at h;subst h;simp only[γH,δE]
theorem vI {m:Nat->Option Nat}:∀{l l':List SV},rK m l=some l'->iG m (gL l)=some (gL l')
 |[],l',h=>by simp[rK] at h;subst h;simp[gL,iG];|c::cs,l',h=>by
  simp only[rK] at h;split at h
  ·rename_i c' cs' h1 h2;simp only[γ] at h;subst h;simp only[gL,iG,HF h1,vI h2]
  ·cases h
end
def bq.ren (m:Nat->Option Nat):bq->Option bq
 | .cells d e c a=>if a then some (.cells d e c a) else(rK m d).map λb=> .cells b e c a
 | .dead=>some .dead
 | .row s l e a=>some (.row s l e a)
 | .map j f g h i a=>some (.map j f g h i a)
 | .oQ .. =>none
theorem PQ {m:Nat->Option Nat}:∀{l:List AV},(∀a∈l,Plain a)->iG m l=some l
 |[],_=>by simp[iG];|a::e,h=>by
  have d:=PQ (m:=m) (l:=e) λb c=>h b (by simp[c]);rcases h a (by simp) with⟨v,rfl,_⟩|⟨n,f,rfl,_⟩<;>simp only[iG,δE,d]
theorem PR {m:Nat->Option Nat}:∀{l:List (Value×AV)},(∀a∈l,∃v,a.2= .sc v)->oK m l=some l
 |[],_=>by simp[oK];|(k,c)::e,h=>by
  obtain⟨v,b⟩:=h (k,c) (by simp);simp only at b;subst b;simp only[oK,δE,PR (l:=e) λa d=>h a (by simp[d])]
theorem HG {b sv:bn} {d:Bool} {es:List (b.T×sv.T)}:∀a∈es.map (λp=>(oR b d p.1,mJ sv p.2)),∃v,a.2= .sc v:=λa c=>by
 obtain⟨q,_,rfl⟩:=List.mem_map.1 c;exact⟨_,rfl⟩
theorem PS {m:Nat->Option Nat} {x y:bq} (h:x.ren m=some y):x.g.ren m=some y.g:=by
 cases x with
 |dead=>simp[bq.ren] at h;subst h;rfl;|cells o e k a=>
  simp only[bq.ren] at h;cases a with
  |true=>simp only[if_true,γ] at h;subst h;simp only[bq.g,bQ.ren,if_true];|false=>
   simp only[χ,if_false] at h;obtain⟨b,c,rfl⟩:=δ.1 h;simp_all[bq.g,bQ.ren,vI]
 |oQ s l e t=>grind[bq.ren];|row s l e a=>
  grind[bq.ren,bq.g,bQ.ren,PQ,nk];|map f n i j d a=>
  simp only[bq.ren,γ] at h;subst h;simp only[bq.g,bQ.ren,PR HG,μ];grind
def zQ (m:Nat->Option Nat):bX->Option bX
 |[]=>some []
 |x::r=>match x.ren m,zQ m r with
  |some y,some l=>some (y::l)
  |_,_=>none
theorem PT {m:Nat->Option Nat}:∀{o o':bX},zQ m o=some o'->sy m (gO o)=some (gO o')
 |[],o',h=>by simp[zQ] at h;subst h;rfl;|x::r,o',h=>by
  simp only[zQ] at h;split at h
  ·rename_i y l b a;simp only[γ] at h;subst h;have:=PT a;grind[gO,sy,PS]
  ·cases h
def xF (o:bX) (a:List Nat):List Nat->Option bX
 |[]=>some []
 |i::r=>match o[i]?,xF o a r with
  |some x,some l=>match x.ren (λj=>idxOf a j) with
   |some y=>some (y::l)
   |none=>none
  |_,_=>none
theorem HH {o:bX} {a:List Nat}:∀{r:List Nat} {o':bX},xF o a r=some o'->kV (gO o) a r=some (gO o')
 |[],o',h=>by simp[xF] at h;subst h;rfl;|i::r,o',h=>by
  simp only[xF] at h;split at h
  ·rename_i x l d b;split at h
   ·rename_i y c;simp only[γ] at h;subst h;simp only[kV,fE d,HH b,PS c,μ];rfl
   ·cases h
  ·cases h
def xG (o:bX):List Nat->bX->bX
 |[],_=>o
 |_,[]=>o
 |i::r,x::l=>xG (o.set i x) r l
theorem PU:∀{a:List Nat} {o l:bX},gO (xG o a l)=lI (gO o) a (gO l)
 |[],o,l=>by simp[xG,lI];|_::_,o,[]=>by simp[xG,lI,gO];|i::r,o,x::l=>by
  simp only[xG];rw[PU,qH];simp[gO,lI]
def pT (o:bX):Nat->List SV->List Nat->List Nat
 |0,_,c=>c
 |_,[],c=>c
 |d+1,v::i,c=>
  let f (e:Nat) (c:List Nat):List Nat:=
   if c.contains e then c else
   match o[e]? with
   |some (.cells g _ _ h)=>if h then c++[e] else pT o d g (c++[e])
   |_=>c++[e];pT o d i (match v with
   | .agg g| .bH g=>pT o d g c
   | .ptr e _ _| .ap e _ _ _ _ _| .rp e _ _ _ _| .ow e _ _| .os e _ _ _ _| .oc e _ _ _ _| .mp e=>f e c
   | .fn _ a b=>pT o d b (pT o d a c)
   |_=>c)
theorem zR {o:Store}:∀{d:Nat} {l:List AV} {acc:List Nat},(∀a∈l,Plain a)->cJ o d l acc=acc
 |0,_,_,_=>by grind[cJ];|d+1,[],_,_=>by grind[cJ];|d+1,a::l,acc,h=>by
  have e:=zR (o:=o) (d:=d) (l:=l) (acc:=acc) λb c=>h b (by simp[c]);rcases h a (by simp) with⟨v,rfl,_⟩|⟨n,f,rfl,_⟩<;>(grind[cJ])
theorem PV {o:Store}:∀{d:Nat} {l:List AV} {acc:List Nat},(∀a∈l,∃v,a= .sc v)->cJ o d l acc=acc
 |0,_,_,_=>by simp[cJ];|d+1,[],_,_=>by simp[cJ];|d+1,a::l,acc,h=>by
  obtain⟨v,rfl⟩:=h a (by simp);simp only[cJ];exact PV λa b=>h a (by simp[b])
theorem ZD {l:List (Value×AV)} (h:∀a∈l,∃v,a.2= .sc v):∀a∈l.map (·.2),∃v,a= .sc v:=λa b=>by
 grind
def bq.C6:bq->Bool
 | .oQ .. =>false
 |_=>true
theorem PW {o:bX} (h:o.all bq.C6=true):∀{d:Nat} {vs:List SV} {acc:List Nat},cJ (gO o) d (gL vs) acc=pT o d vs acc:=by
 intro d;induction d with
 |zero=>grind[cJ,pT];|succ d k=>
  intro vs acc;cases vs with
  |nil=>simp[gL,cJ,pT];|cons v vs=>
   have m:∀(b:Nat) (acc:List Nat),(if acc.contains b then acc else
     match(gO o)[b]? with
     |some (.cells f _ _ c)=>if c then acc++[b] else cJ (gO o) d f (acc++[b])
     |some (.map j _ c)=>if c then acc++[b] else cJ (gO o) d (j.map (·.2)) (acc++[b])
     |_=>acc++[b])=(if acc.contains b then acc else
     match o[b]? with
     |some (.cells f _ _ c)=>if c then acc++[b] else pT o d f (acc++[b])
     |_=>acc++[b]):=by
    intro b acc;rw[G8];cases i:o[b]? with
    |none=>rfl;|some x=>
     cases x with
     |oQ s l e t=>
      have:=Φ.1 h _ (List.mem_of_getElem? i);grind[bq.C6];|dead=>rfl;|cells f e r c=>grind[bq.g];|row s l e c=>simp only[μ,bq.g,zR (λa n=>nk n),ite_self];|map p u q j w c=>simp only[μ,bq.g,PV (ZD HG),ite_self]
   simp only[gL,cJ,pT];rw[k];congr 1;cases v<;>simp only[γH,k]<;>exact m _ _
def HI (C:FuncId->List SV->bX->(SV->bX->Prop)->Prop) (f:FuncId) (args:List SV) (o:bX) (K:SV->bX->Prop):Prop:=
 if o.all bq.C6=false then False else
 let a:=pT o fA args [];match rK (λj=>idxOf a j) args,xF o a a with
 |some c,some d=>C f c d λr b=>
   if b.length<a.length\/iH.pH a=false then False else
   match r.ren (oL a o.length),zQ (oL a o.length) b with
   |some g,some e=>K g (xG o a (e.take a.length)++e.drop a.length)
   |_,_=>False
 |_,_=>False
theorem ZE {call:cV} {C:FuncId->List SV->bX->(SV->bX->Prop)->Prop}
  (n:∀f args o K,C f args o K->∃(r:SV) (o':bX),call f (gL args) (gO o) true=some (r.g,gO o')/\K r o')
  {f:FuncId} {args:List SV} {o:bX} {K:SV->bX->Prop} (h:HI C f args o K):
  ∃(r:SV) (o':bX),iH call f (gL args) (gO o)=some (r.g,gO o')/\K r o':=by
 unfold HI at h;split at h;·exact h.elim
 rename_i a;simp only[ζj] at a;simp only at h;split at h
 ·rename_i d e i l;obtain⟨r,c,j,b⟩:=n _ _ _ _ h;split at b;·exact b.elim
  ·rename_i p;split at b
   ·rename_i k q m s;refine⟨k,_,?_,b⟩;unfold iH;simp only[PW a];rw[vI i,HH l];simp only[j,ob];rw[if_neg p,HF m,PT s];simp only[PD,PU];simp[gO]
   simp_all
 simp_all
section
variable {P:Program} {T:Tab} {p:iN} {Λ:Nat->cC}
theorem ZF (A:ky P T) (y:pR T.K p.C) (w:∀f F,p.it f=some F->T.fn f=some F) {f:FuncId} {F:fh} (u:T.fn f=some F) {args:List SV} {o:bX} {r:AV} {o':Store} (G:T.K f (gL args) (gO o) true=none) (n:args.length=F.params)
  {Q:SV->bX->Prop} (m:∀v s,Q v s->v.g=r/\gO s=o') (h:vy p Λ F args o Q):gJ P f=true/\lv P f (gL args) (gO o) r o':=by
 unfold vy at h;have i:=vE y w h;have e:(cq.mk (np 0 args) o).g=⟨gZ 0 (gL args),gO o⟩:=by simp[cq.g,vF]
 rw[e] at i;have j:(gO o).length=o.length:=ob o;rw[<-j] at i;have E:∀(a:cq),(nZ a F.res λv=>if v.bZ (gO o).length&&a.o.all (λx=>x.bZ (gO o).length)&&decide ((gO o).length<=a.o.length) then Q v (a.o.take (gO o).length) else False)->
   (nT a.g F.res).bind (λl=>finish true (gO o).length l a.g.o)=some (r,o'):=by
  intro a t;obtain⟨l,k,b⟩:=xB t;rw[k];simp only[δU,finish,if_true];split at b
  ·rename_i q;simp only[ζ,decide_eq_true_eq,Φ] at q;obtain⟨⟨z,D⟩,B⟩:=q;have d:∀x∈a.g.o,x.bZ (gO o).length=true:=by
    grind[cq.g,gO,CS]
   rw[Py (by grind[zH]) d (by grind[cq.g,ob])];rw[<-(m _ _ b).1,<-(m _ _ b).2];simp_all[cq.g,gO]
  ·exact b.elim
 obtain⟨k,b,_⟩:=Cj A u (o:=gO o) (own:=true) G (by grind[jH]) (v:=r) (o':=o') (i.mono λc s H=>by
  obtain⟨a,rfl,t⟩:=H;cases c<;>grind);simp_all
end
structure cZ where
 f:FuncId
 α:Type
 put:α->List SV
 st:α->bX
 dec:List SV->bX->Option α
 ok:∀v o a,dec v o=some a->gL v=gL (put a)/\gO o=gO (st a)
 inj:∀a b,gL (put a)=gL (put b)->gO (st a)=gO (st b)->a=b
 dom:α->Prop
 res:α->SV
 out:α->bX
def dJ (P:Program) (c:cZ):Prop:=∀a,c.dom a->gJ P c.f=true/\lv P c.f (gL (c.put a)) (gO (c.st a)) (c.res a).g (gO (c.out a))
def kY (f:FuncId):List cZ->Option cZ
 |[]=>none
 |c::r=>bif δA c.f f then some c else kY f r
theorem PX:∀{L:List cZ} {f:FuncId} {c:cZ},kY f L=some c->c.f=f/\c∈L
 |[],_,_,h=>by cases h;|d::L,f,c,h=>by
  simp only[kY] at h;cases a:δA d.f f with
  |true=>
   simp_all;|false=>
   rw[a] at h;simp only[cond_false] at h;obtain⟨b,e⟩:=PX h;simp_all
def PY (W:List cZ) (f:FuncId) (args:List SV) (o:bX) (K:SV->bX->Prop):Prop:=
 match kY f W with
 |some c=>iO (c.dec args o) λa=>c.dom a/\K (c.res a) (c.out a)
 |none=>False
open Classical in
noncomputable def ug (W:List cZ) (f:FuncId) (args:List AV) (o:Store):Option (AV×Store):=
 match kY f W with
 |some c=>if h:∃a,args=gL (c.put a)/\o=gO (c.st a)/\c.dom a then some ((c.res (δV h)).g,gO (c.out (δV h))) else none
 |none=>none
noncomputable def fQ (W:List cZ):mL:=⟨ug W,λf a o K=>HI (PY W) f a o K⟩
theorem kZ {P:Program} {W:List cZ} (u:∀c∈W,dJ P c):pS P (fQ W) where
 K:=λf d o r w h=>by
  simp only[fQ,ug] at h;split at h
  ·rename_i c k;obtain⟨rfl,v⟩:=PX k;split at h
   ·rename_i e;simp only[γ,κ] at h;generalize t:δV e=b at h;have n:=εk e;rw[t] at n;obtain⟨p,s,l⟩:=n;obtain⟨j,m⟩:=u c v _ l;simp_all
   ·cases h
  ·cases h
 C:=λq g f d o K h=>by
  refine ZE ?_ h;intro f d o K i;simp only[PY] at i;split at i
  ·rename_i c k;obtain⟨a,p,s,l⟩:=iY i;refine⟨_,_,?_,l⟩;rw[g];obtain⟨j,m⟩:=c.ok _ _ _ p;have e:∃b,gL d=gL (c.put b)/\gO o=gO (c.st b)/\c.dom b:=⟨a,j,m,s⟩;simp only[fQ,ug,k,dif_pos e];have:δV e=a:=c.inj _ _ ((εk e).1.symm.trans j) ((εk e).2.1.symm.trans m);rw[this]
  simp_all
theorem C7 {P:Program} {i:FuncId->Option fh} {L:List bL} {W:List cZ} (c:cZ) {F:fh} {m:TypeId->Option bn} {j:List Nat×Bool->Option (bn×bn)} {Λ:c.α->Nat->cC}
  (q:ky P ⟨i,λ_ _ _ _=>none⟩) (k:∀c∈W,dJ P c) (r:∀c∈L,Holds P c)
  (n:i c.f=some F) (e:∀a,(c.put a).length=F.params)
  (a:c.α) (o:∀d,kY c.f W=some d->∀b,gL (c.put a)=gL (d.put b)->gO (c.st a)=gO (d.st b)->¬d.dom b)
  (h:vy (lT L (fQ W) m j i) (Λ a) F (c.put a) (c.st a) λv s=>v.same (c.res a)/\jk s (c.out a)):
  gJ P c.f=true/\lv P c.f (gL (c.put a)) (gO (c.st a)) (c.res a).g (gO (c.out a)):=by
 refine ZF (p:=lT L (fQ W) m j i) (Λ:=Λ a) (Q:=λv s=>v.same (c.res a)/\jk s (c.out a)) (ub (kZ k) r q) (uf (kZ k)) (λ_ _ h=>h) n ?_ (e a) (λv s l=>⟨l.1,xA l.2⟩) ?_
 ·simp only[qJ,sK,if_true,fQ,ug];grind
 ·exact h
mutual
def k9 (o:bX) (k:Nat):SV->(SV->Prop)->Prop
 | .ow id n sz,K=>if k<=id then(match o[id]? with
   |some (.row s l _ true)=>if sz=s.sz then n=l.length/\K (.row s l) else False
   |some (.row _ _ _ false)=>K (.ow id n sz)
   |_=>False) else K (.ow id n sz)
 | .ptr id f t,K=>if k<=id then(match o[id]? with
   |some (.cells _ _ _ false)=>K (.ptr id f t)
   |_=>False) else K (.ptr id f t)
 | .agg cs,K=>sM o k cs λcs'=>K (.agg cs')
 | .bH cs,K=>sM o k cs λcs'=>K (.bH cs')
 | .ud,K=>K .ud
 | .sc v,K=>K (.sc v)
 | .il q n,K=>K (.il q n)
 | .si q n,K=>K (.si q n)
 | .bl b,K=>K (.bl b)
 | .sb b,K=>K (.sb b)
 | .row s l,K=>K (.row s l)
 | .mp i,K=>K (.mp i)
 | .ia t cs,K=>K (.ia t cs)
 | .fn f a b,K=>sM o k a λa'=>sM o k b λb'=>K (.fn f a' b')
 |_,_=>False
def sM (o:bX) (k:Nat):List SV->(List SV->Prop)->Prop
 |[],K=>K []
 |c::cs,K=>k9 o k c λc'=>sM o k cs λcs'=>K (c'::cs')
end
section
variable {o:bX} {k:Nat}
mutual
theorem HJ:∀{v:SV} {K:SV->Prop},k9 o k v K->∃v':SV,v.g.bT (gO o) (λi=>decide (k<=i))=some v'.g/\K v'
 | .ow id n sz,K,h=>by
  simp only[k9] at h;split at h
  ·rename_i hk;split at h
   ·rename_i s l e ho;split at h
    ·rename_i hsz;subst hsz;obtain⟨rfl,h⟩:=h;refine⟨_,?_,h⟩;have htk:γd (l.length*s.sz) (cE s l)=cE s l:=List.take_of_length_le (by rw[fj];omega);simp only[γH,AV.bT,hk,decide_true,if_true,fE ho,bq.g,fj,Nat.zero_add,Nat.le_refl,and_self,List.drop_zero,htk]
    ·exact h.elim
   ·rename_i s l e ho;refine⟨_,?_,h⟩;simp only[γH,AV.bT,hk,decide_true,if_true,fE ho,bq.g,χ,if_false]
   ·exact h.elim
  ·rename_i hk;refine⟨_,?_,h⟩;simp only[γH,AV.bT,decide_eq_true_eq,if_neg hk];| .ptr id f t,K,h=>by
  simp only[k9] at h;split at h
  ·rename_i hk;split at h
   ·rename_i cs e sz ho;refine⟨_,?_,h⟩;simp only[γH,AV.bT,hk,decide_true,if_true,fE ho,bq.g,χ,if_false]
   ·exact h.elim
  ·rename_i hk;refine⟨_,?_,h⟩;simp only[γH,AV.bT,decide_eq_true_eq,if_neg hk];| .agg cs,K,h=>by
  simp only[k9] at h;obtain⟨cs',h1,h2⟩:=xH h;exact⟨_,by simp only[γH,AV.bT,h1,μ],h2⟩;| .bH cs,K,h=>by
  simp only[k9] at h;obtain⟨cs',h1,h2⟩:=xH h;exact⟨_,by simp only[γH,AV.bT,h1,μ],h2⟩;| .ud,K,h=>⟨.ud,by simp only[γH,AV.bT],by simpa only[k9] using h⟩
 | .sc v,K,h=>⟨.sc v,by simp only[γH,AV.bT],by simpa only[k9] using h⟩
 | .il k n,K,h=>⟨.il k n,by simp only[γH,AV.bT],by simpa only[k9] using h⟩
 | .si k n,K,h=>⟨.si k n,by simp only[γH,AV.bT],by simpa only[k9] using h⟩
 | .bl b,K,h=>⟨.bl b,by simp only[γH,AV.bT],by simpa only[k9] using h⟩
 | .sb b,K,h=>⟨.sb b,by simp only[γH,AV.bT],by simpa only[k9] using h⟩
 | .row s l,K,h=>⟨.row s l,by simp only[γH,AV.bT],by simpa only[k9] using h⟩
 | .mp i,K,h=>⟨.mp i,by simp only[γH,AV.bT],by simpa only[k9] using h⟩
 | .ia t cs,K,h=>⟨.ia t cs,by simp only[γH,AV.bT],by simpa only[k9] using h⟩
 | .fn f a b,K,h=>by
  simp only[k9] at h;obtain⟨a',h1,h2⟩:=xH h;obtain⟨b',h3,h4⟩:=xH h2;exact⟨_,by simp only[γH,AV.bT,h1,h3],h4⟩;| .ep ..,K,h| .ap ..,K,h| .rp ..,K,h| .os ..,K,h| .oc ..,K,h| .ite ..,K,h=>by simp only[k9] at h
theorem xH:∀{cs:List SV} {K:List SV->Prop},sM o k cs K->∃cs':List SV,gI (gO o) (λi=>decide (k<=i)) (gL cs)=some (gL cs')/\K cs'
 |[],K,h=>⟨[],by simp[gL,gI],by simpa only[sM] using h⟩
 |c::cs,K,h=>by
  simp only[sM] at h;obtain⟨c',h1,h2⟩:=HJ h;obtain⟨cs',h3,h4⟩:=xH h2;exact⟨c'::cs',by simp only[gL,gI,h1,h3],h4⟩
end
def o6 (o:bX) (k:Nat):Nat->bX->(bX->Prop)->Prop
 |_,[],K=>K []
 |i,x::r,K=>match x with
  | .cells f e m false=>sM o k f λc=>o6 o k (i+1) r λa=>K (.cells c e m false::a)
  | .row s l e b=>o6 o k (i+1) r λa=>K ((if b&&decide (k<=i) then .dead else .row s l e b)::a)
  | .map g n d j h b=>o6 o k (i+1) r λa=>K (.map g n d j h b::a)
  | .dead=>o6 o k (i+1) r λa=>K (.dead::a)
  |_=>False
theorem xI:∀{i:Nat} {r:bX} {K:bX->Prop},o6 o k i r K->∃r' mid,jh (gO o) (λi=>decide (k<=i)) (gO r)=some mid/\fD (λi=>decide (k<=i)) i mid=gO r'/\K r'
 |i,[],K,h=>⟨[],[],rfl,rfl,h⟩
 |i,x::r,K,h=>by
  cases x with
  |dead=>
   simp only[o6] at h;obtain⟨r',mid,m,b,e⟩:=xI h;grind[gO,bq.g,jh,bQ.bT,fD];|cells A c z a=>
   cases a with
   |true=>grind[o6];|false=>
    simp only[o6] at h;obtain⟨j,y,f⟩:=xH h;obtain⟨r',mid,m,b,e⟩:=xI f;refine⟨_,.cells (gL j) c z false::mid,?_,?_,e⟩;all_goals simp_all[gO,bq.g,jh,bQ.bT,fD]
  |oQ s l c t=>grind[o6];|row s l c a=>
   simp only[o6] at h;obtain⟨r',mid,m,b,e⟩:=xI h;refine⟨_,(bq.row s l c a).g::mid,?_,?_,e⟩
   ·have d:(bq.row s l c a).g.bT (gO o) (λi=>decide (k<=i))=some (bq.row s l c a).g:=by
     cases a with
     |true=>simp only[bq.g,bQ.bT,if_true];|false=>
      simp only[bq.g,bQ.bT,χ,if_false];grind[C0,nk]
    grind[gO,jh]
   ·cases a with
    |true=>
     simp only[bq.g,fD,Bool.true_and];by_cases n:k<=i
     ·simp only[n,decide_true,if_true];rw[b];rfl
     ·simp only[n,decide_false,χ,if_false];rw[b];rfl;|false=>simp only[bq.g,fD,Bool.false_and,χ,if_false];rw[b];rfl
  |map u p q w v a=>
   simp only[o6] at h;obtain⟨r',mid,m,b,e⟩:=xI h;have d:(bq.map u p q w v a).g.bT (gO o) (λi=>decide (k<=i))=some (bq.map u p q w v a).g:=by
    cases a with
    |true=>simp only[bq.g,bQ.bT,if_true];|false=>
     simp only[bq.g,bQ.bT,χ,if_false];rw[Hz HG,μ]
   grind[gO,jh,bq.g,fD]
end
def C9 (r:SV) (o:bX) (K:SV->bX->Prop):Prop:=
 k9 o 0 r λc=>o6 o 0 0 o λb=>
  if b.all bq.C6=false then False else
  let a:=pT b fA [c] [];if iH.pH a then match c.ren (λj=>idxOf a j),xF b a a with
   |some e,some d=>K e d
   |_,_=>False
  else False
theorem ZG {r:SV} {o:bX} {K:SV->bX->Prop} (h:C9 r o K):∃r' o',lJ 0 r.g (gO o)=some (r'.g,gO o')/\K r' o':=by
 unfold C9 at h;obtain⟨m,n,k⟩:=HJ h;obtain⟨c,i,e,f,a⟩:=xI k;split at a;·exact a.elim
 rename_i b;simp only[ζj] at b;simp only at a;split at a
 ·rename_i t;split at a
  ·rename_i j l p q;refine⟨j,l,?_,a⟩;unfold lJ;rw[n,e];simp only[f,List.take_zero,List.flatMap_nil,List.range_zero];have s:=PW (o:=c) b (d:=fA) (vs:=[m]) (acc:=[]);simp_all[gL,HF,HH]
  simp_all
 simp_all
def HK (p:iN) (Λ:Nat->cC) (F:fh) (args:List SV) (Q:SV->bX->Prop):Prop:=
 wpS p 0 F.body Λ ⟨np 0 args,[]⟩ λa b=>match a with
  | .exit _=>False
  | .goto _=>False
  |_=>nZ b F.res λr=>C9 r b.o Q
theorem ZH {P:Program} {T:Tab} {p:iN} {Λ:Nat->cC} (y:ky P T) (t:pR T.K p.C) (x:∀f F,p.it f=some F->T.fn f=some F) {f:FuncId} {F:fh} (m:T.fn f=some F) {args:List SV} {r:AV} {o':Store} (A:T.K f (gL args) [] true=none) (j:args.length=F.params)
  {Q:SV->bX->Prop} (D:∀v s,Q v s->v.g=r/\gO s=o') (h:HK p Λ F args Q):gJ P f=true/\lv P f (gL args) [] r o':=by
 unfold HK at h;have k:=vE t x h;have b:(cq.mk (np 0 args) []).g=⟨gZ 0 (gL args),[]⟩:=by simp[cq.g,vF,gO]
 rw[b] at k;have n:∀(a:cq),(nZ a F.res λv=>C9 v a.o Q)->(nT a.g F.res).bind (λc=>finish true 0 c a.g.o)=some (r,o'):=by
  intro a l;obtain⟨c,e,i⟩:=xB l;obtain⟨u,q,w,B⟩:=ZG i;rw[e];simp only[δU,finish,if_true];have:lJ 0 c.g a.g.o=some (u.g,gO q):=w;grind
 obtain⟨e,i,_⟩:=Cj y m (o:=[]) (own:=true) A (by grind[jH]) (v:=r) (o':=o') (k.mono λd s z=>by
  obtain⟨a,rfl,l⟩:=z;cases d<;>simp_all);simp_all
theorem ZI {W:List cZ} {f:FuncId} {args:List AV} {o:Store} (h:kY f W=none):ug W f args o=none:=by
 grind[ug]
open Go.Proofs.YtjcmncmajmoiiaaGreat.Ir
open Go.Proofs
def Da (f:Nat):List (Nat×List RH)->Option (List RH)
 |[]=>none
 |e::r=>bif δA e.1 f then some e.2 else Da f r
noncomputable def gy (f:FuncId):Option fh:=
 match Da f Na with
 |none=>none
 |some H=>match Tryz.prog.funcs[f]? with
  |none=>none
  |some g=>BP Tryz.prog H g
noncomputable def fG (f:FuncId):fh:=(gy f).getD ⟨0,0,.skip,[]⟩
theorem vJ {f:FuncId} (h:(gy f).isSome=true):gy f=some (fG f):=by
 unfold fG;cases q:gy f<;>simp_all
theorem PZ {f:Nat} {H:List RH} {p:Nat->Bool}:∀{l:List (Nat×List RH)},Da f l=some H->(l.all λe=>p e.1)=true->p f=true
 |[],h,_=>by cases h;|e::r,h,k=>by
  simp only[Da] at h;simp only[List.all_cons,ζ] at k;cases q:δA e.1 f with
  |true=>simp_all;|false=>rw[q] at h;exact PZ h k.2
theorem ZJ:(Na.all λe=>gJ Tryz.prog e.1)=true:=by kernel_rfl
theorem pU:ky Tryz.prog ⟨gy,λ_ _ _ _=>none⟩ where
 fn:=λf F h=>by
  simp only[gy] at h;split at h;·cases h
  ·rename_i H q;split at h;·cases h
   ·rename_i g r;exact⟨g,H,r,h,PZ (p:=gJ Tryz.prog) q ZJ⟩
 K:=λ_ _ _ _ _ _ h=>by cases h
def lk {a:Type}:a->Nat->cC:=λ_ _=> .look
structure Vc (A:Prop):Prop where
 out:A
theorem bO {A:Prop} (B:Prop) (h:B=A) (a:B):Vc A:=⟨h▸a⟩
theorem con {L:List bL} {W:mL} (c:bL) (Λ:c.α->Nat->cC) (hW:pS Tryz.prog W) (hL:∀c∈L,Holds Tryz.prog c)
  
  (h:∀a,c.dom a->Vc (sH (lT L W oY oZ gy) (Λ a) (fG c.f) (c.A.put a) λv=>v.rH (c.res a))) (hF:(gy c.f).isSome=true:=by kernel_rfl) (hfr:oW c.f L=none:=by kernel_rfl) (hlen:∀a,(c.A.put a).length=(fG c.f).params:=by intro _;kernel_rfl):Holds Tryz.prog c:=
 holds_of c pU hW hL (vJ hF) hfr hlen λa ha=>(h a ha).out
theorem cG {L:List bL} (c:bL) (Λ:c.α->Nat->cC) (hL:∀c∈L,Holds Tryz.prog c) (h:∀a,c.dom a->Vc (sH (lT L mL.none oY oZ gy) (Λ a) (fG c.f) (c.A.put a) λv=>v.rH (c.res a)))
  (hF:(gy c.f).isSome=true:=by kernel_rfl) (hfr:oW c.f L=none:=by kernel_rfl) (hlen:∀a,(c.A.put a).length=(fG c.f).params:=by intro _;kernel_rfl):Holds Tryz.prog c:=con c Λ (pS.none _) hL h hF hfr hlen
theorem ZK {L:List bL} {W:mL} (c:bL) (ro:FuncId->Bool) (Λ:c.α->Nat->cC) (hW:pS Tryz.prog W) (hL:∀c∈L,Holds Tryz.prog c)
  
  (h:∀a,c.dom a->Vc (sH (HD L W oY oZ gy ro) (Λ a) (fG c.f) (c.A.put a) λv=>v.rH (c.res a))) (hF:(gy c.f).isSome=true:=by kernel_rfl) (hfr:oW c.f L=none:=by kernel_rfl) (hlen:∀a,(c.A.put a).length=(fG c.f).params:=by intro _;kernel_rfl):Holds Tryz.prog c:=
 ZC c pU hW hL (vJ hF) hfr hlen λa ha=>(h a ha).out
theorem jm {L:List bL} {W:List cZ} (c:cZ) (Λ:c.α->Nat->cC) (i:∀c∈W,dJ Tryz.prog c) (e:∀c∈L,Holds Tryz.prog c)
  
  (h:∀a,c.dom a->Vc (vy (lT L (fQ W) oY oZ gy) (Λ a) (fG c.f) (c.put a) (c.st a) λv s=>v.same (c.res a)/\jk s (c.out a))) (g:(gy c.f).isSome=true:=by kernel_rfl) (b:∀a,(c.put a).length=(fG c.f).params:=by intro _;kernel_rfl) (k:kY c.f W=none:=by kernel_rfl):dJ Tryz.prog c:=
 λa j=>C7 c pU i e (vJ g) b a (λd l=>by simp_all) (h a j).out
theorem ZL {L:List bL} {W:List cZ} (c:cZ) (F:fh) (Λ:c.α->Nat->cC) (hW:∀c∈W,dJ Tryz.prog c) (hL:∀c∈L,Holds Tryz.prog c)
  
  (h:∀a,c.dom a->Vc (vy (lT L (fQ W) oY oZ gy) (Λ a) F (c.put a) (c.st a) λv s=>v.same (c.res a)/\jk s (c.out a))) (hF:gy c.f=some F:=by kernel_rfl) (hlen:∀a,(c.put a).length=F.params:=by intro _;kernel_rfl) (hfr:kY c.f W=none:=by kernel_rfl):dJ Tryz.prog c:=
 λa ha=>C7 c pU hW hL hF hlen a (λd hd=>by rw[hfr] at hd;cases hd) (h a ha).out
theorem zS {L:List bL} {W:List cZ} (c:cZ) (g:Nat->Option (Nat×Nat×Nat)) (Λ:c.α->Nat->cC) (i:∀c∈W,dJ Tryz.prog c) (j:∀c∈L,Holds Tryz.prog c)
  
  (h:∀a,c.dom a->Vc (HK ⟨⟨vG L,(fQ W).C⟩,oY,oZ,g,λ_=>none,λ_=>false⟩ (Λ a) (fG c.f) (c.put a) λv s=>v.same (c.res a)/\jk s (c.out a))) (l:(gy c.f).isSome=true:=by kernel_rfl) (b:∀a,(c.put a).length=(fG c.f).params:=by intro _;kernel_rfl) (d:∀a,c.st a=[]:=by intro _;rfl) (k:kY c.f W=none:=by kernel_rfl):dJ Tryz.prog c:=
 λa m=>by
  rw[d a];refine ZH (p:=⟨⟨vG L,(fQ W).C⟩,oY,oZ,g,λ_=>none,λ_=>false⟩) (Λ:=Λ a) (Q:=λv s=>v.same (c.res a)/\jk s (c.out a)) (ub (kZ i) j pU) (uf (kZ i)) (λ_ _ h=>by cases h) (vJ l) ?_ (b a) (λv s e=>⟨e.1,xA e.2⟩) (h a m).out;simp_all[qJ,sK,fQ,ZI]
open Go.ChangeShapes Go.WideShapes Go.RowKit
abbrev nu:dK:=⟨λ_=>False,0⟩
instance (s:bn):Inhabited s.T:=⟨s.dflt⟩
theorem ZM (b:Nat):Fr nu [] b:=⟨by rintro⟨i,c,h⟩;simp at h,λh=>h⟩
theorem P0 {A:dK} {w:World} {σ:bY} {o:Store}:∀{vs:List Value},(∀v∈vs,v.oneCell'=true)->bD A w σ o (vs.map .sc) vs
 |[],_=>by simp[bD];|v::vs,h=>by
  simp only[ι,bD];exact⟨v,vs,rfl,by grind[bw],P0 λu a=>h u (by simp[a])⟩
theorem P3 {A:dK} {w:World} {σ:bY} {o:Store}:∀{a b:List AV} {x:Option Addr} {j:Nat},dB A w σ o a x j->dB A w σ o b x (j+a.length)->dB A w σ o (a++b) x j
 |[],b,x,j,_,h=>by simpa using h;|c::a,b,x,j,h,k=>by
  simp only[List.cons_append,dB] at h ⊢;refine⟨h.1,P3 h.2 ?_⟩;grind
def Reads (P:Program) (t:TypeId) (s:bn):Prop:=
 ∀(H:Type) (e:TypeId×Value->H) (w:World) (d:Nat) (a:Nat->Bool) (c:Bool) (b:Nat) (f:List Value) (x:DataW H×List MemPlace),DataW.trod e P w d a c b t f=some x->∃y:s.T,f=dI s y
theorem ZN {P:Program} {t:TypeId} {k:IntKind} (a:P.underlying t=some (.int k)):Reads P t (.i k):=λ_ _ _ _ _ _ _ b _ h=>by
 obtain⟨n,rfl,_,_⟩:=DataW.trod_int a h;exact⟨n,rfl⟩
theorem ZO {w:World} {base n:Nat} {a:Addr} {cs:List Value} (h:w.cells? base a n=some cs):cs.length=n/\∀i v,cs[i]?=some v->w.cell? (a.add i)=some v:=by
 unfold World.cells? at h;split at h
 ·obtain⟨c,f⟩:=B2 h;simp only[ζl] at c;refine⟨c,λi v d=>?_⟩;have j:=(List.getElem?_eq_some_iff.1 d).1;obtain⟨b,g,e⟩:=f i i (by simp_all);simp_all
 ·cases h
def Db (P:Program) (t:TypeId) (s:bn):Prop:=
 ∀(H:Type) (d:TypeId×Value->H) (w:World) (a:Nat->Bool) (c:Bool) (b:Nat) (e:List Value) (x:DataW H×List MemPlace),DataW.trod d P w 0 a c b t e=some x->∃y:s.T,bD nu w [] [] (dM s y) e
theorem Reads.g {P:Program} {t:TypeId} {s:bn} (h:Reads P t s) (i:s.flat=true:=by rfl):Db P t s:=λH d w a c b e x f=>by
 obtain⟨y,rfl⟩:=h H d w 0 a c b e x f;exact⟨y,by grind[Cm,P0,CC]⟩
theorem P4 {w:World} {a:Addr}:∀{cs:List AV} {vs:List Value} {j:Nat},bD nu w [] [] cs vs->(∀i v,vs[i]?=some v->w.cell? (a.add (j+i))=some v)->dB nu w [] [] cs (some a) j
 |[],_,_,_,_=>by simp[dB];|c::cs,vs,j,b,d=>by
  simp only[bD] at b;obtain⟨v,r,rfl,e,f⟩:=b;simp only[dB];refine⟨⟨a,v,rfl,ZM _,by simpa using d 0 v (by simp),e⟩,P4 f λi u g=>?_⟩;have:=d (i+1) u (by simp_all);grind
theorem P5 {w:World} {a:Addr} {s:bn}:∀{l:List s.T} {i0:Nat},(∀i y,l[i]?=some y->∃cs,w.cells? 0 (a.add ((i0+i)*s.sz)) s.sz=some cs/\bD nu w [] [] (dM s y) cs)->dB nu w [] [] (cE s l) (some a) (i0*s.sz)
 |[],_,_=>by simp[cE,dB];|y::l,i0,h=>by
  obtain⟨cs,b,c⟩:=h 0 y (by simp);rw[Nat.add_zero] at b;obtain⟨d,g⟩:=ZO b;have e:cE s (y::l)=dM s y++cE s l:=by simp[cE]
  rw[e];refine P3 (P4 c λi v j=>?_) ?_;·grind[add_add]
  ·rw[lR,show i0*s.sz+s.sz=(i0+1)*s.sz from by grind];refine P5 λi z f=>?_;have:=h (i+1) z (by simp_all);grind
theorem ZP {P:Program} {t e:TypeId} {s:bn} (A:P.underlying t=some (.slice e)) (r:Db P e s) (I:P.cellsOf e=s.sz)
  {H:Type} {enc:TypeId×Value->H} {w:World} {c:Nat->Bool} {j:Bool} {d:Nat} {cs:List Value} {x:DataW H×List MemPlace} (h:DataW.trod enc P w 0 c j d t cs=some x):
  ∃(v:Value) (l:List s.T),cs=[v]/\bw nu w [] [] (Ψ s l).g v:=by
 rcases Go.Deep.open_slice A h with⟨rfl,_⟩|⟨a,b,k,m,n,D,F,rfl,M,z,L,o,_,q⟩;·exact⟨_,[],rfl,by grind[γH,bw,cE,dx,dB]⟩
 ·have B:b<=m:=by grind
  have C:∀i,i<b->∃y:s.T,∃cs,w.cells? 0 (a.add (i*s.sz)) s.sz=some cs/\bD nu w [] [] (dM s y) cs:=λi J=>by
   obtain⟨p,K,E⟩:=q i (by omega);obtain⟨y,u⟩:=r _ _ _ _ _ _ _ _ E;grind
  obtain⟨f,G⟩:=Go.Deep.choose_lt C;refine⟨_,(τ b).map f,rfl,?_⟩;simp only[γH,bw,List.length_map,ζl];refine⟨some a,k,rfl,z,qG _ _,?_⟩;have:=P5 (w:=w) (a:=a) (s:=s) (l:=(τ b).map f) (i0:=0) (λi y u=>by
   grind);simp_all
theorem P6 {P:Program} {t e:TypeId} {s:bn} (i:P.underlying t=some (.slice e)) (f:Reads P e s) (j:P.cellsOf e=s.sz)
  {H:Type} {enc:TypeId×Value->H} {w:World} {a:Nat->Bool} {c:Bool} {b:Nat} {cs:List Value} {x:DataW H×List MemPlace} (h:DataW.trod enc P w 0 a c b t cs=some x) (d:s.flat=true:=by rfl):
  ∃(v:Value) (l:List s.T),cs=[v]/\bw nu w [] [] (Ψ s l).g v:=ZP i (f.g d) j h
theorem ZQ {cs:List Value} {i:Nat} {v:Value} (h:(cs.drop i).take 1=[v]):cs[i]?=some v:=by
 have:((cs.drop i).take 1)[0]?=some v:=by rw[h];rfl
 grind
theorem ZR {P:Program} {t e:TypeId} (s:P.underlying t=some (.array 6 e)) (F:P.underlying e=some (.int .i64)) (H:P.cellsOf e=1) (l:P.cellsOf t=6):Reads P t .eD:=λ_ _ _ _ _ _ _ c _ h=>by
 obtain⟨z,m,_,_,b,v,D⟩:=DataW.trod_array s h;have a:∀i,i<6->∃n,c[i]?=some (.int .i64 n):=λi w=>by
  grind[DataW.trod_int,ZQ]
 rw[l] at b;match c,b,a with
 |[C,A,I,G,B,E],_,a=>
  obtain⟨o,y⟩:=a 0 (by omega);obtain⟨x,d⟩:=a 1 (by omega);obtain⟨p,u⟩:=a 2 (by omega);obtain⟨j,r⟩:=a 3 (by omega);obtain⟨k,f⟩:=a 4 (by omega);obtain⟨q,g⟩:=a 5 (by omega);simp only[List.getElem?_cons_zero,List.getElem?_cons_succ,γ] at y d u r f g;exact⟨⟨o,x,p,j,k,q⟩,by grind[dI,iv]⟩
theorem ZS {P:Program} {t b i v:TypeId} {fs:Array Field} (w:P.underlying t=some (.struct fs)) (r:P.cellsOf t=8) (N:(fs[0]?).map (λf=>(f.type,f.offset))=some (i,0)) (O:(fs[1]?).map (λf=>(f.type,f.offset))=some (b,1)) (u:(fs[2]?).map (λf=>(f.type,f.offset))=some (v,7))
  (x:P.underlying i=some (.int .i64)) (e:P.cellsOf i=1) (q:P.underlying v=some (.int .i64)) (k:P.cellsOf v=1) (z:Reads P b .eD) (d:P.cellsOf b=6) (I:fs.size=3):Reads P t .off:=λ_ _ _ _ _ _ _ B _ h=>by
 obtain⟨T,m,_,_,n,K,j⟩:=DataW.trod_struct w h;rw[r] at n;obtain⟨F,C,g⟩:=δ.1 N;obtain⟨s,D,c⟩:=δ.1 O;obtain⟨J,A,a⟩:=δ.1 u;simp only[κ] at g c a;have o:=j 0 F C;have l:=j 1 s D;have p:=j 2 J A;rw[g.1,g.2,e,ξ (by omega)] at o;rw[c.1,c.2,d,ξ (by omega)] at l;rw[a.1,a.2,k,ξ (by omega)] at p;obtain⟨G,M,_⟩:=DataW.trod_int x o;obtain⟨y,E⟩:=z _ _ _ _ _ _ _ _ _ l;obtain⟨H,L,_⟩:=DataW.trod_int q p;match B,n with
 |[S,U,R,V,Y,X,Q,W],_=>
  simp[dI] at M E L;exact⟨⟨G,y,H⟩,by grind[dI,iv]⟩
theorem ZT {P:Program} {t b k o:TypeId} {fs:Array Field} (ht:P.underlying t=some (.struct fs)) (hn:P.cellsOf t=20) (a7:fs.size=5)
  (h0:(fs[0]?).map (λf=>(f.type,f.offset))=some (b,0)) (h1:(fs[1]?).map (λf=>(f.type,f.offset))=some (b,6)) (h2:(fs[2]?).map (λf=>(f.type,f.offset))=some (b,12))
  (U:(fs[3]?).map (λf=>(f.type,f.offset))=some (k,18)) (h4:(fs[4]?).map (λf=>(f.type,f.offset))=some (o,19))
  (s:Reads P b .eD) (d:P.cellsOf b=6) {e:TypeId} (hk:P.underlying k=some (.slice e)) (z:Reads P e (.i .i64)) (A:P.cellsOf e=1) (y:P.cellsOf k=1)
  {f:TypeId} (ho:P.underlying o=some (.slice f)) (F:Reads P f .off) (u:P.cellsOf f=8) (v:P.cellsOf o=1)
  {H:Type} {enc:TypeId×Value->H} {w:World} {c:Nat->Bool} {q:Bool} {j:Nat} {cs:List Value} {x:DataW H×List MemPlace} (h:DataW.trod enc P w 0 c q j t cs=some x):
  ∃p:bp,bD nu w [] [] (gL p.ss) cs:=by
 obtain⟨xs,m,_,_,O,a1,l⟩:=DataW.trod_struct ht h;rw[hn] at O;obtain⟨f0,e0,E⟩:=δ.1 h0;obtain⟨f1,e1,D⟩:=δ.1 h1;obtain⟨Z,e2,r⟩:=δ.1 h2;obtain⟨f3,T,B⟩:=δ.1 U;obtain⟨f4,e4,C⟩:=δ.1 h4;simp only[κ] at E D r B C;have S:=l 0 f0 e0;have I:=l 1 f1 e1;have R:=l 2 Z e2;have J:=l 3 f3 T;have M:=l 4 f4 e4;rw[E.1,E.2,d,ξ (by omega)] at S;rw[D.1,D.2,d,ξ (by omega)] at I;rw[r.1,r.2,d,ξ (by omega)] at R;rw[B.1,B.2,y,ξ (by omega)] at J;rw[C.1,C.2,v,ξ (by omega)] at M;obtain⟨y0,K⟩:=s _ _ _ _ _ _ _ _ _ S;obtain⟨y1,Q⟩:=s _ _ _ _ _ _ _ _ _ I;obtain⟨y2,G⟩:=s _ _ _ _ _ _ _ _ _ R;obtain⟨v3,l3,L,r3⟩:=P6 hk z A J;obtain⟨v4,W,N,r4⟩:=P6 ho F u M;match cs,O with
 |[c0,c1,c2,c3,c4,c5,c6,c7,c8,c9,a0,a5,V,a6,a8,a2,a4,Y,a3,X],_=>
  simp[dI,iv] at K Q G L N;obtain⟨rfl,rfl,rfl,rfl,rfl,rfl⟩:=K;obtain⟨rfl,rfl,rfl,rfl,rfl,rfl⟩:=Q;obtain⟨rfl,rfl,rfl,rfl,rfl,rfl⟩:=G;subst L;subst N;refine⟨⟨y0,y1,y2,l3,W⟩,?_⟩;have a:∀n:Int,bw nu w [] [] (Ξ .i64 n).g (.int .i64 n):=λn=>by simp[γH,bw,Value.oneCell']
  simp only[bp.ss,gL,bD];exact⟨_,_,rfl,a _,_,_,rfl,a _,_,_,rfl,a _,_,_,rfl,a _,_,_,rfl,a _,_,_,rfl,a _,_,_,rfl,a _,_,_,rfl,a _,_,_,rfl,a _,_,_,rfl,a _,_,_,rfl,a _,_,_,rfl,a _,
   _,_,rfl,a _,_,_,rfl,a _,_,_,rfl,a _,_,_,rfl,a _,_,_,rfl,a _,_,_,rfl,a _,_,_,rfl,r3,_,_,rfl,r4,rfl⟩
theorem ZU {P:Program} {w:World} {r:Reach} {base:Nat} {t:TypeId} {v:Value} {fs:Array Field} (a:P.underlying t=some (.struct fs)) (h:Value.okWide P w r base t v):∃cs,v= .agg cs/\v.cells.toList=cs.toList:=by
 unfold Value.okWide at h;rw[a] at h;obtain⟨cs,rfl,_⟩:=h;exact⟨cs,rfl,rfl⟩
theorem P7 {H:Type} {enc:TypeId×Value->H} {P:Program} (j:laidOutB P=true) {W l:World} (n:Below W.heap.size W l) {m:Nat->Bool}:
  ∀{f:List TypeId} {vs:List Value} {i:List (DataW H)} {g:List MemPlace},DataW.TrodAll enc P W 0 (λ_=>true) true f vs i g->(∀t∈f,P.readableRec t=true/\t<P.types.size)->(∀p∈g,p.block<W.heap.size)->(∀p∈g,m p.block=true)->
   DataW.TrodAll enc P l 0 m true f vs i g
 |[],_,_,_,h,_,_,_=>by
  obtain⟨rfl,rfl,rfl⟩:=trodAll_nil h;exact rfl;|t::f,_,_,_,h,o,e,k=>by
  obtain⟨v,vs,d,i,a,b,rfl,rfl,rfl,r,s⟩:=trodAll_cons h;obtain⟨x,q⟩:=o t (by simp);exact⟨a,b,WideElems.Trod_stays j x q r (λp c=>n.same (e p (by simp[c]))) (λp c=>k p (by simp[c])),
   P7 j n s (λu w=>o u (by simp[w])) (λp c=>e p (by simp[c])) (λp c=>k p (by simp[c])),rfl⟩
theorem ZV {W b:World} {a:bY} {o':Store} (h:Ext W [] [] b a o'):Below W.heap.size W b:=
 ⟨h.os,h.tape,h.output,h.size,λk e=>(h.blk k e (by rintro⟨i,c,d⟩;simp at d)).1⟩
@[simp] theorem ZW {k c:IntKind} {a b:Int}:(Ξ k a).same (.si c b)↔k=c/\a=b:=by simp[εN,γH]
@[simp] theorem ZX {k c:IntKind} {a b:Int}:(γr k a).same (.si c b)↔k=c/\a=b:=by simp[εN,γH]
@[simp] theorem ZY {a b:Bool}:(γI a).same (.sb b)↔a=b:=by simp[εN,γH]
@[simp] theorem ZZ {a b:Bool}:(δw a).same (.sb b)↔a=b:=by simp[εN,γH]
@[simp] theorem Z1 {s:bn} {a b:List s.T}:(Ψ s a).same (.row s b)↔a=b:=by
 constructor;·intro h;simp only[εN,γH,εc] at h;exact lU s h.1 h.2
 ·rintro rfl;rfl
@[simp] theorem Z2 {k c:IntKind} {a b:Int}:(Ξ k a).same (.il c b)↔k=c/\a=b:=by simp[εN,γH]
@[simp] theorem Z3 {k c:IntKind} {a b:Int}:(γr k a).same (.il c b)↔k=c/\a=b:=by simp[εN,γH]
theorem Z4 {v:SV}:v.same v↔True:=iff_true_intro rfl
theorem lg {v:bq}:v.same v↔True:=iff_true_intro rfl
theorem Z5 {a b c d:SV}:(SV.bH [a,b]).same (.bH [c,d])↔a.same c/\b.same d:=by simp[εN,γH,gL]
theorem Z6 {a b c d e f:SV}:(SV.bH [a,b,c]).same (.bH [d,e,f])↔a.same d/\b.same e/\c.same f:=by simp[εN,γH,gL]
theorem HL {s t:bn}:(Ψ s []).same (.row t [])↔True:=iff_true_intro (by simp[εN,γH,cE])
theorem Z7 {s:bn} {l:List s.T}:(Ψ (.i .i64) []).same (.row s l)↔l=[]:=by
 constructor;·grind[εN,γH]
 ·rintro rfl;exact HL.2 trivial
theorem Dc {a b:bz}:a=b↔a.a0=b.a0/\a.a1=b.a1/\a.a2=b.a2/\a.a3=b.a3/\a.a4=b.a4/\a.a5=b.a5:=by
 obtain⟨k,c,n,f,d,l⟩:=a;obtain⟨g,i,e,h,m,j⟩:=b;simp_all
@[simp] theorem Z8 {n:Int}:bW .i64 n↔ -9223372036854775808<=n/\n<=9223372036854775807:=Iff.rfl
theorem vcs:(∀{p:Prop} [h:Decidable p],(decide p=true)=p)/\(∀{p:Prop} {x:Decidable p},decide p=false↔¬p)/\(∀{k g:IntKind} {a b:Int},(γr k a).same (Ξ g b)↔k=g/\a=b)/\(∀{k g:IntKind} {a b:Int},(Ξ k a).same (Ξ g b)↔k=g/\a=b)/\(∀{k g:IntKind} {a b:Int},(Ξ k a).same (γr g b)↔k=g/\a=b)/\(∀{k g:IntKind} {a b:Int},(γr k a).same (γr g b)↔k=g/\a=b)/\(∀{a b:Bool},(γI a).same (γI b)↔a=b)/\(∀{a b:Bool},(δw a).same (γI b)↔a=b)/\(∀{s:bn} {a b:List s.T},(Ψ s a).same (Ψ s b)↔a=b)/\(∀{a b c d:SV},(SV.bH [a,b]).same (SV.bH [c,d])↔a.same c/\b.same d)/\(∀{a b c d e f:SV},(SV.bH [a,b,c]).same (SV.bH [d,e,f])↔a.same d/\b.same e/\c.same f)/\(∀{s t:bn},(Ψ s []).same (Ψ t [])↔True)/\(∀{s:bn} {l:List s.T},(Ψ (bn.i IntKind.i64) []).same (Ψ s l)↔l=[])/\(∀{v:SV},v.same v↔True)/\(∀{v:bq},v.same v↔True)/\(∀{n:Int},bW IntKind.i64 n↔ -9223372036854775808<=n/\n<=9223372036854775807)/\(∀p:Prop,(True/\p)=p)/\(∀p:Prop,(p/\True)=p)/\(∀a b:Bool,((a&&b)=true)=(a=true/\b=true))/\(∀b:Bool,((!b)=true)=(b=false))/\(∀b:Bool,((!b)=false)=(b=true)):=
 ⟨decide_eq_true_eq,decide_eq_false_iff_not,ZX,ZW,Z2,Z3,ZY,ZZ,Z1,Z5,Z6,HL,Z7,Z4,lg,Z8,true_and,and_true,ζ,Bool.not_eq_true',Bool.not_eq_false'⟩
def bz.ok (b:bz):Bool:=[b.a0,b.a1,b.a2,b.a3,b.a4,b.a5].all λn=>decide (0<=n)&&decide (n<=4)
theorem bz.eL {b:bz}:b.ok=true↔(0<=b.a0/\b.a0<=4)/\(0<=b.a1/\b.a1<=4)/\(0<=b.a2/\b.a2<=4)/\(0<=b.a3/\b.a3<=4)/\(0<=b.a4/\b.a4<=4)/\(0<=b.a5/\b.a5<=4):=by
 simp[bz.ok]
def HM:bL:=⟨113,bz,.one (eG .eD),λ_=>True,λb=> .si .i64 (if b.ok=true then 0 else 4)⟩
theorem h146:Holds Tryz.prog HM:=by
 refine cG (L:=[]) HM (λ_ _=> .pP 7) (by simp) ?_;intro b _;refine bO (let h:=γr .i64;let p:=(0:Int);let q:=(4:Int);let i:=decide (b.a0<p);let a:=Ξ .i64 (if bz.ok b=true then p else q);let l:=decide (q<b.a0);let k:=decide (b.a1<p);let m:=decide (q<b.a1);let o:=decide (b.a2<p);let j:=decide (q<b.a2);let n:=decide (b.a3<p);let f:=decide (q<b.a3);let g:=decide (b.a4<p);let d:=decide (q<b.a4);let c:=decide (b.a5<p);let e:=decide (q<b.a5);(i=true->(h 4).same a)/\(i=false->(l=true->(h 4).same a)/\(l=false->(k=true->(h 4).same a)/\(k=false->(m=true->(h 4).same a)/\(m=false->(o=true->(h 4).same a)/\(o=false->(j=true->(h 4).same a)/\(j=false->(n=true->(h 4).same a)/\(n=false->(f=true->(h 4).same a)/\(f=false->(g=true->(h 4).same a)/\(g=false->(d=true->(h 4).same a)/\(d=false->(c=true->(h 4).same a)/\(c=false->(e=true->(h 4).same a)/\(e=false->(h 0).same a))))))))))))) (by kernel_rfl) ?_;conv=>zeta
 have p:=@bz.eL b;by_cases h:b.ok=true<;>simp_all
def bz.l (b:bz):List Int:=[b.a0,b.a1,b.a2,b.a3,b.a4,b.a5]
def dm (p:bp):Int:=p.classes.length+12
def dD (p:bp) (r:Int):Int:=
 if r - p.classes.length<0 then 1
 else if r - p.classes.length<6 then bj [p.supply.a0,p.supply.a1,p.supply.a2,p.supply.a3,p.supply.a4,p.supply.a5] (r - p.classes.length).toNat 0
 else bj [p.opn.a0,p.opn.a1,p.opn.a2,p.opn.a3,p.opn.a4,p.opn.a5] (r - p.classes.length - 6).toNat 0
def eT (p:bp) (r:Int) (o:Off):Int:=
 if r - p.classes.length<0 then(if o.bE=r then 1 else 0)
 else if r - p.classes.length<6 then bj [o.want.a0,o.want.a1,o.want.a2,o.want.a3,o.want.a4,o.want.a5] (r - p.classes.length).toNat 0
 else if bj [p.cls.a0,p.cls.a1,p.cls.a2,p.cls.a3,p.cls.a4,p.cls.a5] (r - p.classes.length - 6).toNat 0=0\/bj [p.cls.a0,p.cls.a1,p.cls.a2,p.cls.a3,p.cls.a4,p.cls.a5] (r - p.classes.length - 6).toNat 0=bj p.classes o.bE.toNat 0 then 0
 else bj [o.want.a0,o.want.a1,o.want.a2,o.want.a3,o.want.a4,o.want.a5] (r - p.classes.length - 6).toNat 0
def xJ:bL:=⟨96,bp,.one cY,λp=>p.classes.length<=8,λp=> .si .i64 (dm p)⟩
def xK:bL:=⟨134,bp×Int,.cons cY (.one (dX .i64)),λa=>a.1.classes.length<=8/\0<=a.2/\a.2<dm a.1,λa=> .si .i64 (dD a.1 a.2)⟩
def xM:bL:=⟨133,bp×Int×Off,.cons cY (.cons (dX .i64) (.one (eG .off))),λa=>a.1.classes.length<=8/\0<=a.2.1/\a.2.1<dm a.1/\0<=a.2.2.bE/\a.2.2.bE<a.1.classes.length,λa=> .si .i64 (eT a.1 a.2.1 a.2.2)⟩
theorem h157:Holds Tryz.prog xJ:=by
 refine cG (L:=[]) xJ (λ_ _=> .pP 7) (by simp) ?_;intro p (b:p.classes.length<=8);refine bO (let a:=(↑p.classes.length:Int)+(12:Int);bW .i64 a/\(Ξ .i64 a).same (Ξ .i64 (dm p))) (by kernel_rfl) ?_;simp only[vcs,dm];omega
theorem h158:Holds Tryz.prog xK:=by
 refine cG (L:=[]) xK (λ_ _=> .pP 7) (by simp) ?_;rintro⟨p,r⟩ ⟨h,j,i⟩;simp only[dm] at h j i;refine bO (let h:=(6:Int);let i:=(0:Int);let d:=Ξ .i64 (dD p r);let c:=(↑p.classes.length:Int);let g:=decide (r - c<i);let e:=decide (r - c<h);let f:=λ(u b:Int) (a:bz) ↦i<=u - b/\u - b<h/\(u - b).toNat<6/\(Ξ .i64 (bj [a.a0,a.a1,a.a2,a.a3,a.a4,a.a5] (u - b).toNat i)).same d;bW .i64 (r - c)/\(g=true->(γr .i64 1).same d)/\(g=false->(e=true->f r c p.supply)/\(e=false->bW .i64 (r - c - h)/\f (r - c) h p.opn))) (by kernel_rfl) ?_;simp only[vcs];grind[dD]
theorem h156:Holds Tryz.prog xM:=by
 refine cG (L:=[]) xM (λ_ _=> .pP 7) (by simp) ?_;rintro⟨p,r,x⟩ ⟨m,q,n,l,o⟩;simp only[dm] at m q n l o;refine bO (let l:=(0:Int);let m:=(6:Int);let n:=γr .i64;let o:=γr .i64 0;let q:=Ξ .i64;let b:=(↑p.classes.length:Int);let e:=decide (r - b<l);let c:=q (eT p r x);let h:=decide (r - b<m);let k:=[x.want.a0,x.want.a1,x.want.a2,x.want.a3,x.want.a4,x.want.a5];let a:=r - b - m;let j:=bj [p.cls.a0,p.cls.a1,p.cls.a2,p.cls.a3,p.cls.a4,p.cls.a5] a.toNat l;let i:=decide (j=l);let g:=decide (j=bj p.classes x.bE.toNat l);let d:=decide (x.bE=r);let f:=(e=true->(n 0).same c)/\(e=false->(h=true->l<=r - b/\r - b<m/\(r - b).toNat<6/\(q (bj k (r - b).toNat l)).same c)/\(h=false->bW .i64 a/\l<=a/\a<m/\a.toNat<6/\(i=true->(n 0).same c)/\(i=false->l<=a/\a<m/\a.toNat<6/\l<=x.bE/\x.bE<b/\x.bE.toNat<p.classes.length/\(g=true->(n 0).same c)/\(g=false->l<=a/\a<m/\a.toNat<6/\(q (bj k a.toNat l)).same c))));bW .i64 (r - b)/\(e=true->(d=true->(n 1).same c)/\(d=false->f))/\(e=false->f)) (by kernel_rfl) ?_;simp only[vcs];repeat' (first|refine γi ?_ ?_|intro _)
 all_goals first
  |trivial;|omega;|(simp only[eT];(repeat' split)<;>first|rfl|omega)
def L2:List bL:=[xM,xJ,xK]
theorem hL2:∀c∈L2,Holds Tryz.prog c:=by
 simp_all[L2,h156,h157,h158]
def cT (p:bp) (l:List Off) (r:Int):Int:=(l.map (eT p r)).sum
def gd (p:bp) (l:List Off):Bool:=(τ (p.classes.length+12)).all λr=>decide (cT p l r<=dD p r)
def Df:bL:=⟨98,bp×List Off,.cons cY (.one (dV .off)),λa=>a.1.classes.length<=8/\a.2.length<=1000/\(∀x∈a.2,0<=x.bE/\x.bE<a.1.classes.length/\x.want.ok=true),λa=> .sb (gd a.1 a.2)⟩
def Z9 (a:bp×List Off):Nat->cC
 |3=> .inv Int (λi=>⟨[(1,.row .off a.2),(2,.ptr 0 0 20),(5,.fn (.func 133) [] []),(11,.si .i64 (dm a.1)),(12,.si .i64 i)],[.cells a.1.ss 110 20 false]⟩) (λs=>iS s 12)
  (λi=>0<=i/\i<=dm a.1/\∀r:Nat,r<i->cT a.1 a.2 r<=dD a.1 r) (λi=>(dm a.1 - i).toNat)
  λi=>λ
   |7=> .inv (Int×Int) (λx=>⟨[(1,.row .off a.2),(2,.ptr 0 0 20),(5,.fn (.func 133) [] []),(6,.si .i64 i),(7,.si .i64 x.2),(11,.si .i64 (dm a.1)),(12,.si .i64 i),(15,.row .off a.2),(16,.si .i64 a.2.length),(17,.si .i64 x.1)],[.cells a.1.ss 110 20 false]⟩)
    (λs=>(iS s 17,iS s 7))
    (λx=>0<=x.1/\x.1<=a.2.length/\x.2=cT a.1 (a.2.take x.1.toNat) i) (λx=>(a.2.length - x.1).toNat) λ_ _=> .look
   |_=> .look
 |_=> .look
theorem HN {b:bz} (h:b.ok=true) (k:Nat):0<=bj [b.a0,b.a1,b.a2,b.a3,b.a4,b.a5] k 0/\bj [b.a0,b.a1,b.a2,b.a3,b.a4,b.a5] k 0<=4:=by
 grind[bz.eL,bj]
theorem rL {p:bp} {r:Int} {o:Off} (h:o.want.ok=true):0<=eT p r o/\eT p r o<=4:=by
 unfold eT;have a:=HN h (r - p.classes.length).toNat;have b:=HN h (r - p.classes.length - 6).toNat;omega
theorem uh {p:bp} {r:Int}:∀{l:List Off},(∀x∈l,x.want.ok=true)->0<=cT p l r/\cT p l r<=4*l.length
 |[],_=>by simp[cT];|x::l,h=>by
  have b:=@rL p r x (h x (by simp));have c:=@uh p r l λy a=>h y (by simp[a]);grind[cT]
theorem cO {a:Type} {l:List a} {i:Nat} {d:a} (h:i<l.length):bj l i d∈l:=by grind[cQ]
theorem j4 {a:Type} {l:List a} {i:Int} {d:a} (b:0<=i) (h:i<l.length):l.take (i+1).toNat=l.take i.toNat++[bj l i.toNat d]:=by
 rw[show(i+1).toNat=i.toNat+1 from by omega,cQ (by omega),List.take_succ_eq_append_getElem (by omega)]
theorem HO {p:bp} {r:Int} {l:List Off} {i:Int} {d:Off} (a:0<=i) (h:i<l.length):cT p (l.take (i+1).toNat) r=cT p (l.take i.toNat) r+eT p r (bj l i.toNat d):=by
 grind[j4,cT]
theorem o7 {p:bp} {l:List Off}:gd p l=true↔∀r:Nat,r<dm p->cT p l r<=dD p r:=by
 simp only[gd,dm,Φ,List.mem_range,decide_eq_true_eq];grind
theorem h134:Holds Tryz.prog Df:=by
 refine cG (L:=L2) Df Z9 hL2 ?_;rintro⟨p,l⟩ ⟨hp,hl,hb⟩;simp only at hp hl hb;refine bO (let a:=Ξ .i64;let b:=(0:Int);let c:=Ψ;let d:=γr .i64 0;let e:=γr .i64;let f:=bW .i64;let g:=γV 0 0 20;let h:=SV.fn (Fn.func 133) [] [];let i:=a (dm p);let j:=bq.cells (bp.ss p) 110 20 false;let k:=(↑l.length:Int);let q:=a k;p.classes.length<=8/\((((c bn.off l).same (c bn.off l)/\g.same g/\h.same h/\i.same i/\(d).same (a 0)/\True)/\j.same j/\True)/\b<=b/\b<=dm p/\∀(r:Nat),(↑r:Int)<b->cT p l (↑r:Int)<=dD p (↑r:Int))/\∀(x:Int),let u:=decide (x<dm p);let m:=x+(1:Int);let v:=a m;(b<=x/\x<=dm p/\∀(r:Nat),(↑r:Int)<x->cT p l (↑r:Int)<=dD p (↑r:Int))->(u=true->((((c bn.off l).same (c bn.off l)/\g.same g/\h.same h/\(a x).same (a x)/\(d).same (a 0)/\i.same i/\(a x).same (a x)/\(c bn.off l).same (c bn.off l)/\(a (↑l.length:Int)).same q/\(d).same (a 0)/\True)/\j.same j/\True)/\b<=b/\b<=k/\b=cT p [] x)/\∀(x_1:Int×Int),let s:=bj l x_1.fst.toNat bn.off.dflt;let t:=x_1.snd+eT p x s;let n:=x_1.fst+(1:Int);let o:=a x;let w:=a t;let y:=a n;let z:=decide (dD p x<x_1.snd);b<=x_1.fst/\x_1.fst<=k/\x_1.snd=cT p (γd x_1.fst.toNat l) x->(decide (x_1.fst<k)=true->b<=x_1.fst/\x_1.fst<(↑l.length:Int)/\x_1.fst.toNat<l.length/\(p.classes.length<=8/\b<=x/\x<dm p/\b<=s.bE/\s.bE<(↑p.classes.length:Int))/\f t/\f n/\(((c bn.off l).same (c bn.off l)/\g.same g/\h.same h/\o.same o/\w.same w/\i.same i/\o.same o/\(c bn.off l).same (c bn.off l)/\q.same q/\y.same y/\True)/\j.same j/\True)/\(b<=n/\n<=k/\t=cT p (γd n.toNat l) x)/\(k - n).toNat<(k - x_1.fst).toNat)/\(decide (x_1.fst<k)=false->(p.classes.length<=8/\b<=x/\x<dm p)/\(z=true->(δw false).same (γI (gd p l)))/\(z=false->f m/\(((c bn.off l).same (c bn.off l)/\g.same g/\h.same h/\i.same i/\v.same v/\True)/\j.same j/\True)/\(b<=m/\m<=dm p/\∀(r:Nat),(↑r:Int)<m->cT p l (↑r:Int)<=dD p (↑r:Int))/\(dm p - m).toNat<(dm p - x).toNat)))/\(u=false->(δw true).same (γI (gd p l)))) (by kernel_rfl) ?_;simp only[vcs];have hn:dm p=p.classes.length+12:=rfl;have ho:∀x∈l,x.want.ok=true:=λx hx=>(hb x hx).2.2;refine⟨hp,⟨by omega,by omega,λr hr=>by omega⟩,?_⟩;rintro i ⟨hi0,hi1,hi⟩;refine⟨λhlt=>⟨⟨by omega,by omega,by simp[cT]⟩,?_⟩,?_⟩
 ·rintro⟨j,s⟩ ⟨hj0,hj1,hs⟩;simp only at hj0 hj1 hs ⊢;have hsb:=@uh p i (l.take j.toNat) λx hx=>ho x (List.mem_of_mem_take hx);have hlen:(l.take j.toNat).length<=l.length:=by simp;omega
  refine⟨λhjl=>?_,λhjl=>?_⟩
  ·have hm:=hb _ (cO (d:=bn.off.dflt) (show j.toNat<l.length by omega));have hc:=@rL p i _ hm.2.2;have hst:=@HO p i l j bn.off.dflt hj0 hjl;refine⟨by omega,by omega,by omega,⟨hp,by omega,by omega,hm.1,hm.2.1⟩,by omega,by omega,⟨by omega,by omega,by omega⟩,by omega⟩
  ·have:j.toNat=l.length:=by omega
   rw[this,Δ] at hs;refine⟨⟨hp,by omega,by omega⟩,λhgt=>?_,λhle=>⟨by omega,⟨by omega,by omega,λr hr=>?_⟩,by omega⟩⟩
   ·symm;rw[Bool.eq_false_iff];intro hf;have:=o7.1 hf i.toNat (by omega);rw[show((i.toNat:Nat):Int)=i from by omega] at this;omega
   ·by_cases hr2:(r:Int)<i;·exact hi r hr2
    ·have:(r:Int)=i:=by omega
     rw[this];omega
 ·intro hge;symm;exact o7.2 λr hr=>hi r (by omega)
def L3:List bL:=[Df,HM,xM,xJ,xK]
theorem hL3:∀c∈L3,Holds Tryz.prog c:=by
 simp only[L3,γs,List.not_mem_nil,false_implies,implies_true,and_true];grind[h134,h146,h156,h157,h158]
def iu (p:bp) (k:Nat):Prop:=
 let c:=bj [p.cls.a0,p.cls.a1,p.cls.a2,p.cls.a3,p.cls.a4,p.cls.a5] k 0;let o:=bj [p.opn.a0,p.opn.a1,p.opn.a2,p.opn.a3,p.opn.a4,p.opn.a5] k 0;let s:=bj [p.supply.a0,p.supply.a1,p.supply.a2,p.supply.a3,p.supply.a4,p.supply.a5] k 0;0<=c/\c<=4/\0<=o/\o<=s/\(c≠0\/o=s)
instance (p:bp) (k:Nat):Decidable (iu p k):=by unfold iu;infer_instance
def Dh (p:bp):Bool:=(τ 6).all λk=>decide (iu p k)
theorem od {p:bp} {k:Nat}:iu p k↔(0<=bj [p.cls.a0,p.cls.a1,p.cls.a2,p.cls.a3,p.cls.a4,p.cls.a5] k 0/\bj [p.cls.a0,p.cls.a1,p.cls.a2,p.cls.a3,p.cls.a4,p.cls.a5] k 0<=4/\0<=bj [p.opn.a0,p.opn.a1,p.opn.a2,p.opn.a3,p.opn.a4,p.opn.a5] k 0/\
  bj [p.opn.a0,p.opn.a1,p.opn.a2,p.opn.a3,p.opn.a4,p.opn.a5] k 0<=bj [p.supply.a0,p.supply.a1,p.supply.a2,p.supply.a3,p.supply.a4,p.supply.a5] k 0/\
  (bj [p.cls.a0,p.cls.a1,p.cls.a2,p.cls.a3,p.cls.a4,p.cls.a5] k 0≠0\/bj [p.opn.a0,p.opn.a1,p.opn.a2,p.opn.a3,p.opn.a4,p.opn.a5] k 0=bj [p.supply.a0,p.supply.a1,p.supply.a2,p.supply.a3,p.supply.a4,p.supply.a5] k 0)):=Iff.rfl
attribute [irreducible] iu
theorem zT {p:bp}:Dh p=true↔∀k,k<6->iu p k:=by simp[Dh]
def hJ (p:bp):Int:=
 if p.supply.ok=false then 4
 else if Dh p=false then 4
 else if 8<p.classes.length\/160<p.offers.length then 3
 else if ¬∀c∈p.classes,0<=c/\c<=4 then 4
 else 0
def HQ:bL:=⟨80,bp,.one cY,λp=>True,λp=> .si .i64 (hJ p)⟩
def aac (p:bp):Nat->cC
 |5=> .inv Int (λk=>⟨[(1,.ptr 0 0 20),(16,.si .i64 k)],[.cells p.ss 110 20 false]⟩) (λs=>iS s 16) (λk=>0<=k/\k<=6/\∀j:Nat,j<k->iu p j) (λk=>(6 - k).toNat) λ_ _=> .look
 |14=> .inv Int (λk=>⟨[(76,.row (.i .i64) p.classes),(77,.si .i64 p.classes.length),(78,.si .i64 k)],[.cells p.ss 110 20 false]⟩) (λs=>iS s 78)
  (λk=>0<=k/\k<=p.classes.length/\∀c∈p.classes.take k.toNat,0<=c/\c<=4) (λk=>(p.classes.length - k).toNat) λ_ _=> .look
 |_=> .look
theorem P8 {p:bp} (h:p.supply.ok=false):hJ p=4:=by simp[hJ,h]
theorem P9 {p:bp} (h:p.supply.ok=true) {k:Nat} (b:k<6) (a:¬iu p k):hJ p=4:=by
 grind[zT,hJ]
theorem Di {p:bp} (h:p.supply.ok=true) (b:∀j:Nat,j<6->iu p j) (a:8<p.classes.length\/160<p.offers.length):hJ p=3:=by
 grind[hJ,zT]
theorem Dj {p:bp} (h:p.supply.ok=true) (f:∀j:Nat,j<6->iu p j) (e:¬(8<p.classes.length\/160<p.offers.length)) {c:Int} (b:c∈p.classes) (a:¬(0<=c/\c<=4)):hJ p=4:=by
 have:¬∀c∈p.classes,0<=c/\c<=4:=λd=>a (d c b);simp_all[hJ]
theorem HS {p:bp} (h:p.supply.ok=true) (b:∀j:Nat,j<6->iu p j) (d:¬(8<p.classes.length\/160<p.offers.length)) (a:∀c∈p.classes,0<=c/\c<=4):hJ p=0:=by
 simp_all[hJ,zT,if_neg]
theorem ui {p:bp} (h:hJ p=0):p.supply.ok=true/\(∀j:Nat,j<6->iu p j)/\p.classes.length<=8/\p.offers.length<=160/\∀c∈p.classes,0<=c/\c<=4:=by
 unfold hJ at h;split at h;·cases h
 ·split at h;·cases h
  ·split at h;all_goals simp_all[zT]
theorem Qa {l:List Int} {i:Int} {P:Int->Prop} (d:0<=i) (h:i<l.length) (a:∀c∈l.take i.toNat,P c) (b:P (bj l i.toNat 0)):∀c∈l.take (i+1).toNat,P c:=by
 grind[j4]
theorem h118:Holds Tryz.prog HQ:=by
 refine cG (L:=L3) HQ aac hL3 ?_;intro p _;refine bO (let a:=Ξ .i64;let b:=(0:Int);let d:=γr .i64;let e:=(6:Int);let f:=(4:Int);let y:=if p.supply.ok=true then b else f;let g:=a (hJ p);let q:=γV 0 0 20;let s:=d 0;let n:=Ψ (bn.i .i64) p.classes;let h:=bq.cells [a p.supply.a0,a p.supply.a1,a p.supply.a2,a p.supply.a3,a p.supply.a4,a p.supply.a5,a p.opn.a0,a p.opn.a1,a p.opn.a2,a p.opn.a3,a p.opn.a4,a p.opn.a5,a p.cls.a0,a p.cls.a1,a p.cls.a2,a p.cls.a3,a p.cls.a4,a p.cls.a5,n,Ψ bn.off p.offers] 110 20 false;let N:=[p.cls.a0,p.cls.a1,p.cls.a2,p.cls.a3,p.cls.a4,p.cls.a5];let O:=[p.opn.a0,p.opn.a1,p.opn.a2,p.opn.a3,p.opn.a4,p.opn.a5];let P:=[p.supply.a0,p.supply.a1,p.supply.a2,p.supply.a3,p.supply.a4,p.supply.a5];let t:=(↑p.classes.length:Int);let z:=decide ((8:Int)<t);let A:=decide ((160:Int)<(↑p.offers.length:Int));let k:=(↑p.classes.length:Int);let v:=a k;let B:=λ(u:Bool) ↦decide (y≠b)=u;True/\(B true->(a y).same g)/\(B false->(((q.same q/\s.same (a 0)/\True)/\h.same h/\True)/\b<=b/\b<=e/\∀(j:Nat),(↑j:Int)<b->iu p j)/\∀(x:Int),let l:=x+(1:Int);let C:=a l;let D:=decide (x<e);let w:=bj N x.toNat b;let E:=decide (w<b);let F:=decide (f<w);let o:=bj O x.toNat b;let G:=decide (o<b);let r:=bj P x.toNat b;let H:=decide (w=b);let I:=bW .i64 l/\((q.same q/\C.same C/\True)/\h.same h/\True)/\(b<=l/\l<=e/\∀(j:Nat),(↑j:Int)<l->iu p j)/\(e - l).toNat<(e - x).toNat;(b<=x/\x<=e/\∀(j:Nat),(↑j:Int)<x->iu p j)->(D=true->b<=x/\x<e/\x.toNat<6/\b<=x/\x<e/\x.toNat<6/\(E=true->(d 4).same g)/\(E=false->(F=true->(d 4).same g)/\(F=false->(G=true->(d 4).same g)/\(G=false->b<=x/\x<e/\x.toNat<6/\(decide (r<o)=true->(d 4).same g)/\(decide (r<o)=false->(H=true->b<=x/\x<e/\x.toNat<6/\(decide (o≠r)=true->(d 4).same g)/\(decide (o≠r)=false->I))/\(H=false->I))))))/\(D=false->(z=true->(d 3).same g)/\(z=false->(A=true->(d 3).same g)/\(A=false->(((n.same n/\(a t).same v/\s.same (a 0)/\True)/\h.same h/\True)/\b<=b/\b<=k/\∀(c:Int),c∈[]->b<=c/\c<=f)/\∀(x:Int),let J:=bj p.classes x.toNat b;let K:=decide (J<b);let L:=decide (f<J);let m:=x+(1:Int);let M:=a m;(b<=x/\x<=k/\∀(c:Int),c∈γd x.toNat p.classes->b<=c/\c<=f)->(decide (x<k)=true->b<=x/\x<t/\x.toNat<p.classes.length/\(K=true->(d 4).same g)/\(K=false->(L=true->(d 4).same g)/\(L=false->bW .i64 m/\((n.same n/\v.same v/\M.same M/\True)/\h.same h/\True)/\(b<=m/\m<=k/\∀(c:Int),c∈γd m.toNat p.classes->b<=c/\c<=f)/\(k - m).toNat<(k - x).toNat)))/\(decide (x<k)=false->s.same g)))))) (by kernel_rfl) ?_;simp only[vcs];by_cases hs:bz.ok p.supply=true
 ·simp only[hs,if_true];refine⟨λh=>absurd rfl h,λ_=>⟨⟨by omega,by omega,λj hj=>by omega⟩,?_⟩⟩;rintro k ⟨hk0,hk1,hk⟩;refine⟨λhlt=>?_,λhge=>?_⟩
  ·have bad:¬iu p k.toNat->(4:Int)=hJ p:=λh=>(P9 hs (by omega) h).symm;have HT:iu p k.toNat->∀(j:Nat),(j:Int)<k+1->iu p j:=λh j hj=>by
    by_cases hj2:(j:Int)<k;·exact hk j hj2
    ·rw[show j=k.toNat from by omega];exact h
   repeat' (first|refine γi ?_ ?_|intro _)
   all_goals first
    |omega;|exact bad λhh=>by have h2:=od.1 hh;omega;|exact HT (od.2 (by omega)) _ (by assumption)
  ·have hall:∀j:Nat,j<6->iu p j:=λj hj=>hk j (by omega);refine⟨λh=>(Di hs hall (.inl (by omega))).symm,λh8=>⟨λh=>(Di hs hall (.inr (by omega))).symm,λh160=>⟨⟨by omega,by omega,by simp⟩,?_⟩⟩⟩;rintro i ⟨hi0,hi1,hi⟩;refine⟨λhlt=>?_,λhge=>?_⟩
   ·have hm:=cO (d:=0) (show i.toNat<p.classes.length by omega);refine⟨by omega,by omega,by omega,λh=>(Dj hs hall (by omega) hm (by omega)).symm,λh1=>⟨λh=>(Dj hs hall (by omega) hm (by omega)).symm,λh2=>⟨by omega,⟨by omega,by omega,?_⟩,by omega⟩⟩⟩;exact Qa hi0 hlt hi (by omega)
   ·rw[show i.toNat=p.classes.length from by omega,Δ] at hi;exact(HS hs hall (by omega) hi).symm
 ·have hs2:bz.ok p.supply=false:=by simpa using hs
  simp only[hs2,χ,if_false];exact⟨λ_=>(P8 hs2).symm,λh=>absurd (by decide) h⟩
def kz (n:Int) (o:Off):Int:=
 if o.bE<0\/n<=o.bE then 6 else if o.value<1\/1000000<o.value then 4 else if o.want.ok then 0 else 4
def HU:bL:=⟨114,Int×Off,.cons (dX .i64) (.one (eG .off)),λp=>True,λp=> .si .i64 (kz p.1 p.2)⟩
theorem h147:Holds Tryz.prog HU:=by
 refine cG (L:=L3) HU (λp=>λ_=> .look) hL3 ?_;rintro⟨n,x⟩ _;refine bO (let f:=γr .i64;let e:=decide (x.bE<(0:Int));let a:=Ξ .i64 (kz n x);let c:=decide (n<=x.bE);let b:=decide (x.value<(1:Int));let d:=decide ((1000000:Int)<x.value);(e=true->(f 6).same a)/\(e=false->(c=true->(f 6).same a)/\(c=false->(b=true->(f 4).same a)/\(b=false->(d=true->(f 4).same a)/\(d=false->True/\(Ξ .i64 (if x.want.ok=true then(0:Int) else(4:Int))).same a))))) (by kernel_rfl) ?_;simp only[vcs];grind[kz]
def jJ (p:bp) (o:Off):Int:=
 if kz p.classes.length o≠0 then kz p.classes.length o else if o.want=bz.zero then 4 else if gd p [o]=false then 14 else 0
def HV:bL:=⟨81,bp×Off,.cons cY (.one (eG .off)),λa=>a.1.classes.length<=8,λa=> .si .i64 (jJ a.1 a.2)⟩
def L4:List bL:=HU::L3
theorem hL4:∀c∈L4,Holds Tryz.prog c:=by
 grind[L4,h147,hL3]
theorem HW {n:Int} {o:Off} (h:kz n o=0):0<=o.bE/\o.bE<n/\1<=o.value/\o.value<=1000000/\o.want.ok=true:=by
 grind[kz]
theorem h119:Holds Tryz.prog HV:=by
 refine cG (L:=L4) HV (λp=>λ_=> .look) hL4 ?_;rintro⟨p,x⟩ (i:p.classes.length<=8);refine bO (let f:=(0:Int);let g:=γr .i64;let c:=kz (↑p.classes.length:Int) x;let e:=decide (c≠f);let b:=Ξ .i64 (jJ p x);let d:=λ(u:Bool) ↦(decide (x.want.a0=f)&&(decide (x.want.a1=f)&&(decide (x.want.a2=f)&&(decide (x.want.a3=f)&&(decide (x.want.a4=f)&&(decide (x.want.a5=f)&&true))))))=u;True/\(e=true->(Ξ .i64 c).same b)/\(e=false->(d true->(g 4).same b)/\(d false->(p.classes.length<=8/\1<=1000/\∀(a:Off),a∈[x]->f<=a.bE/\a.bE<(↑p.classes.length:Int)/\a.want.ok=true)/\((!gd p [x])=true->(g 14).same b)/\((!gd p [x])=false->(g 0).same b)))) (by kernel_rfl) ?_;conv=>zeta
 have g:(decide (x.want.a0=0)&&(decide (x.want.a1=0)&&(decide (x.want.a2=0)&&(decide (x.want.a3=0)&&(decide (x.want.a4=0)&&decide (x.want.a5=0))))))=decide (x.want=bz.zero):=by
  simp_all[Dc,bz.zero]
 simp only[δW,g];simp only[vcs];refine⟨λh=>by simp_all[jJ],λh=>?_⟩;have f:kz p.classes.length x=0:=ω.1 h;have j:=HW f;grind[jJ]
def L5:List bL:=HQ::HV::L4
theorem hL5:∀c∈L5,Holds Tryz.prog c:=by
 grind[L5,h118,h119,hL4]
def Off.key (o:Off):ni:=⟨o.bE,o.want⟩
def gQ (p:bp) (a:List ni):List Off->Int
 |[]=>0
 |o::r=>if jJ p o≠0 then jJ p o else if o.key∈a then 7 else gQ p (a++[o.key]) r
def bC (p:bp):Int:=if hJ p≠0 then hJ p else gQ p [] p.offers
def pV:bL:=⟨51,bp,.one cY,λp=>True,λp=> .si .i64 (bC p)⟩
def aad (p:bp):Nat->cC
 |7=> .inv Int (λi=>⟨[(3,.ptr 1 0 20),(5,.mp 2),(19,.row .off p.offers),(20,.si .i64 p.offers.length),(21,.si .i64 i)],
   [.cells p.ss 27 20 false,.cells p.ss 110 20 false,.map .key .b true ((p.offers.take i.toNat).map λo=>(o.key,true)) ([0,0,0,0,0,0,0],true) true]⟩) (λs=>iS s 21)
  (λi=>0<=i/\i<=p.offers.length/\gQ p [] p.offers=gQ p ((p.offers.take i.toNat).map Off.key) (p.offers.drop i.toNat)) (λi=>(p.offers.length - i).toNat) λ_ _=> .look
 |_=> .look
theorem uj {a:Type} {l:List a} {i:Int} {d:a} (b:0<=i) (h:i<l.length):l.drop i.toNat=bj l i.toNat d::l.drop (i+1).toNat:=by
 rw[show(i+1).toNat=i.toNat+1 from by omega,cQ (by omega),List.drop_eq_getElem_cons (by omega)]
theorem Dk (k:ni):∀(l:List Off),(jZ .key .b k (l.map λo=>(o.key,true))).getD false=decide (k∈l.map Off.key)
 |[]=>by simp[jZ];|o::l=>by
  have:=Dk k l;grind[jZ]
theorem aae {b sv:bn} {c:Bool} {es a:List (b.T×sv.T)} {d:List Nat×Bool} {pu:Bool} (h:es=a):(bq.map b sv c es d pu).same (.map b sv c a d pu):=by rw[h];rfl
theorem aaf {k:ni} {l:List Off} (h:k∉l.map Off.key):nn .key .b k true (l.map λo=>(o.key,true))=(l.map λo=>(o.key,true))++[(k,true)]:=
 Hk λp a=>by
  grind
theorem h79:Holds Tryz.prog pV:=by
 refine cG (L:=L5) pV aad hL5 ?_;intro p _;refine bO (let a:=Ξ .i64;let c:=(0:Int);let f:=Ψ bn.off p.offers;let q:=decide (hJ p≠c);let g:=a (bC p);let h:=γV 1 0 20;let r:=(↑p.offers.length:Int);let d:=(↑p.offers.length:Int);let m:=a d;let s:=γr .i64 0;let n:=([0,0,0,0,0,0,0],true);let t:=bq.map bn.key bn.b true [] n true;let j:=gQ p [] p.offers;let E:=bn.off.dflt;let k:=λ(u:Nat) ↦let v:=bq.cells [a p.supply.a0,a p.supply.a1,a p.supply.a2,a p.supply.a3,a p.supply.a4,a p.supply.a5,a p.opn.a0,a p.opn.a1,a p.opn.a2,a p.opn.a3,a p.opn.a4,a p.opn.a5,a p.cls.a0,a p.cls.a1,a p.cls.a2,a p.cls.a3,a p.cls.a4,a p.cls.a5,Ψ (bn.i .i64) p.classes,f] u 20 false;v.same v;True/\(q=true->(a (hJ p)).same g)/\(q=false->(((h.same h/\(SV.mp 2).same (SV.mp 2)/\f.same f/\(a r).same m/\s.same (a 0)/\True)/\k 27/\k 110/\t.same t/\True)/\c<=c/\c<=d/\j=j)/\∀(x:Int),let w:=γd x.toNat p.offers;let l:=bj p.offers x.toNat E;let y:=decide (jJ p l≠c);let z:=ni.mk l.bE l.want;let A:=γj (λ(o:Off) ↦(o.key,true)) w;let B:=(jZ bn.key bn.b z A).getD false;let e:=x+(1:Int);let C:=a e;let D:=γd e.toNat p.offers;c<=x/\x<=d/\j=gQ p (γj Off.key w) (γ7 x.toNat p.offers)->(decide (x<d)=true->c<=x/\x<r/\x.toNat<p.offers.length/\p.classes.length<=8/\(y=true->(a (jJ p l)).same g)/\(y=false->(B=true->(γr .i64 7).same g)/\(B=false->bW .i64 e/\((h.same h/\(SV.mp 2).same (SV.mp 2)/\f.same f/\m.same m/\C.same C/\True)/\k 27/\k 110/\(bq.map bn.key bn.b true (nn bn.key bn.b z true A) n true).same (bq.map bn.key bn.b true (γj (λ(o:Off) ↦(o.key,true)) D) n true)/\True)/\(c<=e/\e<=d/\j=gQ p (γj Off.key D) (γ7 e.toNat p.offers))/\(d - e).toNat<(d - x).toNat)))/\(decide (x<d)=false->s.same g))) (by kernel_rfl) ?_;simp only[vcs];refine⟨λh=>by simp[bC,h],λh=>?_⟩;have hz:hJ p=0:=ω.1 h;obtain⟨f1,f2,f3,f4,f5⟩:=ui hz;refine⟨⟨by omega,by omega⟩,?_⟩;rintro i ⟨hi0,hi1,hi⟩;refine⟨λhlt=>?_,λhge=>?_⟩
 ·rw[uj (d:=bn.off.dflt) hi0 hlt] at hi;generalize hx:bj p.offers i.toNat bn.off.dflt=x at hi ⊢;refine⟨by omega,by omega,by omega,f3,λhe=>?_,λhe=>?_⟩
  ·simp only[gQ,if_pos he] at hi;simp[bC,hz,hi]
  ·simp only[gQ,if_neg he] at hi;have hk:(⟨x.bE,x.want⟩:ni)=x.key:=rfl;simp only[hk];refine⟨λhm=>?_,λhm=>⟨by omega,?_,⟨by omega,by omega,?_⟩,by omega⟩⟩
   ·have hm2:=of_decide_eq_true ((Dk _ _).symm.trans hm);rw[if_pos hm2] at hi;simp[bC,hz,hi]
   ·have hm2:=of_decide_eq_false ((Dk _ _).symm.trans hm);apply aae;rw[aaf hm2,j4 (d:=bn.off.dflt) hi0 hlt,hx];simp
   ·have hm2:=of_decide_eq_false ((Dk _ _).symm.trans hm);rw[if_neg hm2] at hi;rw[hi,j4 (d:=bn.off.dflt) hi0 hlt,hx];simp
 ·rw[show i.toNat=p.offers.length from by omega,εe] at hi;simp only[gQ] at hi;simp[bC,hz,hi]
def fR (l:List Off) (a:Int):List Int->Option (List Off)
 |[]=>some []
 |i::r=>if i<=a\/l.length<=i then none else(fR l i r).map (bj l i.toNat bn.off.dflt::·)
def jo (p:bp) (c:List Int):Bool:=(fR p.offers (-1) c).isSome
def eE (p:bp) (c:List Int):List Off:=(fR p.offers (-1) c).getD []
def Dl:bL:=⟨97,bp×List Int,.cons cY (.one (dV (.i .i64))),λa=>a.2.length<=9223372036854775807/\a.1.offers.length<=1000,λa=> .bH [.row .off (eE a.1 a.2),.sb (jo a.1 a.2)]⟩
def aag (a:bp×List Int):Nat->cC
 |4=> .inv (Int×Int×List Off) (λx=>⟨[(2,.ptr 0 0 20),(6,.ow 1 x.2.2.length 8),(7,.si .i64 x.2.1),(10,.row (.i .i64) a.2),(11,.si .i64 a.2.length),(12,.si .i64 x.1)],
   [.cells a.1.ss 27 20 false,.row .off x.2.2 39 true]⟩) (λs=>(iS s 12,iS s 7,oS .off s 1))
  (λx=>0<=x.1/\x.1<=a.2.length/\(x.2.2.length<=x.2.1+1/\x.2.1<1000)/\ -1<=x.2.1/\fR a.1.offers (-1) a.2=(fR a.1.offers x.2.1 (a.2.drop x.1.toNat)).map (x.2.2++·)) (λx=>(a.2.length - x.1).toNat) λ_ _=> .look
 |_=> .look
theorem h133:Holds Tryz.prog Dl:=by
 refine cG (L:=L5) Dl aag hL5 ?_;rintro⟨p,c⟩ ⟨hc,hof⟩;have hc:c.length<=9223372036854775807:=hc;have hof:p.offers.length<=1000:=hof;refine bO (let a:=Ξ .i64;let b:=(0:Int);let d:=(-1:Int);let e:=Ψ;let f:=(1000:Int);let g:=δw false;let h:=SV.bH;let j:=(1:Int);let q:=γV 0 0 20;let w:=SV.ow 1 0 8;let m:=bn.i .i64;let l:=(↑c.length:Int);let t:=a l;let r:=bq.cells [a p.supply.a0,a p.supply.a1,a p.supply.a2,a p.supply.a3,a p.supply.a4,a p.supply.a5,a p.opn.a0,a p.opn.a1,a p.opn.a2,a p.opn.a3,a p.opn.a4,a p.opn.a5,a p.cls.a0,a p.cls.a1,a p.cls.a2,a p.cls.a3,a p.cls.a4,a p.cls.a5,e m p.classes,e bn.off p.offers] 27 20 false;let y:=bq.row bn.off [] 39 true;let s:=fR p.offers d c;let u:=h [e bn.off (eE p c),γI (jo p c)];let v:=(↑p.offers.length:Int);(((q.same q/\w.same w/\(γr .i64 d).same (a d)/\(e m c).same (e m c)/\(a (↑c.length:Int)).same t/\(γr .i64 0).same (a 0)/\True)/\r.same r/\y.same y/\True)/\b<=b/\b<=l/\(b<=b/\d<f)/\d<=d/\s=ζW (λx ↦(b,d,[]).snd.snd++x) s)/\∀(x:Int×Int×List Off),let k:=bj c x.fst.toNat b;let z:=decide (k<=x.snd.fst);let A:=x.snd.snd.length+1;let n:=x.fst+j;let o:=x.snd.snd++[bj p.offers k.toNat bn.off.dflt];let B:=a k;let C:=a n;let D:=bq.row bn.off o 39 true;b<=x.fst/\x.fst<=l/\((↑x.snd.snd.length:Int)<=x.snd.fst+j/\x.snd.fst<f)/\d<=x.snd.fst/\s=ζW (λx_1 ↦x.snd.snd++x_1) (fR p.offers x.snd.fst (γ7 x.fst.toNat c))->(decide (x.fst<l)=true->b<=x.fst/\x.fst<(↑c.length:Int)/\x.fst.toNat<c.length/\(z=true->(h [e m [],g]).same u)/\(z=false->(decide (v<=k)=true->(h [e m [],g]).same u)/\(decide (v<=k)=false->b<=k/\k<v/\k.toNat<p.offers.length/\x.snd.snd.length=x.snd.snd.length/\A*64<=140737488355328/\A<=1000000000000/\bW .i64 n/\((q.same q/\(SV.ow 1 o.length 8).same (SV.ow 1 o.length 8)/\B.same B/\(e m c).same (e m c)/\t.same t/\C.same C/\True)/\r.same r/\D.same D/\True)/\(b<=n/\n<=l/\((↑o.length:Int)<=k+j/\k<f)/\d<=k/\s=ζW (λx ↦(n,k,o).snd.snd++x) (fR p.offers k (γ7 n.toNat c)))/\(l - n).toNat<(l - x.fst).toNat)))/\(decide (x.fst<l)=false->x.snd.snd.length=x.snd.snd.length/\(h [e bn.off x.snd.snd,δw true]).same u)) (by kernel_rfl) ?_;simp only[vcs];have hrow:∀{l:List Off},l=[]->(Ψ (.i .i64) []).same (Ψ .off l):=by rintro l rfl;exact HL.2 trivial
 refine⟨⟨by omega,by omega,by omega,by simp⟩,?_⟩;rintro⟨i,last,out⟩ ⟨hi0,hi1,hlen,hla,hi⟩;simp only at hi0 hi1 hlen hla hi ⊢;refine⟨λhlt=>?_,λhge=>?_⟩
 ·rw[uj (d:=0) hi0 hlt] at hi;generalize hx:bj c i.toNat 0=x at hi ⊢;simp only[fR] at hi;refine⟨by omega,by omega,by omega,λh1=>?_,λh1=>⟨λh2=>?_,λh2=>?_⟩⟩
  ·rw[if_pos (.inl h1)] at hi;exact⟨hrow (by simp[eE,hi]),by simp[jo,hi]⟩
  ·rw[if_pos (.inr (by omega))] at hi;exact⟨hrow (by simp[eE,hi]),by simp[jo,hi]⟩
  ·rw[if_neg (by omega)] at hi;simp only[List.length_append,List.length_singleton];refine⟨by omega,by omega,by omega,by omega,by omega,by omega,⟨by omega,by omega,by omega,by omega,?_⟩,by omega⟩;rw[hi,Option.map_map];congr 1;funext r;simp
 ·rw[show i.toNat=c.length from by omega,εe] at hi;simp only[fR,μ,List.append_nil] at hi;exact⟨by simp[eE,hi],by simp[jo,hi]⟩
def L6:List bL:=pV::Dl::L5
theorem hL6:∀c∈L6,Holds Tryz.prog c:=by
 grind[L6,h79,h133,hL5]
def dc (p:bp) (c:List Int):Int:=if bC p≠0 then bC p else if jo p c=false then 4 else if gd p (eE p c)=false then 14 else 0
def zU:bL:=⟨61,bp×List Int,.cons cY (.one (dV (.i .i64))),λa=>a.2.length<=9223372036854775807,λa=> .si .i64 (dc a.1 a.2)⟩
theorem Qb {p:bp}:∀{l:List Off} {a:List ni},gQ p a l=0->∀x∈l,jJ p x=0
 |[],_,_=>by simp;|o::r,a,h=>by
  simp only[gQ] at h;split at h;·omega
  ·rename_i c;split at h;·cases h
   ·intro x b;rcases γq.1 b with rfl|b;·omega
    ·exact Qb h x b
theorem vK {p:bp} (h:bC p=0):hJ p=0/\∀x∈p.offers,jJ p x=0:=by
 unfold bC at h;split at h;·omega
 ·rename_i a;exact⟨ω.1 a,Qb h⟩
theorem HY {p:bp} {o:Off} (h:jJ p o=0):kz p.classes.length o=0/\o.want≠bz.zero/\gd p [o]=true:=by
 unfold jJ at h;grind
theorem xN {l:List Off}:∀{c:List Int} {a:Int} {r:List Off}, -1<=a->fR l a c=some r->r.length+a+1<=l.length\/r=[]
 |[],a,r,_,h=>by grind[fR];|i::c,a,r,d,h=>by
  simp only[fR] at h;split at h;·cases h
  ·rename_i e;obtain⟨f,b,rfl⟩:=δ.1 h;have:=xN (by omega) b;grind
theorem HZ {l:List Off}:∀{c:List Int} {a:Int} {r:List Off}, -1<=a->fR l a c=some r->∀x∈r,x∈l
 |[],a,r,_,h=>by grind[fR];|i::c,a,r,f,h=>by
  simp only[fR] at h;split at h;·cases h
  ·rename_i e;obtain⟨g,d,rfl⟩:=δ.1 h;intro x b;rcases γq.1 b with rfl|b;·grind[cO]
   ·exact HZ (by omega) d x b
theorem h100:Holds Tryz.prog zU:=by
 refine cG (L:=L6) zU (λp=>λ_=> .look) hL6 ?_;rintro⟨p,c⟩ (n:c.length<=9223372036854775807);refine bO (let a:=γr .i64;let e:=decide (bC p≠(0:Int));let d:=Ξ .i64 (dc p c);let f:=!gd p (eE p c);True/\(e=true->(Ξ .i64 (bC p)).same d)/\(e=false->(c.length<=9223372036854775807/\p.offers.length<=1000)/\((!jo p c)=true->(a 4).same d)/\((!jo p c)=false->(p.classes.length<=8/\(eE p c).length<=1000/\∀(x:Off),x∈eE p c->(0:Int)<=x.bE/\x.bE<(↑p.classes.length:Int)/\x.want.ok=true)/\(f=true->(a 14).same d)/\(f=false->(a 0).same d)))) (by kernel_rfl) ?_;simp only[vcs];refine⟨λh=>by simp[dc,h],λh=>?_⟩;have g:bC p=0:=ω.1 h;obtain⟨m,j⟩:=vK g;obtain⟨s,o,l,q,t⟩:=ui m;refine⟨⟨n,by omega⟩,λa=>by grind[dc],λa=>⟨⟨l,?_,?_⟩,λk=>by grind[dc],λk=>by grind[dc]⟩⟩
 ·unfold jo at a;obtain⟨r,b⟩:=γo.1 a;have:=xN (by omega) b;grind[eE]
 ·unfold jo at a;obtain⟨r,b⟩:=γo.1 a;simp only[eE,b,Option.getD_some];intro x i;have u:=HW (HY (j x (HZ (by omega) b x i))).1;simp_all
def L7:List bL:=zU::L6
theorem hL7:∀c∈L7,Holds Tryz.prog c:=by
 simp only[L7,γs];exact⟨h100,hL6⟩
def bz.sub (a b:bz):bz:=⟨a.a0 - b.a0,a.a1 - b.a1,a.a2 - b.a2,a.a3 - b.a3,a.a4 - b.a4,a.a5 - b.a5⟩
def bz.meet (a b:bz):bz:=⟨min a.a0 b.a0,min a.a1 b.a1,min a.a2 b.a2,min a.a3 b.a3,min a.a4 b.a4,min a.a5 b.a5⟩
def bz.le (a b:bz):Bool:=decide (a.a0<=b.a0)&&decide (a.a1<=b.a1)&&decide (a.a2<=b.a2)&&decide (a.a3<=b.a3)&&decide (a.a4<=b.a4)&&decide (a.a5<=b.a5)
theorem bz.le_iff {a b:bz}:a.le b=true↔a.a0<=b.a0/\a.a1<=b.a1/\a.a2<=b.a2/\a.a3<=b.a3/\a.a4<=b.a4/\a.a5<=b.a5:=by
 simp[bz.le,and_assoc]
theorem aah {x y:Int}:min x y=x↔x<=y:=by
 rw[Int.min_def];split<;>omega
theorem Qc {a b:List SV}:(γG a).same (.agg b)↔gL a=gL b:=by simp[εN,γH]
def Dm:bL:=⟨182,bz×bz,.cons (eG .eD) (.one (eG .eD)),λ_=>True,λa=> .agg (encS .eD (a.1.meet a.2))⟩
theorem h163:Holds Tryz.prog Dm:=by
 refine cG (L:=[]) Dm (λ_=>λ_=> .pP 7) (by simp) ?_;rintro⟨a,b⟩ _;refine bO (let c:=Ξ .i64;(γG [c (min a.a0 b.a0),c (min a.a1 b.a1),c (min a.a2 b.a2),c (min a.a3 b.a3),c (min a.a4 b.a4),c (min a.a5 b.a5)]).same (γG [c (a.meet b).a0,c (a.meet b).a1,c (a.meet b).a2,c (a.meet b).a3,c (a.meet b).a4,c (a.meet b).a5])) (by kernel_rfl) ?_;simp only[vcs,Qc,gL,γH,bz.meet,and_self]
def H3:bL:=⟨148,bz×bz,.cons (eG .eD) (.one (eG .eD)),λ_=>True,λa=> .sb (a.1.le a.2)⟩
theorem h144:Holds Tryz.prog H3:=by
 refine cG (L:=[Dm]) H3 (λ_=>λ_=> .pP 7) (by simpa using h163) ?_;rintro⟨a,b⟩ _;refine bO (True/\(γI (decide ((a.meet b).a0=a.a0)&&(decide ((a.meet b).a1=a.a1)&&(decide ((a.meet b).a2=a.a2)&&(decide ((a.meet b).a3=a.a3)&&(decide ((a.meet b).a4=a.a4)&&(decide ((a.meet b).a5=a.a5)&&true))))))).same (γI (a.le b))) (by kernel_rfl) ?_;simp only[vcs,bz.meet];rw[Bool.eq_iff_iff];simp only[ζ,decide_eq_true_eq,bz.le_iff,δW,aah]
def H4:bL:=⟨149,bz×bz,.cons (eG .eD) (.one (eG .eD)),λa=>a.1.ok=true/\a.2.ok=true,λa=> .agg (encS .eD (a.1.sub a.2))⟩
theorem h145:Holds Tryz.prog H4:=by
 refine cG (L:=[]) H4 (λ_=>λ_=> .pP 7) (by simp) ?_;rintro⟨a,b⟩ ⟨h1,h2⟩;have h1:=bz.eL.1 h1;have h2:=bz.eL.1 h2;simp only at h1 h2;refine bO (let c:=Ξ .i64;let d:=bW .i64;d (a.a0 - b.a0)/\d (a.a1 - b.a1)/\d (a.a2 - b.a2)/\d (a.a3 - b.a3)/\d (a.a4 - b.a4)/\d (a.a5 - b.a5)/\(γG [c (a.a0 - b.a0),c (a.a1 - b.a1),c (a.a2 - b.a2),c (a.a3 - b.a3),c (a.a4 - b.a4),c (a.a5 - b.a5)]).same (γG [c (a.sub b).a0,c (a.sub b).a1,c (a.sub b).a2,c (a.sub b).a3,c (a.sub b).a4,c (a.sub b).a5])) (by kernel_rfl) ?_;simp only[vcs,Qc,gL,γH,bz.sub,and_self];repeat' (first|refine γi ?_ ?_|intro _)
 all_goals first|trivial|omega
def fz (p:bp) (m:Int):Int:=if bC p≠0 then bC p else if m<0\/2^p.classes.length<=m then 4 else 0
def Dn:bL:=⟨106,bp×Int,.cons cY (.one (dX .i64)),λ_=>True,λa=> .si .i64 (fz a.1 a.2)⟩
theorem h112:Holds Tryz.prog Dn:=by
 refine cG (L:=L7) Dn (λ_=>λ_=> .pP 7) hL7 ?_;rintro⟨p,m⟩ _;refine bO (let a:=γr .i64;let b:=(0:Int);let f:=decide (bC p≠b);let c:=Ξ .i64 (fz p m);let g:=decide (m<b);let d:=(↑p.classes.length:Int);let e:=(1:Int)*(2:Int)^d.toNat;True/\(f=true->(Ξ .i64 (bC p)).same c)/\(f=false->(g=true->(a 4).same c)/\(g=false->b<=d/\d<=(64:Int)/\bW .i64 e/\(decide (e<=m)=true->(a 4).same c)/\(decide (e<=m)=false->(a 0).same c)))) (by kernel_rfl) ?_;simp only[vcs];refine⟨λh=>by simp[fz,h],λh=>⟨λh1=>?_,λh1=>?_⟩⟩
 ·have hz:=ω.1 h;simp[fz,hz,h1]
 ·have hz:bC p=0:=ω.1 h;obtain⟨f1,f2,f3,f4,f5⟩:=ui (vK hz).1;have hp:(1:Int)*2^((p.classes.length:Int)).toNat=2^p.classes.length:=by simp
  have hb:(2:Int)^p.classes.length<=256:=by
   have:p.classes.length=0\/p.classes.length=1\/p.classes.length=2\/p.classes.length=3\/p.classes.length=4\/p.classes.length=5\/p.classes.length=6\/p.classes.length=7\/p.classes.length=8:=by omega
   rcases this with h|h|h|h|h|h|h|h|h<;>rw[h]<;>decide
  have hb0:(0:Int)<2^p.classes.length:=Int.pow_pos (by decide);rw[hp];refine⟨by omega,by omega,⟨by omega,by omega⟩,λh2=>?_,λh2=>?_⟩;·simp only[fz,hz,ne_eq,not_true,if_false,if_pos (show m<0\/2^p.classes.length<=m from .inr h2)]
  ·simp only[fz,hz,ne_eq,not_true,if_false,if_neg (show ¬(m<0\/2^p.classes.length<=m) by omega)]
structure L8 where
 (l0 l1 l2 l3 l4 l5 l6 l7:List Off)
structure kA where
 p:bp
 ls:L8
 es:List (Sit×Int)
def iZ (p:bp) (j:Int):List Off:=p.offers.filter λx=>decide (x.bE=j)
def L8.of (p:bp):L8:=⟨iZ p 0,iZ p 1,iZ p 2,iZ p 3,iZ p 4,iZ p 5,iZ p 6,iZ p 7⟩
def kA.o (s:kA):bX:=
 [.cells [.si .i64 s.p.supply.a0,.si .i64 s.p.supply.a1,.si .i64 s.p.supply.a2,.si .i64 s.p.supply.a3,.si .i64 s.p.supply.a4,.si .i64 s.p.supply.a5,
  .si .i64 s.p.opn.a0,.si .i64 s.p.opn.a1,.si .i64 s.p.opn.a2,.si .i64 s.p.opn.a3,.si .i64 s.p.opn.a4,.si .i64 s.p.opn.a5,
  .si .i64 s.p.cls.a0,.si .i64 s.p.cls.a1,.si .i64 s.p.cls.a2,.si .i64 s.p.cls.a3,.si .i64 s.p.cls.a4,.si .i64 s.p.cls.a5,
  .row (.i .i64) s.p.classes,.row .off s.p.offers,.row .off s.ls.l0,.row .off s.ls.l1,.row .off s.ls.l2,.row .off s.ls.l3,.row .off s.ls.l4,.row .off s.ls.l5,.row .off s.ls.l6,.row .off s.ls.l7,.mp 1] 214 29 false,
  .map .sit (.i .i64) true s.es ([0,0,0,0,0,0,0,0,0,0,0,0,0],true) true]
def H5:bX->Option kA
 |[.cells [s0,s1,s2,s3,s4,s5,o0,o1,o2,o3,o4,o5,c0,c1,c2,c3,c4,c5,k,f,l0,l1,l2,l3,l4,l5,l6,l7,.mp 1] 214 29 false,.map sk sv true es ([0,0,0,0,0,0,0,0,0,0,0,0,0],true) true]=>
  match sL [s0,s1,s2,s3,s4,s5,o0,o1,o2,o3,o4,o5,c0,c1,c2,c3,c4,c5,k,f],CN sk sv .sit (.i .i64) es with
  |some p,some es=>match fZ .off l0,fZ .off l1,fZ .off l2,fZ .off l3,fZ .off l4,fZ .off l5,fZ .off l6,fZ .off l7 with
   |some l0,some l1,some l2,some l3,some l4,some l5,some l6,some l7=>some ⟨p,⟨l0,l1,l2,l3,l4,l5,l6,l7⟩,es⟩
   |_,_,_,_,_,_,_,_=>none
  |_,_=>none
 |_=>none
theorem aai {k v k' v':bn} {es:List (k.T×v.T)} {es':List (k'.T×v'.T)} (h:CN k v k' v' es=some es'):k=k'/\v=v'/\HEq es es':=by
 unfold CN at h;split at h
 ·rename_i hh;obtain⟨rfl,rfl⟩:=hh;simp only[γ] at h;exact⟨rfl,rfl,heq_of_eq h⟩
 ·cases h
theorem aaj {o:bX} {s:kA} (h:H5 o=some s):gO o=gO s.o:=by
 unfold H5 at h;split at h
 ·split at h
  ·rename_i p es' h1 h2;split at h
   ·rename_i k0 k1 k2 k3 k4 k5 k6 k7;simp only[γ] at h;obtain⟨rfl,rfl,he⟩:=aai h2;cases he;have hp:=vH h1;subst h;simp only[bp.ss,gL,π,and_true] at hp;simp only[kA.o,gO,ι,γp,bq.g,gL,jI k0,jI k1,jI k2,jI k3,jI k4,jI k5,jI k6,jI k7];simp only[hp]
   ·cases h
  ·cases h
 ·cases h
theorem aak {s t:kA} (h:gO s.o=gO t.o):s=t:=by
 obtain⟨p,⟨l0,l1,l2,l3,l4,l5,l6,l7⟩,es⟩:=s;obtain⟨q,⟨m0,m1,m2,m3,m4,m5,m6,m7⟩,fs⟩:=t;simp only[kA.o,gO,ι,γp,bq.g,gL,π,bQ.cells.injEq,bQ.map.injEq,and_true,true_and] at h;obtain⟨h,he⟩:=h;have hp:p=q:=by
  apply cY.inj;show(γG p.ss).g=(γG q.ss).g;simp only[γH,bp.ss,gL,εE,π,and_true] at h ⊢;simp only[h,and_self]
 subst hp;have hr:∀{a b:List Off},(Ψ .off a).g=(Ψ .off b).g->a=b:=λhab=>(dV .off).inj _ _ hab;have h0:=h.2.2.2.2.2.2.2.2.2.2.2.2.2.2.2.2.2.2.2.2;obtain⟨h0,h1,h2,h3,h4,h5,h6,h7⟩:=h0;have e0:=hr h0;have e1:=hr h1;have e2:=hr h2;have e3:=hr h3;have e4:=hr h4;have e5:=hr h5;have e6:=hr h6;have e7:=hr h7;subst e0 e1 e2 e3 e4 e5 e6 e7;have hes:es=fs:=by
  revert fs;induction es with
  |nil=>intro fs he;cases fs with
   |nil=>rfl;|cons=>simp at he
  |cons a es ih=>
   intro fs he;cases fs with
   |nil=>simp at he;|cons b fs=>
    simp only[ι,π,κ] at he;obtain⟨⟨h1,h2⟩,h3⟩:=he;have hb:=ih fs h3;obtain⟨a1,a2⟩:=a;obtain⟨b1,b2⟩:=b;simp only[oR,if_true,Value.agg.injEq,mJ,dI,List.headD_cons,γX,Value.int.injEq,true_and] at h1 h2;have h1:=rJ .sit a1 b1 (by simpa[dI] using h1);rw[hb,h1,h2]
 rw[hes]
def xO:List bL:=Dn::H3::H4::Dm::L7
theorem Dp:∀c∈xO,Holds Tryz.prog c:=by
 simp only[xO,γs];exact⟨h112,h144,h145,h163,hL7⟩
def Dq (f:FuncId) (β:Type) (A:qI β) (dom:kA×β->Prop) (res:kA×β->SV) (out:kA×β->kA):cZ where
 f:=f;α:=kA×β;put a:=.ptr 0 0 29::A.put a.2;st a:=a.1.o;dec v o:=match v with
  | .ptr 0 0 29::r=>match H5 o,A.dec r with
   |some s,some b=>some (s,b)
   |_,_=>none
  |_=>none;ok v o a h:=by
  split at h
  ·split at h
   ·rename_i h1 h2;simp only[γ] at h;subst h;exact⟨by simp only[gL,A.ok _ _ h2],aaj h1⟩
   ·cases h
  ·cases h
 inj a b h1 h2:=by
  simp only[gL,π,true_and] at h1;exact Prod.ext (aak h2) (A.inj _ _ h1)
 dom:=dom;res:=res;out a:=(out a).o
def Dt:cZ:=Dq 109 Int (.one (dX .i64)) (λ_=>True) (λa=> .agg (encS .sit ⟨a.2,a.1.p.supply,a.1.p.opn⟩)) (λa=>a.1)
theorem h114:dJ Tryz.prog Dt:=by
 refine jm (L:=[]) (W:=[]) Dt lk (by simp) (by simp) ?_;rintro⟨s,m⟩ _;refine bO (let a:=Ξ .i64;let b:=Ψ;let c:=a s.p.supply.a0;let d:=a s.p.supply.a1;let e:=a s.p.supply.a2;let f:=a s.p.supply.a3;let g:=a s.p.supply.a4;let h:=a s.p.supply.a5;let j:=a s.p.opn.a0;let k:=a s.p.opn.a1;let l:=a s.p.opn.a2;let n:=a s.p.opn.a3;let o:=a s.p.opn.a4;let q:=a s.p.opn.a5;let r:=γG [a m,c,d,e,f,g,h,j,k,l,n,o,q];let t:=bq.cells [c,d,e,f,g,h,j,k,l,n,o,q,a s.p.cls.a0,a s.p.cls.a1,a s.p.cls.a2,a s.p.cls.a3,a s.p.cls.a4,a s.p.cls.a5,b (bn.i .i64) s.p.classes,b bn.off s.p.offers,b bn.off s.ls.l0,b bn.off s.ls.l1,b bn.off s.ls.l2,b bn.off s.ls.l3,b bn.off s.ls.l4,b bn.off s.ls.l5,b bn.off s.ls.l6,b bn.off s.ls.l7,SV.mp 1] 214 29 false;let u:=bq.map bn.sit (bn.i .i64) true s.es ([0,0,0,0,0,0,0,0,0,0,0,0,0],true) true;r.same r/\t.same t/\u.same u/\True) (by kernel_rfl) ?_;simp only[vcs]
def oc (c w a j k:Int):Int:=if j<k/\(c=0\/c=a) then 0 else w
def hZ (p:bp) (x:Off):Int:=bj p.classes x.bE.toNat 0
def eM (p:bp) (x:Off) (k:Int):bz:=⟨oc p.cls.a0 x.want.a0 (hZ p x) 0 k,oc p.cls.a1 x.want.a1 (hZ p x) 1 k,oc p.cls.a2 x.want.a2 (hZ p x) 2 k,oc p.cls.a3 x.want.a3 (hZ p x) 3 k,oc p.cls.a4 x.want.a4 (hZ p x) 4 k,oc p.cls.a5 x.want.a5 (hZ p x) 5 k⟩
def dU (p:bp) (x:Off):bz:=eM p x 6
def H6:cZ:=Dq 147 Off (.one (eG .off)) (λa=>0<=a.2.bE/\a.2.bE<a.1.p.classes.length) (λa=> .agg (encS .eD (dU a.1.p a.2))) (λa=>a.1)
def aal (a:kA×Off):Nat->cC
 |3=> .inv Int (λk=>⟨[(0,.ptr 0 0 29),(3,.ptr 2 0 8),(4,.ptr 3 0 6),(5,.ptr 4 0 6),(9,.si .i64 k)],a.1.o++[.cells (encS .off a.2) 39 8 false,.cells [.il .i64 0,.il .i64 0,.il .i64 0,.il .i64 0,.il .i64 0,.il .i64 0] 23 6 false,.cells (encS .eD (eM a.1.p a.2 k)) 23 6 false]⟩) (λs=>iS s 9)
  (λk=>0<=k/\k<=6) (λk=>(6 - k).toNat) λ_ _=> .look
 |_=> .look
theorem h143:dJ Tryz.prog H6:=by
 refine jm (L:=[]) (W:=[]) H6 aal (by simp) (by simp) ?_;rintro⟨s,x⟩ ⟨h1,h2⟩;simp only at h1 h2;refine bO (let a:=Ξ .i64;let b:=(0:Int);let c:=(6:Int);let d:=bq.cells;let e:=Ψ;let f:=γV;let m:=f 0 0 29;let n:=f 2 0 8;let o:=f 3 0 6;let q:=f 4 0 6;let l:=γr .i64 0;let j:=d [a s.p.supply.a0,a s.p.supply.a1,a s.p.supply.a2,a s.p.supply.a3,a s.p.supply.a4,a s.p.supply.a5,a s.p.opn.a0,a s.p.opn.a1,a s.p.opn.a2,a s.p.opn.a3,a s.p.opn.a4,a s.p.opn.a5,a s.p.cls.a0,a s.p.cls.a1,a s.p.cls.a2,a s.p.cls.a3,a s.p.cls.a4,a s.p.cls.a5,e (bn.i .i64) s.p.classes,e bn.off s.p.offers,e bn.off s.ls.l0,e bn.off s.ls.l1,e bn.off s.ls.l2,e bn.off s.ls.l3,e bn.off s.ls.l4,e bn.off s.ls.l5,e bn.off s.ls.l6,e bn.off s.ls.l7,SV.mp 1] 214 29 false;let k:=bq.map bn.sit (bn.i .i64) true s.es ([0,0,0,0,0,0,0,0,0,0,0,0,0],true) true;let z:=a x.want.a0;let A:=a x.want.a1;let B:=a x.want.a2;let C:=a x.want.a3;let D:=a x.want.a4;let E:=a x.want.a5;let r:=d [a x.bE,z,A,B,C,D,E,a x.value] 39 8 false;let t:=d [l,l,l,l,l,l] 23 6 false;let u:=eM s.p x b;let M:=[s.p.cls.a0,s.p.cls.a1,s.p.cls.a2,s.p.cls.a3,s.p.cls.a4,s.p.cls.a5];(((m.same m/\n.same n/\o.same o/\q.same q/\l.same (a 0)/\True)/\j.same j/\k.same k/\r.same r/\t.same t/\(d [z,A,B,C,D,E] 23 6 false).same (d [a u.a0,a u.a1,a u.a2,a u.a3,a u.a4,a u.a5] 23 6 false)/\True)/\b<=b/\b<=c)/\∀(x_1:Int),let h:=x_1+(1:Int);let y:=a h;let g:=eM s.p x x_1;let v:=eM s.p x h;let F:=d [a v.a0,a v.a1,a v.a2,a v.a3,a v.a4,a v.a5] 23 6 false;let G:=decide (x_1<c);let H:=bj M x_1.toNat b;let I:=decide (H=b);let J:=decide (H=bj s.p.classes x.bE.toNat b);let K:=[a g.a0,a g.a1,a g.a2,a g.a3,a g.a4,a g.a5];let w:=dU s.p x;let L:=b<=x_1/\x_1<c/\x_1.toNat<6/\bW .i64 h/\((m.same m/\n.same n/\o.same o/\q.same q/\y.same y/\True)/\j.same j/\k.same k/\r.same r/\t.same t/\(d [a (if x_1.toNat=0 then b else g.a0),a (if x_1.toNat=1 then b else g.a1),a (if x_1.toNat=2 then b else g.a2),a (if x_1.toNat=3 then b else g.a3),a (if x_1.toNat=4 then b else g.a4),a (if x_1.toNat=5 then b else g.a5)] 23 6 false).same F/\True)/\(b<=h/\h<=c)/\(c - h).toNat<(c - x_1).toNat;b<=x_1/\x_1<=c->(G=true->b<=x_1/\x_1<c/\x_1.toNat<6/\(I=true->L)/\(I=false->b<=x_1/\x_1<c/\x_1.toNat<6/\b<=x.bE/\x.bE<(↑s.p.classes.length:Int)/\x.bE.toNat<s.p.classes.length/\(J=true->L)/\(J=false->bW .i64 h/\((m.same m/\n.same n/\o.same o/\q.same q/\y.same y/\True)/\j.same j/\k.same k/\r.same r/\t.same t/\(d K 23 6 false).same F/\True)/\(b<=h/\h<=c)/\(c - h).toNat<(c - x_1).toNat)))/\(G=false->(γG K).same (γG [a w.a0,a w.a1,a w.a2,a w.a3,a w.a4,a w.a5])/\j.same j/\k.same k/\True)) (by kernel_rfl) ?_;simp only[vcs];have hc:∀{a0 a1 a2 a3 a4 a5 b0 b1 b2 b3 b4 b5:Int},a0=b0/\a1=b1/\a2=b2/\a3=b3/\a4=b4/\a5=b5->
   (bq.cells [Ξ .i64 a0,Ξ .i64 a1,Ξ .i64 a2,Ξ .i64 a3,Ξ .i64 a4,Ξ .i64 a5] 23 6 false).same (bq.cells [Ξ .i64 b0,Ξ .i64 b1,Ξ .i64 b2,Ξ .i64 b3,Ξ .i64 b4,Ξ .i64 b5] 23 6 false):=by
  rintro _ _ _ _ _ _ _ _ _ _ _ _ ⟨rfl,rfl,rfl,rfl,rfl,rfl⟩;rfl
 have xQ:∀c w cl j:Int,0<=j->oc c w cl j 0=w:=λc w cl j hj=>by unfold oc;rw[if_neg (by omega)]
 have agO:∀c w cl j k:Int,j≠k->oc c w cl j (k+1)=oc c w cl j k:=λc w cl j k hj=>by
  unfold oc;by_cases h:j<k/\(c=0\/c=cl);·rw[if_pos h,if_pos ⟨by omega,h.2⟩]
  ·rw[if_neg h,if_neg (by omega)]
 have agP:∀c w cl k:Int,(c=0\/c=cl)->oc c w cl k (k+1)=0:=λc w cl k h=>by unfold oc;rw[if_pos ⟨by omega,h⟩]
 have agQ:∀c w cl k:Int,¬(c=0\/c=cl)->oc c w cl k (k+1)=oc c w cl k k:=λc w cl k h=>by
  unfold oc;rw[if_neg (by omega),if_neg (by omega)]
 have hset:∀k:Int,0<=k->k<6->(bj [s.p.cls.a0,s.p.cls.a1,s.p.cls.a2,s.p.cls.a3,s.p.cls.a4,s.p.cls.a5] k.toNat 0=0\/bj [s.p.cls.a0,s.p.cls.a1,s.p.cls.a2,s.p.cls.a3,s.p.cls.a4,s.p.cls.a5] k.toNat 0=hZ s.p x)->
   (if k.toNat=0 then 0 else(eM s.p x k).a0)=(eM s.p x (k+1)).a0/\(if k.toNat=1 then 0 else(eM s.p x k).a1)=(eM s.p x (k+1)).a1/\(if k.toNat=2 then 0 else(eM s.p x k).a2)=(eM s.p x (k+1)).a2/\
   (if k.toNat=3 then 0 else(eM s.p x k).a3)=(eM s.p x (k+1)).a3/\(if k.toNat=4 then 0 else(eM s.p x k).a4)=(eM s.p x (k+1)).a4/\(if k.toNat=5 then 0 else(eM s.p x k).a5)=(eM s.p x (k+1)).a5:=by
  intro k hk0 Qd hcl;have hk:k=0\/k=1\/k=2\/k=3\/k=4\/k=5:=by omega
  rcases hk with rfl|rfl|rfl|rfl|rfl|rfl<;>simp[bj] at hcl<;>simp[eM,oc,hcl]
 have hkeep:∀k:Int,0<=k->k<6->¬(bj [s.p.cls.a0,s.p.cls.a1,s.p.cls.a2,s.p.cls.a3,s.p.cls.a4,s.p.cls.a5] k.toNat 0=0\/bj [s.p.cls.a0,s.p.cls.a1,s.p.cls.a2,s.p.cls.a3,s.p.cls.a4,s.p.cls.a5] k.toNat 0=hZ s.p x)->
   (eM s.p x k).a0=(eM s.p x (k+1)).a0/\(eM s.p x k).a1=(eM s.p x (k+1)).a1/\(eM s.p x k).a2=(eM s.p x (k+1)).a2/\
   (eM s.p x k).a3=(eM s.p x (k+1)).a3/\(eM s.p x k).a4=(eM s.p x (k+1)).a4/\(eM s.p x k).a5=(eM s.p x (k+1)).a5:=by
  intro k hk0 Qd hcl;have hk:k=0\/k=1\/k=2\/k=3\/k=4\/k=5:=by omega
  rcases hk with rfl|rfl|rfl|rfl|rfl|rfl<;>simp[bj] at hcl<;>simp[eM,oc,hcl]
 refine⟨⟨hc ⟨by simp[eM,xQ],by simp[eM,xQ],by simp[eM,xQ],by simp[eM,xQ],by simp[eM,xQ],by simp[eM,xQ]⟩,by omega,by omega⟩,?_⟩;rintro k ⟨hk0,Qd⟩;refine⟨λhlt=>⟨by omega,by omega,by omega,λhA=>⟨by omega,by omega,by omega,by omega,hc (hset k hk0 hlt (.inl hA)),by omega,by omega⟩,λhA=>⟨by omega,by omega,by omega,by omega,by omega,by omega,
  λhB=>⟨by omega,by omega,by omega,by omega,hc (hset k hk0 hlt (.inr hB)),by omega,by omega⟩,λhB=>⟨by omega,hc (hkeep k hk0 hlt (by rintro(h|h);exact hA h;exact hB h)),by omega,by omega⟩⟩⟩,λhge=>?_⟩;have:k=6:=by omega
 subst this;rfl
def Sit.b (a:Sit):Prop:=a.left.ok=true/\a.opn.ok=true
def fitsAt (p:bp) (a:Sit) (x:Off):Bool:=x.want.le a.left&&(dU p x).le a.opn
def eK (p:bp) (a:Sit) (x:Off):Sit:=⟨eI.pO .i64 a.members (2^x.bE.toNat),a.left.sub x.want,a.opn.sub (dU p x)⟩
def Sit.zero:Sit:=⟨0,bz.zero,bz.zero⟩
def pW (p:bp) (a:Sit) (x:Off):Sit:=if fitsAt p a x=true then eK p a x else Sit.zero
theorem xR {c w cl j k:Int} (h:0<=w/\w<=4):0<=oc c w cl j k/\oc c w cl j k<=4:=by
 unfold oc;split<;>omega
theorem H7 {p:bp} {x:Off} (h:x.want.ok=true):(dU p x).ok=true:=by
 have h:=bz.eL.1 h;exact bz.eL.2 ⟨xR h.1,xR h.2.1,xR h.2.2.1,xR h.2.2.2.1,xR h.2.2.2.2.1,xR h.2.2.2.2.2⟩
def Du:cZ:=Dq 110 (Sit×Off) (.cons (eG .sit) (.one (eG .off))) (λa=>a.1.p.classes.length<=8/\0<=a.2.2.bE/\a.2.2.bE<a.1.p.classes.length/\a.2.1.b/\a.2.2.want.ok=true)
 (λa=> .bH [.agg (encS .sit (pW a.1.p a.2.1 a.2.2)),.sb (fitsAt a.1.p a.2.1 a.2.2)]) (λa=>a.1)
theorem h116:dJ Tryz.prog Du:=by
 refine jm (L:=xO) (W:=[H6]) Du lk (by simpa using h143) Dp ?_;rintro⟨s,a,x⟩ ⟨h1,h2,h3,h4,h5⟩;simp only at h1 h2 h3 h4 h5;refine bO (let b:=Ξ .i64;let c:=Ψ;let d:=γG;let e:=SV.bH;let f:=γr .i64 0;let g:=pW s.p a x;let h:=g.left;let n:=e [d [b g.members,b h.a0,b h.a1,b h.a2,b h.a3,b h.a4,b h.a5,b g.opn.a0,b g.opn.a1,b g.opn.a2,b g.opn.a3,b g.opn.a4,b g.opn.a5],γI (fitsAt s.p a x)];let l:=bq.cells [b s.p.supply.a0,b s.p.supply.a1,b s.p.supply.a2,b s.p.supply.a3,b s.p.supply.a4,b s.p.supply.a5,b s.p.opn.a0,b s.p.opn.a1,b s.p.opn.a2,b s.p.opn.a3,b s.p.opn.a4,b s.p.opn.a5,b s.p.cls.a0,b s.p.cls.a1,b s.p.cls.a2,b s.p.cls.a3,b s.p.cls.a4,b s.p.cls.a5,c (bn.i .i64) s.p.classes,c bn.off s.p.offers,c bn.off s.ls.l0,c bn.off s.ls.l1,c bn.off s.ls.l2,c bn.off s.ls.l3,c bn.off s.ls.l4,c bn.off s.ls.l5,c bn.off s.ls.l6,c bn.off s.ls.l7,SV.mp 1] 214 29 false;let m:=bq.map bn.sit (bn.i .i64) true s.es ([0,0,0,0,0,0,0,0,0,0,0,0,0],true) true;let o:=!(dU s.p x).le a.opn;let q:=(1:Int)*(2:Int)^x.bE.toNat;let j:=a.left.sub x.want;let k:=a.opn.sub (dU s.p x);let r:=(e [d [f,f,f,f,f,f,f,f,f,f,f,f,f],δw false]).same n/\l.same l/\m.same m/\True;((0:Int)<=x.bE/\x.bE<(↑s.p.classes.length:Int))/\True/\((!x.want.le a.left)=true->r)/\((!x.want.le a.left)=false->True/\(o=true->r)/\(o=false->(0:Int)<=x.bE/\x.bE<=(64:Int)/\bW .i64 q/\(a.left.ok=true/\x.want.ok=true)/\(a.opn.ok=true/\(dU s.p x).ok=true)/\(e [d [b (eI.pO .i64 a.members q),b j.a0,b j.a1,b j.a2,b j.a3,b j.a4,b j.a5,b k.a0,b k.a1,b k.a2,b k.a3,b k.a4,b k.a5],δw true]).same n/\l.same l/\m.same m/\True))) (by kernel_rfl) ?_;simp only[vcs];have hz:∀b:Sit,b=Sit.zero->(γG [γr .i64 0,γr .i64 0,γr .i64 0,γr .i64 0,γr .i64 0,γr .i64 0,γr .i64 0,γr .i64 0,γr .i64 0,γr .i64 0,γr .i64 0,γr .i64 0,γr .i64 0]).same
   (γG [Ξ .i64 b.members,Ξ .i64 b.left.a0,Ξ .i64 b.left.a1,Ξ .i64 b.left.a2,Ξ .i64 b.left.a3,Ξ .i64 b.left.a4,Ξ .i64 b.left.a5,Ξ .i64 b.opn.a0,Ξ .i64 b.opn.a1,Ξ .i64 b.opn.a2,Ξ .i64 b.opn.a3,Ξ .i64 b.opn.a4,Ξ .i64 b.opn.a5]):=by
  rintro b rfl;rfl
 have h2b:(1:Int)*2^x.bE.toNat<=256/\0<(1:Int)*2^x.bE.toNat:=by
  have:x.bE.toNat=0\/x.bE.toNat=1\/x.bE.toNat=2\/x.bE.toNat=3\/x.bE.toNat=4\/x.bE.toNat=5\/x.bE.toNat=6\/x.bE.toNat=7:=by omega
  rcases this with h|h|h|h|h|h|h|h<;>rw[h]<;>decide
 refine⟨⟨h2,h3⟩,λhw=>?_,λhw=>⟨λho=>?_,λho=>?_⟩⟩
 ·have hf:fitsAt s.p a x=false:=by simp[fitsAt,hw]
  exact⟨hz _ (by simp[pW,hf]),hf.symm⟩
 ·have hf:fitsAt s.p a x=false:=by simp[fitsAt,ho]
  exact⟨hz _ (by simp[pW,hf]),hf.symm⟩
 ·have hf:fitsAt s.p a x=true:=by simp[fitsAt,hw,ho]
  have ha:pW s.p a x=eK s.p a x:=by simp[pW,hf]
  refine⟨by omega,by omega,by omega,⟨h4.1,h5⟩,⟨h4.2,H7 h5⟩,?_,hf.symm⟩;rw[ha];simp only[eK,Int.one_mul];rfl
end Go.Vi
namespace Go.Proofs.YtjcmncmajmoiiaaGreat
open Go.ChangeShapes Go.WideShapes Go.ChangeAt Go.RowKit Go.Vi
theorem Tryz.own:ownKnob Tryz.prog.godebug=none:=by kernel_rfl
theorem Tryz.laidOut:laidOutB Tryz.prog=true:=by kernel_rfl
theorem aam:Reads Tryz.prog 3 (.i .i64):=ZN Tryz.underlying3
theorem Qe:Reads Tryz.prog 23 .eD:=ZR Tryz.underlying23 Tryz.underlying3 (by kernel_rfl) (by kernel_rfl)
theorem aan:Reads Tryz.prog 39 .off:=ZS Tryz.underlying39 (by kernel_rfl) rfl rfl rfl Tryz.underlying3 (by kernel_rfl) Tryz.underlying2 (by kernel_rfl) Qe (by kernel_rfl) rfl
theorem aao {H:Type} {enc:TypeId×Value->H} {w:World} {a:Nat->Bool} {c:Bool} {b:Nat} {cs:List Value} {x:DataW H×List MemPlace} (h:DataW.trod enc Tryz.prog w 0 a c b 27 cs=some x):
  ∃p:bp,bD nu w [] [] (gL p.ss) cs:=
 ZT Tryz.underlying27 (by kernel_rfl) rfl rfl rfl rfl rfl rfl Qe (by kernel_rfl) Tryz.underlying24 aam (by kernel_rfl) (by kernel_rfl) Tryz.underlying25 aan (by kernel_rfl) (by kernel_rfl) h
theorem aap {f:FuncId} {args:List SV} (h:lv Tryz.prog f (gL args) [] (γI true).g []) {W:World} {vs:List Value} (d:bD nu W [] [] (gL args) vs):
  Calls Tryz.prog f vs.toArray W λe c=>e= .returned (.bool true)/\Below W.heap.size W c:=by
 refine(h nu W [] vs (B5 W (λb a=>a.elim)) d).mono ?_;grind[γH,bw,ZV]
end Go.Proofs.YtjcmncmajmoiiaaGreat
namespace Go.Vi
open Go.ChangeShapes Go.WideShapes Go.RowKit
def aaq (P:Program) (t:TypeId) (s:bn) (Q:s.T->Prop):Prop:=
 ∀(H:Type) (d:TypeId×Value->H) (w:World) (a:Nat->Bool) (c:Bool) (b:Nat) (e:List Value) (x:DataW H×List MemPlace),DataW.trod d P w 0 a c b t e=some x->∃y:s.T,Q y/\bD nu w [] [] (dM s y) e
theorem Db.q {P:Program} {t:TypeId} {s:bn} (h:Db P t s):aaq P t s λ_=>True:=λH d w a c b e x f=>by
 obtain⟨y,g⟩:=h H d w a c b e x f;grind
end Go.Vi
namespace Go.Proofs.YtjcmncmajmoiiaaGreat
open Go.ChangeShapes Go.WideShapes Go.ChangeAt Go.RowKit Go.Vi
end Go.Proofs.YtjcmncmajmoiiaaGreat
