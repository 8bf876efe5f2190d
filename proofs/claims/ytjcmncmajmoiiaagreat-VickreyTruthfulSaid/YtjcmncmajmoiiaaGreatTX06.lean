/-
  The auction's problems and allocations, and how they lie in values.
  Conditions: none.
-/
import Derived.Test.YtjcmncmajmoiiaaGreatTX05
import Derived.Test.YtjcmncmajmoiiaaGreatTX01
import Derived.KernelRfl
import Derived.Deep.Slices
import Derived.OpenShut
import Derived.ProofKit
import Derived.Test.YtjcmncmajmoiiaaGreatRows
set_option maxRecDepth 100000
set_option maxHeartbeats 4000000
set_option linter.all false
open And renaming intro->γj
open Bool renaming false_eq_true->φ,not_eq_false->ζo,and_eq_true->θ,and_true->δX
open Classical renaming choose->δW,choose_spec->εm,not_not->Γ
open Go.Vi.AV renaming ren->δD
open Go.Vi.AV.agg renaming injEq->εE
open Go.Vi.AV.sc renaming injEq->γZ
open Go.Vi.AV.sl renaming injEq->εf
open Go.Vi.SV renaming g->γF,row->Φ,si->γe,same->εZ,il->γq,sb->γI,bl->δs,ptr->γW,agg->γK
open List renaming all_eq_true->Θ,take->γd,map_cons->ι,length_range->ζq,range->τ,getElem?_eq_getElem->ξ,take_length->χ,forall_mem_cons->γG,map->γh,drop->δi,drop_length->ε0,mem_cons->γp,map_nil->γs
open List.cons renaming injEq->π
open Nat renaming beq->δz
open Option renaming map_eq_some_iff->δ,map_some->μ,bind_some->δV,map->ζs,isSome_iff_exists->γk
open Option.some renaming injEq->γ
open Prod.mk renaming injEq->κ
namespace Go.Vi
structure bp where
 supply:bz
 opn:bz
 cls:bz
 classes:List Int
 offers:List Off
structure Alloc where
 chosen:List Int
 value:Int
def bp.ss (p:bp):List SV:=
 [.si .i64 p.supply.a0,.si .i64 p.supply.a1,.si .i64 p.supply.a2,.si .i64 p.supply.a3,.si .i64 p.supply.a4,.si .i64 p.supply.a5,
  .si .i64 p.opn.a0,.si .i64 p.opn.a1,.si .i64 p.opn.a2,.si .i64 p.opn.a3,.si .i64 p.opn.a4,.si .i64 p.opn.a5,
  .si .i64 p.cls.a0,.si .i64 p.cls.a1,.si .i64 p.cls.a2,.si .i64 p.cls.a3,.si .i64 p.cls.a4,.si .i64 p.cls.a5,
  .row (.i .i64) p.classes,.row .off p.offers]
def sg:List SV->Option bp
 |[g,v,b,q,d,x,a,n,w,h,j,l,t,p,r,u,e,m,k,f]=>match jB .dX [g,v,b,q,d,x],jB .dX [a,n,w,h,j,l],jB .dX [t,p,r,u,e,m],fW (.i .i64) k,fW .off f with
  |some s,some o,some c,some k,some f=>some ⟨s,o,c,k,f⟩
  |_,_,_,_,_=>none
 |_=>none
theorem vn {cs:List SV} {p:bp} (h:sg cs=some p):gL cs=gL p.ss:=by
 unfold sg at h;split at h
 ·split at h
  ·rename_i s o c k f a i b e d
   simp only[γ] at h;subst h
   have a:=nI a
   have i:=nI i
   have b:=nI b
   have e:=jE e
   have d:=jE d
   simp_all[dJ,dE,bp.ss,gL,γF,iv]
  ·cases h
 ·cases h
def dG:pA bp where
 put p:=.agg p.ss
 dec
  | .agg c=>sg c
  |_=>none
 ok v a h:=by
  grind[γF,vn]
 inj a b h:=by
  obtain⟨⟨a0,a1,a2,a3,M,o⟩,⟨A,l,e,b3,I,b5⟩,⟨H,V,Y,J,x,j⟩,k,f⟩:=a
  obtain⟨⟨d,t,d2,Z,d4,X⟩,⟨N,R,u,y,S,e5⟩,⟨f0,E,f2,f3,O,q⟩,W,B⟩:=b
  simp only[γF,bp.ss,gL,εE,π,and_true,γZ,Value.int.injEq,true_and,εf] at h
  obtain⟨h0,h1,F,P,Q,z,C,L,g2,U,G,T,w,K,k2,r,D,k5,m,n⟩:=h
  have s:=lK (.i .i64) m.1 m.2
  have n2:=lK .off n.1 n.2
  simp_all
def lj:pA Alloc where
 put a:=.agg [.row (.i .i64) a.chosen,.si .i64 a.value]
 dec
  | .agg [r,v]=>match fW (.i .i64) r,v.int .i64 with
   |some c,some v=>some ⟨c,v⟩
   |_,_=>none
  |_=>none
 ok v a h:=by
  grind[γF,gL,jE,gX]
 inj a b h:=by
  obtain⟨c,v⟩:=a
  obtain⟨e,f⟩:=b
  simp only[γF,gL,εE,π,and_true,γZ,Value.int.injEq,true_and,εf] at h
  have d:=lK (.i .i64) h.1.1 h.1.2
  rw[d,h.2]
def oJ:TypeId->Option bn
 |2=>some (.i .i64)
 |3=>some (.i .i64)
 |24=>some (.bK (.i .i64))
 |235=>some (.i .u32)
 |157=>some (.pair .b (.pair (.bK (.i .u32)) (.bK (.i .u32))))
 |41=>some (.pair (.bK (.i .i64)) (.i .i64))
 |91=>some (.bK (.pair .b (.pair (.bK (.i .u32)) (.bK (.i .u32)))))
 |255=>some (.pair (.bK (.pair .b (.pair (.bK (.i .u32)) (.bK (.i .u32))))) (.pair .b (.pair (.bK (.i .u32)) (.bK (.i .u32)))))
 |4=>some .b
 |93=>some (.pair (.i .i64) (.pair (.i .i64) (.pair (.i .i64) (.pair (.i .i64) (.bK (.pair .b (.pair (.bK (.i .u32)) (.bK (.i .u32)))))))))
 |39=>some .off
 |_=>none
def oK:List Nat×Bool->Option (bn×bn)
 |([0,0,0,0,0,0,0],true)=>some (.key,.b)
 |([0,0,0,0,0,0,0,0,0,0,0,0,0],true)=>some (.sit,.i .i64)
 |_=>none
mutual
def SV.ren (m:Nat->Option Nat):SV->Option SV
 | .agg cs=>(rf m cs).map .agg
 | .bH cs=>(rf m cs).map .bH
 | .ptr id off tot=>(m id).map λi=> .ptr i off tot
 | .ap id a b c d e=>(m id).map λi=> .ap i a b c d e
 | .rp id a b c d=>(m id).map λi=> .rp i a b c d
 | .ow id n sz=>(m id).map λi=> .ow i n sz
 | .os id a b c d=>(m id).map λi=> .os i a b c d
 | .oc id a b c d=>(m id).map λi=> .oc i a b c d
 | .mp id=>(m id).map .mp
 | .fn f a b=>match rf m a,rf m b with
  |some a',some b'=>some (.fn f a' b')
  |_,_=>none
 | .ud=>some .ud
 | .sc v=>some (.sc v)
 | .il k n=>some (.il k n)
 | .si k n=>some (.si k n)
 | .bl b=>some (.bl b)
 | .sb b=>some (.sb b)
 | .row s l=>some (.row s l)
 | .ep s l i o=>some (.ep s l i o)
 | .ia t cs=>some (.ia t cs)
 | .ite c a b=>some (.ite c a b)
def rf (m:Nat->Option Nat):List SV->Option (List SV)
 |[]=>some []
 |c::cs=>match c.ren m,rf m cs with
  |some c',some cs'=>some (c'::cs')
  |_,_=>none
end
mutual
theorem Hk {m:Nat->Option Nat}:∀{v v':SV},v.ren m=some v'->v.g.ren m=some v'.g
 | .agg cs,v',h=>by
  simp only[SV.ren] at h
  obtain⟨cs',h1,rfl⟩:=δ.1 h
  simp only[γF,δD,vo h1,μ]
 | .bH cs,v',h=>by
  simp only[SV.ren] at h
  obtain⟨cs',h1,rfl⟩:=δ.1 h
  simp only[γF,δD,vo h1,μ]
 | .fn f a b,v',h=>by
  simp only[SV.ren] at h;split at h
  ·rename_i a' b' h1 h2
   simp only[γ] at h;subst h
   simp only[γF,δD,vo h1,vo h2]
  ·cases h
 | .ptr id _ _,v',h| .ap id _ _ _ _ _,v',h| .rp id _ _ _ _,v',h| .ow id _ _,v',h| .os id _ _ _ _,v',h| .oc id _ _ _ _,v',h| .mp id,v',h=>by
  simp only[SV.ren] at h
  obtain⟨i,h1,rfl⟩:=δ.1 h
  simp only[γF,δD,h1,μ]
 | .ud,v',h| .sc _,v',h| .il _ _,v',h| .si _ _,v',h| .bl _,v',h| .sb _,v',h| .row _ _,v',h| .ep _ _ _ _,v',h| .ia _ _,v',h| .ite _ _ _,v',h=>by
  simp only[SV.ren,γ] at h;subst h;simp only[γF,δD]
theorem vo {m:Nat->Option Nat}:∀{l l':List SV},rf m l=some l'->iz m (gL l)=some (gL l')
 |[],l',h=>by simp[rf] at h;subst h;simp[gL,iz]
 |c::cs,l',h=>by
  simp only[rf] at h;split at h
  ·rename_i c' cs' h1 h2
   simp only[γ] at h;subst h
   simp only[gL,iz,Hk h1,vo h2]
  ·cases h
end
def bq.ren (m:Nat->Option Nat):bq->Option bq
 | .cells d e c a=>if a then some (.cells d e c a) else(rf m d).map λb=> .cells b e c a
 | .dead=>some .dead
 | .row s l e a=>some (.row s l e a)
 | .map j f g h i a=>some (.map j f g h i a)
 | .oz .. =>none
theorem O5 {m:Nat->Option Nat}:∀{l:List AV},(∀a∈l,Plain a)->iz m l=some l
 |[],_=>by simp[iz]
 |a::e,h=>by
  have d:=O5 (m:=m) (l:=e) λb c=>h b (by simp[c])
  rcases h a (by simp) with⟨v,rfl,_⟩|⟨n,f,rfl,_⟩<;>simp only[iz,δD,d]
theorem O6 {m:Nat->Option Nat}:∀{l:List (Value×AV)},(∀a∈l,∃v,a.2= .sc v)->oo m l=some l
 |[],_=>by simp[oo]
 |(k,c)::e,h=>by
  obtain⟨v,b⟩:=h (k,c) (by simp)
  simp only at b
  subst b
  simp only[oo,δD,O6 (l:=e) λa d=>h a (by simp[d])]
theorem Hl {b sv:bn} {d:Bool} {es:List (b.T×sv.T)}:∀a∈es.map (λp=>(oC b d p.1,my sv p.2)),∃v,a.2= .sc v:=λa c=>by
 obtain⟨q,_,rfl⟩:=List.mem_map.1 c
 exact⟨_,rfl⟩
theorem O7 {m:Nat->Option Nat} {x y:bq} (h:x.ren m=some y):x.g.ren m=some y.g:=by
 cases x with
 |dead=>simp[bq.ren] at h;subst h;rfl
 |cells o e k a=>
  simp only[bq.ren] at h
  cases a with
  |true=>simp only[if_true,γ] at h;subst h;simp only[bq.g,bP.ren,if_true]
  |false=>
   simp only[φ,if_false] at h
   obtain⟨b,c,rfl⟩:=δ.1 h
   simp_all[bq.g,bP.ren,vo]
 |oz s l e t=>grind[bq.ren]
 |row s l e a=>
  grind[bq.ren,bq.g,bP.ren,O5,mX]
 |map f n i j d a=>
  simp only[bq.ren,γ] at h;subst h
  simp only[bq.g,bP.ren,O6 Hl,μ]
  grind
def zu (m:Nat->Option Nat):bV->Option bV
 |[]=>some []
 |x::r=>match x.ren m,zu m r with
  |some y,some l=>some (y::l)
  |_,_=>none
theorem O8 {m:Nat->Option Nat}:∀{o o':bV},zu m o=some o'->rT m (gO o)=some (gO o')
 |[],o',h=>by simp[zu] at h;subst h;rfl
 |x::r,o',h=>by
  simp only[zu] at h;split at h
  ·rename_i y l b a
   simp only[γ] at h;subst h
   have:=O8 a
   grind[gO,rT,O7]
  ·cases h
def xh (o:bV) (a:List Nat):List Nat->Option bV
 |[]=>some []
 |i::r=>match o[i]?,xh o a r with
  |some x,some l=>match x.ren (λj=>idxOf a j) with
   |some y=>some (y::l)
   |none=>none
  |_,_=>none
theorem Hm {o:bV} {a:List Nat}:∀{r:List Nat} {o':bV},xh o a r=some o'->kO (gO o) a r=some (gO o')
 |[],o',h=>by simp[xh] at h;subst h;rfl
 |i::r,o',h=>by
  simp only[xh] at h;split at h
  ·rename_i x l d b
   split at h
   ·rename_i y c
    simp only[γ] at h;subst h
    simp only[kO,fz d,Hm b,O7 c,μ];rfl
   ·cases h
  ·cases h
def xi (o:bV):List Nat->bV->bV
 |[],_=>o
 |_,[]=>o
 |i::r,x::l=>xi (o.set i x) r l
theorem O9:∀{a:List Nat} {o l:bV},gO (xi o a l)=lz (gO o) a (gO l)
 |[],o,l=>by simp[xi,lz]
 |_::_,o,[]=>by simp[xi,lz,gO]
 |i::r,o,x::l=>by
  simp only[xi];rw[O9,qh]
  simp[gO,lz]
def pC (o:bV):Nat->List SV->List Nat->List Nat
 |0,_,c=>c
 |_,[],c=>c
 |d+1,v::i,c=>
  let f (e:Nat) (c:List Nat):List Nat:=
   if c.contains e then c else
   match o[e]? with
   |some (.cells g _ _ h)=>if h then c++[e] else pC o d g (c++[e])
   |_=>c++[e]
  pC o d i (match v with
   | .agg g| .bH g=>pC o d g c
   | .ptr e _ _| .ap e _ _ _ _ _| .rp e _ _ _ _| .ow e _ _| .os e _ _ _ _| .oc e _ _ _ _| .mp e=>f e c
   | .fn _ a b=>pC o d b (pC o d a c)
   |_=>c)
theorem zw {o:Store}:∀{d:Nat} {l:List AV} {acc:List Nat},(∀a∈l,Plain a)->cG o d l acc=acc
 |0,_,_,_=>by grind[cG]
 |d+1,[],_,_=>by grind[cG]
 |d+1,a::l,acc,h=>by
  have e:=zw (o:=o) (d:=d) (l:=l) (acc:=acc) λb c=>h b (by simp[c])
  rcases h a (by simp) with⟨v,rfl,_⟩|⟨n,f,rfl,_⟩<;>(grind[cG])
theorem Pe {o:Store}:∀{d:Nat} {l:List AV} {acc:List Nat},(∀a∈l,∃v,a= .sc v)->cG o d l acc=acc
 |0,_,_,_=>by simp[cG]
 |d+1,[],_,_=>by simp[cG]
 |d+1,a::l,acc,h=>by
  obtain⟨v,rfl⟩:=h a (by simp)
  simp only[cG]
  exact Pe λa b=>h a (by simp[b])
theorem Za {l:List (Value×AV)} (h:∀a∈l,∃v,a.2= .sc v):∀a∈l.map (·.2),∃v,a= .sc v:=λa b=>by
 grind
def bq.CG:bq->Bool
 | .oz .. =>false
 |_=>true
theorem Pg {o:bV} (h:o.all bq.CG=true):∀{d:Nat} {vs:List SV} {acc:List Nat},cG (gO o) d (gL vs) acc=pC o d vs acc:=by
 intro d
 induction d with
 |zero=>grind[cG,pC]
 |succ d k=>
  intro vs acc
  cases vs with
  |nil=>simp[gL,cG,pC]
  |cons v vs=>
   have m:∀(b:Nat) (acc:List Nat),(if acc.contains b then acc else
     match(gO o)[b]? with
     |some (.cells f _ _ c)=>if c then acc++[b] else cG (gO o) d f (acc++[b])
     |some (.map j _ c)=>if c then acc++[b] else cG (gO o) d (j.map (·.2)) (acc++[b])
     |_=>acc++[b])=(if acc.contains b then acc else
     match o[b]? with
     |some (.cells f _ _ c)=>if c then acc++[b] else pC o d f (acc++[b])
     |_=>acc++[b]):=by
    intro b acc;rw[GK]
    cases i:o[b]? with
    |none=>rfl
    |some x=>
     cases x with
     |oz s l e t=>
      have:=Θ.1 h _ (List.mem_of_getElem? i)
      grind[bq.CG]
     |dead=>rfl
     |cells f e r c=>grind[bq.g]
     |row s l e c=>simp only[μ,bq.g,zw (λa n=>mX n),ite_self]
     |map p u q j w c=>simp only[μ,bq.g,Pe (Za Hl),ite_self]
   simp only[gL,cG,pC];rw[k]
   congr 1
   cases v<;>simp only[γF,k]<;>exact m _ _
def Hn (C:FuncId->List SV->bV->(SV->bV->Prop)->Prop) (f:FuncId) (args:List SV) (o:bV) (K:SV->bV->Prop):Prop:=
 if o.all bq.CG=false then False else
 let a:=pC o fw args []
 match rf (λj=>idxOf a j) args,xh o a a with
 |some c,some d=>C f c d λr b=>
   if b.length<a.length\/iC.pe a=false then False else
   match r.ren (oq a o.length),zu (oq a o.length) b with
   |some g,some e=>K g (xi o a (e.take a.length)++e.drop a.length)
   |_,_=>False
 |_,_=>False
theorem Zb {call:cT} {C:FuncId->List SV->bV->(SV->bV->Prop)->Prop}
  (n:∀f args o K,C f args o K->∃(r:SV) (o':bV),call f (gL args) (gO o) true=some (r.g,gO o')/\K r o')
  {f:FuncId} {args:List SV} {o:bV} {K:SV->bV->Prop} (h:Hn C f args o K):
  ∃(r:SV) (o':bV),iC call f (gL args) (gO o)=some (r.g,gO o')/\K r o':=by
 unfold Hn at h;split at h
 ·exact h.elim
 rename_i a;simp only[ζo] at a
 simp only at h
 split at h
 ·rename_i d e i l
  obtain⟨r,c,j,b⟩:=n _ _ _ _ h
  split at b
  ·exact b.elim
  ·rename_i p
   split at b
   ·rename_i k q m s
    refine⟨k,_,?_,b⟩
    unfold iC;simp only[Pg a];rw[vo i,Hm l];simp only[j,nO];rw[if_neg p,Hk m,O8 s];simp only[OW,O9]
    simp[gO]
   simp_all
 simp_all
section
variable {P:Program} {T:Tab} {p:iI} {Λ:Nat->cB}
theorem Zc (A:kq P T) (y:pz T.K p.C) (w:∀f F,p.it f=some F->T.fn f=some F) {f:FuncId} {F:fb} (u:T.fn f=some F) {args:List SV} {o:bV} {r:AV} {o':Store} (G:T.K f (gL args) (gO o) true=none) (n:args.length=F.params)
  {Q:SV->bV->Prop} (m:∀v s,Q v s->v.g=r/\gO s=o') (h:ve p Λ F args o Q):gI P f=true/\lh P f (gL args) (gO o) r o':=by
 unfold ve at h
 have i:=vk y w h
 have e:(cn.mk (mZ 0 args) o).g=⟨gW 0 (gL args),gO o⟩:=by simp[cn.g,vl]
 rw[e] at i
 have j:(gO o).length=o.length:=nO o
 rw[<-j] at i
 have E:∀(a:cn),(nM a F.res λv=>if v.bY (gO o).length&&a.o.all (λx=>x.bY (gO o).length)&&decide ((gO o).length<=a.o.length) then Q v (a.o.take (gO o).length) else False)->
   (nG a.g F.res).bind (λl=>finish true (gO o).length l a.g.o)=some (r,o'):=by
  intro a t
  obtain⟨l,k,b⟩:=xe t
  rw[k];simp only[δV,finish,if_true];split at b
  ·rename_i q
   simp only[θ,decide_eq_true_eq,Θ] at q
   obtain⟨⟨z,D⟩,B⟩:=q
   have d:∀x∈a.g.o,x.bY (gO o).length=true:=by
    grind[cn.g,gO,B9]
   rw[OU (by grind[zm]) d (by grind[cn.g,nO])]
   rw[<-(m _ _ b).1,<-(m _ _ b).2]
   simp_all[cn.g,gO]
  ·exact b.elim
 obtain⟨k,b,_⟩:=BV A u (o:=gO o) (own:=true) G (by grind[jD]) (v:=r) (o':=o') (i.mono λc s H=>by
  obtain⟨a,rfl,t⟩:=H
  cases c<;>grind)
 simp_all
end
structure cV where
 f:FuncId
 α:Type
 put:α->List SV
 st:α->bV
 dec:List SV->bV->Option α
 ok:∀v o a,dec v o=some a->gL v=gL (put a)/\gO o=gO (st a)
 inj:∀a b,gL (put a)=gL (put b)->gO (st a)=gO (st b)->a=b
 dom:α->Prop
 res:α->SV
 out:α->bV
def dK (P:Program) (c:cV):Prop:=∀a,c.dom a->gI P c.f=true/\lh P c.f (gL (c.put a)) (gO (c.st a)) (c.res a).g (gO (c.out a))
def kR (f:FuncId):List cV->Option cV
 |[]=>none
 |c::r=>bif δz c.f f then some c else kR f r
theorem Ph:∀{L:List cV} {f:FuncId} {c:cV},kR f L=some c->c.f=f/\c∈L
 |[],_,_,h=>by cases h
 |d::L,f,c,h=>by
  simp only[kR] at h
  cases a:δz d.f f with
  |true=>
   simp_all
  |false=>
   rw[a] at h;simp only[cond_false] at h
   obtain⟨b,e⟩:=Ph h
   simp_all
def Pj (W:List cV) (f:FuncId) (args:List SV) (o:bV) (K:SV->bV->Prop):Prop:=
 match kR f W with
 |some c=>iJ (c.dec args o) λa=>c.dom a/\K (c.res a) (c.out a)
 |none=>False
open Classical in
noncomputable def tQ (W:List cV) (f:FuncId) (args:List AV) (o:Store):Option (AV×Store):=
 match kR f W with
 |some c=>if h:∃a,args=gL (c.put a)/\o=gO (c.st a)/\c.dom a then some ((c.res (δW h)).g,gO (c.out (δW h))) else none
 |none=>none
noncomputable def fY (W:List cV):mB:=⟨tQ W,λf a o K=>Hn (Pj W) f a o K⟩
theorem ln {P:Program} {W:List cV} (u:∀c∈W,dK P c):pB P (fY W) where
 K:=λf d o r w h=>by
  simp only[fY,tQ] at h;split at h
  ·rename_i c k
   obtain⟨rfl,v⟩:=Ph k
   split at h
   ·rename_i e
    simp only[γ,κ] at h
    generalize t:δW e=b at h
    have n:=εm e
    rw[t] at n
    obtain⟨p,s,l⟩:=n
    obtain⟨j,m⟩:=u c v _ l
    simp_all
   ·cases h
  ·cases h
 C:=λq g f d o K h=>by
  refine Zb ?_ h
  intro f d o K i;simp only[Pj] at i;split at i
  ·rename_i c k
   obtain⟨a,p,s,l⟩:=iT i
   refine⟨_,_,?_,l⟩
   rw[g]
   obtain⟨j,m⟩:=c.ok _ _ _ p
   have e:∃b,gL d=gL (c.put b)/\gO o=gO (c.st b)/\c.dom b:=⟨a,j,m,s⟩
   simp only[fY,tQ,k,dif_pos e]
   have:δW e=a:=c.inj _ _ ((εm e).1.symm.trans j) ((εm e).2.1.symm.trans m)
   rw[this]
  simp_all
theorem CH {P:Program} {i:FuncId->Option fb} {L:List bM} {W:List cV} (c:cV) {F:fb} {m:TypeId->Option bn} {j:List Nat×Bool->Option (bn×bn)} {Λ:c.α->Nat->cB}
  (q:kq P ⟨i,λ_ _ _ _=>none⟩) (k:∀c∈W,dK P c) (r:∀c∈L,Holds P c)
  (n:i c.f=some F) (e:∀a,(c.put a).length=F.params)
  (a:c.α) (o:∀d,kR c.f W=some d->∀b,gL (c.put a)=gL (d.put b)->gO (c.st a)=gO (d.st b)->¬d.dom b)
  (h:ve (lJ L (fY W) m j i) (Λ a) F (c.put a) (c.st a) λv s=>v.same (c.res a)/\ji s (c.out a)):
  gI P c.f=true/\lh P c.f (gL (c.put a)) (gO (c.st a)) (c.res a).g (gO (c.out a)):=by
 refine Zc (p:=lJ L (fY W) m j i) (Λ:=Λ a) (Q:=λv s=>v.same (c.res a)/\ji s (c.out a)) (tO (ln k) r q) (tP (ln k)) (λ_ _ h=>h) n ?_ (e a) (λv s l=>⟨l.1,xd l.2⟩) ?_
 ·simp only[qk,sf,if_true,fY,tQ]
  grind
 ·exact h
mutual
def kS (o:bV) (k:Nat):SV->(SV->Prop)->Prop
 | .ow id n sz,K=>if k<=id then(match o[id]? with
   |some (.row s l _ true)=>if sz=s.sz then n=l.length/\K (.row s l) else False
   |some (.row _ _ _ false)=>K (.ow id n sz)
   |_=>False) else K (.ow id n sz)
 | .ptr id f t,K=>if k<=id then(match o[id]? with
   |some (.cells _ _ _ false)=>K (.ptr id f t)
   |_=>False) else K (.ptr id f t)
 | .agg cs,K=>sj o k cs λcs'=>K (.agg cs')
 | .bH cs,K=>sj o k cs λcs'=>K (.bH cs')
 | .ud,K=>K .ud
 | .sc v,K=>K (.sc v)
 | .il q n,K=>K (.il q n)
 | .si q n,K=>K (.si q n)
 | .bl b,K=>K (.bl b)
 | .sb b,K=>K (.sb b)
 | .row s l,K=>K (.row s l)
 | .mp i,K=>K (.mp i)
 | .ia t cs,K=>K (.ia t cs)
 | .fn f a b,K=>sj o k a λa'=>sj o k b λb'=>K (.fn f a' b')
 |_,_=>False
def sj (o:bV) (k:Nat):List SV->(List SV->Prop)->Prop
 |[],K=>K []
 |c::cs,K=>kS o k c λc'=>sj o k cs λcs'=>K (c'::cs')
end
section
variable {o:bV} {k:Nat}
mutual
theorem Ho:∀{v:SV} {K:SV->Prop},kS o k v K->∃v':SV,v.g.bT (gO o) (λi=>decide (k<=i))=some v'.g/\K v'
 | .ow id n sz,K,h=>by
  simp only[kS] at h;split at h
  ·rename_i hk
   split at h
   ·rename_i s l e ho
    split at h
    ·rename_i hsz
     subst hsz
     obtain⟨rfl,h⟩:=h
     refine⟨_,?_,h⟩
     have htk:γd (l.length*s.sz) (cC s l)=cC s l:=List.take_of_length_le (by rw[fe];omega)
     simp only[γF,AV.bT,hk,decide_true,if_true,fz ho,bq.g,fe,Nat.zero_add,Nat.le_refl,and_self,List.drop_zero,htk]
    ·exact h.elim
   ·rename_i s l e ho
    refine⟨_,?_,h⟩
    simp only[γF,AV.bT,hk,decide_true,if_true,fz ho,bq.g,φ,if_false]
   ·exact h.elim
  ·rename_i hk
   refine⟨_,?_,h⟩
   simp only[γF,AV.bT,decide_eq_true_eq,if_neg hk]
 | .ptr id f t,K,h=>by
  simp only[kS] at h;split at h
  ·rename_i hk
   split at h
   ·rename_i cs e sz ho
    refine⟨_,?_,h⟩
    simp only[γF,AV.bT,hk,decide_true,if_true,fz ho,bq.g,φ,if_false]
   ·exact h.elim
  ·rename_i hk
   refine⟨_,?_,h⟩
   simp only[γF,AV.bT,decide_eq_true_eq,if_neg hk]
 | .agg cs,K,h=>by
  simp only[kS] at h
  obtain⟨cs',h1,h2⟩:=xj h
  exact⟨_,by simp only[γF,AV.bT,h1,μ],h2⟩
 | .bH cs,K,h=>by
  simp only[kS] at h
  obtain⟨cs',h1,h2⟩:=xj h
  exact⟨_,by simp only[γF,AV.bT,h1,μ],h2⟩
 | .ud,K,h=>⟨.ud,by simp only[γF,AV.bT],by simpa only[kS] using h⟩
 | .sc v,K,h=>⟨.sc v,by simp only[γF,AV.bT],by simpa only[kS] using h⟩
 | .il k n,K,h=>⟨.il k n,by simp only[γF,AV.bT],by simpa only[kS] using h⟩
 | .si k n,K,h=>⟨.si k n,by simp only[γF,AV.bT],by simpa only[kS] using h⟩
 | .bl b,K,h=>⟨.bl b,by simp only[γF,AV.bT],by simpa only[kS] using h⟩
 | .sb b,K,h=>⟨.sb b,by simp only[γF,AV.bT],by simpa only[kS] using h⟩
 | .row s l,K,h=>⟨.row s l,by simp only[γF,AV.bT],by simpa only[kS] using h⟩
 | .mp i,K,h=>⟨.mp i,by simp only[γF,AV.bT],by simpa only[kS] using h⟩
 | .ia t cs,K,h=>⟨.ia t cs,by simp only[γF,AV.bT],by simpa only[kS] using h⟩
 | .fn f a b,K,h=>by
  simp only[kS] at h
  obtain⟨a',h1,h2⟩:=xj h
  obtain⟨b',h3,h4⟩:=xj h2
  exact⟨_,by simp only[γF,AV.bT,h1,h3],h4⟩
 | .ep ..,K,h| .ap ..,K,h| .rp ..,K,h| .os ..,K,h| .oc ..,K,h| .ite ..,K,h=>by simp only[kS] at h
theorem xj:∀{cs:List SV} {K:List SV->Prop},sj o k cs K->∃cs':List SV,gG (gO o) (λi=>decide (k<=i)) (gL cs)=some (gL cs')/\K cs'
 |[],K,h=>⟨[],by simp[gL,gG],by simpa only[sj] using h⟩
 |c::cs,K,h=>by
  simp only[sj] at h
  obtain⟨c',h1,h2⟩:=Ho h
  obtain⟨cs',h3,h4⟩:=xj h2
  exact⟨c'::cs',by simp only[gL,gG,h1,h3],h4⟩
end
def oL (o:bV) (k:Nat):Nat->bV->(bV->Prop)->Prop
 |_,[],K=>K []
 |i,x::r,K=>match x with
  | .cells f e m false=>sj o k f λc=>oL o k (i+1) r λa=>K (.cells c e m false::a)
  | .row s l e b=>oL o k (i+1) r λa=>K ((if b&&decide (k<=i) then .dead else .row s l e b)::a)
  | .map g n d j h b=>oL o k (i+1) r λa=>K (.map g n d j h b::a)
  | .dead=>oL o k (i+1) r λa=>K (.dead::a)
  |_=>False
theorem xk:∀{i:Nat} {r:bV} {K:bV->Prop},oL o k i r K->∃r' mid,jf (gO o) (λi=>decide (k<=i)) (gO r)=some mid/\fy (λi=>decide (k<=i)) i mid=gO r'/\K r'
 |i,[],K,h=>⟨[],[],rfl,rfl,h⟩
 |i,x::r,K,h=>by
  cases x with
  |dead=>
   simp only[oL] at h
   obtain⟨r',mid,m,b,e⟩:=xk h
   grind[gO,bq.g,jf,bP.bT,fy]
  |cells A c z a=>
   cases a with
   |true=>grind[oL]
   |false=>
    simp only[oL] at h
    obtain⟨j,y,f⟩:=xj h
    obtain⟨r',mid,m,b,e⟩:=xk f
    refine⟨_,.cells (gL j) c z false::mid,?_,?_,e⟩
    all_goals simp_all[gO,bq.g,jf,bP.bT,fy]
  |oz s l c t=>grind[oL]
  |row s l c a=>
   simp only[oL] at h
   obtain⟨r',mid,m,b,e⟩:=xk h
   refine⟨_,(bq.row s l c a).g::mid,?_,?_,e⟩
   ·have d:(bq.row s l c a).g.bT (gO o) (λi=>decide (k<=i))=some (bq.row s l c a).g:=by
     cases a with
     |true=>simp only[bq.g,bP.bT,if_true]
     |false=>
      simp only[bq.g,bP.bT,φ,if_false]
      grind[Cj,mX]
    grind[gO,jf]
   ·cases a with
    |true=>
     simp only[bq.g,fy,Bool.true_and]
     by_cases n:k<=i
     ·simp only[n,decide_true,if_true]
      rw[b];rfl
     ·simp only[n,decide_false,φ,if_false]
      rw[b];rfl
    |false=>simp only[bq.g,fy,Bool.false_and,φ,if_false];rw[b];rfl
  |map u p q w v a=>
   simp only[oL] at h
   obtain⟨r',mid,m,b,e⟩:=xk h
   have d:(bq.map u p q w v a).g.bT (gO o) (λi=>decide (k<=i))=some (bq.map u p q w v a).g:=by
    cases a with
    |true=>simp only[bq.g,bP.bT,if_true]
    |false=>
     simp only[bq.g,bP.bT,φ,if_false];rw[G9 Hl,μ]
   grind[gO,jf,bq.g,fy]
end
def CJ (r:SV) (o:bV) (K:SV->bV->Prop):Prop:=
 kS o 0 r λc=>oL o 0 0 o λb=>
  if b.all bq.CG=false then False else
  let a:=pC b fw [c] []
  if iC.pe a then match c.ren (λj=>idxOf a j),xh b a a with
   |some e,some d=>K e d
   |_,_=>False
  else False
theorem Zd {r:SV} {o:bV} {K:SV->bV->Prop} (h:CJ r o K):∃r' o',lA 0 r.g (gO o)=some (r'.g,gO o')/\K r' o':=by
 unfold CJ at h
 obtain⟨m,n,k⟩:=Ho h
 obtain⟨c,i,e,f,a⟩:=xk k
 split at a
 ·exact a.elim
 rename_i b;simp only[ζo] at b
 simp only at a
 split at a
 ·rename_i t
  split at a
  ·rename_i j l p q
   refine⟨j,l,?_,a⟩
   unfold lA;rw[n,e];simp only[f,List.take_zero,List.flatMap_nil,List.range_zero]
   have s:=Pg (o:=c) b (d:=fw) (vs:=[m]) (acc:=[])
   simp_all[gL,Hk,Hm]
  simp_all
 simp_all
def Hq (p:iI) (Λ:Nat->cB) (F:fb) (args:List SV) (Q:SV->bV->Prop):Prop:=
 wpS p 0 F.body Λ ⟨mZ 0 args,[]⟩ λa b=>match a with
  | .exit _=>False
  | .goto _=>False
  |_=>nM b F.res λr=>CJ r b.o Q
theorem Ze {P:Program} {T:Tab} {p:iI} {Λ:Nat->cB} (y:kq P T) (t:pz T.K p.C) (x:∀f F,p.it f=some F->T.fn f=some F) {f:FuncId} {F:fb} (m:T.fn f=some F) {args:List SV} {r:AV} {o':Store} (A:T.K f (gL args) [] true=none) (j:args.length=F.params)
  {Q:SV->bV->Prop} (D:∀v s,Q v s->v.g=r/\gO s=o') (h:Hq p Λ F args Q):gI P f=true/\lh P f (gL args) [] r o':=by
 unfold Hq at h
 have k:=vk t x h
 have b:(cn.mk (mZ 0 args) []).g=⟨gW 0 (gL args),[]⟩:=by simp[cn.g,vl,gO]
 rw[b] at k
 have n:∀(a:cn),(nM a F.res λv=>CJ v a.o Q)->(nG a.g F.res).bind (λc=>finish true 0 c a.g.o)=some (r,o'):=by
  intro a l
  obtain⟨c,e,i⟩:=xe l
  obtain⟨u,q,w,B⟩:=Zd i
  rw[e];simp only[δV,finish,if_true]
  have:lA 0 c.g a.g.o=some (u.g,gO q):=w
  grind
 obtain⟨e,i,_⟩:=BV y m (o:=[]) (own:=true) A (by grind[jD]) (v:=r) (o':=o') (k.mono λd s z=>by
  obtain⟨a,rfl,l⟩:=z
  cases d<;>simp_all)
 simp_all
theorem Zf {W:List cV} {f:FuncId} {args:List AV} {o:Store} (h:kR f W=none):tQ W f args o=none:=by
 grind[tQ]
open Go.Proofs.YtjcmncmajmoiiaaGreat.Ir
open Go.Proofs
def CL (f:Nat):List (Nat×List RH)->Option (List RH)
 |[]=>none
 |e::r=>bif δz e.1 f then some e.2 else CL f r
noncomputable def gv (f:FuncId):Option fb:=
 match CL f ME with
 |none=>none
 |some H=>match Tryz.prog.funcs[f]? with
  |none=>none
  |some g=>Bt Tryz.prog H g
noncomputable def fG (f:FuncId):fb:=(gv f).getD ⟨0,0,.skip,[]⟩
theorem vp {f:FuncId} (h:(gv f).isSome=true):gv f=some (fG f):=by
 unfold fG
 cases q:gv f<;>simp_all
theorem Pm {f:Nat} {H:List RH} {p:Nat->Bool}:∀{l:List (Nat×List RH)},CL f l=some H->(l.all λe=>p e.1)=true->p f=true
 |[],h,_=>by cases h
 |e::r,h,k=>by
  simp only[CL] at h;simp only[List.all_cons,θ] at k
  cases q:δz e.1 f with
  |true=>simp_all
  |false=>rw[q] at h;exact Pm h k.2
theorem Zg:(ME.all λe=>gI Tryz.prog e.1)=true:=by kernel_rfl
theorem pD:kq Tryz.prog ⟨gv,λ_ _ _ _=>none⟩ where
 fn:=λf F h=>by
  simp only[gv] at h;split at h
  ·cases h
  ·rename_i H q
   split at h
   ·cases h
   ·rename_i g r;exact⟨g,H,r,h,Pm (p:=gI Tryz.prog) q Zg⟩
 K:=λ_ _ _ _ _ _ h=>by cases h
def lk {a:Type}:a->Nat->cB:=λ_ _=> .look
structure Vc (A:Prop):Prop where
 out:A
theorem bR {A:Prop} (B:Prop) (h:B=A) (a:B):Vc A:=⟨h▸a⟩
theorem con {L:List bM} {W:mB} (c:bM) (Λ:c.α->Nat->cB) (hW:pB Tryz.prog W) (hL:∀c∈L,Holds Tryz.prog c)
  
  (h:∀a,c.dom a->Vc (sa (lJ L W oJ oK gv) (Λ a) (fG c.f) (c.A.put a) λv=>v.r7 (c.res a))) (hF:(gv c.f).isSome=true:=by kernel_rfl) (hfr:oH c.f L=none:=by kernel_rfl) (hlen:∀a,(c.A.put a).length=(fG c.f).params:=by intro _;kernel_rfl):Holds Tryz.prog c:=
 holds_of c pD hW hL (vp hF) hfr hlen λa ha=>(h a ha).out
theorem cK {L:List bM} (c:bM) (Λ:c.α->Nat->cB) (e:∀c∈L,Holds Tryz.prog c) (h:∀a,c.dom a->Vc (sa (lJ L mB.none oJ oK gv) (Λ a) (fG c.f) (c.A.put a) λv=>v.r7 (c.res a)))
  (g:(gv c.f).isSome=true:=by kernel_rfl) (d:oH c.f L=none:=by kernel_rfl) (b:∀a,(c.A.put a).length=(fG c.f).params:=by intro _;kernel_rfl):Holds Tryz.prog c:=con c Λ (pB.none _) e h g d b
theorem Zh {L:List bM} {W:mB} (c:bM) (ro:FuncId->Bool) (Λ:c.α->Nat->cB) (hW:pB Tryz.prog W) (hL:∀c∈L,Holds Tryz.prog c)
  
  (h:∀a,c.dom a->Vc (sa (Hh L W oJ oK gv ro) (Λ a) (fG c.f) (c.A.put a) λv=>v.r7 (c.res a))) (hF:(gv c.f).isSome=true:=by kernel_rfl) (hfr:oH c.f L=none:=by kernel_rfl) (hlen:∀a,(c.A.put a).length=(fG c.f).params:=by intro _;kernel_rfl):Holds Tryz.prog c:=
 Y9 c pD hW hL (vp hF) hfr hlen λa ha=>(h a ha).out
theorem jk {L:List bM} {W:List cV} (c:cV) (Λ:c.α->Nat->cB) (i:∀c∈W,dK Tryz.prog c) (e:∀c∈L,Holds Tryz.prog c)
  
  (h:∀a,c.dom a->Vc (ve (lJ L (fY W) oJ oK gv) (Λ a) (fG c.f) (c.put a) (c.st a) λv s=>v.same (c.res a)/\ji s (c.out a))) (g:(gv c.f).isSome=true:=by kernel_rfl) (b:∀a,(c.put a).length=(fG c.f).params:=by intro _;kernel_rfl) (k:kR c.f W=none:=by kernel_rfl):dK Tryz.prog c:=
 λa j=>CH c pD i e (vp g) b a (λd l=>by simp_all) (h a j).out
theorem Zi {L:List bM} {W:List cV} (c:cV) (F:fb) (Λ:c.α->Nat->cB) (hW:∀c∈W,dK Tryz.prog c) (hL:∀c∈L,Holds Tryz.prog c)
  
  (h:∀a,c.dom a->Vc (ve (lJ L (fY W) oJ oK gv) (Λ a) F (c.put a) (c.st a) λv s=>v.same (c.res a)/\ji s (c.out a))) (hF:gv c.f=some F:=by kernel_rfl) (hlen:∀a,(c.put a).length=F.params:=by intro _;kernel_rfl) (hfr:kR c.f W=none:=by kernel_rfl):dK Tryz.prog c:=
 λa ha=>CH c pD hW hL hF hlen a (λd hd=>by rw[hfr] at hd;cases hd) (h a ha).out
theorem CN {L:List bM} {W:List cV} (c:cV) (g:Nat->Option (Nat×Nat×Nat)) (Λ:c.α->Nat->cB) (i:∀c∈W,dK Tryz.prog c) (j:∀c∈L,Holds Tryz.prog c)
  
  (h:∀a,c.dom a->Vc (Hq ⟨⟨vm L,(fY W).C⟩,oJ,oK,g,λ_=>none,λ_=>false⟩ (Λ a) (fG c.f) (c.put a) λv s=>v.same (c.res a)/\ji s (c.out a))) (l:(gv c.f).isSome=true:=by kernel_rfl) (b:∀a,(c.put a).length=(fG c.f).params:=by intro _;kernel_rfl) (d:∀a,c.st a=[]:=by intro _;rfl) (k:kR c.f W=none:=by kernel_rfl):dK Tryz.prog c:=
 λa m=>by
  rw[d a]
  refine Ze (p:=⟨⟨vm L,(fY W).C⟩,oJ,oK,g,λ_=>none,λ_=>false⟩) (Λ:=Λ a) (Q:=λv s=>v.same (c.res a)/\ji s (c.out a)) (tO (ln i) j pD) (tP (ln i)) (λ_ _ h=>by cases h) (vp l) ?_ (b a) (λv s e=>⟨e.1,xd e.2⟩) (h a m).out
  simp_all[qk,sf,fY,Zf]
open Go.ChangeShapes Go.WideShapes Go.RowKit
abbrev lL:dH:=⟨λ_=>False,0⟩
instance (s:bn):Inhabited s.T:=⟨s.dflt⟩
theorem Zj (b:Nat):Fr lL [] b:=⟨by rintro⟨i,c,h⟩;simp at h,λh=>h⟩
theorem Pn {A:dH} {w:World} {σ:bW} {o:Store}:∀{vs:List Value},(∀v∈vs,v.oneCell'=true)->bD A w σ o (vs.map .sc) vs
 |[],_=>by simp[bD]
 |v::vs,h=>by
  simp only[ι,bD]
  exact⟨v,vs,rfl,by grind[bw],Pn λu a=>h u (by simp[a])⟩
theorem Po {A:dH} {w:World} {σ:bW} {o:Store}:∀{a b:List AV} {x:Option Addr} {j:Nat},dx A w σ o a x j->dx A w σ o b x (j+a.length)->dx A w σ o (a++b) x j
 |[],b,x,j,_,h=>by simpa using h
 |c::a,b,x,j,h,k=>by
  simp only[List.cons_append,dx] at h ⊢
  refine⟨h.1,Po h.2 ?_⟩
  grind
def Reads (P:Program) (t:TypeId) (s:bn):Prop:=
 ∀(H:Type) (e:TypeId×Value->H) (w:World) (d:Nat) (a:Nat->Bool) (c:Bool) (b:Nat) (f:List Value) (x:DataW H×List MemPlace),DataW.trod e P w d a c b t f=some x->∃y:s.T,f=dE s y
theorem Zk {P:Program} {t:TypeId} {k:IntKind} (a:P.underlying t=some (.int k)):Reads P t (.i k):=λ_ _ _ _ _ _ _ b _ h=>by
 obtain⟨n,rfl,_,_⟩:=DataW.trod_int a h
 exact⟨n,rfl⟩
theorem Zl {w:World} {base n:Nat} {a:Addr} {cs:List Value} (h:w.cells? base a n=some cs):cs.length=n/\∀i v,cs[i]?=some v->w.cell? (a.add i)=some v:=by
 unfold World.cells? at h
 split at h
 ·obtain⟨c,f⟩:=BI h
  simp only[ζq] at c
  refine⟨c,λi v d=>?_⟩
  have j:=(List.getElem?_eq_some_iff.1 d).1
  obtain⟨b,g,e⟩:=f i i (by simp_all)
  simp_all
 ·cases h
def CO (P:Program) (t:TypeId) (s:bn):Prop:=
 ∀(H:Type) (d:TypeId×Value->H) (w:World) (a:Nat->Bool) (c:Bool) (b:Nat) (e:List Value) (x:DataW H×List MemPlace),DataW.trod d P w 0 a c b t e=some x->∃y:s.T,bD lL w [] [] (dJ s y) e
theorem Reads.g {P:Program} {t:TypeId} {s:bn} (h:Reads P t s) (i:s.flat=true:=by rfl):CO P t s:=λH d w a c b e x f=>by
 obtain⟨y,rfl⟩:=h H d w 0 a c b e x f
 exact⟨y,by grind[BW,Pn,BY]⟩
theorem Pq {w:World} {a:Addr}:∀{cs:List AV} {vs:List Value} {j:Nat},bD lL w [] [] cs vs->(∀i v,vs[i]?=some v->w.cell? (a.add (j+i))=some v)->dx lL w [] [] cs (some a) j
 |[],_,_,_,_=>by simp[dx]
 |c::cs,vs,j,b,d=>by
  simp only[bD] at b
  obtain⟨v,r,rfl,e,f⟩:=b
  simp only[dx]
  refine⟨⟨a,v,rfl,Zj _,by simpa using d 0 v (by simp),e⟩,Pq f λi u g=>?_⟩
  have:=d (i+1) u (by simp_all)
  grind
theorem Pv {w:World} {a:Addr} {s:bn}:∀{l:List s.T} {i0:Nat},(∀i y,l[i]?=some y->∃cs,w.cells? 0 (a.add ((i0+i)*s.sz)) s.sz=some cs/\bD lL w [] [] (dJ s y) cs)->dx lL w [] [] (cC s l) (some a) (i0*s.sz)
 |[],_,_=>by simp[cC,dx]
 |y::l,i0,h=>by
  obtain⟨cs,b,c⟩:=h 0 y (by simp)
  rw[Nat.add_zero] at b
  obtain⟨d,g⟩:=Zl b
  have e:cC s (y::l)=dJ s y++cC s l:=by simp[cC]
  rw[e]
  refine Po (Pq c λi v j=>?_) ?_
  ·grind[add_add]
  ·rw[lI,show i0*s.sz+s.sz=(i0+1)*s.sz from by grind]
   refine Pv λi z f=>?_
   have:=h (i+1) z (by simp_all)
   grind
theorem Zm {P:Program} {t e:TypeId} {s:bn} (A:P.underlying t=some (.slice e)) (r:CO P e s) (I:P.cellsOf e=s.sz)
  {H:Type} {enc:TypeId×Value->H} {w:World} {c:Nat->Bool} {j:Bool} {d:Nat} {cs:List Value} {x:DataW H×List MemPlace} (h:DataW.trod enc P w 0 c j d t cs=some x):
  ∃(v:Value) (l:List s.T),cs=[v]/\bw lL w [] [] (Φ s l).g v:=by
 rcases Go.Deep.open_slice A h with⟨rfl,_⟩|⟨a,b,k,m,n,D,F,rfl,M,z,L,o,_,q⟩
 ·exact⟨_,[],rfl,by grind[γF,bw,cC,dp,dx]⟩
 ·have B:b<=m:=by grind
  have C:∀i,i<b->∃y:s.T,∃cs,w.cells? 0 (a.add (i*s.sz)) s.sz=some cs/\bD lL w [] [] (dJ s y) cs:=λi J=>by
   obtain⟨p,K,E⟩:=q i (by omega)
   obtain⟨y,u⟩:=r _ _ _ _ _ _ _ _ E
   grind
  obtain⟨f,G⟩:=Go.Deep.choose_lt C
  refine⟨_,(τ b).map f,rfl,?_⟩
  simp only[γF,bw,List.length_map,ζq]
  refine⟨some a,k,rfl,z,qg _ _,?_⟩
  have:=Pv (w:=w) (a:=a) (s:=s) (l:=(τ b).map f) (i0:=0) (λi y u=>by
   grind)
  simp_all
theorem Hr {P:Program} {t e:TypeId} {s:bn} (i:P.underlying t=some (.slice e)) (f:Reads P e s) (j:P.cellsOf e=s.sz)
  {H:Type} {enc:TypeId×Value->H} {w:World} {a:Nat->Bool} {c:Bool} {b:Nat} {cs:List Value} {x:DataW H×List MemPlace} (h:DataW.trod enc P w 0 a c b t cs=some x) (d:s.flat=true:=by rfl):
  ∃(v:Value) (l:List s.T),cs=[v]/\bw lL w [] [] (Φ s l).g v:=Zm i (f.g d) j h
theorem Zn {cs:List Value} {i:Nat} {v:Value} (h:(cs.drop i).take 1=[v]):cs[i]?=some v:=by
 have:((cs.drop i).take 1)[0]?=some v:=by rw[h];rfl
 grind
theorem Zo {P:Program} {t e:TypeId} (s:P.underlying t=some (.array 6 e)) (F:P.underlying e=some (.int .i64)) (H:P.cellsOf e=1) (l:P.cellsOf t=6):Reads P t .dX:=λ_ _ _ _ _ _ _ c _ h=>by
 obtain⟨z,m,_,_,b,v,D⟩:=DataW.trod_array s h
 have a:∀i,i<6->∃n,c[i]?=some (.int .i64 n):=λi w=>by
  grind[DataW.trod_int,Zn]
 rw[l] at b
 match c,b,a with
 |[C,A,I,G,B,E],_,a=>
  obtain⟨o,y⟩:=a 0 (by omega)
  obtain⟨x,d⟩:=a 1 (by omega)
  obtain⟨p,u⟩:=a 2 (by omega)
  obtain⟨j,r⟩:=a 3 (by omega)
  obtain⟨k,f⟩:=a 4 (by omega)
  obtain⟨q,g⟩:=a 5 (by omega)
  simp only[List.getElem?_cons_zero,List.getElem?_cons_succ,γ] at y d u r f g
  exact⟨⟨o,x,p,j,k,q⟩,by grind[dE,iv]⟩
theorem Zp {P:Program} {t b i v:TypeId} {fs:Array Field} (w:P.underlying t=some (.struct fs)) (r:P.cellsOf t=8) (N:(fs[0]?).map (λf=>(f.type,f.offset))=some (i,0)) (O:(fs[1]?).map (λf=>(f.type,f.offset))=some (b,1)) (u:(fs[2]?).map (λf=>(f.type,f.offset))=some (v,7))
  (x:P.underlying i=some (.int .i64)) (e:P.cellsOf i=1) (q:P.underlying v=some (.int .i64)) (k:P.cellsOf v=1) (z:Reads P b .dX) (d:P.cellsOf b=6) (I:fs.size=3):Reads P t .off:=λ_ _ _ _ _ _ _ B _ h=>by
 obtain⟨T,m,_,_,n,K,j⟩:=DataW.trod_struct w h
 rw[r] at n
 obtain⟨F,C,g⟩:=δ.1 N
 obtain⟨s,D,c⟩:=δ.1 O
 obtain⟨J,A,a⟩:=δ.1 u
 simp only[κ] at g c a
 have o:=j 0 F C
 have l:=j 1 s D
 have p:=j 2 J A
 rw[g.1,g.2,e,ξ (by omega)] at o
 rw[c.1,c.2,d,ξ (by omega)] at l
 rw[a.1,a.2,k,ξ (by omega)] at p
 obtain⟨G,M,_⟩:=DataW.trod_int x o
 obtain⟨y,E⟩:=z _ _ _ _ _ _ _ _ _ l
 obtain⟨H,L,_⟩:=DataW.trod_int q p
 match B,n with
 |[S,U,R,V,Y,X,Q,W],_=>
  simp[dE] at M E L
  exact⟨⟨G,y,H⟩,by grind[dE,iv]⟩
theorem Zq {P:Program} {t b k o:TypeId} {fs:Array Field} (ht:P.underlying t=some (.struct fs)) (hn:P.cellsOf t=20) (a7:fs.size=5)
  (h0:(fs[0]?).map (λf=>(f.type,f.offset))=some (b,0)) (h1:(fs[1]?).map (λf=>(f.type,f.offset))=some (b,6)) (h2:(fs[2]?).map (λf=>(f.type,f.offset))=some (b,12))
  (U:(fs[3]?).map (λf=>(f.type,f.offset))=some (k,18)) (h4:(fs[4]?).map (λf=>(f.type,f.offset))=some (o,19))
  (s:Reads P b .dX) (d:P.cellsOf b=6) {e:TypeId} (hk:P.underlying k=some (.slice e)) (z:Reads P e (.i .i64)) (A:P.cellsOf e=1) (y:P.cellsOf k=1)
  {f:TypeId} (ho:P.underlying o=some (.slice f)) (F:Reads P f .off) (u:P.cellsOf f=8) (v:P.cellsOf o=1)
  {H:Type} {enc:TypeId×Value->H} {w:World} {c:Nat->Bool} {q:Bool} {j:Nat} {cs:List Value} {x:DataW H×List MemPlace} (h:DataW.trod enc P w 0 c q j t cs=some x):
  ∃p:bp,bD lL w [] [] (gL p.ss) cs:=by
 obtain⟨xs,m,_,_,O,a1,l⟩:=DataW.trod_struct ht h
 rw[hn] at O
 obtain⟨f0,e0,E⟩:=δ.1 h0
 obtain⟨f1,e1,D⟩:=δ.1 h1
 obtain⟨Z,e2,r⟩:=δ.1 h2
 obtain⟨f3,T,B⟩:=δ.1 U
 obtain⟨f4,e4,C⟩:=δ.1 h4
 simp only[κ] at E D r B C
 have S:=l 0 f0 e0
 have I:=l 1 f1 e1
 have R:=l 2 Z e2
 have J:=l 3 f3 T
 have M:=l 4 f4 e4
 rw[E.1,E.2,d,ξ (by omega)] at S
 rw[D.1,D.2,d,ξ (by omega)] at I
 rw[r.1,r.2,d,ξ (by omega)] at R
 rw[B.1,B.2,y,ξ (by omega)] at J
 rw[C.1,C.2,v,ξ (by omega)] at M
 obtain⟨y0,K⟩:=s _ _ _ _ _ _ _ _ _ S
 obtain⟨y1,Q⟩:=s _ _ _ _ _ _ _ _ _ I
 obtain⟨y2,G⟩:=s _ _ _ _ _ _ _ _ _ R
 obtain⟨v3,l3,L,r3⟩:=Hr hk z A J
 obtain⟨v4,W,N,r4⟩:=Hr ho F u M
 match cs,O with
 |[c0,c1,c2,c3,c4,c5,c6,c7,c8,c9,a0,a5,V,a6,a8,a2,a4,Y,a3,X],_=>
  simp[dE,iv] at K Q G L N
  obtain⟨rfl,rfl,rfl,rfl,rfl,rfl⟩:=K
  obtain⟨rfl,rfl,rfl,rfl,rfl,rfl⟩:=Q
  obtain⟨rfl,rfl,rfl,rfl,rfl,rfl⟩:=G
  subst L;subst N
  refine⟨⟨y0,y1,y2,l3,W⟩,?_⟩
  have a:∀n:Int,bw lL w [] [] (γe .i64 n).g (.int .i64 n):=λn=>by simp[γF,bw,Value.oneCell']
  simp only[bp.ss,gL,bD]
  exact⟨_,_,rfl,a _,_,_,rfl,a _,_,_,rfl,a _,_,_,rfl,a _,_,_,rfl,a _,_,_,rfl,a _,_,_,rfl,a _,_,_,rfl,a _,_,_,rfl,a _,_,_,rfl,a _,_,_,rfl,a _,_,_,rfl,a _,
   _,_,rfl,a _,_,_,rfl,a _,_,_,rfl,a _,_,_,rfl,a _,_,_,rfl,a _,_,_,rfl,a _,_,_,rfl,r3,_,_,rfl,r4,rfl⟩
theorem Zr {P:Program} {w:World} {r:Reach} {base:Nat} {t:TypeId} {v:Value} {fs:Array Field} (a:P.underlying t=some (.struct fs)) (h:Value.okWide P w r base t v):∃cs,v= .agg cs/\v.cells.toList=cs.toList:=by
 unfold Value.okWide at h;rw[a] at h
 obtain⟨cs,rfl,_⟩:=h
 exact⟨cs,rfl,rfl⟩
theorem Px {P:Program} {w:World} {r:Reach} {base:Nat} {t e:TypeId} {v:Value} (a:P.underlying t=some (.slice e)) (h:Value.okWide P w r base t v):v.cells.toList=[v]:=by
 cases v with
 |agg b=>simp_all[Value.okWide,Cell.okWide,Cell.ok]
 |_=>rfl
theorem Zs {P:Program} {w:World} {r:Reach} {base:Nat} {t:TypeId} {k:IntKind} {v:Value} (a:P.underlying t=some (.int k)) (h:Value.okWide P w r base t v):v.cells.toList=[v]:=by
 cases v with
 |agg b=>simp_all[Value.okWide,Cell.okWide,Cell.ok]
 |_=>rfl
theorem Py {H:Type} {enc:TypeId×Value->H} {P:Program} (j:laidOutB P=true) {W l:World} (n:Below W.heap.size W l) {m:Nat->Bool}:
  ∀{f:List TypeId} {vs:List Value} {i:List (DataW H)} {g:List MemPlace},DataW.TrodAll enc P W 0 (λ_=>true) true f vs i g->(∀t∈f,P.readableRec t=true/\t<P.types.size)->(∀p∈g,p.block<W.heap.size)->(∀p∈g,m p.block=true)->
   DataW.TrodAll enc P l 0 m true f vs i g
 |[],_,_,_,h,_,_,_=>by
  obtain⟨rfl,rfl,rfl⟩:=trodAll_nil h
  exact rfl
 |t::f,_,_,_,h,o,e,k=>by
  obtain⟨v,vs,d,i,a,b,rfl,rfl,rfl,r,s⟩:=trodAll_cons h
  obtain⟨x,q⟩:=o t (by simp)
  exact⟨a,b,WideElems.Trod_stays j x q r (λp c=>n.same (e p (by simp[c]))) (λp c=>k p (by simp[c])),
   Py j n s (λu w=>o u (by simp[w])) (λp c=>e p (by simp[c])) (λp c=>k p (by simp[c])),rfl⟩
theorem Zt {W b:World} {a:bW} {o':Store} (h:Ext W [] [] b a o'):Below W.heap.size W b:=
 ⟨h.os,h.tape,h.output,h.size,λk e=>(h.blk k e (by rintro⟨i,c,d⟩;simp at d)).1⟩
@[simp] theorem Zu {k c:IntKind} {a b:Int}:(γe k a).same (.si c b)↔k=c/\a=b:=by simp[εZ,γF]
@[simp] theorem Zv {k c:IntKind} {a b:Int}:(γq k a).same (.si c b)↔k=c/\a=b:=by simp[εZ,γF]
@[simp] theorem Zw {a b:Bool}:(γI a).same (.sb b)↔a=b:=by simp[εZ,γF]
@[simp] theorem Zx {a b:Bool}:(δs a).same (.sb b)↔a=b:=by simp[εZ,γF]
@[simp] theorem Zy {s:bn} {a b:List s.T}:(Φ s a).same (.row s b)↔a=b:=by
 constructor
 ·intro h;simp only[εZ,γF,εf] at h;exact lK s h.1 h.2
 ·rintro rfl;rfl
@[simp] theorem Zz {k c:IntKind} {a b:Int}:(γe k a).same (.il c b)↔k=c/\a=b:=by simp[εZ,γF]
@[simp] theorem ZA {k c:IntKind} {a b:Int}:(γq k a).same (.il c b)↔k=c/\a=b:=by simp[εZ,γF]
theorem ZB {v:SV}:v.same v↔True:=iff_true_intro rfl
theorem kT {v:bq}:v.same v↔True:=iff_true_intro rfl
theorem ZC {a b c d:SV}:(SV.bH [a,b]).same (.bH [c,d])↔a.same c/\b.same d:=by simp[εZ,γF,gL]
theorem ZD {a b c d e f:SV}:(SV.bH [a,b,c]).same (.bH [d,e,f])↔a.same d/\b.same e/\c.same f:=by simp[εZ,γF,gL]
theorem Ht {s t:bn}:(Φ s []).same (.row t [])↔True:=iff_true_intro (by simp[εZ,γF,cC])
theorem Pz {s:bn} {l:List s.T}:(Φ (.i .i64) []).same (.row s l)↔l=[]:=by
 constructor
 ·grind[εZ,γF]
 ·rintro rfl;exact Ht.2 trivial
theorem CP {a b:bz}:a=b↔a.a0=b.a0/\a.a1=b.a1/\a.a2=b.a2/\a.a3=b.a3/\a.a4=b.a4/\a.a5=b.a5:=by
 obtain⟨k,c,n,f,d,l⟩:=a
 obtain⟨g,i,e,h,m,j⟩:=b
 simp_all
@[simp] theorem ZE {n:Int}:bX .i64 n↔ -9223372036854775808<=n/\n<=9223372036854775807:=Iff.rfl
theorem vcs:(∀{p:Prop} [h:Decidable p],(decide p=true)=p)/\(∀{p:Prop} {x:Decidable p},decide p=false↔¬p)/\(∀{k g:IntKind} {a b:Int},(γq k a).same (γe g b)↔k=g/\a=b)/\(∀{k g:IntKind} {a b:Int},(γe k a).same (γe g b)↔k=g/\a=b)/\(∀{k g:IntKind} {a b:Int},(γe k a).same (γq g b)↔k=g/\a=b)/\(∀{k g:IntKind} {a b:Int},(γq k a).same (γq g b)↔k=g/\a=b)/\(∀{a b:Bool},(γI a).same (γI b)↔a=b)/\(∀{a b:Bool},(δs a).same (γI b)↔a=b)/\(∀{s:bn} {a b:List s.T},(Φ s a).same (Φ s b)↔a=b)/\(∀{a b c d:SV},(SV.bH [a,b]).same (SV.bH [c,d])↔a.same c/\b.same d)/\(∀{a b c d e f:SV},(SV.bH [a,b,c]).same (SV.bH [d,e,f])↔a.same d/\b.same e/\c.same f)/\(∀{s t:bn},(Φ s []).same (Φ t [])↔True)/\(∀{s:bn} {l:List s.T},(Φ (bn.i IntKind.i64) []).same (Φ s l)↔l=[])/\(∀{v:SV},v.same v↔True)/\(∀{v:bq},v.same v↔True)/\(∀{n:Int},bX IntKind.i64 n↔ -9223372036854775808<=n/\n<=9223372036854775807)/\(∀p:Prop,(True/\p)=p)/\(∀p:Prop,(p/\True)=p)/\(∀a b:Bool,((a&&b)=true)=(a=true/\b=true))/\(∀b:Bool,((!b)=true)=(b=false))/\(∀b:Bool,((!b)=false)=(b=true)):=
 ⟨decide_eq_true_eq,decide_eq_false_iff_not,Zv,Zu,Zz,ZA,Zw,Zx,Zy,ZC,ZD,Ht,Pz,ZB,kT,ZE,true_and,and_true,θ,Bool.not_eq_true',Bool.not_eq_false'⟩
def bz.ok (b:bz):Bool:=[b.a0,b.a1,b.a2,b.a3,b.a4,b.a5].all λn=>decide (0<=n)&&decide (n<=4)
theorem bz.fA {b:bz}:b.ok=true↔(0<=b.a0/\b.a0<=4)/\(0<=b.a1/\b.a1<=4)/\(0<=b.a2/\b.a2<=4)/\(0<=b.a3/\b.a3<=4)/\(0<=b.a4/\b.a4<=4)/\(0<=b.a5/\b.a5<=4):=by
 simp[bz.ok]
def Hu:bM:=⟨113,bz,.one (eG .dX),λ_=>True,λb=> .si .i64 (if b.ok=true then 0 else 4)⟩
theorem h146:Holds Tryz.prog Hu:=by
 refine cK (L:=[]) Hu (λ_ _=> .oG 7) (by simp) ?_
 intro b _
 refine bR (let h:=γq .i64;let p:=(0:Int);let q:=(4:Int);let i:=decide (b.a0<p);let a:=γe .i64 (if bz.ok b=true then p else q);let l:=decide (q<b.a0);let k:=decide (b.a1<p);let m:=decide (q<b.a1);let o:=decide (b.a2<p);let j:=decide (q<b.a2);let n:=decide (b.a3<p);let f:=decide (q<b.a3);let g:=decide (b.a4<p);let d:=decide (q<b.a4);let c:=decide (b.a5<p);let e:=decide (q<b.a5);(i=true->(h 4).same a)/\(i=false->(l=true->(h 4).same a)/\(l=false->(k=true->(h 4).same a)/\(k=false->(m=true->(h 4).same a)/\(m=false->(o=true->(h 4).same a)/\(o=false->(j=true->(h 4).same a)/\(j=false->(n=true->(h 4).same a)/\(n=false->(f=true->(h 4).same a)/\(f=false->(g=true->(h 4).same a)/\(g=false->(d=true->(h 4).same a)/\(d=false->(c=true->(h 4).same a)/\(c=false->(e=true->(h 4).same a)/\(e=false->(h 0).same a))))))))))))) (by kernel_rfl) ?_
 conv=>zeta
 have p:=@bz.fA b
 by_cases h:b.ok=true<;>simp_all
def bz.l (b:bz):List Int:=[b.a0,b.a1,b.a2,b.a3,b.a4,b.a5]
def di (p:bp):Int:=p.classes.length+12
def dA (p:bp) (r:Int):Int:=
 if r - p.classes.length<0 then 1
 else if r - p.classes.length<6 then bj [p.supply.a0,p.supply.a1,p.supply.a2,p.supply.a3,p.supply.a4,p.supply.a5] (r - p.classes.length).toNat 0
 else bj [p.opn.a0,p.opn.a1,p.opn.a2,p.opn.a3,p.opn.a4,p.opn.a5] (r - p.classes.length - 6).toNat 0
def eL (p:bp) (r:Int) (o:Off):Int:=
 if r - p.classes.length<0 then(if o.bF=r then 1 else 0)
 else if r - p.classes.length<6 then bj [o.want.a0,o.want.a1,o.want.a2,o.want.a3,o.want.a4,o.want.a5] (r - p.classes.length).toNat 0
 else if bj [p.cls.a0,p.cls.a1,p.cls.a2,p.cls.a3,p.cls.a4,p.cls.a5] (r - p.classes.length - 6).toNat 0=0\/bj [p.cls.a0,p.cls.a1,p.cls.a2,p.cls.a3,p.cls.a4,p.cls.a5] (r - p.classes.length - 6).toNat 0=bj p.classes o.bF.toNat 0 then 0
 else bj [o.want.a0,o.want.a1,o.want.a2,o.want.a3,o.want.a4,o.want.a5] (r - p.classes.length - 6).toNat 0
def xl:bM:=⟨96,bp,.one dG,λp=>p.classes.length<=8,λp=> .si .i64 (di p)⟩
def xm:bM:=⟨134,bp×Int,.cons dG (.one (ez .i64)),λa=>a.1.classes.length<=8/\0<=a.2/\a.2<di a.1,λa=> .si .i64 (dA a.1 a.2)⟩
def xn:bM:=⟨133,bp×Int×Off,.cons dG (.cons (ez .i64) (.one (eG .off))),λa=>a.1.classes.length<=8/\0<=a.2.1/\a.2.1<di a.1/\0<=a.2.2.bF/\a.2.2.bF<a.1.classes.length,λa=> .si .i64 (eL a.1 a.2.1 a.2.2)⟩
theorem h157:Holds Tryz.prog xl:=by
 refine cK (L:=[]) xl (λ_ _=> .oG 7) (by simp) ?_
 intro p (b:p.classes.length<=8)
 refine bR (let a:=(↑p.classes.length:Int)+(12:Int);bX .i64 a/\(γe .i64 a).same (γe .i64 (di p))) (by kernel_rfl) ?_
 simp only[vcs,di];omega
theorem h158:Holds Tryz.prog xm:=by
 refine cK (L:=[]) xm (λ_ _=> .oG 7) (by simp) ?_
 rintro⟨p,r⟩ ⟨h,j,i⟩
 simp only[di] at h j i
 refine bR (let h:=(6:Int);let i:=(0:Int);let d:=γe .i64 (dA p r);let c:=(↑p.classes.length:Int);let g:=decide (r - c<i);let e:=decide (r - c<h);let f:=λ(u b:Int) (a:bz) ↦i<=u - b/\u - b<h/\(u - b).toNat<6/\(γe .i64 (bj [a.a0,a.a1,a.a2,a.a3,a.a4,a.a5] (u - b).toNat i)).same d;bX .i64 (r - c)/\(g=true->(γq .i64 1).same d)/\(g=false->(e=true->f r c p.supply)/\(e=false->bX .i64 (r - c - h)/\f (r - c) h p.opn))) (by kernel_rfl) ?_
 simp only[vcs]
 grind[dA]
theorem h156:Holds Tryz.prog xn:=by
 refine cK (L:=[]) xn (λ_ _=> .oG 7) (by simp) ?_
 rintro⟨p,r,x⟩ ⟨m,q,n,l,o⟩
 simp only[di] at m q n l o
 refine bR (let l:=(0:Int);let m:=(6:Int);let n:=γq .i64;let o:=γq .i64 0;let q:=γe .i64;let b:=(↑p.classes.length:Int);let e:=decide (r - b<l);let c:=q (eL p r x);let h:=decide (r - b<m);let k:=[x.want.a0,x.want.a1,x.want.a2,x.want.a3,x.want.a4,x.want.a5];let a:=r - b - m;let j:=bj [p.cls.a0,p.cls.a1,p.cls.a2,p.cls.a3,p.cls.a4,p.cls.a5] a.toNat l;let i:=decide (j=l);let g:=decide (j=bj p.classes x.bF.toNat l);let d:=decide (x.bF=r);let f:=(e=true->(n 0).same c)/\(e=false->(h=true->l<=r - b/\r - b<m/\(r - b).toNat<6/\(q (bj k (r - b).toNat l)).same c)/\(h=false->bX .i64 a/\l<=a/\a<m/\a.toNat<6/\(i=true->(n 0).same c)/\(i=false->l<=a/\a<m/\a.toNat<6/\l<=x.bF/\x.bF<b/\x.bF.toNat<p.classes.length/\(g=true->(n 0).same c)/\(g=false->l<=a/\a<m/\a.toNat<6/\(q (bj k a.toNat l)).same c))));bX .i64 (r - b)/\(e=true->(d=true->(n 1).same c)/\(d=false->f))/\(e=false->f)) (by kernel_rfl) ?_
 simp only[vcs]
 repeat' (first|refine γj ?_ ?_|intro _)
 all_goals first
  |trivial
  |omega
  |(simp only[eL];(repeat' split)<;>first|rfl|omega)
def L2:List bM:=[xn,xl,xm]
theorem hL2:∀c∈L2,Holds Tryz.prog c:=by
 simp_all[L2,h156,h157,h158]
def cQ (p:bp) (l:List Off) (r:Int):Int:=(l.map (eL p r)).sum
def fN (p:bp) (l:List Off):Bool:=(τ (p.classes.length+12)).all λr=>decide (cQ p l r<=dA p r)
def CQ:bM:=⟨98,bp×List Off,.cons dG (.one (dN .off)),λa=>a.1.classes.length<=8/\a.2.length<=1000/\(∀x∈a.2,0<=x.bF/\x.bF<a.1.classes.length/\x.want.ok=true),λa=> .sb (fN a.1 a.2)⟩
def ZF (a:bp×List Off):Nat->cB
 |3=> .inv Int (λi=>⟨[(1,.row .off a.2),(2,.ptr 0 0 20),(5,.fn (.func 133) [] []),(11,.si .i64 (di a.1)),(12,.si .i64 i)],[.cells a.1.ss 110 20 false]⟩) (λs=>iS s 12)
  (λi=>0<=i/\i<=di a.1/\∀r:Nat,r<i->cQ a.1 a.2 r<=dA a.1 r) (λi=>(di a.1 - i).toNat)
  λi=>λ
   |7=> .inv (Int×Int) (λx=>⟨[(1,.row .off a.2),(2,.ptr 0 0 20),(5,.fn (.func 133) [] []),(6,.si .i64 i),(7,.si .i64 x.2),(11,.si .i64 (di a.1)),(12,.si .i64 i),(15,.row .off a.2),(16,.si .i64 a.2.length),(17,.si .i64 x.1)],[.cells a.1.ss 110 20 false]⟩)
    (λs=>(iS s 17,iS s 7))
    (λx=>0<=x.1/\x.1<=a.2.length/\x.2=cQ a.1 (a.2.take x.1.toNat) i) (λx=>(a.2.length - x.1).toNat) λ_ _=> .look
   |_=> .look
 |_=> .look
theorem Hv {b:bz} (h:b.ok=true) (k:Nat):0<=bj [b.a0,b.a1,b.a2,b.a3,b.a4,b.a5] k 0/\bj [b.a0,b.a1,b.a2,b.a3,b.a4,b.a5] k 0<=4:=by
 grind[bz.fA,bj]
theorem rh {p:bp} {r:Int} {o:Off} (h:o.want.ok=true):0<=eL p r o/\eL p r o<=4:=by
 unfold eL
 have a:=Hv h (r - p.classes.length).toNat
 have b:=Hv h (r - p.classes.length - 6).toNat
 omega
theorem tV {p:bp} {r:Int}:∀{l:List Off},(∀x∈l,x.want.ok=true)->0<=cQ p l r/\cQ p l r<=4*l.length
 |[],_=>by simp[cQ]
 |x::l,h=>by
  have b:=@rh p r x (h x (by simp))
  have c:=@tV p r l λy a=>h y (by simp[a])
  grind[cQ]
theorem de {a:Type} {l:List a} {i:Nat} {d:a} (h:i<l.length):bj l i d∈l:=by grind[cO]
theorem jl {a:Type} {l:List a} {i:Int} {d:a} (b:0<=i) (h:i<l.length):l.take (i+1).toNat=l.take i.toNat++[bj l i.toNat d]:=by
 rw[show(i+1).toNat=i.toNat+1 from by omega,cO (by omega),List.take_succ_eq_append_getElem (by omega)]
theorem Hw {p:bp} {r:Int} {l:List Off} {i:Int} {d:Off} (a:0<=i) (h:i<l.length):cQ p (l.take (i+1).toNat) r=cQ p (l.take i.toNat) r+eL p r (bj l i.toNat d):=by
 grind[jl,cQ]
theorem oM {p:bp} {l:List Off}:fN p l=true↔∀r:Nat,r<di p->cQ p l r<=dA p r:=by
 simp only[fN,di,Θ,List.mem_range,decide_eq_true_eq]
 grind
theorem h134:Holds Tryz.prog CQ:=by
 refine cK (L:=L2) CQ ZF hL2 ?_
 rintro⟨p,l⟩ ⟨hp,hl,hb⟩
 simp only at hp hl hb
 refine bR (let a:=γe .i64;let b:=(0:Int);let c:=Φ;let d:=γq .i64 0;let e:=γq .i64;let f:=bX .i64;let g:=γW 0 0 20;let h:=SV.fn (Fn.func 133) [] [];let i:=a (di p);let j:=bq.cells (bp.ss p) 110 20 false;let k:=(↑l.length:Int);let q:=a k;p.classes.length<=8/\((((c bn.off l).same (c bn.off l)/\g.same g/\h.same h/\i.same i/\(d).same (a 0)/\True)/\j.same j/\True)/\b<=b/\b<=di p/\∀(r:Nat),(↑r:Int)<b->cQ p l (↑r:Int)<=dA p (↑r:Int))/\∀(x:Int),let u:=decide (x<di p);let m:=x+(1:Int);let v:=a m;(b<=x/\x<=di p/\∀(r:Nat),(↑r:Int)<x->cQ p l (↑r:Int)<=dA p (↑r:Int))->(u=true->((((c bn.off l).same (c bn.off l)/\g.same g/\h.same h/\(a x).same (a x)/\(d).same (a 0)/\i.same i/\(a x).same (a x)/\(c bn.off l).same (c bn.off l)/\(a (↑l.length:Int)).same q/\(d).same (a 0)/\True)/\j.same j/\True)/\b<=b/\b<=k/\b=cQ p [] x)/\∀(x_1:Int×Int),let s:=bj l x_1.fst.toNat bn.off.dflt;let t:=x_1.snd+eL p x s;let n:=x_1.fst+(1:Int);let o:=a x;let w:=a t;let y:=a n;let z:=decide (dA p x<x_1.snd);b<=x_1.fst/\x_1.fst<=k/\x_1.snd=cQ p (γd x_1.fst.toNat l) x->(decide (x_1.fst<k)=true->b<=x_1.fst/\x_1.fst<(↑l.length:Int)/\x_1.fst.toNat<l.length/\(p.classes.length<=8/\b<=x/\x<di p/\b<=s.bF/\s.bF<(↑p.classes.length:Int))/\f t/\f n/\(((c bn.off l).same (c bn.off l)/\g.same g/\h.same h/\o.same o/\w.same w/\i.same i/\o.same o/\(c bn.off l).same (c bn.off l)/\q.same q/\y.same y/\True)/\j.same j/\True)/\(b<=n/\n<=k/\t=cQ p (γd n.toNat l) x)/\(k - n).toNat<(k - x_1.fst).toNat)/\(decide (x_1.fst<k)=false->(p.classes.length<=8/\b<=x/\x<di p)/\(z=true->(δs false).same (γI (fN p l)))/\(z=false->f m/\(((c bn.off l).same (c bn.off l)/\g.same g/\h.same h/\i.same i/\v.same v/\True)/\j.same j/\True)/\(b<=m/\m<=di p/\∀(r:Nat),(↑r:Int)<m->cQ p l (↑r:Int)<=dA p (↑r:Int))/\(di p - m).toNat<(di p - x).toNat)))/\(u=false->(δs true).same (γI (fN p l)))) (by kernel_rfl) ?_
 simp only[vcs]
 have hn:di p=p.classes.length+12:=rfl
 have ho:∀x∈l,x.want.ok=true:=λx hx=>(hb x hx).2.2
 refine⟨hp,⟨by omega,by omega,λr hr=>by omega⟩,?_⟩
 rintro i ⟨hi0,hi1,hi⟩
 refine⟨λhlt=>⟨⟨by omega,by omega,by simp[cQ]⟩,?_⟩,?_⟩
 ·rintro⟨j,s⟩ ⟨hj0,hj1,hs⟩
  simp only at hj0 hj1 hs ⊢
  have hsb:=@tV p i (l.take j.toNat) λx hx=>ho x (List.mem_of_mem_take hx)
  have hlen:(l.take j.toNat).length<=l.length:=by simp;omega
  refine⟨λhjl=>?_,λhjl=>?_⟩
  ·have hm:=hb _ (de (d:=bn.off.dflt) (show j.toNat<l.length by omega))
   have hc:=@rh p i _ hm.2.2
   have hst:=@Hw p i l j bn.off.dflt hj0 hjl
   refine⟨by omega,by omega,by omega,⟨hp,by omega,by omega,hm.1,hm.2.1⟩,by omega,by omega,⟨by omega,by omega,by omega⟩,by omega⟩
  ·have:j.toNat=l.length:=by omega
   rw[this,χ] at hs
   refine⟨⟨hp,by omega,by omega⟩,λhgt=>?_,λhle=>⟨by omega,⟨by omega,by omega,λr hr=>?_⟩,by omega⟩⟩
   ·symm
    rw[Bool.eq_false_iff];intro hf
    have:=oM.1 hf i.toNat (by omega)
    rw[show((i.toNat:Nat):Int)=i from by omega] at this
    omega
   ·by_cases hr2:(r:Int)<i
    ·exact hi r hr2
    ·have:(r:Int)=i:=by omega
     rw[this];omega
 ·intro hge
  symm
  exact oM.2 λr hr=>hi r (by omega)
def L3:List bM:=[CQ,Hu,xn,xl,xm]
theorem hL3:∀c∈L3,Holds Tryz.prog c:=by
 simp only[L3,γG,List.not_mem_nil,false_implies,implies_true,and_true]
 grind[h134,h146,h156,h157,h158]
def ig (p:bp) (k:Nat):Prop:=
 let c:=bj [p.cls.a0,p.cls.a1,p.cls.a2,p.cls.a3,p.cls.a4,p.cls.a5] k 0
 let o:=bj [p.opn.a0,p.opn.a1,p.opn.a2,p.opn.a3,p.opn.a4,p.opn.a5] k 0
 let s:=bj [p.supply.a0,p.supply.a1,p.supply.a2,p.supply.a3,p.supply.a4,p.supply.a5] k 0
 0<=c/\c<=4/\0<=o/\o<=s/\(c≠0\/o=s)
instance (p:bp) (k:Nat):Decidable (ig p k):=by unfold ig;infer_instance
def CS (p:bp):Bool:=(τ 6).all λk=>decide (ig p k)
theorem nP {p:bp} {k:Nat}:ig p k↔(0<=bj [p.cls.a0,p.cls.a1,p.cls.a2,p.cls.a3,p.cls.a4,p.cls.a5] k 0/\bj [p.cls.a0,p.cls.a1,p.cls.a2,p.cls.a3,p.cls.a4,p.cls.a5] k 0<=4/\0<=bj [p.opn.a0,p.opn.a1,p.opn.a2,p.opn.a3,p.opn.a4,p.opn.a5] k 0/\
  bj [p.opn.a0,p.opn.a1,p.opn.a2,p.opn.a3,p.opn.a4,p.opn.a5] k 0<=bj [p.supply.a0,p.supply.a1,p.supply.a2,p.supply.a3,p.supply.a4,p.supply.a5] k 0/\
  (bj [p.cls.a0,p.cls.a1,p.cls.a2,p.cls.a3,p.cls.a4,p.cls.a5] k 0≠0\/bj [p.opn.a0,p.opn.a1,p.opn.a2,p.opn.a3,p.opn.a4,p.opn.a5] k 0=bj [p.supply.a0,p.supply.a1,p.supply.a2,p.supply.a3,p.supply.a4,p.supply.a5] k 0)):=Iff.rfl
attribute [irreducible] ig
theorem zx {p:bp}:CS p=true↔∀k,k<6->ig p k:=by simp[CS]
def gY (p:bp):Int:=
 if p.supply.ok=false then 4
 else if CS p=false then 4
 else if 8<p.classes.length\/160<p.offers.length then 3
 else if ¬∀c∈p.classes,0<=c/\c<=4 then 4
 else 0
def Hy:bM:=⟨80,bp,.one dG,λp=>True,λp=> .si .i64 (gY p)⟩
def ZG (p:bp):Nat->cB
 |5=> .inv Int (λk=>⟨[(1,.ptr 0 0 20),(16,.si .i64 k)],[.cells p.ss 110 20 false]⟩) (λs=>iS s 16) (λk=>0<=k/\k<=6/\∀j:Nat,j<k->ig p j) (λk=>(6 - k).toNat) λ_ _=> .look
 |14=> .inv Int (λk=>⟨[(76,.row (.i .i64) p.classes),(77,.si .i64 p.classes.length),(78,.si .i64 k)],[.cells p.ss 110 20 false]⟩) (λs=>iS s 78)
  (λk=>0<=k/\k<=p.classes.length/\∀c∈p.classes.take k.toNat,0<=c/\c<=4) (λk=>(p.classes.length - k).toNat) λ_ _=> .look
 |_=> .look
theorem PD {p:bp} (h:p.supply.ok=false):gY p=4:=by simp[gY,h]
theorem PE {p:bp} (h:p.supply.ok=true) {k:Nat} (b:k<6) (a:¬ig p k):gY p=4:=by
 grind[zx,gY]
theorem CU {p:bp} (h:p.supply.ok=true) (b:∀j:Nat,j<6->ig p j) (a:8<p.classes.length\/160<p.offers.length):gY p=3:=by
 grind[gY,zx]
theorem CV {p:bp} (h:p.supply.ok=true) (f:∀j:Nat,j<6->ig p j) (e:¬(8<p.classes.length\/160<p.offers.length)) {c:Int} (b:c∈p.classes) (a:¬(0<=c/\c<=4)):gY p=4:=by
 have:¬∀c∈p.classes,0<=c/\c<=4:=λd=>a (d c b)
 simp_all[gY]
theorem Hz {p:bp} (h:p.supply.ok=true) (b:∀j:Nat,j<6->ig p j) (d:¬(8<p.classes.length\/160<p.offers.length)) (a:∀c∈p.classes,0<=c/\c<=4):gY p=0:=by
 simp_all[gY,zx,if_neg]
theorem sr {p:bp} (h:gY p=0):p.supply.ok=true/\(∀j:Nat,j<6->ig p j)/\p.classes.length<=8/\p.offers.length<=160/\∀c∈p.classes,0<=c/\c<=4:=by
 unfold gY at h;split at h
 ·cases h
 ·split at h
  ·cases h
  ·split at h
   all_goals simp_all[zx]
theorem PG {l:List Int} {i:Int} {P:Int->Prop} (d:0<=i) (h:i<l.length) (a:∀c∈l.take i.toNat,P c) (b:P (bj l i.toNat 0)):∀c∈l.take (i+1).toNat,P c:=by
 grind[jl]
theorem h118:Holds Tryz.prog Hy:=by
 refine cK (L:=L3) Hy ZG hL3 ?_
 intro p _
 refine bR (let a:=γe .i64;let b:=(0:Int);let d:=γq .i64;let e:=(6:Int);let f:=(4:Int);let y:=if p.supply.ok=true then b else f;let g:=a (gY p);let q:=γW 0 0 20;let s:=d 0;let n:=Φ (bn.i .i64) p.classes;let h:=bq.cells [a p.supply.a0,a p.supply.a1,a p.supply.a2,a p.supply.a3,a p.supply.a4,a p.supply.a5,a p.opn.a0,a p.opn.a1,a p.opn.a2,a p.opn.a3,a p.opn.a4,a p.opn.a5,a p.cls.a0,a p.cls.a1,a p.cls.a2,a p.cls.a3,a p.cls.a4,a p.cls.a5,n,Φ bn.off p.offers] 110 20 false;let N:=[p.cls.a0,p.cls.a1,p.cls.a2,p.cls.a3,p.cls.a4,p.cls.a5];let O:=[p.opn.a0,p.opn.a1,p.opn.a2,p.opn.a3,p.opn.a4,p.opn.a5];let P:=[p.supply.a0,p.supply.a1,p.supply.a2,p.supply.a3,p.supply.a4,p.supply.a5];let t:=(↑p.classes.length:Int);let z:=decide ((8:Int)<t);let A:=decide ((160:Int)<(↑p.offers.length:Int));let k:=(↑p.classes.length:Int);let v:=a k;let B:=λ(u:Bool) ↦decide (y≠b)=u;True/\(B true->(a y).same g)/\(B false->(((q.same q/\s.same (a 0)/\True)/\h.same h/\True)/\b<=b/\b<=e/\∀(j:Nat),(↑j:Int)<b->ig p j)/\∀(x:Int),let l:=x+(1:Int);let C:=a l;let D:=decide (x<e);let w:=bj N x.toNat b;let E:=decide (w<b);let F:=decide (f<w);let o:=bj O x.toNat b;let G:=decide (o<b);let r:=bj P x.toNat b;let H:=decide (w=b);let I:=bX .i64 l/\((q.same q/\C.same C/\True)/\h.same h/\True)/\(b<=l/\l<=e/\∀(j:Nat),(↑j:Int)<l->ig p j)/\(e - l).toNat<(e - x).toNat;(b<=x/\x<=e/\∀(j:Nat),(↑j:Int)<x->ig p j)->(D=true->b<=x/\x<e/\x.toNat<6/\b<=x/\x<e/\x.toNat<6/\(E=true->(d 4).same g)/\(E=false->(F=true->(d 4).same g)/\(F=false->(G=true->(d 4).same g)/\(G=false->b<=x/\x<e/\x.toNat<6/\(decide (r<o)=true->(d 4).same g)/\(decide (r<o)=false->(H=true->b<=x/\x<e/\x.toNat<6/\(decide (o≠r)=true->(d 4).same g)/\(decide (o≠r)=false->I))/\(H=false->I))))))/\(D=false->(z=true->(d 3).same g)/\(z=false->(A=true->(d 3).same g)/\(A=false->(((n.same n/\(a t).same v/\s.same (a 0)/\True)/\h.same h/\True)/\b<=b/\b<=k/\∀(c:Int),c∈[]->b<=c/\c<=f)/\∀(x:Int),let J:=bj p.classes x.toNat b;let K:=decide (J<b);let L:=decide (f<J);let m:=x+(1:Int);let M:=a m;(b<=x/\x<=k/\∀(c:Int),c∈γd x.toNat p.classes->b<=c/\c<=f)->(decide (x<k)=true->b<=x/\x<t/\x.toNat<p.classes.length/\(K=true->(d 4).same g)/\(K=false->(L=true->(d 4).same g)/\(L=false->bX .i64 m/\((n.same n/\v.same v/\M.same M/\True)/\h.same h/\True)/\(b<=m/\m<=k/\∀(c:Int),c∈γd m.toNat p.classes->b<=c/\c<=f)/\(k - m).toNat<(k - x).toNat)))/\(decide (x<k)=false->s.same g)))))) (by kernel_rfl) ?_
 simp only[vcs]
 by_cases hs:bz.ok p.supply=true
 ·simp only[hs,if_true]
  refine⟨λh=>absurd rfl h,λ_=>⟨⟨by omega,by omega,λj hj=>by omega⟩,?_⟩⟩
  rintro k ⟨hk0,hk1,hk⟩
  refine⟨λhlt=>?_,λhge=>?_⟩
  ·have bad:¬ig p k.toNat->(4:Int)=gY p:=λh=>(PE hs (by omega) h).symm
   have HA:ig p k.toNat->∀(j:Nat),(j:Int)<k+1->ig p j:=λh j hj=>by
    by_cases hj2:(j:Int)<k
    ·exact hk j hj2
    ·rw[show j=k.toNat from by omega];exact h
   repeat' (first|refine γj ?_ ?_|intro _)
   all_goals first
    |omega
    |exact bad λhh=>by have h2:=nP.1 hh;omega
    |exact HA (nP.2 (by omega)) _ (by assumption)
  ·have hall:∀j:Nat,j<6->ig p j:=λj hj=>hk j (by omega)
   refine⟨λh=>(CU hs hall (.inl (by omega))).symm,λh8=>⟨λh=>(CU hs hall (.inr (by omega))).symm,λh160=>⟨⟨by omega,by omega,by simp⟩,?_⟩⟩⟩
   rintro i ⟨hi0,hi1,hi⟩
   refine⟨λhlt=>?_,λhge=>?_⟩
   ·have hm:=de (d:=0) (show i.toNat<p.classes.length by omega)
    refine⟨by omega,by omega,by omega,λh=>(CV hs hall (by omega) hm (by omega)).symm,λh1=>⟨λh=>(CV hs hall (by omega) hm (by omega)).symm,λh2=>⟨by omega,⟨by omega,by omega,?_⟩,by omega⟩⟩⟩
    exact PG hi0 hlt hi (by omega)
   ·rw[show i.toNat=p.classes.length from by omega,χ] at hi
    exact(Hz hs hall (by omega) hi).symm
 ·have hs2:bz.ok p.supply=false:=by simpa using hs
  simp only[hs2,φ,if_false]
  exact⟨λ_=>(PD hs2).symm,λh=>absurd (by decide) h⟩
def kr (n:Int) (o:Off):Int:=
 if o.bF<0\/n<=o.bF then 6 else if o.value<1\/1000000<o.value then 4 else if o.want.ok then 0 else 4
def HB:bM:=⟨114,Int×Off,.cons (ez .i64) (.one (eG .off)),λp=>True,λp=> .si .i64 (kr p.1 p.2)⟩
theorem h147:Holds Tryz.prog HB:=by
 refine cK (L:=L3) HB (λp=>λ_=> .look) hL3 ?_
 rintro⟨n,x⟩ _
 refine bR (let f:=γq .i64;let e:=decide (x.bF<(0:Int));let a:=γe .i64 (kr n x);let c:=decide (n<=x.bF);let b:=decide (x.value<(1:Int));let d:=decide ((1000000:Int)<x.value);(e=true->(f 6).same a)/\(e=false->(c=true->(f 6).same a)/\(c=false->(b=true->(f 4).same a)/\(b=false->(d=true->(f 4).same a)/\(d=false->True/\(γe .i64 (if x.want.ok=true then(0:Int) else(4:Int))).same a))))) (by kernel_rfl) ?_
 simp only[vcs]
 grind[kr]
def jF (p:bp) (o:Off):Int:=
 if kr p.classes.length o≠0 then kr p.classes.length o else if o.want=bz.zero then 4 else if fN p [o]=false then 14 else 0
def HC:bM:=⟨81,bp×Off,.cons dG (.one (eG .off)),λa=>a.1.classes.length<=8,λa=> .si .i64 (jF a.1 a.2)⟩
def L4:List bM:=HB::L3
theorem hL4:∀c∈L4,Holds Tryz.prog c:=by
 grind[L4,h147,hL3]
theorem xo {n:Int} {o:Off} (h:kr n o=0):0<=o.bF/\o.bF<n/\1<=o.value/\o.value<=1000000/\o.want.ok=true:=by
 grind[kr]
theorem h119:Holds Tryz.prog HC:=by
 refine cK (L:=L4) HC (λp=>λ_=> .look) hL4 ?_
 rintro⟨p,x⟩ (i:p.classes.length<=8)
 refine bR (let f:=(0:Int);let g:=γq .i64;let c:=kr (↑p.classes.length:Int) x;let e:=decide (c≠f);let b:=γe .i64 (jF p x);let d:=λ(u:Bool) ↦(decide (x.want.a0=f)&&(decide (x.want.a1=f)&&(decide (x.want.a2=f)&&(decide (x.want.a3=f)&&(decide (x.want.a4=f)&&(decide (x.want.a5=f)&&true))))))=u;True/\(e=true->(γe .i64 c).same b)/\(e=false->(d true->(g 4).same b)/\(d false->(p.classes.length<=8/\1<=1000/\∀(a:Off),a∈[x]->f<=a.bF/\a.bF<(↑p.classes.length:Int)/\a.want.ok=true)/\((!fN p [x])=true->(g 14).same b)/\((!fN p [x])=false->(g 0).same b)))) (by kernel_rfl) ?_
 conv=>zeta
 have g:(decide (x.want.a0=0)&&(decide (x.want.a1=0)&&(decide (x.want.a2=0)&&(decide (x.want.a3=0)&&(decide (x.want.a4=0)&&decide (x.want.a5=0))))))=decide (x.want=bz.zero):=by
  simp_all[CP,bz.zero]
 simp only[δX,g];simp only[vcs]
 refine⟨λh=>by simp_all[jF],λh=>?_⟩
 have f:kr p.classes.length x=0:=Γ.1 h
 have j:=xo f
 grind[jF]
def L5:List bM:=Hy::HC::L4
theorem hL5:∀c∈L5,Holds Tryz.prog c:=by
 grind[L5,h118,h119,hL4]
def Off.key (o:Off):mV:=⟨o.bF,o.want⟩
def gK (p:bp) (a:List mV):List Off->Int
 |[]=>0
 |o::r=>if jF p o≠0 then jF p o else if o.key∈a then 7 else gK p (a++[o.key]) r
def bC (p:bp):Int:=if gY p≠0 then gY p else gK p [] p.offers
def ri:bM:=⟨51,bp,.one dG,λp=>True,λp=> .si .i64 (bC p)⟩
def ZH (p:bp):Nat->cB
 |7=> .inv Int (λi=>⟨[(3,.ptr 1 0 20),(5,.mp 2),(19,.row .off p.offers),(20,.si .i64 p.offers.length),(21,.si .i64 i)],
   [.cells p.ss 27 20 false,.cells p.ss 110 20 false,.map .key .b true ((p.offers.take i.toNat).map λo=>(o.key,true)) ([0,0,0,0,0,0,0],true) true]⟩) (λs=>iS s 21)
  (λi=>0<=i/\i<=p.offers.length/\gK p [] p.offers=gK p ((p.offers.take i.toNat).map Off.key) (p.offers.drop i.toNat)) (λi=>(p.offers.length - i).toNat) λ_ _=> .look
 |_=> .look
theorem CW {a:Type} {l:List a} {i:Int} {d:a} (b:0<=i) (h:i<l.length):l.drop i.toNat=bj l i.toNat d::l.drop (i+1).toNat:=by
 rw[show(i+1).toNat=i.toNat+1 from by omega,cO (by omega),List.drop_eq_getElem_cons (by omega)]
theorem CX (k:mV):∀(l:List Off),(jV .key .b k (l.map λo=>(o.key,true))).getD false=decide (k∈l.map Off.key)
 |[]=>by simp[jV]
 |o::l=>by
  have:=CX k l
  grind[jV]
theorem ZI {b sv:bn} {c:Bool} {es a:List (b.T×sv.T)} {d:List Nat×Bool} {pu:Bool} (h:es=a):(bq.map b sv c es d pu).same (.map b sv c a d pu):=by rw[h];rfl
theorem ZJ {k:mV} {l:List Off} (h:k∉l.map Off.key):mY .key .b k true (l.map λo=>(o.key,true))=(l.map λo=>(o.key,true))++[(k,true)]:=
 GV λp a=>by
  grind
theorem h79:Holds Tryz.prog ri:=by
 refine cK (L:=L5) ri ZH hL5 ?_
 intro p _
 refine bR (let a:=γe .i64;let c:=(0:Int);let f:=Φ bn.off p.offers;let q:=decide (gY p≠c);let g:=a (bC p);let h:=γW 1 0 20;let r:=(↑p.offers.length:Int);let d:=(↑p.offers.length:Int);let m:=a d;let s:=γq .i64 0;let n:=([0,0,0,0,0,0,0],true);let t:=bq.map bn.key bn.b true [] n true;let j:=gK p [] p.offers;let E:=bn.off.dflt;let k:=λ(u:Nat) ↦let v:=bq.cells [a p.supply.a0,a p.supply.a1,a p.supply.a2,a p.supply.a3,a p.supply.a4,a p.supply.a5,a p.opn.a0,a p.opn.a1,a p.opn.a2,a p.opn.a3,a p.opn.a4,a p.opn.a5,a p.cls.a0,a p.cls.a1,a p.cls.a2,a p.cls.a3,a p.cls.a4,a p.cls.a5,Φ (bn.i .i64) p.classes,f] u 20 false;v.same v;True/\(q=true->(a (gY p)).same g)/\(q=false->(((h.same h/\(SV.mp 2).same (SV.mp 2)/\f.same f/\(a r).same m/\s.same (a 0)/\True)/\k 27/\k 110/\t.same t/\True)/\c<=c/\c<=d/\j=j)/\∀(x:Int),let w:=γd x.toNat p.offers;let l:=bj p.offers x.toNat E;let y:=decide (jF p l≠c);let z:=mV.mk l.bF l.want;let A:=γh (λ(o:Off) ↦(o.key,true)) w;let B:=(jV bn.key bn.b z A).getD false;let e:=x+(1:Int);let C:=a e;let D:=γd e.toNat p.offers;c<=x/\x<=d/\j=gK p (γh Off.key w) (δi x.toNat p.offers)->(decide (x<d)=true->c<=x/\x<r/\x.toNat<p.offers.length/\p.classes.length<=8/\(y=true->(a (jF p l)).same g)/\(y=false->(B=true->(γq .i64 7).same g)/\(B=false->bX .i64 e/\((h.same h/\(SV.mp 2).same (SV.mp 2)/\f.same f/\m.same m/\C.same C/\True)/\k 27/\k 110/\(bq.map bn.key bn.b true (mY bn.key bn.b z true A) n true).same (bq.map bn.key bn.b true (γh (λ(o:Off) ↦(o.key,true)) D) n true)/\True)/\(c<=e/\e<=d/\j=gK p (γh Off.key D) (δi e.toNat p.offers))/\(d - e).toNat<(d - x).toNat)))/\(decide (x<d)=false->s.same g))) (by kernel_rfl) ?_
 simp only[vcs]
 refine⟨λh=>by simp[bC,h],λh=>?_⟩
 have hz:gY p=0:=Γ.1 h
 obtain⟨f1,f2,f3,f4,f5⟩:=sr hz
 refine⟨⟨by omega,by omega⟩,?_⟩
 rintro i ⟨hi0,hi1,hi⟩
 refine⟨λhlt=>?_,λhge=>?_⟩
 ·rw[CW (d:=bn.off.dflt) hi0 hlt] at hi
  generalize hx:bj p.offers i.toNat bn.off.dflt=x at hi ⊢
  refine⟨by omega,by omega,by omega,f3,λhe=>?_,λhe=>?_⟩
  ·simp only[gK,if_pos he] at hi
   simp[bC,hz,hi]
  ·simp only[gK,if_neg he] at hi
   have hk:(⟨x.bF,x.want⟩:mV)=x.key:=rfl
   simp only[hk]
   refine⟨λhm=>?_,λhm=>⟨by omega,?_,⟨by omega,by omega,?_⟩,by omega⟩⟩
   ·have hm2:=of_decide_eq_true ((CX _ _).symm.trans hm)
    rw[if_pos hm2] at hi
    simp[bC,hz,hi]
   ·have hm2:=of_decide_eq_false ((CX _ _).symm.trans hm)
    apply ZI
    rw[ZJ hm2,jl (d:=bn.off.dflt) hi0 hlt,hx]
    simp
   ·have hm2:=of_decide_eq_false ((CX _ _).symm.trans hm)
    rw[if_neg hm2] at hi;rw[hi,jl (d:=bn.off.dflt) hi0 hlt,hx]
    simp
 ·rw[show i.toNat=p.offers.length from by omega,ε0] at hi
  simp only[gK] at hi
  simp[bC,hz,hi]
def eA (l:List Off) (a:Int):List Int->Option (List Off)
 |[]=>some []
 |i::r=>if i<=a\/l.length<=i then none else(eA l i r).map (bj l i.toNat bn.off.dflt::·)
def fO (p:bp) (c:List Int):Bool:=(eA p.offers (-1) c).isSome
def dQ (p:bp) (c:List Int):List Off:=(eA p.offers (-1) c).getD []
def CY:bM:=⟨97,bp×List Int,.cons dG (.one (dN (.i .i64))),λa=>a.2.length<=9223372036854775807/\a.1.offers.length<=1000,λa=> .bH [.row .off (dQ a.1 a.2),.sb (fO a.1 a.2)]⟩
def ZK (a:bp×List Int):Nat->cB
 |4=> .inv (Int×Int×List Off) (λx=>⟨[(2,.ptr 0 0 20),(6,.ow 1 x.2.2.length 8),(7,.si .i64 x.2.1),(10,.row (.i .i64) a.2),(11,.si .i64 a.2.length),(12,.si .i64 x.1)],
   [.cells a.1.ss 27 20 false,.row .off x.2.2 39 true]⟩) (λs=>(iS s 12,iS s 7,oS .off s 1))
  (λx=>0<=x.1/\x.1<=a.2.length/\(x.2.2.length<=x.2.1+1/\x.2.1<1000)/\ -1<=x.2.1/\eA a.1.offers (-1) a.2=(eA a.1.offers x.2.1 (a.2.drop x.1.toNat)).map (x.2.2++·)) (λx=>(a.2.length - x.1).toNat) λ_ _=> .look
 |_=> .look
theorem h133:Holds Tryz.prog CY:=by
 refine cK (L:=L5) CY ZK hL5 ?_
 rintro⟨p,c⟩ ⟨hc,hof⟩
 have hc:c.length<=9223372036854775807:=hc
 have hof:p.offers.length<=1000:=hof
 refine bR (let a:=γe .i64;let b:=(0:Int);let d:=(-1:Int);let e:=Φ;let f:=(1000:Int);let g:=δs false;let h:=SV.bH;let j:=(1:Int);let q:=γW 0 0 20;let w:=SV.ow 1 0 8;let m:=bn.i .i64;let l:=(↑c.length:Int);let t:=a l;let r:=bq.cells [a p.supply.a0,a p.supply.a1,a p.supply.a2,a p.supply.a3,a p.supply.a4,a p.supply.a5,a p.opn.a0,a p.opn.a1,a p.opn.a2,a p.opn.a3,a p.opn.a4,a p.opn.a5,a p.cls.a0,a p.cls.a1,a p.cls.a2,a p.cls.a3,a p.cls.a4,a p.cls.a5,e m p.classes,e bn.off p.offers] 27 20 false;let y:=bq.row bn.off [] 39 true;let s:=eA p.offers d c;let u:=h [e bn.off (dQ p c),γI (fO p c)];let v:=(↑p.offers.length:Int);(((q.same q/\w.same w/\(γq .i64 d).same (a d)/\(e m c).same (e m c)/\(a (↑c.length:Int)).same t/\(γq .i64 0).same (a 0)/\True)/\r.same r/\y.same y/\True)/\b<=b/\b<=l/\(b<=b/\d<f)/\d<=d/\s=ζs (λx ↦(b,d,[]).snd.snd++x) s)/\∀(x:Int×Int×List Off),let k:=bj c x.fst.toNat b;let z:=decide (k<=x.snd.fst);let A:=x.snd.snd.length+1;let n:=x.fst+j;let o:=x.snd.snd++[bj p.offers k.toNat bn.off.dflt];let B:=a k;let C:=a n;let D:=bq.row bn.off o 39 true;b<=x.fst/\x.fst<=l/\((↑x.snd.snd.length:Int)<=x.snd.fst+j/\x.snd.fst<f)/\d<=x.snd.fst/\s=ζs (λx_1 ↦x.snd.snd++x_1) (eA p.offers x.snd.fst (δi x.fst.toNat c))->(decide (x.fst<l)=true->b<=x.fst/\x.fst<(↑c.length:Int)/\x.fst.toNat<c.length/\(z=true->(h [e m [],g]).same u)/\(z=false->(decide (v<=k)=true->(h [e m [],g]).same u)/\(decide (v<=k)=false->b<=k/\k<v/\k.toNat<p.offers.length/\x.snd.snd.length=x.snd.snd.length/\A*64<=140737488355328/\A<=1000000000000/\bX .i64 n/\((q.same q/\(SV.ow 1 o.length 8).same (SV.ow 1 o.length 8)/\B.same B/\(e m c).same (e m c)/\t.same t/\C.same C/\True)/\r.same r/\D.same D/\True)/\(b<=n/\n<=l/\((↑o.length:Int)<=k+j/\k<f)/\d<=k/\s=ζs (λx ↦(n,k,o).snd.snd++x) (eA p.offers k (δi n.toNat c)))/\(l - n).toNat<(l - x.fst).toNat)))/\(decide (x.fst<l)=false->x.snd.snd.length=x.snd.snd.length/\(h [e bn.off x.snd.snd,δs true]).same u)) (by kernel_rfl) ?_
 simp only[vcs]
 have hrow:∀{l:List Off},l=[]->(Φ (.i .i64) []).same (Φ .off l):=by rintro l rfl;exact Ht.2 trivial
 refine⟨⟨by omega,by omega,by omega,by simp⟩,?_⟩
 rintro⟨i,last,out⟩ ⟨hi0,hi1,hlen,hla,hi⟩
 simp only at hi0 hi1 hlen hla hi ⊢
 refine⟨λhlt=>?_,λhge=>?_⟩
 ·rw[CW (d:=0) hi0 hlt] at hi
  generalize hx:bj c i.toNat 0=x at hi ⊢
  simp only[eA] at hi
  refine⟨by omega,by omega,by omega,λh1=>?_,λh1=>⟨λh2=>?_,λh2=>?_⟩⟩
  ·rw[if_pos (.inl h1)] at hi
   exact⟨hrow (by simp[dQ,hi]),by simp[fO,hi]⟩
  ·rw[if_pos (.inr (by omega))] at hi
   exact⟨hrow (by simp[dQ,hi]),by simp[fO,hi]⟩
  ·rw[if_neg (by omega)] at hi
   simp only[List.length_append,List.length_singleton]
   refine⟨by omega,by omega,by omega,by omega,by omega,by omega,⟨by omega,by omega,by omega,by omega,?_⟩,by omega⟩
   rw[hi,Option.map_map]
   congr 1
   funext r
   simp
 ·rw[show i.toNat=c.length from by omega,ε0] at hi
  simp only[eA,μ,List.append_nil] at hi
  exact⟨by simp[dQ,hi],by simp[fO,hi]⟩
def L6:List bM:=ri::CY::L5
theorem hL6:∀c∈L6,Holds Tryz.prog c:=by
 grind[L6,h79,h133,hL5]
def cM (p:bp) (c:List Int):Int:=if bC p≠0 then bC p else if fO p c=false then 4 else if fN p (dQ p c)=false then 14 else 0
def zy:bM:=⟨61,bp×List Int,.cons dG (.one (dN (.i .i64))),λa=>a.2.length<=9223372036854775807,λa=> .si .i64 (cM a.1 a.2)⟩
theorem PH {p:bp}:∀{l:List Off} {a:List mV},gK p a l=0->∀x∈l,jF p x=0
 |[],_,_=>by simp
 |o::r,a,h=>by
  simp only[gK] at h;split at h
  ·omega
  ·rename_i c
   split at h
   ·cases h
   ·intro x b
    rcases γp.1 b with rfl|b
    ·omega
    ·exact PH h x b
theorem rj {p:bp} (h:bC p=0):gY p=0/\∀x∈p.offers,jF p x=0:=by
 unfold bC at h;split at h
 ·omega
 ·rename_i a;exact⟨Γ.1 a,PH h⟩
theorem xp {p:bp} {o:Off} (h:jF p o=0):kr p.classes.length o=0/\o.want≠bz.zero/\fN p [o]=true:=by
 unfold jF at h
 grind
theorem vq {l:List Off}:∀{c:List Int} {a:Int} {r:List Off}, -1<=a->eA l a c=some r->r.length+a+1<=l.length\/r=[]
 |[],a,r,_,h=>by grind[eA]
 |i::c,a,r,d,h=>by
  simp only[eA] at h;split at h
  ·cases h
  ·rename_i e
   obtain⟨f,b,rfl⟩:=δ.1 h
   have:=vq (by omega) b
   grind
theorem CZ {l:List Off}:∀{c:List Int} {a:Int} {r:List Off}, -1<=a->eA l a c=some r->∀x∈r,x∈l
 |[],a,r,_,h=>by grind[eA]
 |i::c,a,r,f,h=>by
  simp only[eA] at h;split at h
  ·cases h
  ·rename_i e
   obtain⟨g,d,rfl⟩:=δ.1 h
   intro x b
   rcases γp.1 b with rfl|b
   ·grind[de]
   ·exact CZ (by omega) d x b
theorem h100:Holds Tryz.prog zy:=by
 refine cK (L:=L6) zy (λp=>λ_=> .look) hL6 ?_
 rintro⟨p,c⟩ (n:c.length<=9223372036854775807)
 refine bR (let a:=γq .i64;let e:=decide (bC p≠(0:Int));let d:=γe .i64 (cM p c);let f:=!fN p (dQ p c);True/\(e=true->(γe .i64 (bC p)).same d)/\(e=false->(c.length<=9223372036854775807/\p.offers.length<=1000)/\((!fO p c)=true->(a 4).same d)/\((!fO p c)=false->(p.classes.length<=8/\(dQ p c).length<=1000/\∀(x:Off),x∈dQ p c->(0:Int)<=x.bF/\x.bF<(↑p.classes.length:Int)/\x.want.ok=true)/\(f=true->(a 14).same d)/\(f=false->(a 0).same d)))) (by kernel_rfl) ?_
 simp only[vcs]
 refine⟨λh=>by simp[cM,h],λh=>?_⟩
 have g:bC p=0:=Γ.1 h
 obtain⟨m,j⟩:=rj g
 obtain⟨s,o,l,q,t⟩:=sr m
 refine⟨⟨n,by omega⟩,λa=>by grind[cM],λa=>⟨⟨l,?_,?_⟩,λk=>by grind[cM],λk=>by grind[cM]⟩⟩
 ·unfold fO at a
  obtain⟨r,b⟩:=γk.1 a
  have:=vq (by omega) b
  grind[dQ]
 ·unfold fO at a
  obtain⟨r,b⟩:=γk.1 a
  simp only[dQ,b,Option.getD_some];intro x i
  have u:=xo (xp (j x (CZ (by omega) b x i))).1
  simp_all
def L7:List bM:=zy::L6
theorem hL7:∀c∈L7,Holds Tryz.prog c:=by
 simp only[L7,γG]
 exact⟨h100,hL6⟩
def bz.sub (a b:bz):bz:=⟨a.a0 - b.a0,a.a1 - b.a1,a.a2 - b.a2,a.a3 - b.a3,a.a4 - b.a4,a.a5 - b.a5⟩
def bz.meet (a b:bz):bz:=⟨min a.a0 b.a0,min a.a1 b.a1,min a.a2 b.a2,min a.a3 b.a3,min a.a4 b.a4,min a.a5 b.a5⟩
def bz.le (a b:bz):Bool:=decide (a.a0<=b.a0)&&decide (a.a1<=b.a1)&&decide (a.a2<=b.a2)&&decide (a.a3<=b.a3)&&decide (a.a4<=b.a4)&&decide (a.a5<=b.a5)
theorem bz.le_iff {a b:bz}:a.le b=true↔a.a0<=b.a0/\a.a1<=b.a1/\a.a2<=b.a2/\a.a3<=b.a3/\a.a4<=b.a4/\a.a5<=b.a5:=by
 simp[bz.le,and_assoc]
theorem ZL {x y:Int}:min x y=x↔x<=y:=by
 rw[Int.min_def]
 split<;>omega
theorem PI {a b:List SV}:(γK a).same (.agg b)↔gL a=gL b:=by simp[εZ,γF]
def C0:bM:=⟨182,bz×bz,.cons (eG .dX) (.one (eG .dX)),λ_=>True,λa=> .agg (encS .dX (a.1.meet a.2))⟩
theorem h163:Holds Tryz.prog C0:=by
 refine cK (L:=[]) C0 (λ_=>λ_=> .oG 7) (by simp) ?_
 rintro⟨a,b⟩ _
 refine bR (let c:=γe .i64;(γK [c (min a.a0 b.a0),c (min a.a1 b.a1),c (min a.a2 b.a2),c (min a.a3 b.a3),c (min a.a4 b.a4),c (min a.a5 b.a5)]).same (γK [c (a.meet b).a0,c (a.meet b).a1,c (a.meet b).a2,c (a.meet b).a3,c (a.meet b).a4,c (a.meet b).a5])) (by kernel_rfl) ?_
 simp only[vcs,PI,gL,γF,bz.meet,and_self]
def HD:bM:=⟨148,bz×bz,.cons (eG .dX) (.one (eG .dX)),λ_=>True,λa=> .sb (a.1.le a.2)⟩
theorem h144:Holds Tryz.prog HD:=by
 refine cK (L:=[C0]) HD (λ_=>λ_=> .oG 7) (by simpa using h163) ?_
 rintro⟨a,b⟩ _
 refine bR (True/\(γI (decide ((a.meet b).a0=a.a0)&&(decide ((a.meet b).a1=a.a1)&&(decide ((a.meet b).a2=a.a2)&&(decide ((a.meet b).a3=a.a3)&&(decide ((a.meet b).a4=a.a4)&&(decide ((a.meet b).a5=a.a5)&&true))))))).same (γI (a.le b))) (by kernel_rfl) ?_
 simp only[vcs,bz.meet];rw[Bool.eq_iff_iff];simp only[θ,decide_eq_true_eq,bz.le_iff,δX,ZL]
def HE:bM:=⟨149,bz×bz,.cons (eG .dX) (.one (eG .dX)),λa=>a.1.ok=true/\a.2.ok=true,λa=> .agg (encS .dX (a.1.sub a.2))⟩
theorem h145:Holds Tryz.prog HE:=by
 refine cK (L:=[]) HE (λ_=>λ_=> .oG 7) (by simp) ?_
 rintro⟨a,b⟩ ⟨h1,h2⟩
 have h1:=bz.fA.1 h1
 have h2:=bz.fA.1 h2
 simp only at h1 h2
 refine bR (let c:=γe .i64;let d:=bX .i64;d (a.a0 - b.a0)/\d (a.a1 - b.a1)/\d (a.a2 - b.a2)/\d (a.a3 - b.a3)/\d (a.a4 - b.a4)/\d (a.a5 - b.a5)/\(γK [c (a.a0 - b.a0),c (a.a1 - b.a1),c (a.a2 - b.a2),c (a.a3 - b.a3),c (a.a4 - b.a4),c (a.a5 - b.a5)]).same (γK [c (a.sub b).a0,c (a.sub b).a1,c (a.sub b).a2,c (a.sub b).a3,c (a.sub b).a4,c (a.sub b).a5])) (by kernel_rfl) ?_
 simp only[vcs,PI,gL,γF,bz.sub,and_self]
 repeat' (first|refine γj ?_ ?_|intro _)
 all_goals first|trivial|omega
def jW (p:bp) (m:Int):Int:=if bC p≠0 then bC p else if m<0\/2^p.classes.length<=m then 4 else 0
def HF:bM:=⟨106,bp×Int,.cons dG (.one (ez .i64)),λ_=>True,λa=> .si .i64 (jW a.1 a.2)⟩
theorem h112:Holds Tryz.prog HF:=by
 refine cK (L:=L7) HF (λ_=>λ_=> .oG 7) hL7 ?_
 rintro⟨p,m⟩ _
 refine bR (let a:=γq .i64;let b:=(0:Int);let f:=decide (bC p≠b);let c:=γe .i64 (jW p m);let g:=decide (m<b);let d:=(↑p.classes.length:Int);let e:=(1:Int)*(2:Int)^d.toNat;True/\(f=true->(γe .i64 (bC p)).same c)/\(f=false->(g=true->(a 4).same c)/\(g=false->b<=d/\d<=(64:Int)/\bX .i64 e/\(decide (e<=m)=true->(a 4).same c)/\(decide (e<=m)=false->(a 0).same c)))) (by kernel_rfl) ?_
 simp only[vcs]
 refine⟨λh=>by simp[jW,h],λh=>⟨λh1=>?_,λh1=>?_⟩⟩
 ·have hz:=Γ.1 h
  simp[jW,hz,h1]
 ·have hz:bC p=0:=Γ.1 h
  obtain⟨f1,f2,f3,f4,f5⟩:=sr (rj hz).1
  have hp:(1:Int)*2^((p.classes.length:Int)).toNat=2^p.classes.length:=by simp
  have hb:(2:Int)^p.classes.length<=256:=by
   have:p.classes.length=0\/p.classes.length=1\/p.classes.length=2\/p.classes.length=3\/p.classes.length=4\/p.classes.length=5\/p.classes.length=6\/p.classes.length=7\/p.classes.length=8:=by omega
   rcases this with h|h|h|h|h|h|h|h|h<;>rw[h]<;>decide
  have hb0:(0:Int)<2^p.classes.length:=Int.pow_pos (by decide)
  rw[hp]
  refine⟨by omega,by omega,⟨by omega,by omega⟩,λh2=>?_,λh2=>?_⟩
  ·simp only[jW,hz,ne_eq,not_true,if_false,if_pos (show m<0\/2^p.classes.length<=m from .inr h2)]
  ·simp only[jW,hz,ne_eq,not_true,if_false,if_neg (show ¬(m<0\/2^p.classes.length<=m) by omega)]
structure L8 where
 (l0 l1 l2 l3 l4 l5 l6 l7:List Off)
structure ku where
 p:bp
 ls:L8
 es:List (Sit×Int)
def iU (p:bp) (j:Int):List Off:=p.offers.filter λx=>decide (x.bF=j)
def L8.of (p:bp):L8:=⟨iU p 0,iU p 1,iU p 2,iU p 3,iU p 4,iU p 5,iU p 6,iU p 7⟩
def ku.o (s:ku):bV:=
 [.cells [.si .i64 s.p.supply.a0,.si .i64 s.p.supply.a1,.si .i64 s.p.supply.a2,.si .i64 s.p.supply.a3,.si .i64 s.p.supply.a4,.si .i64 s.p.supply.a5,
  .si .i64 s.p.opn.a0,.si .i64 s.p.opn.a1,.si .i64 s.p.opn.a2,.si .i64 s.p.opn.a3,.si .i64 s.p.opn.a4,.si .i64 s.p.opn.a5,
  .si .i64 s.p.cls.a0,.si .i64 s.p.cls.a1,.si .i64 s.p.cls.a2,.si .i64 s.p.cls.a3,.si .i64 s.p.cls.a4,.si .i64 s.p.cls.a5,
  .row (.i .i64) s.p.classes,.row .off s.p.offers,.row .off s.ls.l0,.row .off s.ls.l1,.row .off s.ls.l2,.row .off s.ls.l3,.row .off s.ls.l4,.row .off s.ls.l5,.row .off s.ls.l6,.row .off s.ls.l7,.mp 1] 214 29 false,
  .map .sit (.i .i64) true s.es ([0,0,0,0,0,0,0,0,0,0,0,0,0],true) true]
def HG:bV->Option ku
 |[.cells [s0,s1,s2,s3,s4,s5,o0,o1,o2,o3,o4,o5,c0,c1,c2,c3,c4,c5,k,f,l0,l1,l2,l3,l4,l5,l6,l7,.mp 1] 214 29 false,.map sk sv true es ([0,0,0,0,0,0,0,0,0,0,0,0,0],true) true]=>
  match sg [s0,s1,s2,s3,s4,s5,o0,o1,o2,o3,o4,o5,c0,c1,c2,c3,c4,c5,k,f],Gu sk sv .sit (.i .i64) es with
  |some p,some es=>match fW .off l0,fW .off l1,fW .off l2,fW .off l3,fW .off l4,fW .off l5,fW .off l6,fW .off l7 with
   |some l0,some l1,some l2,some l3,some l4,some l5,some l6,some l7=>some ⟨p,⟨l0,l1,l2,l3,l4,l5,l6,l7⟩,es⟩
   |_,_,_,_,_,_,_,_=>none
  |_,_=>none
 |_=>none
theorem ZM {k v k' v':bn} {es:List (k.T×v.T)} {es':List (k'.T×v'.T)} (h:Gu k v k' v' es=some es'):k=k'/\v=v'/\HEq es es':=by
 unfold Gu at h;split at h
 ·rename_i hh
  obtain⟨rfl,rfl⟩:=hh
  simp only[γ] at h
  exact⟨rfl,rfl,heq_of_eq h⟩
 ·cases h
theorem ZN {o:bV} {s:ku} (h:HG o=some s):gO o=gO s.o:=by
 unfold HG at h;split at h
 ·split at h
  ·rename_i p es' h1 h2
   split at h
   ·rename_i k0 k1 k2 k3 k4 k5 k6 k7
    simp only[γ] at h
    obtain⟨rfl,rfl,he⟩:=ZM h2
    cases he
    have hp:=vn h1
    subst h;simp only[bp.ss,gL,π,and_true] at hp;simp only[ku.o,gO,ι,γs,bq.g,gL,jE k0,jE k1,jE k2,jE k3,jE k4,jE k5,jE k6,jE k7];simp only[hp]
   ·cases h
  ·cases h
 ·cases h
theorem ZO {s t:ku} (h:gO s.o=gO t.o):s=t:=by
 obtain⟨p,⟨l0,l1,l2,l3,l4,l5,l6,l7⟩,es⟩:=s
 obtain⟨q,⟨m0,m1,m2,m3,m4,m5,m6,m7⟩,fs⟩:=t
 simp only[ku.o,gO,ι,γs,bq.g,gL,π,bP.cells.injEq,bP.map.injEq,and_true,true_and] at h
 obtain⟨h,he⟩:=h
 have hp:p=q:=by
  apply dG.inj
  show(γK p.ss).g=(γK q.ss).g
  simp only[γF,bp.ss,gL,εE,π,and_true] at h ⊢;simp only[h,and_self]
 subst hp
 have hr:∀{a b:List Off},(Φ .off a).g=(Φ .off b).g->a=b:=λhab=>(dN .off).inj _ _ hab
 have h0:=h.2.2.2.2.2.2.2.2.2.2.2.2.2.2.2.2.2.2.2.2
 obtain⟨h0,h1,h2,h3,h4,h5,h6,h7⟩:=h0
 have e0:=hr h0
 have e1:=hr h1
 have e2:=hr h2
 have e3:=hr h3
 have e4:=hr h4
 have e5:=hr h5
 have e6:=hr h6
 have e7:=hr h7
 subst e0 e1 e2 e3 e4 e5 e6 e7
 have hes:es=fs:=by
  revert fs
  induction es with
  |nil=>intro fs he;cases fs with
   |nil=>rfl
   |cons=>simp at he
  |cons a es ih=>
   intro fs he
   cases fs with
   |nil=>simp at he
   |cons b fs=>
    simp only[ι,π,κ] at he
    obtain⟨⟨h1,h2⟩,h3⟩:=he
    have hb:=ih fs h3
    obtain⟨a1,a2⟩:=a
    obtain⟨b1,b2⟩:=b
    simp only[oC,if_true,Value.agg.injEq,my,dE,List.headD_cons,γZ,Value.int.injEq,true_and] at h1 h2
    have h1:=rc .sit a1 b1 (by simpa[dE] using h1)
    rw[hb,h1,h2]
 rw[hes]
def xq:List bM:=HF::HD::HE::C0::L7
theorem C2:∀c∈xq,Holds Tryz.prog c:=by
 simp only[xq,γG]
 exact⟨h112,h144,h145,h163,hL7⟩
def C4 (f:FuncId) (β:Type) (A:qj β) (dom:ku×β->Prop) (res:ku×β->SV) (out:ku×β->ku):cV where
 f:=f
 α:=ku×β
 put a:=.ptr 0 0 29::A.put a.2
 st a:=a.1.o
 dec v o:=match v with
  | .ptr 0 0 29::r=>match HG o,A.dec r with
   |some s,some b=>some (s,b)
   |_,_=>none
  |_=>none
 ok v o a h:=by
  split at h
  ·split at h
   ·rename_i h1 h2
    simp only[γ] at h;subst h
    exact⟨by simp only[gL,A.ok _ _ h2],ZN h1⟩
   ·cases h
  ·cases h
 inj a b h1 h2:=by
  simp only[gL,π,true_and] at h1
  exact Prod.ext (ZO h2) (A.inj _ _ h1)
 dom:=dom
 res:=res
 out a:=(out a).o
def HH:cV:=C4 109 Int (.one (ez .i64)) (λ_=>True) (λa=> .agg (encS .sit ⟨a.2,a.1.p.supply,a.1.p.opn⟩)) (λa=>a.1)
theorem h114:dK Tryz.prog HH:=by
 refine jk (L:=[]) (W:=[]) HH lk (by simp) (by simp) ?_
 rintro⟨s,m⟩ _
 refine bR (let a:=γe .i64;let b:=Φ;let c:=a s.p.supply.a0;let d:=a s.p.supply.a1;let e:=a s.p.supply.a2;let f:=a s.p.supply.a3;let g:=a s.p.supply.a4;let h:=a s.p.supply.a5;let j:=a s.p.opn.a0;let k:=a s.p.opn.a1;let l:=a s.p.opn.a2;let n:=a s.p.opn.a3;let o:=a s.p.opn.a4;let q:=a s.p.opn.a5;let r:=γK [a m,c,d,e,f,g,h,j,k,l,n,o,q];let t:=bq.cells [c,d,e,f,g,h,j,k,l,n,o,q,a s.p.cls.a0,a s.p.cls.a1,a s.p.cls.a2,a s.p.cls.a3,a s.p.cls.a4,a s.p.cls.a5,b (bn.i .i64) s.p.classes,b bn.off s.p.offers,b bn.off s.ls.l0,b bn.off s.ls.l1,b bn.off s.ls.l2,b bn.off s.ls.l3,b bn.off s.ls.l4,b bn.off s.ls.l5,b bn.off s.ls.l6,b bn.off s.ls.l7,SV.mp 1] 214 29 false;let u:=bq.map bn.sit (bn.i .i64) true s.es ([0,0,0,0,0,0,0,0,0,0,0,0,0],true) true;r.same r/\t.same t/\u.same u/\True) (by kernel_rfl) ?_
 simp only[vcs]
def oc (c w a j k:Int):Int:=if j<k/\(c=0\/c=a) then 0 else w
def iE (p:bp) (x:Off):Int:=bj p.classes x.bF.toNat 0
def eJ (p:bp) (x:Off) (k:Int):bz:=⟨oc p.cls.a0 x.want.a0 (iE p x) 0 k,oc p.cls.a1 x.want.a1 (iE p x) 1 k,oc p.cls.a2 x.want.a2 (iE p x) 2 k,oc p.cls.a3 x.want.a3 (iE p x) 3 k,oc p.cls.a4 x.want.a4 (iE p x) 4 k,oc p.cls.a5 x.want.a5 (iE p x) 5 k⟩
def dR (p:bp) (x:Off):bz:=eJ p x 6
def HI:cV:=C4 147 Off (.one (eG .off)) (λa=>0<=a.2.bF/\a.2.bF<a.1.p.classes.length) (λa=> .agg (encS .dX (dR a.1.p a.2))) (λa=>a.1)
def ZP (a:ku×Off):Nat->cB
 |3=> .inv Int (λk=>⟨[(0,.ptr 0 0 29),(3,.ptr 2 0 8),(4,.ptr 3 0 6),(5,.ptr 4 0 6),(9,.si .i64 k)],a.1.o++[.cells (encS .off a.2) 39 8 false,.cells [.il .i64 0,.il .i64 0,.il .i64 0,.il .i64 0,.il .i64 0,.il .i64 0] 23 6 false,.cells (encS .dX (eJ a.1.p a.2 k)) 23 6 false]⟩) (λs=>iS s 9)
  (λk=>0<=k/\k<=6) (λk=>(6 - k).toNat) λ_ _=> .look
 |_=> .look
theorem h143:dK Tryz.prog HI:=by
 refine jk (L:=[]) (W:=[]) HI ZP (by simp) (by simp) ?_
 rintro⟨s,x⟩ ⟨h1,h2⟩
 simp only at h1 h2
 refine bR (let a:=γe .i64;let b:=(0:Int);let c:=(6:Int);let d:=bq.cells;let e:=Φ;let f:=γW;let m:=f 0 0 29;let n:=f 2 0 8;let o:=f 3 0 6;let q:=f 4 0 6;let l:=γq .i64 0;let j:=d [a s.p.supply.a0,a s.p.supply.a1,a s.p.supply.a2,a s.p.supply.a3,a s.p.supply.a4,a s.p.supply.a5,a s.p.opn.a0,a s.p.opn.a1,a s.p.opn.a2,a s.p.opn.a3,a s.p.opn.a4,a s.p.opn.a5,a s.p.cls.a0,a s.p.cls.a1,a s.p.cls.a2,a s.p.cls.a3,a s.p.cls.a4,a s.p.cls.a5,e (bn.i .i64) s.p.classes,e bn.off s.p.offers,e bn.off s.ls.l0,e bn.off s.ls.l1,e bn.off s.ls.l2,e bn.off s.ls.l3,e bn.off s.ls.l4,e bn.off s.ls.l5,e bn.off s.ls.l6,e bn.off s.ls.l7,SV.mp 1] 214 29 false;let k:=bq.map bn.sit (bn.i .i64) true s.es ([0,0,0,0,0,0,0,0,0,0,0,0,0],true) true;let z:=a x.want.a0;let A:=a x.want.a1;let B:=a x.want.a2;let C:=a x.want.a3;let D:=a x.want.a4;let E:=a x.want.a5;let r:=d [a x.bF,z,A,B,C,D,E,a x.value] 39 8 false;let t:=d [l,l,l,l,l,l] 23 6 false;let u:=eJ s.p x b;let M:=[s.p.cls.a0,s.p.cls.a1,s.p.cls.a2,s.p.cls.a3,s.p.cls.a4,s.p.cls.a5];(((m.same m/\n.same n/\o.same o/\q.same q/\l.same (a 0)/\True)/\j.same j/\k.same k/\r.same r/\t.same t/\(d [z,A,B,C,D,E] 23 6 false).same (d [a u.a0,a u.a1,a u.a2,a u.a3,a u.a4,a u.a5] 23 6 false)/\True)/\b<=b/\b<=c)/\∀(x_1:Int),let h:=x_1+(1:Int);let y:=a h;let g:=eJ s.p x x_1;let v:=eJ s.p x h;let F:=d [a v.a0,a v.a1,a v.a2,a v.a3,a v.a4,a v.a5] 23 6 false;let G:=decide (x_1<c);let H:=bj M x_1.toNat b;let I:=decide (H=b);let J:=decide (H=bj s.p.classes x.bF.toNat b);let K:=[a g.a0,a g.a1,a g.a2,a g.a3,a g.a4,a g.a5];let w:=dR s.p x;let L:=b<=x_1/\x_1<c/\x_1.toNat<6/\bX .i64 h/\((m.same m/\n.same n/\o.same o/\q.same q/\y.same y/\True)/\j.same j/\k.same k/\r.same r/\t.same t/\(d [a (if x_1.toNat=0 then b else g.a0),a (if x_1.toNat=1 then b else g.a1),a (if x_1.toNat=2 then b else g.a2),a (if x_1.toNat=3 then b else g.a3),a (if x_1.toNat=4 then b else g.a4),a (if x_1.toNat=5 then b else g.a5)] 23 6 false).same F/\True)/\(b<=h/\h<=c)/\(c - h).toNat<(c - x_1).toNat;b<=x_1/\x_1<=c->(G=true->b<=x_1/\x_1<c/\x_1.toNat<6/\(I=true->L)/\(I=false->b<=x_1/\x_1<c/\x_1.toNat<6/\b<=x.bF/\x.bF<(↑s.p.classes.length:Int)/\x.bF.toNat<s.p.classes.length/\(J=true->L)/\(J=false->bX .i64 h/\((m.same m/\n.same n/\o.same o/\q.same q/\y.same y/\True)/\j.same j/\k.same k/\r.same r/\t.same t/\(d K 23 6 false).same F/\True)/\(b<=h/\h<=c)/\(c - h).toNat<(c - x_1).toNat)))/\(G=false->(γK K).same (γK [a w.a0,a w.a1,a w.a2,a w.a3,a w.a4,a w.a5])/\j.same j/\k.same k/\True)) (by kernel_rfl) ?_
 simp only[vcs]
 have hc:∀{a0 a1 a2 a3 a4 a5 b0 b1 b2 b3 b4 b5:Int},a0=b0/\a1=b1/\a2=b2/\a3=b3/\a4=b4/\a5=b5->
   (bq.cells [γe .i64 a0,γe .i64 a1,γe .i64 a2,γe .i64 a3,γe .i64 a4,γe .i64 a5] 23 6 false).same (bq.cells [γe .i64 b0,γe .i64 b1,γe .i64 b2,γe .i64 b3,γe .i64 b4,γe .i64 b5] 23 6 false):=by
  rintro _ _ _ _ _ _ _ _ _ _ _ _ ⟨rfl,rfl,rfl,rfl,rfl,rfl⟩
  rfl
 have xr:∀c w cl j:Int,0<=j->oc c w cl j 0=w:=λc w cl j hj=>by unfold oc;rw[if_neg (by omega)]
 have af9:∀c w cl j k:Int,j≠k->oc c w cl j (k+1)=oc c w cl j k:=λc w cl j k hj=>by
  unfold oc
  by_cases h:j<k/\(c=0\/c=cl)
  ·rw[if_pos h,if_pos ⟨by omega,h.2⟩]
  ·rw[if_neg h,if_neg (by omega)]
 have aga:∀c w cl k:Int,(c=0\/c=cl)->oc c w cl k (k+1)=0:=λc w cl k h=>by unfold oc;rw[if_pos ⟨by omega,h⟩]
 have agb:∀c w cl k:Int,¬(c=0\/c=cl)->oc c w cl k (k+1)=oc c w cl k k:=λc w cl k h=>by
  unfold oc
  rw[if_neg (by omega),if_neg (by omega)]
 have hset:∀k:Int,0<=k->k<6->(bj [s.p.cls.a0,s.p.cls.a1,s.p.cls.a2,s.p.cls.a3,s.p.cls.a4,s.p.cls.a5] k.toNat 0=0\/bj [s.p.cls.a0,s.p.cls.a1,s.p.cls.a2,s.p.cls.a3,s.p.cls.a4,s.p.cls.a5] k.toNat 0=iE s.p x)->
   (if k.toNat=0 then 0 else(eJ s.p x k).a0)=(eJ s.p x (k+1)).a0/\(if k.toNat=1 then 0 else(eJ s.p x k).a1)=(eJ s.p x (k+1)).a1/\(if k.toNat=2 then 0 else(eJ s.p x k).a2)=(eJ s.p x (k+1)).a2/\
   (if k.toNat=3 then 0 else(eJ s.p x k).a3)=(eJ s.p x (k+1)).a3/\(if k.toNat=4 then 0 else(eJ s.p x k).a4)=(eJ s.p x (k+1)).a4/\(if k.toNat=5 then 0 else(eJ s.p x k).a5)=(eJ s.p x (k+1)).a5:=by
  intro k hk0 PK hcl
  have hk:k=0\/k=1\/k=2\/k=3\/k=4\/k=5:=by omega
  rcases hk with rfl|rfl|rfl|rfl|rfl|rfl<;>simp[bj] at hcl<;>simp[eJ,oc,hcl]
 have hkeep:∀k:Int,0<=k->k<6->¬(bj [s.p.cls.a0,s.p.cls.a1,s.p.cls.a2,s.p.cls.a3,s.p.cls.a4,s.p.cls.a5] k.toNat 0=0\/bj [s.p.cls.a0,s.p.cls.a1,s.p.cls.a2,s.p.cls.a3,s.p.cls.a4,s.p.cls.a5] k.toNat 0=iE s.p x)->
   (eJ s.p x k).a0=(eJ s.p x (k+1)).a0/\(eJ s.p x k).a1=(eJ s.p x (k+1)).a1/\(eJ s.p x k).a2=(eJ s.p x (k+1)).a2/\
   (eJ s.p x k).a3=(eJ s.p x (k+1)).a3/\(eJ s.p x k).a4=(eJ s.p x (k+1)).a4/\(eJ s.p x k).a5=(eJ s.p x (k+1)).a5:=by
  intro k hk0 PK hcl
  have hk:k=0\/k=1\/k=2\/k=3\/k=4\/k=5:=by omega
  rcases hk with rfl|rfl|rfl|rfl|rfl|rfl<;>simp[bj] at hcl<;>simp[eJ,oc,hcl]
 refine⟨⟨hc ⟨by simp[eJ,xr],by simp[eJ,xr],by simp[eJ,xr],by simp[eJ,xr],by simp[eJ,xr],by simp[eJ,xr]⟩,by omega,by omega⟩,?_⟩
 rintro k ⟨hk0,PK⟩
 refine⟨λhlt=>⟨by omega,by omega,by omega,λhA=>⟨by omega,by omega,by omega,by omega,hc (hset k hk0 hlt (.inl hA)),by omega,by omega⟩,λhA=>⟨by omega,by omega,by omega,by omega,by omega,by omega,
  λhB=>⟨by omega,by omega,by omega,by omega,hc (hset k hk0 hlt (.inr hB)),by omega,by omega⟩,λhB=>⟨by omega,hc (hkeep k hk0 hlt (by rintro(h|h);exact hA h;exact hB h)),by omega,by omega⟩⟩⟩,λhge=>?_⟩
 have:k=6:=by omega
 subst this;rfl
def Sit.b (a:Sit):Prop:=a.left.ok=true/\a.opn.ok=true
def fitsAt (p:bp) (a:Sit) (x:Off):Bool:=x.want.le a.left&&(dR p x).le a.opn
def lp (p:bp) (a:Sit) (x:Off):Sit:=⟨fh.ra .i64 a.members (2^x.bF.toNat),a.left.sub x.want,a.opn.sub (dR p x)⟩
def Sit.zero:Sit:=⟨0,bz.zero,bz.zero⟩
def su (p:bp) (a:Sit) (x:Off):Sit:=if fitsAt p a x=true then lp p a x else Sit.zero
theorem xt {c w cl j k:Int} (h:0<=w/\w<=4):0<=oc c w cl j k/\oc c w cl j k<=4:=by
 unfold oc
 split<;>omega
theorem PL {p:bp} {x:Off} (h:x.want.ok=true):(dR p x).ok=true:=by
 have h:=bz.fA.1 h
 exact bz.fA.2 ⟨xt h.1,xt h.2.1,xt h.2.2.1,xt h.2.2.2.1,xt h.2.2.2.2.1,xt h.2.2.2.2.2⟩
def HJ:cV:=C4 110 (Sit×Off) (.cons (eG .sit) (.one (eG .off))) (λa=>a.1.p.classes.length<=8/\0<=a.2.2.bF/\a.2.2.bF<a.1.p.classes.length/\a.2.1.b/\a.2.2.want.ok=true)
 (λa=> .bH [.agg (encS .sit (su a.1.p a.2.1 a.2.2)),.sb (fitsAt a.1.p a.2.1 a.2.2)]) (λa=>a.1)
theorem h116:dK Tryz.prog HJ:=by
 refine jk (L:=xq) (W:=[HI]) HJ lk (by simpa using h143) C2 ?_
 rintro⟨s,a,x⟩ ⟨h1,h2,h3,h4,h5⟩
 simp only at h1 h2 h3 h4 h5
 refine bR (let b:=γe .i64;let c:=Φ;let d:=γK;let e:=SV.bH;let f:=γq .i64 0;let g:=su s.p a x;let h:=g.left;let n:=e [d [b g.members,b h.a0,b h.a1,b h.a2,b h.a3,b h.a4,b h.a5,b g.opn.a0,b g.opn.a1,b g.opn.a2,b g.opn.a3,b g.opn.a4,b g.opn.a5],γI (fitsAt s.p a x)];let l:=bq.cells [b s.p.supply.a0,b s.p.supply.a1,b s.p.supply.a2,b s.p.supply.a3,b s.p.supply.a4,b s.p.supply.a5,b s.p.opn.a0,b s.p.opn.a1,b s.p.opn.a2,b s.p.opn.a3,b s.p.opn.a4,b s.p.opn.a5,b s.p.cls.a0,b s.p.cls.a1,b s.p.cls.a2,b s.p.cls.a3,b s.p.cls.a4,b s.p.cls.a5,c (bn.i .i64) s.p.classes,c bn.off s.p.offers,c bn.off s.ls.l0,c bn.off s.ls.l1,c bn.off s.ls.l2,c bn.off s.ls.l3,c bn.off s.ls.l4,c bn.off s.ls.l5,c bn.off s.ls.l6,c bn.off s.ls.l7,SV.mp 1] 214 29 false;let m:=bq.map bn.sit (bn.i .i64) true s.es ([0,0,0,0,0,0,0,0,0,0,0,0,0],true) true;let o:=!(dR s.p x).le a.opn;let q:=(1:Int)*(2:Int)^x.bF.toNat;let j:=a.left.sub x.want;let k:=a.opn.sub (dR s.p x);let r:=(e [d [f,f,f,f,f,f,f,f,f,f,f,f,f],δs false]).same n/\l.same l/\m.same m/\True;((0:Int)<=x.bF/\x.bF<(↑s.p.classes.length:Int))/\True/\((!x.want.le a.left)=true->r)/\((!x.want.le a.left)=false->True/\(o=true->r)/\(o=false->(0:Int)<=x.bF/\x.bF<=(64:Int)/\bX .i64 q/\(a.left.ok=true/\x.want.ok=true)/\(a.opn.ok=true/\(dR s.p x).ok=true)/\(e [d [b (fh.ra .i64 a.members q),b j.a0,b j.a1,b j.a2,b j.a3,b j.a4,b j.a5,b k.a0,b k.a1,b k.a2,b k.a3,b k.a4,b k.a5],δs true]).same n/\l.same l/\m.same m/\True))) (by kernel_rfl) ?_
 simp only[vcs]
 have hz:∀b:Sit,b=Sit.zero->(γK [γq .i64 0,γq .i64 0,γq .i64 0,γq .i64 0,γq .i64 0,γq .i64 0,γq .i64 0,γq .i64 0,γq .i64 0,γq .i64 0,γq .i64 0,γq .i64 0,γq .i64 0]).same
   (γK [γe .i64 b.members,γe .i64 b.left.a0,γe .i64 b.left.a1,γe .i64 b.left.a2,γe .i64 b.left.a3,γe .i64 b.left.a4,γe .i64 b.left.a5,γe .i64 b.opn.a0,γe .i64 b.opn.a1,γe .i64 b.opn.a2,γe .i64 b.opn.a3,γe .i64 b.opn.a4,γe .i64 b.opn.a5]):=by
  rintro b rfl;rfl
 have h2b:(1:Int)*2^x.bF.toNat<=256/\0<(1:Int)*2^x.bF.toNat:=by
  have:x.bF.toNat=0\/x.bF.toNat=1\/x.bF.toNat=2\/x.bF.toNat=3\/x.bF.toNat=4\/x.bF.toNat=5\/x.bF.toNat=6\/x.bF.toNat=7:=by omega
  rcases this with h|h|h|h|h|h|h|h<;>rw[h]<;>decide
 refine⟨⟨h2,h3⟩,λhw=>?_,λhw=>⟨λho=>?_,λho=>?_⟩⟩
 ·have hf:fitsAt s.p a x=false:=by simp[fitsAt,hw]
  exact⟨hz _ (by simp[su,hf]),hf.symm⟩
 ·have hf:fitsAt s.p a x=false:=by simp[fitsAt,ho]
  exact⟨hz _ (by simp[su,hf]),hf.symm⟩
 ·have hf:fitsAt s.p a x=true:=by simp[fitsAt,hw,ho]
  have ha:su s.p a x=lp s.p a x:=by simp[su,hf]
  refine⟨by omega,by omega,by omega,⟨h4.1,h5⟩,⟨h4.2,PL h5⟩,?_,hf.symm⟩
  rw[ha];simp only[lp,Int.one_mul];rfl
end Go.Vi
namespace Go.Proofs.YtjcmncmajmoiiaaGreat
open Go.ChangeShapes Go.WideShapes Go.ChangeAt Go.RowKit Go.Vi
theorem Tryz.own:ownKnob Tryz.prog.godebug=none:=by kernel_rfl
theorem Tryz.laidOut:laidOutB Tryz.prog=true:=by kernel_rfl
theorem PN:Reads Tryz.prog 3 (.i .i64):=Zk Tryz.underlying3
theorem PO:Reads Tryz.prog 23 .dX:=Zo Tryz.underlying23 Tryz.underlying3 (by kernel_rfl) (by kernel_rfl)
theorem PQ:Reads Tryz.prog 39 .off:=Zp Tryz.underlying39 (by kernel_rfl) rfl rfl rfl Tryz.underlying3 (by kernel_rfl) Tryz.underlying2 (by kernel_rfl) PO (by kernel_rfl) rfl
theorem ZQ {H:Type} {enc:TypeId×Value->H} {w:World} {a:Nat->Bool} {c:Bool} {b:Nat} {cs:List Value} {x:DataW H×List MemPlace} (h:DataW.trod enc Tryz.prog w 0 a c b 27 cs=some x):
  ∃p:bp,bD lL w [] [] (gL p.ss) cs:=
 Zq Tryz.underlying27 (by kernel_rfl) rfl rfl rfl rfl rfl rfl PO (by kernel_rfl) Tryz.underlying24 PN (by kernel_rfl) (by kernel_rfl) Tryz.underlying25 PQ (by kernel_rfl) (by kernel_rfl) h
theorem ZR {f:FuncId} {args:List SV} (h:lh Tryz.prog f (gL args) [] (γI true).g []) {W:World} {vs:List Value} (d:bD lL W [] [] (gL args) vs):
  Calls Tryz.prog f vs.toArray W λe c=>e= .returned (.bool true)/\Below W.heap.size W c:=by
 refine(h lL W [] vs (BJ W (λb a=>a.elim)) d).mono ?_
 grind[γF,bw,Zt]
theorem ZS {W:World} (n:Int):bw lL W [] [] ((ez .i64).put n).g (.int .i64 n):=by
 simp[ez,γF,bw,Value.oneCell']
end Go.Proofs.YtjcmncmajmoiiaaGreat
namespace Go.Vi
open Go.ChangeShapes Go.WideShapes Go.RowKit
def ZT (P:Program) (t:TypeId) (s:bn) (Q:s.T->Prop):Prop:=
 ∀(H:Type) (d:TypeId×Value->H) (w:World) (a:Nat->Bool) (c:Bool) (b:Nat) (e:List Value) (x:DataW H×List MemPlace),DataW.trod d P w 0 a c b t e=some x->∃y:s.T,Q y/\bD lL w [] [] (dJ s y) e
theorem CO.q {P:Program} {t:TypeId} {s:bn} (h:CO P t s):ZT P t s λ_=>True:=λH d w a c b e x f=>by
 obtain⟨y,g⟩:=h H d w a c b e x f
 grind
end Go.Vi
namespace Go.Proofs.YtjcmncmajmoiiaaGreat
open Go.ChangeShapes Go.WideShapes Go.ChangeAt Go.RowKit Go.Vi
end Go.Proofs.YtjcmncmajmoiiaaGreat
namespace Go.Proofs.YtjcmncmajmoiiaaGreat
open Go.ChangeShapes Go.WideShapes Go.ChangeAt Go.RowKit Go.Vi
theorem PR {H:Type} {enc:TypeId×Value->H} {w:World} {spare:Nat->Bool} {held:Bool} {fuel:Nat} {cs:List Value} {x:DataW H×List MemPlace} (h:DataW.trod enc Tryz.prog w 0 spare held fuel 25 cs=some x):
  ∃(v:Value) (l:List Off),cs=[v]/\bw lL w [] [] (Φ .off l).g v:=Hr Tryz.underlying25 PQ (by kernel_rfl) h
end Go.Proofs.YtjcmncmajmoiiaaGreat
