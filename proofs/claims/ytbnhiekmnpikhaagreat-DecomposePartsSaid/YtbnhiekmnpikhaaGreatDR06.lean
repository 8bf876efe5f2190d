import Derived.Test.YtbnhiekmnpikhaaGreatDR05
import Derived.Test.YtbnhiekmnpikhaaGreatDR01
import Derived.Deep.Slices
import Derived.OpenShut
import Derived.ProofKit
import Derived.Test.YtbnhiekmnpikhaaGreatRows
set_option maxRecDepth 100000
set_option maxHeartbeats 4000000
set_option linter.all false
open Bool renaming false_eq_true->φ,not_eq_false->ζp,and_eq_true->θ
open Classical renaming choose->δS,choose_spec->εd,not_not->γc
open Go.Vi.AV renaming bH->δz
open Go.Vi.AV.sc renaming injEq->δf
open Go.Vi.AV.sl renaming injEq->δ5
open Go.Vi.SV renaming g->γE,row->Ψ,si->γf,bi->εX,il->γv,sb->γy,bl->δd,ptr->γK
open List renaming all_eq_true->χ,take->Γ,length_range->εN,range->ω,getElem?_eq_getElem->μ,take_length->ψ,map->γd,drop->γ3,drop_length->δC,mem_cons->γw
open List.cons renaming injEq->Δ
open Nat renaming beq->δu
open Option renaming map_eq_some_iff->ε,map_some->ν,bind_some->δQ,map->ζr,isSome_iff_exists->γn
open Option.some renaming injEq->γ
open Prod.mk renaming injEq->ι
namespace Go.Vi
structure cj where
 bm:zi
 bs:zi
 bt:zi
 bk:List Int
 bj:List bC
structure bB where
 bn:List Int
 value:Int
def cj.ss (p:cj):List SV:=
 [.si .i64 p.bm.a0,.si .i64 p.bm.a1,.si .i64 p.bm.a2,.si .i64 p.bm.a3,.si .i64 p.bm.a4,.si .i64 p.bm.a5,
  .si .i64 p.bs.a0,.si .i64 p.bs.a1,.si .i64 p.bs.a2,.si .i64 p.bs.a3,.si .i64 p.bs.a4,.si .i64 p.bs.a5,
  .si .i64 p.bt.a0,.si .i64 p.bt.a1,.si .i64 p.bt.a2,.si .i64 p.bt.a3,.si .i64 p.bt.a4,.si .i64 p.bt.a5,
  .row (.i .i64) p.bk,.row .bu p.bj]
def tH:List SV->Option cj
 |[g,v,b,q,d,x,a,n,w,h,j,l,t,p,r,u,e,m,k,f]=>match jm .bun [g,v,b,q,d,x],jm .bun [a,n,w,h,j,l],jm .bun [t,p,r,u,e,m],iJ (.i .i64) k,iJ .bu f with
  |some s,some o,some c,some k,some f=>some ⟨s,o,c,k,f⟩
  |_,_,_,_,_=>none
 |_=>none
theorem xo {cs:List SV} {p:cj} (h:tH cs=some p):gL cs=gL p.ss:=by
 unfold tH at h;split at h
 ·split at h
  ·rename_i s o c k f a i b e d;simp only[γ] at h;subst h;have a:=mJ a;have i:=mJ i;have b:=mJ b;have e:=ng e;have d:=ng d;simp_all[de,cI,cj.ss,gL,γE,iv]
  ·cases h
 ·cases h
def cO:o7 cj where
 put p:=.agg p.ss;dec
  | .agg c=>tH c
  |_=>none;ok v a h:=by
  grind[γE,xo]
 inj a b h:=by
  obtain⟨⟨a0,a1,a2,a3,M,o⟩,⟨A,l,e,b3,I,b5⟩,⟨H,V,Y,J,x,j⟩,k,f⟩:=a;obtain⟨⟨d,t,d2,Z,d4,X⟩,⟨N,R,u,y,S,e5⟩,⟨f0,E,f2,f3,O,q⟩,W,B⟩:=b;simp only[γE,cj.ss,gL,AV.agg.injEq,Δ,and_true,δf,Value.int.injEq,true_and,δ5] at h;obtain⟨h0,h1,F,P,Q,z,C,L,g2,U,G,T,w,K,k2,r,D,k5,m,n⟩:=h;have s:=ku (.i .i64) m.1 m.2;have n2:=ku .bu n.1 n.2;simp_all
def kr:o7 bB where
 put a:=.agg [.row (.i .i64) a.bn,.si .i64 a.value];dec
  | .agg [r,v]=>match iJ (.i .i64) r,v.int .i64 with
   |some c,some v=>some ⟨c,v⟩
   |_,_=>none
  |_=>none;ok v a h:=by
  grind[γE,gL,ng,gS]
 inj a b h:=by
  obtain⟨c,v⟩:=a;obtain⟨e,f⟩:=b;simp only[γE,gL,AV.agg.injEq,Δ,and_true,δf,Value.int.injEq,true_and,δ5] at h;have d:=ku (.i .i64) h.1.1 h.1.2;rw[d,h.2]
def mi:TypeId->Option ew
 |2=>some (.i .i64)
 |3=>some (.i .i64)
 |24=>some (.qE (.i .i64))
 |172=>some (.i .u32)
 |177=>some (.pair .b (.pair (.qE (.i .u32)) (.qE (.i .u32))))
 |40=>some (.pair (.qE (.i .i64)) (.i .i64))
 |106=>some (.qE (.pair .b (.pair (.qE (.i .u32)) (.qE (.i .u32)))))
 |249=>some (.pair (.qE (.pair .b (.pair (.qE (.i .u32)) (.qE (.i .u32))))) (.pair .b (.pair (.qE (.i .u32)) (.qE (.i .u32)))))
 |4=>some .b
 |108=>some (.pair (.i .i64) (.pair (.i .i64) (.pair (.i .i64) (.pair (.i .i64) (.qE (.pair .b (.pair (.qE (.i .u32)) (.qE (.i .u32)))))))))
 |65=>some .bu
 |23=>some .bun
 |159=>some (.pair (.i .i64) .b)
 |51=>some (.pair (.qE (.i .i64)) (.pair (.i .i64) (.qE (.pair (.i .i64) (.pair (.i .i64) (.pair (.i .i64) (.pair (.i .i64) (.qE (.pair .b (.pair (.qE (.i .u32)) (.qE (.i .u32))))))))))))
 |_=>none
def ml:List Nat×Bool->Option (ew×ew)
 |([0],false)=>some (.i .i64,.i .i64)
 |([0,0,0,0,0,0,0],true)=>some (.key,.b)
 |([0,0,0,0,0,0,0,0,0,0,0,0,0],true)=>some (.sit,.i .i64)
 |_=>none
mutual
def SV.bH (m:Nat->Option Nat):SV->Option SV
 | .agg h=>(pK m h).map .agg
 | .Gz h=>(pK m h).map .Gz
 | .ptr g j q=>(m g).map λi=> .ptr i j q
 | .ap g a b c d e=>(m g).map λi=> .ap i a b c d e
 | .rp g a b c d=>(m g).map λi=> .rp i a b c d
 | .ow g n w=>(m g).map λi=> .ow i n w
 | .os g a b c d=>(m g).map λi=> .os i a b c d
 | .oc g a b c d=>(m g).map λi=> .oc i a b c d
 | .mp g=>(m g).map .mp
 | .fn f a b=>match pK m a,pK m b with
  |some r,some u=>some (.fn f r u)
  |_,_=>none
 | .ud=>some .ud
 | .sc v=>some (.sc v)
 | .il k n=>some (.il k n)
 | .si k n=>some (.si k n)
 | .bl b=>some (.bl b)
 | .sb b=>some (.sb b)
 | .row s l=>some (.row s l)
 | .ep s l i o=>some (.ep s l i o)
 | .ia t h=>some (.ia t h)
 | .ite c a b=>some (.ite c a b)
def pK (m:Nat->Option Nat):List SV->Option (List SV)
 |[]=>some []
 |c::h=>match c.bH m,pK m h with
  |some x,some p=>some (x::p)
  |_,_=>none
end
mutual
theorem Ft {m:Nat->Option Nat}:∀{v d:SV},v.bH m=some d->v.g.bH m=some d.g
 | .agg p,d,h=>by
  simp only[SV.bH] at h;obtain⟨k,e,rfl⟩:=ε.1 h;simp only[γE,δz,sY e,ν];| .Gz p,d,h=>by
  simp only[SV.bH] at h;obtain⟨k,e,rfl⟩:=ε.1 h;simp only[γE,δz,sY e,ν];| .fn f a b,d,h=>by
  simp only[SV.bH] at h;split at h
  ·rename_i r q e o;simp only[γ] at h;subst h;simp only[γE,δz,sY e,sY o]
  ·cases h;| .ptr j _ _,d,h| .ap j _ _ _ _ _,d,h| .rp j _ _ _ _,d,h| .ow j _ _,d,h| .os j _ _ _ _,d,h| .oc j _ _ _ _,d,h| .mp j,d,h=>by
  simp only[SV.bH] at h;obtain⟨i,e,rfl⟩:=ε.1 h;simp only[γE,δz,e,ν];| .ud,d,h| .sc _,d,h| .il _ _,d,h| .si _ _,d,h| .bl _,d,h| .sb _,d,h| .row _ _,d,h| .ep _ _ _ _,d,h| .ia _ _,d,h| .ite _ _ _,d,h=>by
  simp only[SV.bH,γ] at h;subst h;simp only[γE,δz]
theorem sY {m:Nat->Option Nat}:∀{l n:List SV},pK m l=some n->gU m (gL l)=some (gL n)
 |[],n,h=>by grind[pK,gL,gU];|c::p,n,h=>by
  simp only[pK] at h;split at h
  ·rename_i s k e o;simp only[γ] at h;subst h;simp only[gL,gU,Ft e,sY o]
  ·cases h
end
def iZ.bH (m:Nat->Option Nat):iZ->Option iZ
 | .cells d e c a=>if a then some (.cells d e c a) else(pK m d).map λb=> .cells b e c a
 | .dead=>some .dead
 | .row s l e a=>some (.row s l e a)
 | .map j f g h i a=>some (.map j f g h i a)
 | .aor .. =>none
theorem M_ {m:Nat->Option Nat}:∀{l:List AV},(∀a∈l,Plain a)->gU m l=some l
 |[],_=>by simp[gU];|a::e,h=>by
  have d:=M_ (m:=m) (l:=e) λb c=>h b (by simp[c]);rcases h a (by simp) with⟨v,rfl,_⟩|⟨n,f,rfl,_⟩<;>simp only[gU,δz,d]
theorem M8 {m:Nat->Option Nat}:∀{l:List (Value×AV)},(∀a∈l,∃v,a.2= .sc v)->np m l=some l
 |[],_=>by simp[np];|(k,c)::e,h=>by
  obtain⟨v,b⟩:=h (k,c) (by simp);simp only at b;subst b;simp only[np,δz,M8 (l:=e) λa d=>h a (by simp[d])]
theorem Fs {b sv:ew} {d:Bool} {es:List (b.T×sv.T)}:∀a∈es.map (λp=>(nQ b d p.1,lP sv p.2)),∃v,a.2= .sc v:=λa c=>by
 obtain⟨q,_,rfl⟩:=List.mem_map.1 c;exact⟨_,rfl⟩
theorem M7 {m:Nat->Option Nat} {x y:iZ} (h:x.bH m=some y):x.g.bH m=some y.g:=by
 cases x with
 |dead=>simp[iZ.bH] at h;subst h;rfl;|cells o e k a=>
  simp only[iZ.bH] at h;cases a with
  |true=>simp only[if_true,γ] at h;subst h;simp only[iZ.g,OL.bH,if_true];|false=>
   simp only[φ,if_false] at h;obtain⟨b,c,rfl⟩:=ε.1 h;simp_all[iZ.g,OL.bH,sY]
 |aor s l e t=>grind[iZ.bH];|row s l e a=>
  grind[iZ.bH,iZ.g,OL.bH,M_,lO];|map f n i j d a=>
  simp only[iZ.bH,γ] at h;subst h;simp only[iZ.g,OL.bH,M8 Fs,ν];grind
def xn (m:Nat->Option Nat):TN->Option TN
 |[]=>some []
 |x::r=>match x.bH m,xn m r with
  |some y,some l=>some (y::l)
  |_,_=>none
theorem M5 {m:Nat->Option Nat}:∀{o o':TN},xn m o=some o'->qD m (gO o)=some (gO o')
 |[],o',h=>by simp[xn] at h;subst h;rfl;|x::r,o',h=>by
  simp only[xn] at h;split at h
  ·rename_i y l b a;simp only[γ] at h;subst h;have:=M5 a;grind[gO,qD,M7]
  ·cases h
def u7 (o:TN) (a:List Nat):List Nat->Option TN
 |[]=>some []
 |i::r=>match o[i]?,u7 o a r with
  |some x,some l=>match x.bH (λj=>idxOf a j) with
   |some y=>some (y::l)
   |none=>none
  |_,_=>none
theorem Fq {o:TN} {a:List Nat}:∀{r:List Nat} {o':TN},u7 o a r=some o'->ki (gO o) a r=some (gO o')
 |[],o',h=>by simp[u7] at h;subst h;rfl;|i::r,o',h=>by
  simp only[u7] at h;split at h
  ·rename_i x l d b;split at h
   ·rename_i y c;simp only[γ] at h;subst h;simp only[ki,e6 d,Fq b,M7 c,ν];rfl
   ·cases h
  ·cases h
def uZ (o:TN):List Nat->TN->TN
 |[],_=>o
 |_,[]=>o
 |i::r,x::l=>uZ (o.set i x) r l
theorem M4:∀{a:List Nat} {o l:TN},gO (uZ o a l)=kK (gO o) a (gO l)
 |[],o,l=>by simp[uZ,kK];|_::_,o,[]=>by simp[uZ,kK,gO];|i::r,o,x::l=>by
  simp only[uZ];rw[M4,oA];simp[gO,kK]
def nM (o:TN):Nat->List SV->List Nat->List Nat
 |0,_,c=>c
 |_,[],c=>c
 |d+1,v::i,c=>
  let f (e:Nat) (c:List Nat):List Nat:=
   if c.contains e then c else
   match o[e]? with
   |some (.cells g _ _ h)=>if h then c++[e] else nM o d g (c++[e])
   |_=>c++[e];nM o d i (match v with
   | .agg g| .Gz g=>nM o d g c
   | .ptr e _ _| .ap e _ _ _ _ _| .rp e _ _ _ _| .ow e _ _| .os e _ _ _ _| .oc e _ _ _ _| .mp e=>f e c
   | .fn _ a b=>nM o d b (nM o d a c)
   |_=>c)
theorem xm {o:a_}:∀{d:Nat} {l:List AV} {acc:List Nat},(∀a∈l,Plain a)->cd o d l acc=acc
 |0,_,_,_=>by grind[cd];|d+1,[],_,_=>by grind[cd];|d+1,a::l,acc,h=>by
  have e:=xm (o:=o) (d:=d) (l:=l) (acc:=acc) λb c=>h b (by simp[c]);rcases h a (by simp) with⟨v,rfl,_⟩|⟨n,f,rfl,_⟩<;>(grind[cd])
theorem M0 {o:a_}:∀{d:Nat} {l:List AV} {acc:List Nat},(∀a∈l,∃v,a= .sc v)->cd o d l acc=acc
 |0,_,_,_=>by simp[cd];|d+1,[],_,_=>by simp[cd];|d+1,a::l,acc,h=>by
  obtain⟨v,rfl⟩:=h a (by simp);simp only[cd];exact M0 λa b=>h a (by simp[b])
theorem XC {l:List (Value×AV)} (h:∀a∈l,∃v,a.2= .sc v):∀a∈l.map (·.2),∃v,a= .sc v:=λa b=>by
 grind
def iZ.AX:iZ->Bool
 | .aor .. =>false
 |_=>true
theorem MZ {o:TN} (h:o.all iZ.AX=true):∀{d:Nat} {vs:List SV} {acc:List Nat},cd (gO o) d (gL vs) acc=nM o d vs acc:=by
 intro d;induction d with
 |zero=>grind[cd,nM];|succ d k=>
  intro vs acc;cases vs with
  |nil=>simp[gL,cd,nM];|cons v vs=>
   have m:∀(b:Nat) (acc:List Nat),(if acc.contains b then acc else
     match(gO o)[b]? with
     |some (.cells f _ _ c)=>if c then acc++[b] else cd (gO o) d f (acc++[b])
     |some (.map j _ c)=>if c then acc++[b] else cd (gO o) d (j.map (·.2)) (acc++[b])
     |_=>acc++[b])=(if acc.contains b then acc else
     match o[b]? with
     |some (.cells f _ _ c)=>if c then acc++[b] else nM o d f (acc++[b])
     |_=>acc++[b]):=by
    intro b acc;rw[GG];cases i:o[b]? with
    |none=>rfl;|some x=>
     cases x with
     |aor s l e t=>
      have:=χ.1 h _ (List.mem_of_getElem? i);grind[iZ.AX];|dead=>rfl;|cells f e r c=>grind[iZ.g];|row s l e c=>simp only[ν,iZ.g,xm (λa n=>lO n),ite_self];|map p u q j w c=>simp only[ν,iZ.g,M0 (XC Fs),ite_self]
   simp only[gL,cd,nM];rw[k];congr 1;cases v<;>simp only[γE,k]<;>exact m _ _
def Fp (C:FuncId->List SV->TN->(SV->TN->Prop)->Prop) (f:FuncId) (args:List SV) (o:TN) (K:SV->TN->Prop):Prop:=
 if o.all iZ.AX=false then False else
 let a:=nM o fc args [];match pK (λj=>idxOf a j) args,u7 o a a with
 |some c,some d=>C f c d λr b=>
   if b.length<a.length\/gT.aoL a=false then False else
   match r.bH (nn a o.length),xn (nn a o.length) b with
   |some g,some e=>K g (uZ o a (e.take a.length)++e.drop a.length)
   |_,_=>False
 |_,_=>False
theorem XB {call:cy} {C:FuncId->List SV->TN->(SV->TN->Prop)->Prop}
  (n:∀f args o K,C f args o K->∃(r:SV) (o':TN),call f (gL args) (gO o) true=some (r.g,gO o')/\K r o')
  {f:FuncId} {args:List SV} {o:TN} {K:SV->TN->Prop} (h:Fp C f args o K):
  ∃(r:SV) (o':TN),gT call f (gL args) (gO o)=some (r.g,gO o')/\K r o':=by
 unfold Fp at h;split at h;·exact h.elim
 rename_i a;simp only[ζp] at a;simp only at h;split at h
 ·rename_i d e i l;obtain⟨r,c,j,b⟩:=n _ _ _ _ h;split at b;·exact b.elim
  ·rename_i p;split at b
   ·rename_i k q m s;refine⟨k,_,?_,b⟩;unfold gT;simp only[MZ a];rw[sY i,Fq l];simp only[j,mC];rw[if_neg p,Ft m,M5 s];simp only[Nj,M4];simp[gO]
   simp_all
 simp_all
section
variable {P:Program} {T:jn} {p:ic} {Λ:Nat->bG}
theorem XA (A:jZ P T) (y:nO T.K p.C) (w:∀f F,p.it f=some F->T.fn f=some F) {f:FuncId} {F:ey} (u:T.fn f=some F) {args:List SV} {o:TN} {r:AV} {o':a_} (G:T.K f (gL args) (gO o) true=none) (n:args.length=F.params)
  {Q:SV->TN->Prop} (m:∀v s,Q v s->v.g=r/\gO s=o') (h:xA p Λ F args o Q):fU P f=true/\jB P f (gL args) (gO o) r o':=by
 unfold xA at h;have i:=tK y w h;have e:(VK.mk (lN 0 args) o).g=⟨gl 0 (gL args),gO o⟩:=by simp[VK.g,tJ]
 rw[e] at i;have j:(gO o).length=o.length:=mC o;rw[<-j] at i;have E:∀(a:VK),(mE a F.res λv=>if v.TP (gO o).length&&a.o.all (λx=>x.TP (gO o).length)&&decide ((gO o).length<=a.o.length) then Q v (a.o.take (gO o).length) else False)->
   (mL a.g F.res).bind (λl=>finish true (gO o).length l a.g.o)=some (r,o'):=by
  intro a t;obtain⟨l,k,b⟩:=vd t;rw[k];simp only[δQ,finish,if_true];split at b
  ·rename_i q;simp only[θ,decide_eq_true_eq,χ] at q;obtain⟨⟨z,D⟩,B⟩:=q;have d:∀x∈a.g.o,x.TP (gO o).length=true:=by
    grind[VK.g,gO,Ai]
   rw[Nl (by grind[xy]) d (by grind[VK.g,mC])];rw[<-(m _ _ b).1,<-(m _ _ b).2];simp_all[VK.g,gO]
  ·exact b.elim
 obtain⟨k,b,_⟩:=Aw A u (o:=gO o) (own:=true) G (by grind[jk]) (v:=r) (o':=o') (i.mono λc s H=>by
  obtain⟨a,rfl,t⟩:=H;cases c<;>grind);simp_all
end
structure cU where
 f:FuncId
 α:Type
 put:α->List SV
 st:α->TN
 dec:List SV->TN->Option α
 ok:∀v o a,dec v o=some a->gL v=gL (put a)/\gO o=gO (st a)
 inj:∀a b,gL (put a)=gL (put b)->gO (st a)=gO (st b)->a=b
 dom:α->Prop
 res:α->SV
 out:α->TN
def dA (P:Program) (c:cU):Prop:=∀a,c.dom a->fU P c.f=true/\jB P c.f (gL (c.put a)) (gO (c.st a)) (c.res a).g (gO (c.out a))
def mR (f:FuncId):List cU->Option cU
 |[]=>none
 |c::r=>bif δu c.f f then some c else mR f r
theorem MY:∀{L:List cU} {f:FuncId} {c:cU},mR f L=some c->c.f=f/\c∈L
 |[],_,_,h=>by cases h;|d::L,f,c,h=>by
  simp only[mR] at h;cases a:δu d.f f with
  |true=>
   simp_all;|false=>
   rw[a] at h;simp only[cond_false] at h;obtain⟨b,e⟩:=MY h;simp_all
def MX (W:List cU) (f:FuncId) (args:List SV) (o:TN) (K:SV->TN->Prop):Prop:=
 match mR f W with
 |some c=>h_ (c.dec args o) λa=>c.dom a/\K (c.res a) (c.out a)
 |none=>False
open Classical in
noncomputable def rH (W:List cU) (f:FuncId) (args:List AV) (o:a_):Option (AV×a_):=
 match mR f W with
 |some c=>if h:∃a,args=gL (c.put a)/\o=gO (c.st a)/\c.dom a then some ((c.res (δS h)).g,gO (c.out (δS h))) else none
 |none=>none
noncomputable def fT (W:List cU):ky:=⟨rH W,λf a o K=>Fp (MX W) f a o K⟩
theorem kf {P:Program} {W:List cU} (u:∀c∈W,dA P c):mB P (fT W) where
 K:=λf d o r w h=>by
  simp only[fT,rH] at h;split at h
  ·rename_i c k;obtain⟨rfl,v⟩:=MY k;split at h
   ·rename_i e;simp only[γ,ι] at h;generalize t:δS e=b at h;have n:=εd e;rw[t] at n;obtain⟨p,s,l⟩:=n;obtain⟨j,m⟩:=u c v _ l;simp_all
   ·cases h
  ·cases h
 C:=λq g f d o K h=>by
  refine XB ?_ h;intro f d o K i;simp only[MX] at i;split at i
  ·rename_i c k;obtain⟨a,p,s,l⟩:=iI i;refine⟨_,_,?_,l⟩;rw[g];obtain⟨j,m⟩:=c.ok _ _ _ p;have e:∃b,gL d=gL (c.put b)/\gO o=gO (c.st b)/\c.dom b:=⟨a,j,m,s⟩;simp only[fT,rH,k,dif_pos e];have:δS e=a:=c.inj _ _ ((εd e).1.symm.trans j) ((εd e).2.1.symm.trans m);rw[this]
  simp_all
theorem MW {P:Program} {i:FuncId->Option ey} {L:List M9} {W:List cU} (c:cU) {F:ey} {m:TypeId->Option ew} {j:List Nat×Bool->Option (ew×ew)} {Λ:c.α->Nat->bG}
  (q:jZ P ⟨i,λ_ _ _ _=>none⟩) (k:∀c∈W,dA P c) (r:∀c∈L,Holds P c)
  (n:i c.f=some F) (e:∀a,(c.put a).length=F.params)
  (a:c.α) (o:∀d,mR c.f W=some d->∀b,gL (c.put a)=gL (d.put b)->gO (c.st a)=gO (d.st b)->¬d.dom b)
  (h:xA (kx L (fT W) m j i) (Λ a) F (c.put a) (c.st a) λv s=>v.bi (c.res a)/\jY s (c.out a)):
  fU P c.f=true/\jB P c.f (gL (c.put a)) (gO (c.st a)) (c.res a).g (gO (c.out a)):=by
 refine XA (p:=kx L (fT W) m j i) (Λ:=Λ a) (Q:=λv s=>v.bi (c.res a)/\jY s (c.out a)) (rJ (kf k) r q) (rI (kf k)) (λ_ _ h=>h) n ?_ (e a) (λv s l=>⟨l.1,ve l.2⟩) ?_
 ·simp only[nN,pL,if_true,fT,rH];grind
 ·exact h
mutual
def ke (o:TN) (k:Nat):SV->(SV->Prop)->Prop
 | .ow e n h,K=>if k<=e then(match o[e]? with
   |some (.row s l _ true)=>if h=s.sz then n=l.length/\K (.row s l) else False
   |some (.row _ _ _ false)=>K (.ow e n h)
   |_=>False) else K (.ow e n h)
 | .ptr e f t,K=>if k<=e then(match o[e]? with
   |some (.cells _ _ _ false)=>K (.ptr e f t)
   |_=>False) else K (.ptr e f t)
 | .agg g,K=>qu o k g λd=>K (.agg d)
 | .Gz g,K=>qu o k g λd=>K (.Gz d)
 | .ud,K=>K .ud
 | .sc v,K=>K (.sc v)
 | .il q n,K=>K (.il q n)
 | .si q n,K=>K (.si q n)
 | .bl b,K=>K (.bl b)
 | .sb b,K=>K (.sb b)
 | .row s l,K=>K (.row s l)
 | .mp i,K=>K (.mp i)
 | .ia t g,K=>K (.ia t g)
 | .fn f a b,K=>qu o k a λm=>qu o k b λj=>K (.fn f m j)
 |_,_=>False
def qu (o:TN) (k:Nat):List SV->(List SV->Prop)->Prop
 |[],K=>K []
 |c::g,K=>ke o k c λp=>qu o k g λd=>K (p::d)
end
section
variable {o:TN} {k:Nat}
mutual
theorem Fo:∀{v:SV} {K:SV->Prop},ke o k v K->∃u:SV,v.g.Q5 (gO o) (λi=>decide (k<=i))=some u.g/\K u
 | .ow B n A,K,h=>by
  simp only[ke] at h;split at h
  ·rename_i q;split at h
   ·rename_i s l e w;split at h
    ·rename_i r;subst r;obtain⟨rfl,h⟩:=h;refine⟨_,?_,h⟩;have y:Γ (l.length*s.sz) (bO s l)=bO s l:=List.take_of_length_le (by grind[ec]);simp_all[γE,AV.Q5,e6,iZ.g,ec]
    simp_all
   ·rename_i s l e w;refine⟨_,?_,h⟩;simp_all[γE,AV.Q5,e6,iZ.g]
   simp_all
  ·rename_i q;refine⟨_,?_,h⟩;simp_all[γE,AV.Q5,if_neg];| .ptr B f t,K,h=>by
  simp only[ke] at h;split at h
  ·rename_i q;split at h
   ·rename_i j e A w;refine⟨_,?_,h⟩;simp_all[γE,AV.Q5,e6,iZ.g]
   simp_all
  ·rename_i q;refine⟨_,?_,h⟩;simp_all[γE,AV.Q5,if_neg];| .agg j,K,h=>by
  simp only[ke] at h;obtain⟨d,p,m⟩:=uY h;grind[γE,AV.Q5];| .Gz j,K,h=>by
  simp only[ke] at h;obtain⟨d,p,m⟩:=uY h;grind[γE,AV.Q5];| .ud,K,h=>⟨.ud,by grind[γE,AV.Q5],by grind[ke]⟩
 | .sc v,K,h=>⟨.sc v,by grind[γE,AV.Q5],by grind[ke]⟩
 | .il k n,K,h=>⟨.il k n,by grind[γE,AV.Q5],by grind[ke]⟩
 | .si k n,K,h=>⟨.si k n,by grind[γE,AV.Q5],by grind[ke]⟩
 | .bl b,K,h=>⟨.bl b,by grind[γE,AV.Q5],by grind[ke]⟩
 | .sb b,K,h=>⟨.sb b,by grind[γE,AV.Q5],by grind[ke]⟩
 | .row s l,K,h=>⟨.row s l,by grind[γE,AV.Q5],by grind[ke]⟩
 | .mp i,K,h=>⟨.mp i,by grind[γE,AV.Q5],by grind[ke]⟩
 | .ia t j,K,h=>⟨.ia t j,by grind[γE,AV.Q5],by grind[ke]⟩
 | .fn f a b,K,h=>by
  simp only[ke] at h;obtain⟨D,p,m⟩:=uY h;obtain⟨C,z,x⟩:=uY m;grind[γE,AV.Q5];| .ep ..,K,h| .ap ..,K,h| .rp ..,K,h| .os ..,K,h| .oc ..,K,h| .ite ..,K,h=>by simp only[ke] at h
theorem uY:∀{j:List SV} {K:List SV->Prop},qu o k j K->∃d:List SV,gf (gO o) (λi=>decide (k<=i)) (gL j)=some (gL d)/\K d
 |[],K,h=>⟨[],by simp[gL,gf],by grind[qu]⟩
 |c::j,K,h=>by
  simp only[qu] at h;obtain⟨E,p,m⟩:=Fo h;obtain⟨d,z,x⟩:=uY m;grind[gL,gf]
end
def nc (o:TN) (k:Nat):Nat->TN->(TN->Prop)->Prop
 |_,[],K=>K []
 |i,x::r,K=>match x with
  | .cells f e m false=>qu o k f λc=>nc o k (i+1) r λa=>K (.cells c e m false::a)
  | .row s l e b=>nc o k (i+1) r λa=>K ((if b&&decide (k<=i) then .dead else .row s l e b)::a)
  | .map g n d j h b=>nc o k (i+1) r λa=>K (.map g n d j h b::a)
  | .dead=>nc o k (i+1) r λa=>K (.dead::a)
  |_=>False
theorem vT:∀{i:Nat} {r:TN} {K:TN->Prop},nc o k i r K->∃r' mid,iQ (gO o) (λi=>decide (k<=i)) (gO r)=some mid/\e_ (λi=>decide (k<=i)) i mid=gO r'/\K r'
 |i,[],K,h=>⟨[],[],rfl,rfl,h⟩
 |i,x::r,K,h=>by
  cases x with
  |dead=>
   simp only[nc] at h;obtain⟨r',mid,m,b,e⟩:=vT h;grind[gO,iZ.g,iQ,OL.Q5,e_];|cells A c z a=>
   cases a with
   |true=>grind[nc];|false=>
    simp only[nc] at h;obtain⟨j,y,f⟩:=uY h;obtain⟨r',mid,m,b,e⟩:=vT f;refine⟨_,.cells (gL j) c z false::mid,?_,?_,e⟩;all_goals simp_all[gO,iZ.g,iQ,OL.Q5,e_]
  |aor s l c t=>grind[nc];|row s l c a=>
   simp only[nc] at h;obtain⟨r',mid,m,b,e⟩:=vT h;refine⟨_,(iZ.row s l c a).g::mid,?_,?_,e⟩
   ·have d:(iZ.row s l c a).g.Q5 (gO o) (λi=>decide (k<=i))=some (iZ.row s l c a).g:=by
     cases a with
     |true=>simp only[iZ.g,OL.Q5,if_true];|false=>
      simp only[iZ.g,OL.Q5,φ,if_false];grind[A0,lO]
    grind[gO,iQ]
   ·cases a with
    |true=>
     simp only[iZ.g,e_,Bool.true_and];by_cases n:k<=i
     ·simp only[n,decide_true,if_true];rw[b];rfl
     ·simp only[n,decide_false,φ,if_false];rw[b];rfl;|false=>simp only[iZ.g,e_,Bool.false_and,φ,if_false];rw[b];rfl
  |map u p q w v a=>
   simp only[nc] at h;obtain⟨r',mid,m,b,e⟩:=vT h;have d:(iZ.map u p q w v a).g.Q5 (gO o) (λi=>decide (k<=i))=some (iZ.map u p q w v a).g:=by
    cases a with
    |true=>simp only[iZ.g,OL.Q5,if_true];|false=>
     simp only[iZ.g,OL.Q5,φ,if_false];rw[GV Fs,ν]
   grind[gO,iQ,iZ.g,e_]
end
def AW (r:SV) (o:TN) (K:SV->TN->Prop):Prop:=
 ke o 0 r λc=>nc o 0 0 o λb=>
  if b.all iZ.AX=false then False else
  let a:=nM b fc [c] [];if gT.aoL a then match c.bH (λj=>idxOf a j),u7 b a a with
   |some e,some d=>K e d
   |_,_=>False
  else False
theorem Xz {r:SV} {o:TN} {K:SV->TN->Prop} (h:AW r o K):∃r' o',kJ 0 r.g (gO o)=some (r'.g,gO o')/\K r' o':=by
 unfold AW at h;obtain⟨m,n,k⟩:=Fo h;obtain⟨c,i,e,f,a⟩:=vT k;split at a;·exact a.elim
 rename_i b;simp only[ζp] at b;simp only at a;split at a
 ·rename_i t;split at a
  ·rename_i j l p q;refine⟨j,l,?_,a⟩;unfold kJ;rw[n,e];simp only[f,List.take_zero,List.flatMap_nil,List.range_zero];have s:=MZ (o:=c) b (d:=fc) (vs:=[m]) (acc:=[]);simp_all[gL,Ft,Fq]
  simp_all
 simp_all
def Fm (p:ic) (Λ:Nat->bG) (F:ey) (args:List SV) (Q:SV->TN->Prop):Prop:=
 wpS p 0 F.body Λ ⟨lN 0 args,[]⟩ λa b=>match a with
  | .exit _=>False
  | .goto _=>False
  |_=>mE b F.res λr=>AW r b.o Q
theorem Xy {P:Program} {T:jn} {p:ic} {Λ:Nat->bG} (y:jZ P T) (t:nO T.K p.C) (x:∀f F,p.it f=some F->T.fn f=some F) {f:FuncId} {F:ey} (m:T.fn f=some F) {args:List SV} {r:AV} {o':a_} (A:T.K f (gL args) [] true=none) (j:args.length=F.params)
  {Q:SV->TN->Prop} (D:∀v s,Q v s->v.g=r/\gO s=o') (h:Fm p Λ F args Q):fU P f=true/\jB P f (gL args) [] r o':=by
 unfold Fm at h;have k:=tK t x h;have b:(VK.mk (lN 0 args) []).g=⟨gl 0 (gL args),[]⟩:=by simp[VK.g,tJ,gO]
 rw[b] at k;have n:∀(a:VK),(mE a F.res λv=>AW v a.o Q)->(mL a.g F.res).bind (λc=>finish true 0 c a.g.o)=some (r,o'):=by
  intro a l;obtain⟨c,e,i⟩:=vd l;obtain⟨u,q,w,B⟩:=Xz i;rw[e];simp only[δQ,finish,if_true];have:kJ 0 c.g a.g.o=some (u.g,gO q):=w;grind
 obtain⟨e,i,_⟩:=Aw y m (o:=[]) (own:=true) A (by grind[jk]) (v:=r) (o':=o') (k.mono λd s z=>by
  obtain⟨a,rfl,l⟩:=z;cases d<;>simp_all);simp_all
theorem Xx {W:List cU} {f:FuncId} {args:List AV} {o:a_} (h:mR f W=none):rH W f args o=none:=by
 grind[rH]
open Go.Proofs.YtbnhiekmnpikhaaGreat.Ir
open Go.Proofs
def AU (f:Nat):List (Nat×List RH)->Option (List RH)
 |[]=>none
 |e::r=>bif δu e.1 f then some e.2 else AU f r
noncomputable def fQ (f:FuncId):Option ey:=
 match AU f Pg with
 |none=>none
 |some H=>match Tryz.prog.funcs[f]? with
  |none=>none
  |some g=>Bz Tryz.prog H g
noncomputable def fG (f:FuncId):ey:=(fQ f).getD ⟨0,0,.skip,[]⟩
theorem xl {f:FuncId} (h:(fQ f).isSome=true):fQ f=some (fG f):=by
 unfold fG;cases q:fQ f<;>simp_all
theorem MV {f:Nat} {H:List RH} {p:Nat->Bool}:∀{l:List (Nat×List RH)},AU f l=some H->(l.all λe=>p e.1)=true->p f=true
 |[],h,_=>by cases h;|e::r,h,k=>by
  simp only[AU] at h;simp only[List.all_cons,θ] at k;cases q:δu e.1 f with
  |true=>simp_all;|false=>rw[q] at h;exact MV h k.2
theorem Xw:(Pg.all λe=>fU Tryz.prog e.1)=true:=by kernel_rfl
theorem pJ:jZ Tryz.prog ⟨fQ,λ_ _ _ _=>none⟩ where
 fn:=λf F h=>by
  simp only[fQ] at h;split at h;·cases h
  ·rename_i H q;split at h;·cases h
   ·rename_i g r;exact⟨g,H,r,h,MV (p:=fU Tryz.prog) q Xw⟩
 K:=λ_ _ _ _ _ _ h=>by cases h
def lk {a:Type}:a->Nat->bG:=λ_ _=> .look
structure Vc (A:Prop):Prop where
 out:A
theorem NH {A:Prop} (B:Prop) (h:B=A) (a:B):Vc A:=⟨h▸a⟩
theorem j9 {L:List M9} {W:ky} (c:M9) (i:c.α->Nat->bG) (j:mB Tryz.prog W) (e:∀c∈L,Holds Tryz.prog c)
  
  (h:∀a,c.dom a->Vc (oj (kx L W mi ml fQ) (i a) (fG c.f) (c.A.put a) λv=>v.pW (c.res a))) (k:(fQ c.f).isSome=true:=by kernel_rfl) (d:lD c.f L=none:=by kernel_rfl) (b:∀a,(c.A.put a).length=(fG c.f).params:=by intro _;kernel_rfl):Holds Tryz.prog c:=
 holds_of c pJ j e (xl k) d b λa g=>(h a g).out
theorem bI {L:List M9} (c:M9) (e:c.α->Nat->bG) (g:∀c∈L,Holds Tryz.prog c) (h:∀a,c.dom a->Vc (oj (kx L ky.none mi ml fQ) (e a) (fG c.f) (c.A.put a) λv=>v.pW (c.res a)))
  (i:(fQ c.f).isSome=true:=by kernel_rfl) (d:lD c.f L=none:=by kernel_rfl) (b:∀a,(c.A.put a).length=(fG c.f).params:=by intro _;kernel_rfl):Holds Tryz.prog c:=j9 c e (mB.none _) g h i d b
theorem Xv {L:List M9} {W:ky} (c:M9) (l:FuncId->Bool) (i:c.α->Nat->bG) (j:mB Tryz.prog W) (e:∀c∈L,Holds Tryz.prog c)
  
  (h:∀a,c.dom a->Vc (oj (Fv L W mi ml fQ l) (i a) (fG c.f) (c.A.put a) λv=>v.pW (c.res a))) (k:(fQ c.f).isSome=true:=by kernel_rfl) (d:lD c.f L=none:=by kernel_rfl) (b:∀a,(c.A.put a).length=(fG c.f).params:=by intro _;kernel_rfl):Holds Tryz.prog c:=
 XD c pJ j e (xl k) d b λa g=>(h a g).out
theorem kq {L:List M9} {W:List cU} (c:cU) (Λ:c.α->Nat->bG) (i:∀c∈W,dA Tryz.prog c) (e:∀c∈L,Holds Tryz.prog c)
  
  (h:∀a,c.dom a->Vc (xA (kx L (fT W) mi ml fQ) (Λ a) (fG c.f) (c.put a) (c.st a) λv s=>v.bi (c.res a)/\jY s (c.out a))) (g:(fQ c.f).isSome=true:=by kernel_rfl) (b:∀a,(c.put a).length=(fG c.f).params:=by intro _;kernel_rfl) (k:mR c.f W=none:=by kernel_rfl):dA Tryz.prog c:=
 λa j=>MW c pJ i e (xl g) b a (λd l=>by simp_all) (h a j).out
theorem Xu {L:List M9} {W:List cU} (c:cU) (F:ey) (i:c.α->Nat->bG) (k:∀c∈W,dA Tryz.prog c) (e:∀c∈L,Holds Tryz.prog c)
  
  (h:∀a,c.dom a->Vc (xA (kx L (fT W) mi ml fQ) (i a) F (c.put a) (c.st a) λv s=>v.bi (c.res a)/\jY s (c.out a))) (g:fQ c.f=some F:=by kernel_rfl) (b:∀a,(c.put a).length=F.params:=by intro _;kernel_rfl) (l:mR c.f W=none:=by kernel_rfl):dA Tryz.prog c:=
 λa j=>MW c pJ k e g b a (λd m=>by simp_all) (h a j).out
theorem Fl {L:List M9} {W:List cU} (c:cU) (g:Nat->Option (Nat×Nat×Nat)) (Λ:c.α->Nat->bG) (i:∀c∈W,dA Tryz.prog c) (j:∀c∈L,Holds Tryz.prog c)
  
  (h:∀a,c.dom a->Vc (Fm ⟨⟨tI L,(fT W).C⟩,mi,ml,g,λ_=>none,λ_=>false⟩ (Λ a) (fG c.f) (c.put a) λv s=>v.bi (c.res a)/\jY s (c.out a))) (l:(fQ c.f).isSome=true:=by kernel_rfl) (b:∀a,(c.put a).length=(fG c.f).params:=by intro _;kernel_rfl) (d:∀a,c.st a=[]:=by intro _;rfl) (k:mR c.f W=none:=by kernel_rfl):dA Tryz.prog c:=
 λa m=>by
  rw[d a];refine Xy (p:=⟨⟨tI L,(fT W).C⟩,mi,ml,g,λ_=>none,λ_=>false⟩) (Λ:=Λ a) (Q:=λv s=>v.bi (c.res a)/\jY s (c.out a)) (rJ (kf i) j pJ) (rI (kf i)) (λ_ _ h=>by cases h) (xl l) ?_ (b a) (λv s e=>⟨e.1,ve e.2⟩) (h a m).out;simp_all[nN,pL,fT,Xx]
open Go.ChangeShapes Go.WideShapes Go.RowKit
abbrev jL:dc:=⟨λ_=>False,0⟩
instance (s:ew):Inhabited s.T:=⟨s.bw⟩
theorem Xt (b:Nat):Fr jL [] b:=⟨by rintro⟨i,c,h⟩;simp at h,λh=>h⟩
theorem MU {A:dc} {w:World} {σ:TM} {o:a_}:∀{vs:List Value},(∀v∈vs,v.oneCell'=true)->Aq A w σ o (vs.map .sc) vs
 |[],_=>by simp[Aq];|v::vs,h=>by
  simp only[List.map_cons,Aq];exact⟨v,vs,rfl,by grind[nA],MU λu a=>h u (by simp[a])⟩
theorem MT {A:dc} {w:World} {σ:TM} {o:a_}:∀{a b:List AV} {x:Option Addr} {j:Nat},cH A w σ o a x j->cH A w σ o b x (j+a.length)->cH A w σ o (a++b) x j
 |[],b,x,j,_,h=>by simpa using h;|c::a,b,x,j,h,k=>by
  simp only[List.cons_append,cH] at h ⊢;refine⟨h.1,MT h.2 ?_⟩;grind
def Reads (P:Program) (t:TypeId) (s:ew):Prop:=
 ∀(H:Type) (e:TypeId×Value->H) (w:World) (d:Nat) (a:Nat->Bool) (c:Bool) (b:Nat) (f:List Value) (x:DataW H×List MemPlace),DataW.trod e P w d a c b t f=some x->∃y:s.T,f=cI s y
theorem Xs {P:Program} {t:TypeId} {k:IntKind} (a:P.underlying t=some (.int k)):Reads P t (.i k):=λ_ _ _ _ _ _ _ b _ h=>by
 obtain⟨n,rfl,_,_⟩:=DataW.trod_int a h;exact⟨n,rfl⟩
theorem Xr {w:World} {base n:Nat} {a:Addr} {cs:List Value} (h:w.cells? base a n=some cs):cs.length=n/\∀i v,cs[i]?=some v->w.cell? (a.add i)=some v:=by
 unfold World.cells? at h;split at h
 ·obtain⟨c,f⟩:=AF h;simp only[εN] at c;refine⟨c,λi v d=>?_⟩;have j:=(List.getElem?_eq_some_iff.1 d).1;obtain⟨b,g,e⟩:=f i i (by simp_all);simp_all
 ·cases h
def AT (P:Program) (t:TypeId) (s:ew):Prop:=
 ∀(H:Type) (d:TypeId×Value->H) (w:World) (a:Nat->Bool) (c:Bool) (b:Nat) (e:List Value) (x:DataW H×List MemPlace),DataW.trod d P w 0 a c b t e=some x->∃y:s.T,Aq jL w [] [] (de s y) e
theorem Reads.g {P:Program} {t:TypeId} {s:ew} (h:Reads P t s) (i:s.flat=true:=by rfl):AT P t s:=λH d w a c b e x f=>by
 obtain⟨y,rfl⟩:=h H d w 0 a c b e x f;exact⟨y,by grind[Av,MU,As]⟩
theorem MS {w:World} {a:Addr}:∀{cs:List AV} {vs:List Value} {j:Nat},Aq jL w [] [] cs vs->(∀i v,vs[i]?=some v->w.cell? (a.add (j+i))=some v)->cH jL w [] [] cs (some a) j
 |[],_,_,_,_=>by simp[cH];|c::cs,vs,j,b,d=>by
  simp only[Aq] at b;obtain⟨v,r,rfl,e,f⟩:=b;simp only[cH];refine⟨⟨a,v,rfl,Xt _,by simpa using d 0 v (by simp),e⟩,MS f λi u g=>?_⟩;have:=d (i+1) u (by simp_all);grind
theorem NO {w:World} {a:Addr} {s:ew}:∀{l:List s.T} {i0:Nat},(∀i y,l[i]?=some y->∃cs,w.cells? 0 (a.add ((i0+i)*s.sz)) s.sz=some cs/\Aq jL w [] [] (de s y) cs)->cH jL w [] [] (bO s l) (some a) (i0*s.sz)
 |[],_,_=>by simp[bO,cH];|y::l,i0,h=>by
  obtain⟨cs,b,c⟩:=h 0 y (by simp);rw[Nat.add_zero] at b;obtain⟨d,g⟩:=Xr b;have e:bO s (y::l)=de s y++bO s l:=by simp[bO]
  rw[e];refine MT (MS c λi v j=>?_) ?_;·grind[add_add]
  ·rw[k8,show i0*s.sz+s.sz=(i0+1)*s.sz from by grind];refine NO λi z f=>?_;have:=h (i+1) z (by simp_all);grind
theorem Xq {P:Program} {t e:TypeId} {s:ew} (A:P.underlying t=some (.slice e)) (r:AT P e s) (I:P.cellsOf e=s.sz)
  {H:Type} {enc:TypeId×Value->H} {w:World} {c:Nat->Bool} {j:Bool} {d:Nat} {cs:List Value} {x:DataW H×List MemPlace} (h:DataW.trod enc P w 0 c j d t cs=some x):
  ∃(v:Value) (l:List s.T),cs=[v]/\nA jL w [] [] (Ψ s l).g v:=by
 rcases Go.Deep.open_slice A h with⟨rfl,_⟩|⟨a,b,k,m,n,D,F,rfl,M,z,L,o,_,q⟩;·exact⟨_,[],rfl,by grind[γE,nA,bO,cK,cH]⟩
 ·have B:b<=m:=by grind
  have C:∀i,i<b->∃y:s.T,∃cs,w.cells? 0 (a.add (i*s.sz)) s.sz=some cs/\Aq jL w [] [] (de s y) cs:=λi J=>by
   obtain⟨p,K,E⟩:=q i (by omega);obtain⟨y,u⟩:=r _ _ _ _ _ _ _ _ E;grind
  obtain⟨f,G⟩:=Go.Deep.choose_lt C;refine⟨_,(ω b).map f,rfl,?_⟩;simp only[γE,nA,List.length_map,εN];refine⟨some a,k,rfl,z,ni _ _,?_⟩;have:=NO (w:=w) (a:=a) (s:=s) (l:=(ω b).map f) (i0:=0) (λi y u=>by
   grind);simp_all
theorem NN {P:Program} {t e:TypeId} {s:ew} (i:P.underlying t=some (.slice e)) (f:Reads P e s) (j:P.cellsOf e=s.sz)
  {H:Type} {enc:TypeId×Value->H} {w:World} {a:Nat->Bool} {c:Bool} {b:Nat} {cs:List Value} {x:DataW H×List MemPlace} (h:DataW.trod enc P w 0 a c b t cs=some x) (d:s.flat=true:=by rfl):
  ∃(v:Value) (l:List s.T),cs=[v]/\nA jL w [] [] (Ψ s l).g v:=Xq i (f.g d) j h
theorem Xp {cs:List Value} {i:Nat} {v:Value} (h:(cs.drop i).take 1=[v]):cs[i]?=some v:=by
 have:((cs.drop i).take 1)[0]?=some v:=by rw[h];rfl
 grind
theorem Xo {P:Program} {t e:TypeId} (s:P.underlying t=some (.array 6 e)) (F:P.underlying e=some (.int .i64)) (H:P.cellsOf e=1) (l:P.cellsOf t=6):Reads P t .bun:=λ_ _ _ _ _ _ _ c _ h=>by
 obtain⟨z,m,_,_,b,v,D⟩:=DataW.trod_array s h;have a:∀i,i<6->∃n,c[i]?=some (.int .i64 n):=λi w=>by
  grind[DataW.trod_int,Xp]
 rw[l] at b;match c,b,a with
 |[C,A,I,G,B,E],_,a=>
  obtain⟨o,y⟩:=a 0 (by omega);obtain⟨x,d⟩:=a 1 (by omega);obtain⟨p,u⟩:=a 2 (by omega);obtain⟨j,r⟩:=a 3 (by omega);obtain⟨k,f⟩:=a 4 (by omega);obtain⟨q,g⟩:=a 5 (by omega);simp only[List.getElem?_cons_zero,List.getElem?_cons_succ,γ] at y d u r f g;exact⟨⟨o,x,p,j,k,q⟩,by grind[cI,iv]⟩
theorem Xn {P:Program} {t b i v:TypeId} {fs:Array Field} (w:P.underlying t=some (.struct fs)) (r:P.cellsOf t=8) (N:(fs[0]?).map (λf=>(f.type,f.offset))=some (i,0)) (O:(fs[1]?).map (λf=>(f.type,f.offset))=some (b,1)) (u:(fs[2]?).map (λf=>(f.type,f.offset))=some (v,7))
  (x:P.underlying i=some (.int .i64)) (e:P.cellsOf i=1) (q:P.underlying v=some (.int .i64)) (k:P.cellsOf v=1) (z:Reads P b .bun) (d:P.cellsOf b=6) (I:fs.size=3):Reads P t .bu:=λ_ _ _ _ _ _ _ B _ h=>by
 obtain⟨T,m,_,_,n,K,j⟩:=DataW.trod_struct w h;rw[r] at n;obtain⟨F,C,g⟩:=ε.1 N;obtain⟨s,D,c⟩:=ε.1 O;obtain⟨J,A,a⟩:=ε.1 u;simp only[ι] at g c a;have o:=j 0 F C;have l:=j 1 s D;have p:=j 2 J A;rw[g.1,g.2,e,μ (by omega)] at o;rw[c.1,c.2,d,μ (by omega)] at l;rw[a.1,a.2,k,μ (by omega)] at p;obtain⟨G,M,_⟩:=DataW.trod_int x o;obtain⟨y,E⟩:=z _ _ _ _ _ _ _ _ _ l;obtain⟨H,L,_⟩:=DataW.trod_int q p;match B,n with
 |[S,U,R,V,Y,X,Q,W],_=>
  simp[cI] at M E L;exact⟨⟨G,y,H⟩,by grind[cI,iv]⟩
theorem Xm {P:Program} {t b k o:TypeId} {fs:Array Field} (ht:P.underlying t=some (.struct fs)) (hn:P.cellsOf t=20) (a7:fs.size=5)
  (h0:(fs[0]?).map (λf=>(f.type,f.offset))=some (b,0)) (h1:(fs[1]?).map (λf=>(f.type,f.offset))=some (b,6)) (h2:(fs[2]?).map (λf=>(f.type,f.offset))=some (b,12))
  (U:(fs[3]?).map (λf=>(f.type,f.offset))=some (k,18)) (h4:(fs[4]?).map (λf=>(f.type,f.offset))=some (o,19))
  (s:Reads P b .bun) (d:P.cellsOf b=6) {e:TypeId} (hk:P.underlying k=some (.slice e)) (z:Reads P e (.i .i64)) (A:P.cellsOf e=1) (y:P.cellsOf k=1)
  {f:TypeId} (ho:P.underlying o=some (.slice f)) (F:Reads P f .bu) (u:P.cellsOf f=8) (v:P.cellsOf o=1)
  {H:Type} {enc:TypeId×Value->H} {w:World} {c:Nat->Bool} {q:Bool} {j:Nat} {cs:List Value} {x:DataW H×List MemPlace} (h:DataW.trod enc P w 0 c q j t cs=some x):
  ∃p:cj,Aq jL w [] [] (gL p.ss) cs:=by
 obtain⟨xs,m,_,_,O,a1,l⟩:=DataW.trod_struct ht h;rw[hn] at O;obtain⟨f0,e0,E⟩:=ε.1 h0;obtain⟨f1,e1,D⟩:=ε.1 h1;obtain⟨Z,e2,r⟩:=ε.1 h2;obtain⟨f3,T,B⟩:=ε.1 U;obtain⟨f4,e4,C⟩:=ε.1 h4;simp only[ι] at E D r B C;have S:=l 0 f0 e0;have I:=l 1 f1 e1;have R:=l 2 Z e2;have J:=l 3 f3 T;have M:=l 4 f4 e4;rw[E.1,E.2,d,μ (by omega)] at S;rw[D.1,D.2,d,μ (by omega)] at I;rw[r.1,r.2,d,μ (by omega)] at R;rw[B.1,B.2,y,μ (by omega)] at J;rw[C.1,C.2,v,μ (by omega)] at M;obtain⟨y0,K⟩:=s _ _ _ _ _ _ _ _ _ S;obtain⟨y1,Q⟩:=s _ _ _ _ _ _ _ _ _ I;obtain⟨y2,G⟩:=s _ _ _ _ _ _ _ _ _ R;obtain⟨v3,l3,L,r3⟩:=NN hk z A J;obtain⟨v4,W,N,r4⟩:=NN ho F u M;match cs,O with
 |[c0,c1,c2,c3,c4,c5,c6,c7,c8,c9,a0,a5,V,a6,a8,a2,a4,Y,a3,X],_=>
  simp[cI,iv] at K Q G L N;obtain⟨rfl,rfl,rfl,rfl,rfl,rfl⟩:=K;obtain⟨rfl,rfl,rfl,rfl,rfl,rfl⟩:=Q;obtain⟨rfl,rfl,rfl,rfl,rfl,rfl⟩:=G;subst L;subst N;refine⟨⟨y0,y1,y2,l3,W⟩,?_⟩;have a:∀n:Int,nA jL w [] [] (γf .i64 n).g (.int .i64 n):=λn=>by simp[γE,nA,Value.oneCell']
  simp only[cj.ss,gL,Aq];exact⟨_,_,rfl,a _,_,_,rfl,a _,_,_,rfl,a _,_,_,rfl,a _,_,_,rfl,a _,_,_,rfl,a _,_,_,rfl,a _,_,_,rfl,a _,_,_,rfl,a _,_,_,rfl,a _,_,_,rfl,a _,_,_,rfl,a _,
   _,_,rfl,a _,_,_,rfl,a _,_,_,rfl,a _,_,_,rfl,a _,_,_,rfl,a _,_,_,rfl,a _,_,_,rfl,r3,_,_,rfl,r4,rfl⟩
theorem XU {P:Program} {w:World} {r:Reach} {base:Nat} {t:TypeId} {v:Value} {fs:Array Field} (a:P.underlying t=some (.struct fs)) (h:Value.okWide P w r base t v):∃cs,v= .agg cs/\v.cells.toList=cs.toList:=by
 unfold Value.okWide at h;rw[a] at h;obtain⟨cs,rfl,_⟩:=h;exact⟨cs,rfl,rfl⟩
theorem NM {H:Type} {enc:TypeId×Value->H} {P:Program} (j:laidOutB P=true) {W l:World} (n:Below W.heap.size W l) {m:Nat->Bool}:
  ∀{f:List TypeId} {vs:List Value} {i:List (DataW H)} {g:List MemPlace},DataW.TrodAll enc P W 0 (λ_=>true) true f vs i g->(∀t∈f,P.readableRec t=true/\t<P.types.size)->(∀p∈g,p.block<W.heap.size)->(∀p∈g,m p.block=true)->
   DataW.TrodAll enc P l 0 m true f vs i g
 |[],_,_,_,h,_,_,_=>by
  obtain⟨rfl,rfl,rfl⟩:=trodAll_nil h;exact rfl;|t::f,_,_,_,h,o,e,k=>by
  obtain⟨v,vs,d,i,a,b,rfl,rfl,rfl,r,s⟩:=trodAll_cons h;obtain⟨x,q⟩:=o t (by simp);exact⟨a,b,WideElems.Trod_stays j x q r (λp c=>n.same (e p (by simp[c]))) (λp c=>k p (by simp[c])),
   NM j n s (λu w=>o u (by simp[w])) (λp c=>e p (by simp[c])) (λp c=>k p (by simp[c])),rfl⟩
theorem NL {W b:World} {a:TM} {o':a_} (h:Ext W [] [] b a o'):Below W.heap.size W b:=
 ⟨h.os,h.tape,h.output,h.size,λk e=>(h.blk k e (by rintro⟨i,c,d⟩;simp at d)).1⟩
@[simp] theorem XT {k c:IntKind} {a b:Int}:(γf k a).bi (.si c b)↔k=c/\a=b:=by simp[εX,γE]
@[simp] theorem XS {k c:IntKind} {a b:Int}:(γv k a).bi (.si c b)↔k=c/\a=b:=by simp[εX,γE]
@[simp] theorem XR {a b:Bool}:(γy a).bi (.sb b)↔a=b:=by simp[εX,γE]
@[simp] theorem XQ {a b:Bool}:(δd a).bi (.sb b)↔a=b:=by simp[εX,γE]
@[simp] theorem XP {s:ew} {a b:List s.T}:(Ψ s a).bi (.row s b)↔a=b:=by
 constructor;·intro h;simp only[εX,γE,δ5] at h;exact ku s h.1 h.2
 ·rintro rfl;rfl
@[simp] theorem XO {k c:IntKind} {a b:Int}:(γf k a).bi (.il c b)↔k=c/\a=b:=by simp[εX,γE]
@[simp] theorem XN {k c:IntKind} {a b:Int}:(γv k a).bi (.il c b)↔k=c/\a=b:=by simp[εX,γE]
theorem XM {v:SV}:v.bi v↔True:=iff_true_intro rfl
theorem kd {v:iZ}:v.bi v↔True:=iff_true_intro rfl
theorem XL {a b c d:SV}:(SV.Gz [a,b]).bi (.Gz [c,d])↔a.bi c/\b.bi d:=by simp[εX,γE,gL]
theorem Wj {a b c d e f:SV}:(SV.Gz [a,b,c]).bi (.Gz [d,e,f])↔a.bi d/\b.bi e/\c.bi f:=by simp[εX,γE,gL]
theorem Fk {s t:ew}:(Ψ s []).bi (.row t [])↔True:=iff_true_intro (by simp[εX,γE,bO])
theorem NK {s:ew} {l:List s.T}:(Ψ (.i .i64) []).bi (.row s l)↔l=[]:=by
 constructor;·grind[εX,γE]
 ·rintro rfl;exact Fk.2 trivial
theorem AS {a b:zi}:a=b↔a.a0=b.a0/\a.a1=b.a1/\a.a2=b.a2/\a.a3=b.a3/\a.a4=b.a4/\a.a5=b.a5:=by
 obtain⟨k,c,n,f,d,l⟩:=a;obtain⟨g,i,e,h,m,j⟩:=b;simp_all
@[simp] theorem Wi {n:Int}:VI .i64 n↔ -9223372036854775808<=n/\n<=9223372036854775807:=Iff.rfl
theorem vcs:(∀{p:Prop} [h:Decidable p],(decide p=true)=p)/\(∀{p:Prop} {x:Decidable p},decide p=false↔¬p)/\(∀{k g:IntKind} {a b:Int},(γv k a).bi (γf g b)↔k=g/\a=b)/\(∀{k g:IntKind} {a b:Int},(γf k a).bi (γf g b)↔k=g/\a=b)/\(∀{k g:IntKind} {a b:Int},(γf k a).bi (γv g b)↔k=g/\a=b)/\(∀{k g:IntKind} {a b:Int},(γv k a).bi (γv g b)↔k=g/\a=b)/\(∀{a b:Bool},(γy a).bi (γy b)↔a=b)/\(∀{a b:Bool},(δd a).bi (γy b)↔a=b)/\(∀{s:ew} {a b:List s.T},(Ψ s a).bi (Ψ s b)↔a=b)/\(∀{a b c d:SV},(SV.Gz [a,b]).bi (SV.Gz [c,d])↔a.bi c/\b.bi d)/\(∀{a b c d e f:SV},(SV.Gz [a,b,c]).bi (SV.Gz [d,e,f])↔a.bi d/\b.bi e/\c.bi f)/\(∀{s t:ew},(Ψ s []).bi (Ψ t [])↔True)/\(∀{s:ew} {l:List s.T},(Ψ (ew.i IntKind.i64) []).bi (Ψ s l)↔l=[])/\(∀{v:SV},v.bi v↔True)/\(∀{v:iZ},v.bi v↔True)/\(∀{n:Int},VI IntKind.i64 n↔ -9223372036854775808<=n/\n<=9223372036854775807)/\(∀p:Prop,(True/\p)=p)/\(∀p:Prop,(p/\True)=p)/\(∀a b:Bool,((a&&b)=true)=(a=true/\b=true))/\(∀b:Bool,((!b)=true)=(b=false))/\(∀b:Bool,((!b)=false)=(b=true)):=
 ⟨decide_eq_true_eq,decide_eq_false_iff_not,XS,XT,XO,XN,XR,XQ,XP,XL,Wj,Fk,NK,XM,kd,Wi,true_and,and_true,θ,Bool.not_eq_true',Bool.not_eq_false'⟩
def zi.ok (b:zi):Bool:=[b.a0,b.a1,b.a2,b.a3,b.a4,b.a5].all λn=>decide (0<=n)&&decide (n<=4)
theorem zi.hJ {b:zi}:b.ok=true↔(0<=b.a0/\b.a0<=4)/\(0<=b.a1/\b.a1<=4)/\(0<=b.a2/\b.a2<=4)/\(0<=b.a3/\b.a3<=4)/\(0<=b.a4/\b.a4<=4)/\(0<=b.a5/\b.a5<=4):=by
 simp[zi.ok]
def Fj:M9:=⟨65,zi,.one (dy .bun),λ_=>True,λb=> .si .i64 (if b.ok=true then 0 else 4)⟩
theorem IK:Holds Tryz.prog Fj:=by
 refine bI (L:=[]) Fj (λ_ _=> .apq 7) (by simp) ?_;intro b _;refine NH (let h:=γv .i64;let p:=(0:Int);let q:=(4:Int);let i:=decide (b.a0<p);let a:=γf .i64 (if zi.ok b=true then p else q);let l:=decide (q<b.a0);let k:=decide (b.a1<p);let m:=decide (q<b.a1);let o:=decide (b.a2<p);let j:=decide (q<b.a2);let n:=decide (b.a3<p);let f:=decide (q<b.a3);let g:=decide (b.a4<p);let d:=decide (q<b.a4);let c:=decide (b.a5<p);let e:=decide (q<b.a5);(i=true->(h 4).bi a)/\(i=false->(l=true->(h 4).bi a)/\(l=false->(k=true->(h 4).bi a)/\(k=false->(m=true->(h 4).bi a)/\(m=false->(o=true->(h 4).bi a)/\(o=false->(j=true->(h 4).bi a)/\(j=false->(n=true->(h 4).bi a)/\(n=false->(f=true->(h 4).bi a)/\(f=false->(g=true->(h 4).bi a)/\(g=false->(d=true->(h 4).bi a)/\(d=false->(c=true->(h 4).bi a)/\(c=false->(e=true->(h 4).bi a)/\(e=false->(h 0).bi a))))))))))))) (by kernel_rfl) ?_;conv=>zeta
 have p:=@zi.hJ b;by_cases h:b.ok=true<;>simp_all
def zi.l (b:zi):List Int:=[b.a0,b.a1,b.a2,b.a3,b.a4,b.a5]
def cr (p:cj):Int:=p.bk.length+12
def cB (p:cj) (r:Int):Int:=
 if r - p.bk.length<0 then 1
 else if r - p.bk.length<6 then bN [p.bm.a0,p.bm.a1,p.bm.a2,p.bm.a3,p.bm.a4,p.bm.a5] (r - p.bk.length).toNat 0
 else bN [p.bs.a0,p.bs.a1,p.bs.a2,p.bs.a3,p.bs.a4,p.bs.a5] (r - p.bk.length - 6).toNat 0
def dv (p:cj) (r:Int) (o:bC):Int:=
 if r - p.bk.length<0 then(if o.OA=r then 1 else 0)
 else if r - p.bk.length<6 then bN [o.bx.a0,o.bx.a1,o.bx.a2,o.bx.a3,o.bx.a4,o.bx.a5] (r - p.bk.length).toNat 0
 else if bN [p.bt.a0,p.bt.a1,p.bt.a2,p.bt.a3,p.bt.a4,p.bt.a5] (r - p.bk.length - 6).toNat 0=0\/bN [p.bt.a0,p.bt.a1,p.bt.a2,p.bt.a3,p.bt.a4,p.bt.a5] (r - p.bk.length - 6).toNat 0=bN p.bk o.OA.toNat 0 then 0
 else bN [o.bx.a0,o.bx.a1,o.bx.a2,o.bx.a3,o.bx.a4,o.bx.a5] (r - p.bk.length - 6).toNat 0
def vS:M9:=⟨84,cj,.one cO,λp=>p.bk.length<=8,λp=> .si .i64 (cr p)⟩
def vR:M9:=⟨85,cj×Int,.cons cO (.one (dX .i64)),λa=>a.1.bk.length<=8/\0<=a.2/\a.2<cr a.1,λa=> .si .i64 (cB a.1 a.2)⟩
def vQ:M9:=⟨83,cj×Int×bC,.cons cO (.cons (dX .i64) (.one (dy .bu))),λa=>a.1.bk.length<=8/\0<=a.2.1/\a.2.1<cr a.1/\0<=a.2.2.OA/\a.2.2.OA<a.1.bk.length,λa=> .si .i64 (dv a.1 a.2.1 a.2.2)⟩
theorem qS:Holds Tryz.prog vS:=by
 refine bI (L:=[]) vS (λ_ _=> .apq 7) (by simp) ?_;intro p (b:p.bk.length<=8);refine NH (let a:=(↑p.bk.length:Int)+(12:Int);VI .i64 a/\(γf .i64 a).bi (γf .i64 (cr p))) (by kernel_rfl) ?_;simp only[vcs,cr];omega
theorem qR:Holds Tryz.prog vR:=by
 refine bI (L:=[]) vR (λ_ _=> .apq 7) (by simp) ?_;rintro⟨p,r⟩ ⟨h,j,i⟩;simp only[cr] at h j i;refine NH (let h:=(6:Int);let i:=(0:Int);let d:=γf .i64 (cB p r);let c:=(↑p.bk.length:Int);let g:=decide (r - c<i);let e:=decide (r - c<h);let f:=λ(u b:Int) (a:zi) ↦i<=u - b/\u - b<h/\(u - b).toNat<6/\(γf .i64 (bN [a.a0,a.a1,a.a2,a.a3,a.a4,a.a5] (u - b).toNat i)).bi d;VI .i64 (r - c)/\(g=true->(γv .i64 1).bi d)/\(g=false->(e=true->f r c p.bm)/\(e=false->VI .i64 (r - c - h)/\f (r - c) h p.bs))) (by kernel_rfl) ?_;simp only[vcs];grind[cB]
theorem qT:Holds Tryz.prog vQ:=by
 refine bI (L:=[]) vQ (λ_ _=> .apq 7) (by simp) ?_;rintro⟨p,r,x⟩ ⟨m,q,n,l,o⟩;simp only[cr] at m q n l o;refine NH (let l:=(0:Int);let m:=(6:Int);let n:=γv .i64;let o:=γv .i64 0;let q:=γf .i64;let b:=(↑p.bk.length:Int);let e:=decide (r - b<l);let c:=q (dv p r x);let h:=decide (r - b<m);let k:=[x.bx.a0,x.bx.a1,x.bx.a2,x.bx.a3,x.bx.a4,x.bx.a5];let a:=r - b - m;let j:=bN [p.bt.a0,p.bt.a1,p.bt.a2,p.bt.a3,p.bt.a4,p.bt.a5] a.toNat l;let i:=decide (j=l);let g:=decide (j=bN p.bk x.OA.toNat l);let d:=decide (x.OA=r);let f:=(e=true->(n 0).bi c)/\(e=false->(h=true->l<=r - b/\r - b<m/\(r - b).toNat<6/\(q (bN k (r - b).toNat l)).bi c)/\(h=false->VI .i64 a/\l<=a/\a<m/\a.toNat<6/\(i=true->(n 0).bi c)/\(i=false->l<=a/\a<m/\a.toNat<6/\l<=x.OA/\x.OA<b/\x.OA.toNat<p.bk.length/\(g=true->(n 0).bi c)/\(g=false->l<=a/\a<m/\a.toNat<6/\(q (bN k a.toNat l)).bi c))));VI .i64 (r - b)/\(e=true->(d=true->(n 1).bi c)/\(d=false->f))/\(e=false->f)) (by kernel_rfl) ?_;simp only[vcs];repeat' (first|refine And.intro ?_ ?_|intro _)
 all_goals first
  |trivial;|omega;|(simp only[dv];(repeat' split)<;>first|rfl|omega)
def L2:List M9:=[vQ,vS,vR]
theorem IX:∀c∈L2,Holds Tryz.prog c:=by
 simp_all[L2,qT,qS,qR]
def bZ (p:cj) (l:List bC) (r:Int):Int:=(l.map (dv p r)).sum
def fj (p:cj) (l:List bC):Bool:=(ω (p.bk.length+12)).all λr=>decide (bZ p l r<=cB p r)
def AR:M9:=⟨59,cj×List bC,.cons cO (.one (cL .bu)),λa=>a.1.bk.length<=8/\a.2.length<=1000/\(∀x∈a.2,0<=x.OA/\x.OA<a.1.bk.length/\x.bx.ok=true),λa=> .sb (fj a.1 a.2)⟩
def Wh (a:cj×List bC):Nat->bG
 |3=> .inv Int (λi=>⟨[(1,.row .bu a.2),(2,.ptr 0 0 20),(5,.fn (.func 83) [] []),(11,.si .i64 (cr a.1)),(12,.si .i64 i)],[.cells a.1.ss 87 20 false]⟩) (λs=>iS s 12)
  (λi=>0<=i/\i<=cr a.1/\∀r:Nat,r<i->bZ a.1 a.2 r<=cB a.1 r) (λi=>(cr a.1 - i).toNat)
  λi=>λ
   |7=> .inv (Int×Int) (λx=>⟨[(1,.row .bu a.2),(2,.ptr 0 0 20),(5,.fn (.func 83) [] []),(6,.si .i64 i),(7,.si .i64 x.2),(11,.si .i64 (cr a.1)),(12,.si .i64 i),(15,.row .bu a.2),(16,.si .i64 a.2.length),(17,.si .i64 x.1)],[.cells a.1.ss 87 20 false]⟩)
    (λs=>(iS s 17,iS s 7))
    (λx=>0<=x.1/\x.1<=a.2.length/\x.2=bZ a.1 (a.2.take x.1.toNat) i) (λx=>(a.2.length - x.1).toNat) λ_ _=> .look
   |_=> .look
 |_=> .look
theorem Fi {b:zi} (h:b.ok=true) (k:Nat):0<=bN [b.a0,b.a1,b.a2,b.a3,b.a4,b.a5] k 0/\bN [b.a0,b.a1,b.a2,b.a3,b.a4,b.a5] k 0<=4:=by
 grind[zi.hJ,bN]
theorem nL {p:cj} {r:Int} {o:bC} (h:o.bx.ok=true):0<=dv p r o/\dv p r o<=4:=by
 unfold dv;have a:=Fi h (r - p.bk.length).toNat;have b:=Fi h (r - p.bk.length - 6).toNat;omega
theorem qt {p:cj} {r:Int}:∀{l:List bC},(∀x∈l,x.bx.ok=true)->0<=bZ p l r/\bZ p l r<=4*l.length
 |[],_=>by simp[bZ];|x::l,h=>by
  have b:=@nL p r x (h x (by simp));have c:=@qt p r l λy a=>h y (by simp[a]);grind[bZ]
theorem cE {a:Type} {l:List a} {i:Nat} {d:a} (h:i<l.length):bN l i d∈l:=by grind[b_]
theorem jj {a:Type} {l:List a} {i:Int} {d:a} (b:0<=i) (h:i<l.length):l.take (i+1).toNat=l.take i.toNat++[bN l i.toNat d]:=by
 rw[show(i+1).toNat=i.toNat+1 from by omega,b_ (by omega),List.take_succ_eq_append_getElem (by omega)]
theorem Fh {p:cj} {r:Int} {l:List bC} {i:Int} {d:bC} (a:0<=i) (h:i<l.length):bZ p (l.take (i+1).toNat) r=bZ p (l.take i.toNat) r+dv p r (bN l i.toNat d):=by
 grind[jj,bZ]
theorem m_ {p:cj} {l:List bC}:fj p l=true↔∀r:Nat,r<cr p->bZ p l r<=cB p r:=by
 simp only[fj,cr,χ,List.mem_range,decide_eq_true_eq];grind
theorem yS:Holds Tryz.prog AR:=by
 refine bI (L:=L2) AR Wh IX ?_;rintro⟨p,l⟩ ⟨hp,hl,hb⟩;simp only at hp hl hb;refine NH (let a:=γf .i64;let b:=(0:Int);let c:=Ψ;let d:=γv .i64 0;let e:=γv .i64;let f:=VI .i64;let g:=γK 0 0 20;let h:=SV.fn (Fn.func 83) [] [];let i:=a (cr p);let j:=iZ.cells (cj.ss p) 87 20 false;let k:=(↑l.length:Int);let q:=a k;p.bk.length<=8/\((((c ew.bu l).bi (c ew.bu l)/\g.bi g/\h.bi h/\i.bi i/\(d).bi (a 0)/\True)/\j.bi j/\True)/\b<=b/\b<=cr p/\∀(r:Nat),(↑r:Int)<b->bZ p l (↑r:Int)<=cB p (↑r:Int))/\∀(x:Int),let u:=decide (x<cr p);let m:=x+(1:Int);let v:=a m;(b<=x/\x<=cr p/\∀(r:Nat),(↑r:Int)<x->bZ p l (↑r:Int)<=cB p (↑r:Int))->(u=true->((((c ew.bu l).bi (c ew.bu l)/\g.bi g/\h.bi h/\(a x).bi (a x)/\(d).bi (a 0)/\i.bi i/\(a x).bi (a x)/\(c ew.bu l).bi (c ew.bu l)/\(a (↑l.length:Int)).bi q/\(d).bi (a 0)/\True)/\j.bi j/\True)/\b<=b/\b<=k/\b=bZ p [] x)/\∀(x_1:Int×Int),let s:=bN l x_1.1.toNat ew.bu.bw;let t:=x_1.2+dv p x s;let n:=x_1.1+(1:Int);let o:=a x;let w:=a t;let y:=a n;let z:=decide (cB p x<x_1.2);b<=x_1.1/\x_1.1<=k/\x_1.2=bZ p (Γ x_1.1.toNat l) x->(decide (x_1.1<k)=true->b<=x_1.1/\x_1.1<(↑l.length:Int)/\x_1.1.toNat<l.length/\(p.bk.length<=8/\b<=x/\x<cr p/\b<=s.OA/\s.OA<(↑p.bk.length:Int))/\f t/\f n/\(((c ew.bu l).bi (c ew.bu l)/\g.bi g/\h.bi h/\o.bi o/\w.bi w/\i.bi i/\o.bi o/\(c ew.bu l).bi (c ew.bu l)/\q.bi q/\y.bi y/\True)/\j.bi j/\True)/\(b<=n/\n<=k/\t=bZ p (Γ n.toNat l) x)/\(k - n).toNat<(k - x_1.1).toNat)/\(decide (x_1.1<k)=false->(p.bk.length<=8/\b<=x/\x<cr p)/\(z=true->(δd false).bi (γy (fj p l)))/\(z=false->f m/\(((c ew.bu l).bi (c ew.bu l)/\g.bi g/\h.bi h/\i.bi i/\v.bi v/\True)/\j.bi j/\True)/\(b<=m/\m<=cr p/\∀(r:Nat),(↑r:Int)<m->bZ p l (↑r:Int)<=cB p (↑r:Int))/\(cr p - m).toNat<(cr p - x).toNat)))/\(u=false->(δd true).bi (γy (fj p l)))) (by kernel_rfl) ?_;simp only[vcs];have hn:cr p=p.bk.length+12:=rfl;have ho:∀x∈l,x.bx.ok=true:=λx hx=>(hb x hx).2.2;refine⟨hp,⟨by omega,by omega,λr hr=>by omega⟩,?_⟩;rintro i ⟨hi0,hi1,hi⟩;refine⟨λhlt=>⟨⟨by omega,by omega,by simp[bZ]⟩,?_⟩,?_⟩
 ·rintro⟨j,s⟩ ⟨hj0,hj1,hs⟩;simp only at hj0 hj1 hs ⊢;have hsb:=@qt p i (l.take j.toNat) λx hx=>ho x (List.mem_of_mem_take hx);have hlen:(l.take j.toNat).length<=l.length:=by simp;omega
  refine⟨λhjl=>?_,λhjl=>?_⟩
  ·have hm:=hb _ (cE (d:=ew.bu.bw) (show j.toNat<l.length by omega));have hc:=@nL p i _ hm.2.2;have hst:=@Fh p i l j ew.bu.bw hj0 hjl;refine⟨by omega,by omega,by omega,⟨hp,by omega,by omega,hm.1,hm.2.1⟩,by omega,by omega,⟨by omega,by omega,by omega⟩,by omega⟩
  ·have:j.toNat=l.length:=by omega
   rw[this,ψ] at hs;refine⟨⟨hp,by omega,by omega⟩,λhgt=>?_,λhle=>⟨by omega,⟨by omega,by omega,λr hr=>?_⟩,by omega⟩⟩
   ·symm;rw[Bool.eq_false_iff];intro hf;have:=m_.1 hf i.toNat (by omega);rw[show((i.toNat:Nat):Int)=i from by omega] at this;omega
   ·by_cases hr2:(r:Int)<i;·exact hi r hr2
    ·have:(r:Int)=i:=by omega
     rw[this];omega
 ·intro hge;symm;exact m_.2 λr hr=>hi r (by omega)
def L3:List M9:=[AR,Fj,vQ,vS,vR]
theorem Ch:∀c∈L3,Holds Tryz.prog c:=by
 simp only[L3,List.forall_mem_cons,List.not_mem_nil,false_implies,implies_true,and_true];grind[yS,IK,qT,qS,qR]
def gF (p:cj) (k:Nat):Prop:=
 let c:=bN [p.bt.a0,p.bt.a1,p.bt.a2,p.bt.a3,p.bt.a4,p.bt.a5] k 0;let o:=bN [p.bs.a0,p.bs.a1,p.bs.a2,p.bs.a3,p.bs.a4,p.bs.a5] k 0;let s:=bN [p.bm.a0,p.bm.a1,p.bm.a2,p.bm.a3,p.bm.a4,p.bm.a5] k 0;0<=c/\c<=4/\0<=o/\o<=s/\(c≠0\/o=s)
instance (p:cj) (k:Nat):Decidable (gF p k):=by unfold gF;infer_instance
def AQ (p:cj):Bool:=(ω 6).all λk=>decide (gF p k)
theorem mQ {p:cj} {k:Nat}:gF p k↔(0<=bN [p.bt.a0,p.bt.a1,p.bt.a2,p.bt.a3,p.bt.a4,p.bt.a5] k 0/\bN [p.bt.a0,p.bt.a1,p.bt.a2,p.bt.a3,p.bt.a4,p.bt.a5] k 0<=4/\0<=bN [p.bs.a0,p.bs.a1,p.bs.a2,p.bs.a3,p.bs.a4,p.bs.a5] k 0/\
  bN [p.bs.a0,p.bs.a1,p.bs.a2,p.bs.a3,p.bs.a4,p.bs.a5] k 0<=bN [p.bm.a0,p.bm.a1,p.bm.a2,p.bm.a3,p.bm.a4,p.bm.a5] k 0/\
  (bN [p.bt.a0,p.bt.a1,p.bt.a2,p.bt.a3,p.bt.a4,p.bt.a5] k 0≠0\/bN [p.bs.a0,p.bs.a1,p.bs.a2,p.bs.a3,p.bs.a4,p.bs.a5] k 0=bN [p.bm.a0,p.bm.a1,p.bm.a2,p.bm.a3,p.bm.a4,p.bm.a5] k 0)):=Iff.rfl
attribute [irreducible] gF
theorem xk {p:cj}:AQ p=true↔∀k,k<6->gF p k:=by simp[AQ]
def gR (p:cj):Int:=
 if p.bm.ok=false then 4
 else if AQ p=false then 4
 else if 8<p.bk.length\/160<p.bj.length then 3
 else if ¬∀c∈p.bk,0<=c/\c<=4 then 4
 else 0
def Fg:M9:=⟨46,cj,.one cO,λp=>True,λp=> .si .i64 (gR p)⟩
def Wg (p:cj):Nat->bG
 |5=> .inv Int (λk=>⟨[(1,.ptr 0 0 20),(16,.si .i64 k)],[.cells p.ss 87 20 false]⟩) (λs=>iS s 16) (λk=>0<=k/\k<=6/\∀j:Nat,j<k->gF p j) (λk=>(6 - k).toNat) λ_ _=> .look
 |14=> .inv Int (λk=>⟨[(76,.row (.i .i64) p.bk),(77,.si .i64 p.bk.length),(78,.si .i64 k)],[.cells p.ss 87 20 false]⟩) (λs=>iS s 78)
  (λk=>0<=k/\k<=p.bk.length/\∀c∈p.bk.take k.toNat,0<=c/\c<=4) (λk=>(p.bk.length - k).toNat) λ_ _=> .look
 |_=> .look
theorem NJ {p:cj} (h:p.bm.ok=false):gR p=4:=by simp[gR,h]
theorem NF {p:cj} (h:p.bm.ok=true) {k:Nat} (b:k<6) (a:¬gF p k):gR p=4:=by
 grind[xk,gR]
theorem AP {p:cj} (h:p.bm.ok=true) (b:∀j:Nat,j<6->gF p j) (a:8<p.bk.length\/160<p.bj.length):gR p=3:=by
 grind[gR,xk]
theorem AO {p:cj} (h:p.bm.ok=true) (f:∀j:Nat,j<6->gF p j) (e:¬(8<p.bk.length\/160<p.bj.length)) {c:Int} (b:c∈p.bk) (a:¬(0<=c/\c<=4)):gR p=4:=by
 have:¬∀c∈p.bk,0<=c/\c<=4:=λd=>a (d c b);simp_all[gR]
theorem Ff {p:cj} (h:p.bm.ok=true) (b:∀j:Nat,j<6->gF p j) (d:¬(8<p.bk.length\/160<p.bj.length)) (a:∀c∈p.bk,0<=c/\c<=4):gR p=0:=by
 simp_all[gR,xk,if_neg]
theorem rG {p:cj} (h:gR p=0):p.bm.ok=true/\(∀j:Nat,j<6->gF p j)/\p.bk.length<=8/\p.bj.length<=160/\∀c∈p.bk,0<=c/\c<=4:=by
 unfold gR at h;split at h;·cases h
 ·split at h;·cases h
  ·split at h;all_goals simp_all[xk]
theorem ND {l:List Int} {i:Int} {P:Int->Prop} (d:0<=i) (h:i<l.length) (a:∀c∈l.take i.toNat,P c) (b:P (bN l i.toNat 0)):∀c∈l.take (i+1).toNat,P c:=by
 grind[jj]
theorem IN:Holds Tryz.prog Fg:=by
 refine bI (L:=L3) Fg Wg Ch ?_;intro p _;refine NH (let a:=γf .i64;let b:=(0:Int);let d:=γv .i64;let e:=(6:Int);let f:=(4:Int);let y:=if p.bm.ok=true then b else f;let g:=a (gR p);let q:=γK 0 0 20;let s:=d 0;let n:=Ψ (ew.i .i64) p.bk;let h:=iZ.cells [a p.bm.a0,a p.bm.a1,a p.bm.a2,a p.bm.a3,a p.bm.a4,a p.bm.a5,a p.bs.a0,a p.bs.a1,a p.bs.a2,a p.bs.a3,a p.bs.a4,a p.bs.a5,a p.bt.a0,a p.bt.a1,a p.bt.a2,a p.bt.a3,a p.bt.a4,a p.bt.a5,n,Ψ ew.bu p.bj] 87 20 false;let N:=[p.bt.a0,p.bt.a1,p.bt.a2,p.bt.a3,p.bt.a4,p.bt.a5];let O:=[p.bs.a0,p.bs.a1,p.bs.a2,p.bs.a3,p.bs.a4,p.bs.a5];let P:=[p.bm.a0,p.bm.a1,p.bm.a2,p.bm.a3,p.bm.a4,p.bm.a5];let t:=(↑p.bk.length:Int);let z:=decide ((8:Int)<t);let A:=decide ((160:Int)<(↑p.bj.length:Int));let k:=(↑p.bk.length:Int);let v:=a k;let B:=λ(u:Bool) ↦decide (y≠b)=u;True/\(B true->(a y).bi g)/\(B false->(((q.bi q/\s.bi (a 0)/\True)/\h.bi h/\True)/\b<=b/\b<=e/\∀(j:Nat),(↑j:Int)<b->gF p j)/\∀(x:Int),let l:=x+(1:Int);let C:=a l;let D:=decide (x<e);let w:=bN N x.toNat b;let E:=decide (w<b);let F:=decide (f<w);let o:=bN O x.toNat b;let G:=decide (o<b);let r:=bN P x.toNat b;let H:=decide (w=b);let I:=VI .i64 l/\((q.bi q/\C.bi C/\True)/\h.bi h/\True)/\(b<=l/\l<=e/\∀(j:Nat),(↑j:Int)<l->gF p j)/\(e - l).toNat<(e - x).toNat;(b<=x/\x<=e/\∀(j:Nat),(↑j:Int)<x->gF p j)->(D=true->b<=x/\x<e/\x.toNat<6/\b<=x/\x<e/\x.toNat<6/\(E=true->(d 4).bi g)/\(E=false->(F=true->(d 4).bi g)/\(F=false->(G=true->(d 4).bi g)/\(G=false->b<=x/\x<e/\x.toNat<6/\(decide (r<o)=true->(d 4).bi g)/\(decide (r<o)=false->(H=true->b<=x/\x<e/\x.toNat<6/\(decide (o≠r)=true->(d 4).bi g)/\(decide (o≠r)=false->I))/\(H=false->I))))))/\(D=false->(z=true->(d 3).bi g)/\(z=false->(A=true->(d 3).bi g)/\(A=false->(((n.bi n/\(a t).bi v/\s.bi (a 0)/\True)/\h.bi h/\True)/\b<=b/\b<=k/\∀(c:Int),c∈[]->b<=c/\c<=f)/\∀(x:Int),let J:=bN p.bk x.toNat b;let K:=decide (J<b);let L:=decide (f<J);let m:=x+(1:Int);let M:=a m;(b<=x/\x<=k/\∀(c:Int),c∈Γ x.toNat p.bk->b<=c/\c<=f)->(decide (x<k)=true->b<=x/\x<t/\x.toNat<p.bk.length/\(K=true->(d 4).bi g)/\(K=false->(L=true->(d 4).bi g)/\(L=false->VI .i64 m/\((n.bi n/\v.bi v/\M.bi M/\True)/\h.bi h/\True)/\(b<=m/\m<=k/\∀(c:Int),c∈Γ m.toNat p.bk->b<=c/\c<=f)/\(k - m).toNat<(k - x).toNat)))/\(decide (x<k)=false->s.bi g)))))) (by kernel_rfl) ?_;simp only[vcs];by_cases hs:zi.ok p.bm=true
 ·simp only[hs,if_true];refine⟨λh=>absurd rfl h,λ_=>⟨⟨by omega,by omega,λj hj=>by omega⟩,?_⟩⟩;rintro k ⟨hk0,hk1,hk⟩;refine⟨λhlt=>?_,λhge=>?_⟩
  ·have bad:¬gF p k.toNat->(4:Int)=gR p:=λh=>(NF hs (by omega) h).symm;have nxt:gF p k.toNat->∀(j:Nat),(j:Int)<k+1->gF p j:=λh j hj=>by
    by_cases hj2:(j:Int)<k;·exact hk j hj2
    ·rw[show j=k.toNat from by omega];exact h
   repeat' (first|refine And.intro ?_ ?_|intro _)
   all_goals first
    |omega;|exact bad λhh=>by have h2:=mQ.1 hh;omega;|exact nxt (mQ.2 (by omega)) _ (by assumption)
  ·have hall:∀j:Nat,j<6->gF p j:=λj hj=>hk j (by omega);refine⟨λh=>(AP hs hall (.inl (by omega))).symm,λh8=>⟨λh=>(AP hs hall (.inr (by omega))).symm,λh160=>⟨⟨by omega,by omega,by simp⟩,?_⟩⟩⟩;rintro i ⟨hi0,hi1,hi⟩;refine⟨λhlt=>?_,λhge=>?_⟩
   ·have hm:=cE (d:=0) (show i.toNat<p.bk.length by omega);refine⟨by omega,by omega,by omega,λh=>(AO hs hall (by omega) hm (by omega)).symm,λh1=>⟨λh=>(AO hs hall (by omega) hm (by omega)).symm,λh2=>⟨by omega,⟨by omega,by omega,?_⟩,by omega⟩⟩⟩;exact ND hi0 hlt hi (by omega)
   ·rw[show i.toNat=p.bk.length from by omega,ψ] at hi;exact(Ff hs hall (by omega) hi).symm
 ·have hs2:zi.ok p.bm=false:=by simpa using hs
  simp only[hs2,φ,if_false];exact⟨λ_=>(NJ hs2).symm,λh=>absurd (by decide) h⟩
def jX (n:Int) (o:bC):Int:=
 if o.OA<0\/n<=o.OA then 6 else if o.value<1\/1000000<o.value then 4 else if o.bx.ok then 0 else 4
def Fe:M9:=⟨66,Int×bC,.cons (dX .i64) (.one (dy .bu)),λp=>True,λp=> .si .i64 (jX p.1 p.2)⟩
theorem IJ:Holds Tryz.prog Fe:=by
 refine bI (L:=L3) Fe (λp=>λ_=> .look) Ch ?_;rintro⟨n,x⟩ _;refine NH (let f:=γv .i64;let e:=decide (x.OA<(0:Int));let a:=γf .i64 (jX n x);let c:=decide (n<=x.OA);let b:=decide (x.value<(1:Int));let d:=decide ((1000000:Int)<x.value);(e=true->(f 6).bi a)/\(e=false->(c=true->(f 6).bi a)/\(c=false->(b=true->(f 4).bi a)/\(b=false->(d=true->(f 4).bi a)/\(d=false->True/\(γf .i64 (if x.bx.ok=true then(0:Int) else(4:Int))).bi a))))) (by kernel_rfl) ?_;simp only[vcs];grind[jX]
def jz (p:cj) (o:bC):Int:=
 if jX p.bk.length o≠0 then jX p.bk.length o else if o.bx=zi.zero then 4 else if fj p [o]=false then 14 else 0
def Fc:M9:=⟨47,cj×bC,.cons cO (.one (dy .bu)),λa=>a.1.bk.length<=8,λa=> .si .i64 (jz a.1 a.2)⟩
def L4:List M9:=Fe::L3
theorem IW:∀c∈L4,Holds Tryz.prog c:=by
 grind[L4,IJ,Ch]
theorem AN {n:Int} {o:bC} (h:jX n o=0):0<=o.OA/\o.OA<n/\1<=o.value/\o.value<=1000000/\o.bx.ok=true:=by
 grind[jX]
theorem IM:Holds Tryz.prog Fc:=by
 refine bI (L:=L4) Fc (λp=>λ_=> .look) IW ?_;rintro⟨p,x⟩ (i:p.bk.length<=8);refine NH (let f:=(0:Int);let g:=γv .i64;let c:=jX (↑p.bk.length:Int) x;let e:=decide (c≠f);let b:=γf .i64 (jz p x);let d:=λ(u:Bool) ↦(decide (x.bx.a0=f)&&(decide (x.bx.a1=f)&&(decide (x.bx.a2=f)&&(decide (x.bx.a3=f)&&(decide (x.bx.a4=f)&&(decide (x.bx.a5=f)&&true))))))=u;True/\(e=true->(γf .i64 c).bi b)/\(e=false->(d true->(g 4).bi b)/\(d false->(p.bk.length<=8/\1<=1000/\∀(a:bC),a∈[x]->f<=a.OA/\a.OA<(↑p.bk.length:Int)/\a.bx.ok=true)/\((!fj p [x])=true->(g 14).bi b)/\((!fj p [x])=false->(g 0).bi b)))) (by kernel_rfl) ?_;conv=>zeta
 have g:(decide (x.bx.a0=0)&&(decide (x.bx.a1=0)&&(decide (x.bx.a2=0)&&(decide (x.bx.a3=0)&&(decide (x.bx.a4=0)&&decide (x.bx.a5=0))))))=decide (x.bx=zi.zero):=by
  simp_all[AS,zi.zero]
 simp only[Bool.and_true,g];simp only[vcs];refine⟨λh=>by simp_all[jz],λh=>?_⟩;have f:jX p.bk.length x=0:=γc.1 h;have j:=AN f;grind[jz]
def L5:List M9:=Fg::Fc::L4
theorem Cg:∀c∈L5,Holds Tryz.prog c:=by
 grind[L5,IN,IM,IW]
def bC.key (o:bC):mK:=⟨o.OA,o.bx⟩
def g_ (p:cj) (a:List mK):List bC->Int
 |[]=>0
 |o::r=>if jz p o≠0 then jz p o else if o.key∈a then 7 else g_ p (a++[o.key]) r
def nW (p:cj):Int:=if gR p≠0 then gR p else g_ p [] p.bj
def mW:M9:=⟨28,cj,.one cO,λp=>True,λp=> .si .i64 (nW p)⟩
def Wf (p:cj):Nat->bG
 |7=> .inv Int (λi=>⟨[(3,.ptr 1 0 20),(5,.mp 2),(19,.row .bu p.bj),(20,.si .i64 p.bj.length),(21,.si .i64 i)],
   [.cells p.ss 27 20 false,.cells p.ss 87 20 false,.map .key .b true ((p.bj.take i.toNat).map λo=>(o.key,true)) ([0,0,0,0,0,0,0],true) true]⟩) (λs=>iS s 21)
  (λi=>0<=i/\i<=p.bj.length/\g_ p [] p.bj=g_ p ((p.bj.take i.toNat).map bC.key) (p.bj.drop i.toNat)) (λi=>(p.bj.length - i).toNat) λ_ _=> .look
 |_=> .look
theorem qs {a:Type} {l:List a} {i:Int} {d:a} (b:0<=i) (h:i<l.length):l.drop i.toNat=bN l i.toNat d::l.drop (i+1).toNat:=by
 rw[show(i+1).toNat=i.toNat+1 from by omega,b_ (by omega),List.drop_eq_getElem_cons (by omega)]
theorem AM (k:mK):∀(l:List bC),(mI .key .b k (l.map λo=>(o.key,true))).getD false=decide (k∈l.map bC.key)
 |[]=>by simp[mI];|o::l=>by
  have:=AM k l;grind[mI]
theorem We {b sv:ew} {c:Bool} {es a:List (b.T×sv.T)} {d:List Nat×Bool} {pu:Bool} (h:es=a):(iZ.map b sv c es d pu).bi (.map b sv c a d pu):=by rw[h];rfl
theorem Wd {k:mK} {l:List bC} (h:k∉l.map bC.key):qx .key .b k true (l.map λo=>(o.key,true))=(l.map λo=>(o.key,true))++[(k,true)]:=
 Gy λp a=>by
  grind
theorem oi:Holds Tryz.prog mW:=by
 refine bI (L:=L5) mW Wf Cg ?_;intro p _;refine NH (let a:=γf .i64;let c:=(0:Int);let f:=Ψ ew.bu p.bj;let q:=decide (gR p≠c);let g:=a (nW p);let h:=γK 1 0 20;let r:=(↑p.bj.length:Int);let d:=(↑p.bj.length:Int);let m:=a d;let s:=γv .i64 0;let n:=([0,0,0,0,0,0,0],true);let t:=iZ.map ew.key ew.b true [] n true;let j:=g_ p [] p.bj;let E:=ew.bu.bw;let k:=λ(u:Nat) ↦let v:=iZ.cells [a p.bm.a0,a p.bm.a1,a p.bm.a2,a p.bm.a3,a p.bm.a4,a p.bm.a5,a p.bs.a0,a p.bs.a1,a p.bs.a2,a p.bs.a3,a p.bs.a4,a p.bs.a5,a p.bt.a0,a p.bt.a1,a p.bt.a2,a p.bt.a3,a p.bt.a4,a p.bt.a5,Ψ (ew.i .i64) p.bk,f] u 20 false;v.bi v;True/\(q=true->(a (gR p)).bi g)/\(q=false->(((h.bi h/\(SV.mp 2).bi (SV.mp 2)/\f.bi f/\(a r).bi m/\s.bi (a 0)/\True)/\k 27/\k 87/\t.bi t/\True)/\c<=c/\c<=d/\j=j)/\∀(x:Int),let w:=Γ x.toNat p.bj;let l:=bN p.bj x.toNat E;let y:=decide (jz p l≠c);let z:=mK.mk l.OA l.bx;let A:=γd (λ(o:bC) ↦(o.key,true)) w;let B:=(mI ew.key ew.b z A).getD false;let e:=x+(1:Int);let C:=a e;let D:=Γ e.toNat p.bj;c<=x/\x<=d/\j=g_ p (γd bC.key w) (γ3 x.toNat p.bj)->(decide (x<d)=true->c<=x/\x<r/\x.toNat<p.bj.length/\p.bk.length<=8/\(y=true->(a (jz p l)).bi g)/\(y=false->(B=true->(γv .i64 7).bi g)/\(B=false->VI .i64 e/\((h.bi h/\(SV.mp 2).bi (SV.mp 2)/\f.bi f/\m.bi m/\C.bi C/\True)/\k 27/\k 87/\(iZ.map ew.key ew.b true (qx ew.key ew.b z true A) n true).bi (iZ.map ew.key ew.b true (γd (λ(o:bC) ↦(o.key,true)) D) n true)/\True)/\(c<=e/\e<=d/\j=g_ p (γd bC.key D) (γ3 e.toNat p.bj))/\(d - e).toNat<(d - x).toNat)))/\(decide (x<d)=false->s.bi g))) (by kernel_rfl) ?_;simp only[vcs];refine⟨λh=>by simp[nW,h],λh=>?_⟩;have hz:gR p=0:=γc.1 h;obtain⟨f1,f2,f3,f4,f5⟩:=rG hz;refine⟨⟨by omega,by omega⟩,?_⟩;rintro i ⟨hi0,hi1,hi⟩;refine⟨λhlt=>?_,λhge=>?_⟩
 ·rw[qs (d:=ew.bu.bw) hi0 hlt] at hi;generalize hx:bN p.bj i.toNat ew.bu.bw=x at hi ⊢;refine⟨by omega,by omega,by omega,f3,λhe=>?_,λhe=>?_⟩
  ·simp only[g_,if_pos he] at hi;simp[nW,hz,hi]
  ·simp only[g_,if_neg he] at hi;have hk:(⟨x.OA,x.bx⟩:mK)=x.key:=rfl;simp only[hk];refine⟨λhm=>?_,λhm=>⟨by omega,?_,⟨by omega,by omega,?_⟩,by omega⟩⟩
   ·have hm2:=of_decide_eq_true ((AM _ _).symm.trans hm);rw[if_pos hm2] at hi;simp[nW,hz,hi]
   ·have hm2:=of_decide_eq_false ((AM _ _).symm.trans hm);apply We;rw[Wd hm2,jj (d:=ew.bu.bw) hi0 hlt,hx];simp
   ·have hm2:=of_decide_eq_false ((AM _ _).symm.trans hm);rw[if_neg hm2] at hi;rw[hi,jj (d:=ew.bu.bw) hi0 hlt,hx];simp
 ·rw[show i.toNat=p.bj.length from by omega,δC] at hi;simp only[g_] at hi;simp[nW,hz,hi]
def dz (l:List bC) (a:Int):List Int->Option (List bC)
 |[]=>some []
 |i::r=>if i<=a\/l.length<=i then none else(dz l i r).map (bN l i.toNat ew.bu.bw::·)
def dW (p:cj) (c:List Int):Bool:=(dz p.bj (-1) c).isSome
def cF (p:cj) (c:List Int):List bC:=(dz p.bj (-1) c).getD []
def AL:M9:=⟨58,cj×List Int,.cons cO (.one (cL (.i .i64))),λa=>a.2.length<=9223372036854775807/\a.1.bj.length<=1000,λa=> .Gz [.row .bu (cF a.1 a.2),.sb (dW a.1 a.2)]⟩
def Wc (a:cj×List Int):Nat->bG
 |4=> .inv (Int×Int×List bC) (λx=>⟨[(2,.ptr 0 0 20),(6,.ow 1 x.2.2.length 8),(7,.si .i64 x.2.1),(10,.row (.i .i64) a.2),(11,.si .i64 a.2.length),(12,.si .i64 x.1)],
   [.cells a.1.ss 27 20 false,.row .bu x.2.2 65 true]⟩) (λs=>(iS s 12,iS s 7,oS .bu s 1))
  (λx=>0<=x.1/\x.1<=a.2.length/\(x.2.2.length<=x.2.1+1/\x.2.1<1000)/\ -1<=x.2.1/\dz a.1.bj (-1) a.2=(dz a.1.bj x.2.1 (a.2.drop x.1.toNat)).map (x.2.2++·)) (λx=>(a.2.length - x.1).toNat) λ_ _=> .look
 |_=> .look
theorem yT:Holds Tryz.prog AL:=by
 refine bI (L:=L5) AL Wc Cg ?_;rintro⟨p,c⟩ ⟨hc,hof⟩;have hc:c.length<=9223372036854775807:=hc;have hof:p.bj.length<=1000:=hof;refine NH (let a:=γf .i64;let b:=(0:Int);let d:=(-1:Int);let e:=Ψ;let f:=(1000:Int);let g:=δd false;let h:=SV.Gz;let j:=(1:Int);let q:=γK 0 0 20;let w:=SV.ow 1 0 8;let m:=ew.i .i64;let l:=(↑c.length:Int);let t:=a l;let r:=iZ.cells [a p.bm.a0,a p.bm.a1,a p.bm.a2,a p.bm.a3,a p.bm.a4,a p.bm.a5,a p.bs.a0,a p.bs.a1,a p.bs.a2,a p.bs.a3,a p.bs.a4,a p.bs.a5,a p.bt.a0,a p.bt.a1,a p.bt.a2,a p.bt.a3,a p.bt.a4,a p.bt.a5,e m p.bk,e ew.bu p.bj] 27 20 false;let y:=iZ.row ew.bu [] 65 true;let s:=dz p.bj d c;let u:=h [e ew.bu (cF p c),γy (dW p c)];let v:=(↑p.bj.length:Int);(((q.bi q/\w.bi w/\(γv .i64 d).bi (a d)/\(e m c).bi (e m c)/\(a (↑c.length:Int)).bi t/\(γv .i64 0).bi (a 0)/\True)/\r.bi r/\y.bi y/\True)/\b<=b/\b<=l/\(b<=b/\d<f)/\d<=d/\s=ζr (λx ↦(b,d,[]).2.2++x) s)/\∀(x:Int×Int×List bC),let k:=bN c x.1.toNat b;let z:=decide (k<=x.2.1);let A:=x.2.2.length+1;let n:=x.1+j;let o:=x.2.2++[bN p.bj k.toNat ew.bu.bw];let B:=a k;let C:=a n;let D:=iZ.row ew.bu o 65 true;b<=x.1/\x.1<=l/\((↑x.2.2.length:Int)<=x.2.1+j/\x.2.1<f)/\d<=x.2.1/\s=ζr (λx_1 ↦x.2.2++x_1) (dz p.bj x.2.1 (γ3 x.1.toNat c))->(decide (x.1<l)=true->b<=x.1/\x.1<(↑c.length:Int)/\x.1.toNat<c.length/\(z=true->(h [e m [],g]).bi u)/\(z=false->(decide (v<=k)=true->(h [e m [],g]).bi u)/\(decide (v<=k)=false->b<=k/\k<v/\k.toNat<p.bj.length/\x.2.2.length=x.2.2.length/\A*64<=140737488355328/\A<=1000000000000/\VI .i64 n/\((q.bi q/\(SV.ow 1 o.length 8).bi (SV.ow 1 o.length 8)/\B.bi B/\(e m c).bi (e m c)/\t.bi t/\C.bi C/\True)/\r.bi r/\D.bi D/\True)/\(b<=n/\n<=l/\((↑o.length:Int)<=k+j/\k<f)/\d<=k/\s=ζr (λx ↦(n,k,o).2.2++x) (dz p.bj k (γ3 n.toNat c)))/\(l - n).toNat<(l - x.1).toNat)))/\(decide (x.1<l)=false->x.2.2.length=x.2.2.length/\(h [e ew.bu x.2.2,δd true]).bi u)) (by kernel_rfl) ?_;simp only[vcs];have hrow:∀{l:List bC},l=[]->(Ψ (.i .i64) []).bi (Ψ .bu l):=by rintro l rfl;exact Fk.2 trivial
 refine⟨⟨by omega,by omega,by omega,by simp⟩,?_⟩;rintro⟨i,last,out⟩ ⟨hi0,hi1,hlen,hla,hi⟩;simp only at hi0 hi1 hlen hla hi ⊢;refine⟨λhlt=>?_,λhge=>?_⟩
 ·rw[qs (d:=0) hi0 hlt] at hi;generalize hx:bN c i.toNat 0=x at hi ⊢;simp only[dz] at hi;refine⟨by omega,by omega,by omega,λh1=>?_,λh1=>⟨λh2=>?_,λh2=>?_⟩⟩
  ·rw[if_pos (.inl h1)] at hi;exact⟨hrow (by simp[cF,hi]),by simp[dW,hi]⟩
  ·rw[if_pos (.inr (by omega))] at hi;exact⟨hrow (by simp[cF,hi]),by simp[dW,hi]⟩
  ·rw[if_neg (by omega)] at hi;simp only[List.length_append,List.length_singleton];refine⟨by omega,by omega,by omega,by omega,by omega,by omega,⟨by omega,by omega,by omega,by omega,?_⟩,by omega⟩;rw[hi,Option.map_map];congr 1;funext r;simp
 ·rw[show i.toNat=c.length from by omega,δC] at hi;simp only[dz,ν,List.append_nil] at hi;exact⟨by simp[cF,hi],by simp[dW,hi]⟩
def L6:List M9:=mW::AL::L5
theorem Qc:∀c∈L6,Holds Tryz.prog c:=by
 grind[L6,oi,yT,Cg]
def bR (p:cj) (c:List Int):Int:=if nW p≠0 then nW p else if dW p c=false then 4 else if fj p (cF p c)=false then 14 else 0
def vP:M9:=⟨37,cj×List Int,.cons cO (.one (cL (.i .i64))),λa=>a.2.length<=9223372036854775807,λa=> .si .i64 (bR a.1 a.2)⟩
theorem NC {p:cj}:∀{l:List bC} {a:List mK},g_ p a l=0->∀x∈l,jz p x=0
 |[],_,_=>by simp;|o::r,a,h=>by
  simp only[g_] at h;split at h;·omega
  ·rename_i c;split at h;·cases h
   ·intro x b;rcases γw.1 b with rfl|b;·omega
    ·exact NC h x b
theorem rF {p:cj} (h:nW p=0):gR p=0/\∀x∈p.bj,jz p x=0:=by
 unfold nW at h;split at h;·omega
 ·rename_i a;exact⟨γc.1 a,NC h⟩
theorem AK {p:cj} {o:bC} (h:jz p o=0):jX p.bk.length o=0/\o.bx≠zi.zero/\fj p [o]=true:=by
 unfold jz at h;grind
theorem xY {l:List bC}:∀{c:List Int} {a:Int} {r:List bC}, -1<=a->dz l a c=some r->r.length+a+1<=l.length\/r=[]
 |[],a,r,_,h=>by grind[dz];|i::c,a,r,d,h=>by
  simp only[dz] at h;split at h;·cases h
  ·rename_i e;obtain⟨f,b,rfl⟩:=ε.1 h;have:=xY (by omega) b;grind
theorem AJ {l:List bC}:∀{c:List Int} {a:Int} {r:List bC}, -1<=a->dz l a c=some r->∀x∈r,x∈l
 |[],a,r,_,h=>by grind[dz];|i::c,a,r,f,h=>by
  simp only[dz] at h;split at h;·cases h
  ·rename_i e;obtain⟨g,d,rfl⟩:=ε.1 h;intro x b;rcases γw.1 b with rfl|b;·grind[cE]
   ·exact AJ (by omega) d x b
theorem qZ:Holds Tryz.prog vP:=by
 refine bI (L:=L6) vP (λp=>λ_=> .look) Qc ?_;rintro⟨p,c⟩ (n:c.length<=9223372036854775807);refine NH (let a:=γv .i64;let e:=decide (nW p≠(0:Int));let d:=γf .i64 (bR p c);let f:=!fj p (cF p c);True/\(e=true->(γf .i64 (nW p)).bi d)/\(e=false->(c.length<=9223372036854775807/\p.bj.length<=1000)/\((!dW p c)=true->(a 4).bi d)/\((!dW p c)=false->(p.bk.length<=8/\(cF p c).length<=1000/\∀(x:bC),x∈cF p c->(0:Int)<=x.OA/\x.OA<(↑p.bk.length:Int)/\x.bx.ok=true)/\(f=true->(a 14).bi d)/\(f=false->(a 0).bi d)))) (by kernel_rfl) ?_;simp only[vcs];refine⟨λh=>by simp[bR,h],λh=>?_⟩;have g:nW p=0:=γc.1 h;obtain⟨m,j⟩:=rF g;obtain⟨s,o,l,q,t⟩:=rG m;refine⟨⟨n,by omega⟩,λa=>by grind[bR],λa=>⟨⟨l,?_,?_⟩,λk=>by grind[bR],λk=>by grind[bR]⟩⟩
 ·unfold dW at a;obtain⟨r,b⟩:=γn.1 a;have:=xY (by omega) b;grind[cF]
 ·unfold dW at a;obtain⟨r,b⟩:=γn.1 a;simp only[cF,b,Option.getD_some];intro x i;have u:=AN (AK (j x (AJ (by omega) b x i))).1;simp_all
def zi.sub (a b:zi):zi:=⟨a.a0 - b.a0,a.a1 - b.a1,a.a2 - b.a2,a.a3 - b.a3,a.a4 - b.a4,a.a5 - b.a5⟩
def zi.meet (a b:zi):zi:=⟨min a.a0 b.a0,min a.a1 b.a1,min a.a2 b.a2,min a.a3 b.a3,min a.a4 b.a4,min a.a5 b.a5⟩
def zi.le (a b:zi):Bool:=decide (a.a0<=b.a0)&&decide (a.a1<=b.a1)&&decide (a.a2<=b.a2)&&decide (a.a3<=b.a3)&&decide (a.a4<=b.a4)&&decide (a.a5<=b.a5)
theorem zi.le_iff {a b:zi}:a.le b=true↔a.a0<=b.a0/\a.a1<=b.a1/\a.a2<=b.a2/\a.a3<=b.a3/\a.a4<=b.a4/\a.a5<=b.a5:=by
 simp[zi.le,and_assoc]
theorem Wb {a b:List SV}:(SV.agg a).bi (.agg b)↔gL a=gL b:=by simp[εX,γE]
def Fb:M9:=⟨67,zi×zi,.cons (dy .bun) (.one (dy .bun)),λ_=>True,λa=> .agg (cJ .bun (a.1.meet a.2))⟩
theorem IH:Holds Tryz.prog Fb:=by
 refine bI (L:=[]) Fb (λ_=>λ_=> .apq 7) (by simp) ?_;rintro⟨a,b⟩ _;refine NH (let c:=γf .i64;(SV.agg [c (min a.a0 b.a0),c (min a.a1 b.a1),c (min a.a2 b.a2),c (min a.a3 b.a3),c (min a.a4 b.a4),c (min a.a5 b.a5)]).bi (SV.agg [c (a.meet b).a0,c (a.meet b).a1,c (a.meet b).a2,c (a.meet b).a3,c (a.meet b).a4,c (a.meet b).a5])) (by kernel_rfl) ?_;simp only[vcs,Wb,gL,γE,zi.meet,and_self]
def AI (p:cj) (m:Int):Int:=if nW p≠0 then nW p else if m<0\/2^p.bk.length<=m then 4 else 0
structure L8 where
 (l0 l1 l2 l3 l4 l5 l6 l7:List bC)
structure PU where
 p:cj
 ls:L8
 es:List (tT×Int)
def wF (p:cj) (j:Int):List bC:=p.bj.filter λx=>decide (x.OA=j)
def PU.o (s:PU):TN:=
 [.cells [.si .i64 s.p.bm.a0,.si .i64 s.p.bm.a1,.si .i64 s.p.bm.a2,.si .i64 s.p.bm.a3,.si .i64 s.p.bm.a4,.si .i64 s.p.bm.a5,
  .si .i64 s.p.bs.a0,.si .i64 s.p.bs.a1,.si .i64 s.p.bs.a2,.si .i64 s.p.bs.a3,.si .i64 s.p.bs.a4,.si .i64 s.p.bs.a5,
  .si .i64 s.p.bt.a0,.si .i64 s.p.bt.a1,.si .i64 s.p.bt.a2,.si .i64 s.p.bt.a3,.si .i64 s.p.bt.a4,.si .i64 s.p.bt.a5,
  .row (.i .i64) s.p.bk,.row .bu s.p.bj,.row .bu s.ls.l0,.row .bu s.ls.l1,.row .bu s.ls.l2,.row .bu s.ls.l3,.row .bu s.ls.l4,.row .bu s.ls.l5,.row .bu s.ls.l6,.row .bu s.ls.l7,.mp 1] 114 29 false,
  .map .sit (.i .i64) true s.es ([0,0,0,0,0,0,0,0,0,0,0,0,0],true) true]
def oc (c w a j k:Int):Int:=if j<k/\(c=0\/c=a) then 0 else w
def kZ (p:cj) (x:bC):Int:=bN p.bk x.OA.toNat 0
def Fa (p:cj) (x:bC) (k:Int):zi:=⟨oc p.bt.a0 x.bx.a0 (kZ p x) 0 k,oc p.bt.a1 x.bx.a1 (kZ p x) 1 k,oc p.bt.a2 x.bx.a2 (kZ p x) 2 k,oc p.bt.a3 x.bx.a3 (kZ p x) 3 k,oc p.bt.a4 x.bx.a4 (kZ p x) 4 k,oc p.bt.a5 x.bx.a5 (kZ p x) 5 k⟩
def eu (p:cj) (x:bC):zi:=Fa p x 6
def tT.b (a:tT):Prop:=a.left.ok=true/\a.bs.ok=true
end Go.Vi
namespace Go.Proofs.YtbnhiekmnpikhaaGreat
open Go.ChangeShapes Go.WideShapes Go.ChangeAt Go.RowKit Go.Vi
theorem Tryz.own:ownKnob Tryz.prog.godebug=none:=by kernel_rfl
theorem Tryz.laidOut:laidOutB Tryz.prog=true:=by kernel_rfl
theorem Wa:Reads Tryz.prog 3 (.i .i64):=Xs Tryz.underlying3
theorem NB:Reads Tryz.prog 23 .bun:=Xo Tryz.underlying23 Tryz.underlying3 (by kernel_rfl) (by kernel_rfl)
theorem V_:Reads Tryz.prog 65 .bu:=Xn Tryz.underlying65 (by kernel_rfl) rfl rfl rfl Tryz.underlying3 (by kernel_rfl) Tryz.underlying2 (by kernel_rfl) NB (by kernel_rfl) rfl
theorem V9 {H:Type} {enc:TypeId×Value->H} {w:World} {a:Nat->Bool} {c:Bool} {b:Nat} {cs:List Value} {x:DataW H×List MemPlace} (h:DataW.trod enc Tryz.prog w 0 a c b 27 cs=some x):
  ∃p:cj,Aq jL w [] [] (gL p.ss) cs:=
 Xm Tryz.underlying27 (by kernel_rfl) rfl rfl rfl rfl rfl rfl NB (by kernel_rfl) Tryz.underlying24 Wa (by kernel_rfl) (by kernel_rfl) Tryz.underlying25 V_ (by kernel_rfl) (by kernel_rfl) h
theorem V8 {f:FuncId} {args:List SV} (h:jB Tryz.prog f (gL args) [] (γy true).g []) {W:World} {vs:List Value} (d:Aq jL W [] [] (gL args) vs):
  Calls Tryz.prog f vs.toArray W λe c=>e= .returned (.bool true)/\Below W.heap.size W c:=by
 refine(h jL W [] vs (yg W (λb a=>a.elim)) d).mono ?_;grind[γE,nA,NL]
end Go.Proofs.YtbnhiekmnpikhaaGreat
namespace Go.Vi
open Go.ChangeShapes Go.WideShapes Go.RowKit
def V7 (P:Program) (t:TypeId) (s:ew) (Q:s.T->Prop):Prop:=
 ∀(H:Type) (d:TypeId×Value->H) (w:World) (a:Nat->Bool) (c:Bool) (b:Nat) (e:List Value) (x:DataW H×List MemPlace),DataW.trod d P w 0 a c b t e=some x->∃y:s.T,Q y/\Aq jL w [] [] (de s y) e
theorem AT.q {P:Program} {t:TypeId} {s:ew} (h:AT P t s):V7 P t s λ_=>True:=λH d w a c b e x f=>by
 obtain⟨y,g⟩:=h H d w a c b e x f;grind
end Go.Vi
namespace Go.Proofs.YtbnhiekmnpikhaaGreat
open Go.ChangeShapes Go.WideShapes Go.ChangeAt Go.RowKit Go.Vi
end Go.Proofs.YtbnhiekmnpikhaaGreat
namespace Go.Vi
open Go.Proofs.YtbnhiekmnpikhaaGreat.Ir
open Go.Proofs
def V6 (m f:Int):Int:=gd.asY .i64 (m / 2^f.toNat) 1
def V5 (m f:Int):Int:=gd.ayt .i64 m (2^f.toNat)
def pI (m:Int):List Int:=[0,1,2,3,4,5,6,7].filter λf=>decide (V6 m f≠0)
def Good (p:cj):Prop:=p.bk.length<=8/\p.bj.length<=160/\p.bm.ok=true/\p.bs.ok=true/\∀x∈p.bj,0<=x.OA/\x.OA<p.bk.length/\x.bx.ok=true/\1<=x.value/\x.value<=1000000
def jy (p:cj):List Int->zi->zi->Int
 |[],_,_=>0
 |f::a,l,o=>(wF p f).foldl (λv x=>if x.bx.le l&&(eu p x).le o then max v (x.value+jy p a (l.sub x.bx) (o.sub (eu p x))) else v) (jy p a l o)
def mZ (p:cj) (a:List Int) (l o:zi) (v:Int) (x:bC):Int:=if x.bx.le l&&(eu p x).le o then max v (x.value+jy p a (l.sub x.bx) (o.sub (eu p x))) else v
def V4 (p:cj) (a:tT):Int:=jy p (pI a.members) a.left a.bs
theorem cT {p:cj} (h:nW p=0):Good p:=by
 obtain⟨e,k⟩:=rF h;obtain⟨b,a,m,g,q⟩:=rG e;refine⟨m,g,b,?_,λx o=>?_⟩
 ·have d:=zi.hJ.1 b;have f:=mQ.1 (a 0 (by omega));have c:=mQ.1 (a 1 (by omega));have i:=mQ.1 (a 2 (by omega));have l:=mQ.1 (a 3 (by omega));have n:=mQ.1 (a 4 (by omega));have j:=mQ.1 (a 5 (by omega));simp[bN] at f c i l n j;grind[zi.hJ]
 ·have d:=AN (AK (k x o)).1;simp_all
theorem xX {n:Nat} (h:n<=8):(2:Int)^n<=256/\0<(2:Int)^n:=by
 have:n=0\/n=1\/n=2\/n=3\/n=4\/n=5\/n=6\/n=7\/n=8:=by omega
 grind
def pH (p:cj) (m:Int):Int:=if AI p m=0 then V4 p ⟨m,p.bm,p.bs⟩ else 0
def allM (p:cj):Int:=2^p.bk.length - 1
def E_ (p:cj) (s:Int) (i:Int):Int:=s+(bN p.bj i.toNat ew.bu.bw).value
def xW (p:cj) (c:List Int):Int:=c.foldl (E_ p) 0
def NA (p:cj) (c:List Int):Int:=if bR p c≠0 then bR p c else if xW p c<pH p (allM p) then 13 else 0
def cj.zero:cj:=⟨zi.zero,zi.zero,zi.zero,[],[]⟩
theorem Nz {l:List bC}:∀{c:List Int} {a:Int} {r:List bC}, -1<=a->dz l a c=some r->r.length=c.length/\∀i∈c,0<=i/\i<l.length
 |[],a,r,_,h=>by grind[dz];|i::c,a,r,e,h=>by
  simp only[dz] at h;split at h;·cases h
  ·rename_i d;obtain⟨f,b,rfl⟩:=ε.1 h;obtain⟨g,j⟩:=Nz (by omega) b;grind
end Go.Vi
