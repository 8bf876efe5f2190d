/-
  The auction's problems and allocations, and how they lie in values.
  Conditions: none.
-/
import Derived.Test.YtddpfdamlefbgaaGreatSF05
import Derived.Test.YtddpfdamlefbgaaGreatSF01
import Derived.KernelRfl
import Derived.Deep.Slices
import Derived.OpenShut
import Derived.ProofKit
import Derived.Test.YtddpfdamlefbgaaGreatRows
set_option maxRecDepth 100000
set_option maxHeartbeats 4000000
set_option linter.all false
namespace Go.Vi
structure Prob where
 supply:Bun
 opn:Bun
 cls:Bun
 classes:List Int
 offers:List Off
structure Alloc where
 chosen:List Int
 value:Int
def Prob.ss (p:Prob):List SV:=
 [.si .i64 p.supply.a0,.si .i64 p.supply.a1,.si .i64 p.supply.a2,.si .i64 p.supply.a3,.si .i64 p.supply.a4,.si .i64 p.supply.a5,
  .si .i64 p.opn.a0,.si .i64 p.opn.a1,.si .i64 p.opn.a2,.si .i64 p.opn.a3,.si .i64 p.opn.a4,.si .i64 p.opn.a5,
  .si .i64 p.cls.a0,.si .i64 p.cls.a1,.si .i64 p.cls.a2,.si .i64 p.cls.a3,.si .i64 p.cls.a4,.si .i64 p.cls.a5,
  .row (.i .i64) p.classes,.row .off p.offers]
def decProb:List SV→Option Prob
 |[g,v,b,q,d,x,a,n,w,h,j,l,t,p,r,u,e,m,k,f]=>match decS .bun [g,v,b,q,d,x],decS .bun [a,n,w,h,j,l],decS .bun [t,p,r,u,e,m],decRow (.i .i64) k,decRow .off f with
  |some s,some o,some c,some k,some f=>some ⟨s,o,c,k,f⟩
  |_,_,_,_,_=>none
 |_=>none
theorem decProb_ok {cs:List SV} {p:Prob} (h:decProb cs=some p):gL cs=gL p.ss:=by
 unfold decProb at h
 split at h
 ·split at h
  ·rename_i s o c k f a i b e d
   simp only[Option.some.injEq] at h;subst h
   have a:=decS_g a
   have i:=decS_g i
   have b:=decS_g b
   have e:=decRow_ok e
   have d:=decRow_ok d
   simp_all[encA,encV,Prob.ss,gL,SV.g,iv]
  ·cases h
 ·cases h
def codP:Cod Prob where
 put p:=.agg p.ss
 dec
  | .agg c=>decProb c
  |_=>none
 ok v a h:=by
  grind[SV.g,decProb_ok]
 inj a b h:=by
  obtain⟨⟨a0,a1,a2,a3,M,o⟩,⟨A,l,e,b3,I,b5⟩,⟨H,V,Y,J,x,j⟩,k,f⟩:=a
  obtain⟨⟨d,t,d2,Z,d4,X⟩,⟨N,R,u,y,S,e5⟩,⟨f0,E,f2,f3,O,q⟩,W,B⟩:=b
  simp only[SV.g,Prob.ss,gL,AV.agg.injEq,List.cons.injEq,and_true,AV.sc.injEq,Value.int.injEq,true_and,AV.sl.injEq] at h
  obtain⟨h0,h1,F,P,Q,z,C,L,g2,U,G,T,w,K,k2,r,D,k5,m,n⟩:=h
  have s:=flatA_inj (.i .i64) m.1 m.2
  have n2:=flatA_inj .off n.1 n.2
  simp_all
def codA:Cod Alloc where
 put a:=.agg [.row (.i .i64) a.chosen,.si .i64 a.value]
 dec
  | .agg [r,v]=>match decRow (.i .i64) r,v.int .i64 with
   |some c,some v=>some ⟨c,v⟩
   |_,_=>none
  |_=>none
 ok v a h:=by
  grind[SV.g,gL,decRow_ok,int_g]
 inj a b h:=by
  obtain⟨c,v⟩:=a
  obtain⟨e,f⟩:=b
  simp only[SV.g,gL,AV.agg.injEq,List.cons.injEq,and_true,AV.sc.injEq,Value.int.injEq,true_and,AV.sl.injEq] at h
  have d:=flatA_inj (.i .i64) h.1.1 h.1.2
  rw[d,h.2]
def tyN:TypeId→Option SId
 |2=>some (.i .i64)
 |3=>some (.i .i64)
 |24=>some (.lst (.i .i64))
 |90=>some (.i .u32)
 |47=>some (.pair .b (.pair (.lst (.i .u32)) (.lst (.i .u32))))
 |29=>some (.pair (.lst (.i .i64)) (.i .i64))
 |52=>some (.lst (.pair .b (.pair (.lst (.i .u32)) (.lst (.i .u32)))))
 |4=>some .b
 |73=>some .off
 |43=>some .need
 |41=>some .need
 |23=>some .bun
 |_=>none
def mtN:List Nat×Bool→Option (SId×SId)
 |([0],false)=>some (.i .i64,.i .i64)
 |([0,0,0,0,0,0,0],true)=>some (.key,.b)
 |([0,0,0,0,0,0,0,0,0,0,0,0,0],true)=>some (.sit,.i .i64)
 |_=>none
mutual
def SV.ren (m:Nat→Option Nat):SV→Option SV
 | .agg h=>(renLS m h).map .agg
 | .tup h=>(renLS m h).map .tup
 | .ptr g j q=>(m g).map fun i=> .ptr i j q
 | .ap g a b c d e=>(m g).map fun i=> .ap i a b c d e
 | .rp g a b c d=>(m g).map fun i=> .rp i a b c d
 | .ow g n w=>(m g).map fun i=> .ow i n w
 | .os g a b c d=>(m g).map fun i=> .os i a b c d
 | .oc g a b c d=>(m g).map fun i=> .oc i a b c d
 | .mp g=>(m g).map .mp
 | .fn f a b=>match renLS m a,renLS m b with
  |some r,some u=>some (.fn f r u)
  |_,_=>none
 | .ud=>some .ud
 | .sc v=>some (.sc v)
 | .il k n=>some (.il k n)
 | .si k n=>some (.si k n)
 | .bl b=>some (.bl b)
 | .sb b=>some (.sb b)
 | .row s l=>some (.row s l)
 | .ep s l i o=>some (.ep s l i o)
 | .ia t h=>some (.ia t h)
 | .ite c a b=>some (.ite c a b)
def renLS (m:Nat→Option Nat):List SV→Option (List SV)
 |[]=>some []
 |c::h=>match c.ren m,renLS m h with
  |some x,some p=>some (x::p)
  |_,_=>none
end
mutual
theorem ren_g {m:Nat→Option Nat}:∀{v d:SV},v.ren m=some d→v.g.ren m=some d.g
 | .agg p,d,h=>by
  simp only[SV.ren] at h
  obtain⟨k,e,rfl⟩:=Option.map_eq_some_iff.1 h
  simp only[SV.g,AV.ren,renLS_g e,Option.map_some]
 | .tup p,d,h=>by
  simp only[SV.ren] at h
  obtain⟨k,e,rfl⟩:=Option.map_eq_some_iff.1 h
  simp only[SV.g,AV.ren,renLS_g e,Option.map_some]
 | .fn f a b,d,h=>by
  simp only[SV.ren] at h
  split at h
  ·rename_i r q e o
   simp only[Option.some.injEq] at h;subst h
   simp only[SV.g,AV.ren,renLS_g e,renLS_g o]
  ·cases h
 | .ptr j _ _,d,h| .ap j _ _ _ _ _,d,h| .rp j _ _ _ _,d,h| .ow j _ _,d,h| .os j _ _ _ _,d,h| .oc j _ _ _ _,d,h| .mp j,d,h=>by
  simp only[SV.ren] at h
  obtain⟨i,e,rfl⟩:=Option.map_eq_some_iff.1 h
  simp only[SV.g,AV.ren,e,Option.map_some]
 | .ud,d,h| .sc _,d,h| .il _ _,d,h| .si _ _,d,h| .bl _,d,h| .sb _,d,h| .row _ _,d,h| .ep _ _ _ _,d,h| .ia _ _,d,h| .ite _ _ _,d,h=>by
  simp only[SV.ren,Option.some.injEq] at h
  subst h
  simp only[SV.g,AV.ren]
theorem renLS_g {m:Nat→Option Nat}:∀{l n:List SV},renLS m l=some n→renL m (gL l)=some (gL n)
 |[],n,h=>by grind[renLS,gL,renL]
 |c::p,n,h=>by
  simp only[renLS] at h
  split at h
  ·rename_i s k e o
   simp only[Option.some.injEq] at h;subst h
   simp only[gL,renL,ren_g e,renLS_g o]
  ·cases h
end
def SObj.ren (m:Nat→Option Nat):SObj→Option SObj
 | .cells d e c a=>if a then some (.cells d e c a) else(renLS m d).map fun b=> .cells b e c a
 | .dead=>some .dead
 | .row s l e a=>some (.row s l e a)
 | .map j f g h i a=>some (.map j f g h i a)
 | .rowp .. =>none
theorem renL_plain {m:Nat→Option Nat}:∀{l:List AV},(∀a∈l,Plain a)→renL m l=some l
 |[],_=>by simp[renL]
 |a::e,h=>by
  have d:=renL_plain (m:=m) (l:=e) fun b c=>h b (by simp[c])
  rcases h a (by simp) with⟨v,rfl,_⟩|⟨n,f,rfl,_⟩<;>simp only[renL,AV.ren,d]
theorem renM_sc {m:Nat→Option Nat}:∀{l:List (Value×AV)},(∀a∈l,∃v,a.2= .sc v)→renM m l=some l
 |[],_=>by simp[renM]
 |(k,c)::e,h=>by
  obtain⟨v,b⟩:=h (k,c) (by simp)
  simp only at b
  subst b
  simp only[renM,AV.ren,renM_sc (l:=e) fun a d=>h a (by simp[d])]
theorem mapA_sc {b sv:SId} {d:Bool} {es:List (b.T×sv.T)}:∀a∈es.map (fun p=>(keyV b d p.1,valA sv p.2)),∃v,a.2= .sc v:=fun a c=>by
 obtain⟨q,_,rfl⟩:=List.mem_map.1 c
 exact⟨_,rfl⟩
theorem oren_g {m:Nat→Option Nat} {x y:SObj} (h:x.ren m=some y):x.g.ren m=some y.g:=by
 cases x with
 |dead=>simp[SObj.ren] at h;subst h;rfl
 |cells o e k a=>
  simp only[SObj.ren] at h
  cases a with
  |true=>simp only[if_true,Option.some.injEq] at h;subst h;simp only[SObj.g,AObj.ren,if_true]
  |false=>
   simp only[Bool.false_eq_true,if_false] at h
   obtain⟨b,c,rfl⟩:=Option.map_eq_some_iff.1 h
   simp_all[SObj.g,AObj.ren,renLS_g]
 |rowp s l e t=>grind[SObj.ren]
 |row s l e a=>
  grind[SObj.ren,SObj.g,AObj.ren,renL_plain,flatA_plain]
 |map f n i j d a=>
  simp only[SObj.ren,Option.some.injEq] at h;subst h
  simp only[SObj.g,AObj.ren,renM_sc mapA_sc,Option.map_some]
  grind
def renSS (m:Nat→Option Nat):SStore→Option SStore
 |[]=>some []
 |x::r=>match x.ren m,renSS m r with
  |some y,some l=>some (y::l)
  |_,_=>none
theorem renSS_g {m:Nat→Option Nat}:∀{o o':SStore},renSS m o=some o'→renS m (gO o)=some (gO o')
 |[],o',h=>by simp[renSS] at h;subst h;rfl
 |x::r,o',h=>by
  simp only[renSS] at h
  split at h
  ·rename_i y l b a
   simp only[Option.some.injEq] at h;subst h
   have:=renSS_g a
   grind[gO,renS,oren_g]
  ·cases h
def subSS (o:SStore) (a:List Nat):List Nat→Option SStore
 |[]=>some []
 |i::r=>match o[i]?,subSS o a r with
  |some x,some l=>match x.ren (fun j=>idxOf a j) with
   |some y=>some (y::l)
   |none=>none
  |_,_=>none
theorem subSS_g {o:SStore} {a:List Nat}:∀{r:List Nat} {o':SStore},subSS o a r=some o'→subStore (gO o) a r=some (gO o')
 |[],o',h=>by simp[subSS] at h;subst h;rfl
 |i::r,o',h=>by
  simp only[subSS] at h
  split at h
  ·rename_i x l d b
   split at h
   ·rename_i y c
    simp only[Option.some.injEq] at h;subst h
    simp only[subStore,getI d,subSS_g b,oren_g c,Option.map_some]
    rfl
   ·cases h
  ·cases h
def putSS (o:SStore):List Nat→SStore→SStore
 |[],_=>o
 |_,[]=>o
 |i::r,x::l=>putSS (o.set i x) r l
theorem putSS_g:∀{a:List Nat} {o l:SStore},gO (putSS o a l)=putBack (gO o) a (gO l)
 |[],o,l=>by simp[putSS,putBack]
 |_::_,o,[]=>by simp[putSS,putBack,gO]
 |i::r,o,x::l=>by
  simp only[putSS]
  rw[putSS_g,gO_set]
  simp[gO,putBack]
def reachSS (o:SStore):Nat→List SV→List Nat→List Nat
 |0,_,c=>c
 |_,[],c=>c
 |d+1,v::i,c=>
  let f (e:Nat) (c:List Nat):List Nat:=
   if c.contains e then c else
   match o[e]? with
   |some (.cells g _ _ h)=>if h then c++[e] else reachSS o d g (c++[e])
   |_=>c++[e]
  reachSS o d i (match v with
   | .agg g| .tup g=>reachSS o d g c
   | .ptr e _ _| .ap e _ _ _ _ _| .rp e _ _ _ _| .ow e _ _| .os e _ _ _ _| .oc e _ _ _ _| .mp e=>f e c
   | .fn _ a b=>reachSS o d b (reachSS o d a c)
   |_=>c)
theorem reachF_plain {o:Store}:∀{d:Nat} {l:List AV} {acc:List Nat},(∀a∈l,Plain a)→reachF o d l acc=acc
 |0,_,_,_=>by grind[reachF]
 |d+1,[],_,_=>by grind[reachF]
 |d+1,a::l,acc,h=>by
  have e:=reachF_plain (o:=o) (d:=d) (l:=l) (acc:=acc) fun b c=>h b (by simp[c])
  rcases h a (by simp) with⟨v,rfl,_⟩|⟨n,f,rfl,_⟩<;>(grind[reachF])
theorem reachF_sc {o:Store}:∀{d:Nat} {l:List AV} {acc:List Nat},(∀a∈l,∃v,a= .sc v)→reachF o d l acc=acc
 |0,_,_,_=>by simp[reachF]
 |d+1,[],_,_=>by simp[reachF]
 |d+1,a::l,acc,h=>by
  obtain⟨v,rfl⟩:=h a (by simp)
  simp only[reachF]
  exact reachF_sc fun a b=>h a (by simp[b])
theorem map_snd_sc {l:List (Value×AV)} (h:∀a∈l,∃v,a.2= .sc v):∀a∈l.map (·.2),∃v,a= .sc v:=fun a b=>by
 grind
def SObj.noPend:SObj→Bool
 | .rowp .. =>false
 |_=>true
theorem reach_g {o:SStore} (h:o.all SObj.noPend=true):∀{d:Nat} {vs:List SV} {acc:List Nat},reachF (gO o) d (gL vs) acc=reachSS o d vs acc:=by
 intro d
 induction d with
 |zero=>grind[reachF,reachSS]
 |succ d k=>
  intro vs acc
  cases vs with
  |nil=>simp[gL,reachF,reachSS]
  |cons v vs=>
   have m:∀(b:Nat) (acc:List Nat),(if acc.contains b then acc else
     match(gO o)[b]? with
     |some (.cells f _ _ c)=>if c then acc++[b] else reachF (gO o) d f (acc++[b])
     |some (.map j _ c)=>if c then acc++[b] else reachF (gO o) d (j.map (·.2)) (acc++[b])
     |_=>acc++[b])=(if acc.contains b then acc else
     match o[b]? with
     |some (.cells f _ _ c)=>if c then acc++[b] else reachSS o d f (acc++[b])
     |_=>acc++[b]):=by
    intro b acc
    rw[gO_get]
    cases i:o[b]? with
    |none=>rfl
    |some x=>
     cases x with
     |rowp s l e t=>
      have:=List.all_eq_true.1 h _ (List.mem_of_getElem? i)
      grind[SObj.noPend]
     |dead=>rfl
     |cells f e r c=>grind[SObj.g]
     |row s l e c=>simp only[Option.map_some,SObj.g,reachF_plain (fun a n=>flatA_plain n),ite_self]
     |map p u q j w c=>simp only[Option.map_some,SObj.g,reachF_sc (map_snd_sc mapA_sc),ite_self]
   simp only[gL,reachF,reachSS]
   rw[k]
   congr 1
   cases v<;>simp only[SV.g,k]<;>exact m _ _
def ownS (C:FuncId→List SV→SStore→(SV→SStore→Prop)→Prop) (f:FuncId) (args:List SV) (o:SStore) (K:SV→SStore→Prop):Prop:=
 if o.all SObj.noPend=false then False else
 let a:=reachSS o reachD args []
 match renLS (fun j=>idxOf a j) args,subSS o a a with
 |some c,some d=>C f c d fun r b=>
   if b.length<a.length∨callOwn.nodupN a=false then False else
   match r.ren (backN a o.length),renSS (backN a o.length) b with
   |some g,some e=>K g (putSS o a (e.take a.length)++e.drop a.length)
   |_,_=>False
 |_,_=>False
theorem ownS_sound {call:Oracle} {C:FuncId→List SV→SStore→(SV→SStore→Prop)→Prop}
  (n:∀f args o K,C f args o K→∃(r:SV) (o':SStore),call f (gL args) (gO o) true=some (r.g,gO o')∧K r o')
  {f:FuncId} {args:List SV} {o:SStore} {K:SV→SStore→Prop} (h:ownS C f args o K):
  ∃(r:SV) (o':SStore),callOwn call f (gL args) (gO o)=some (r.g,gO o')∧K r o':=by
 unfold ownS at h
 split at h
 ·exact h.elim
 rename_i a
 simp only[Bool.not_eq_false] at a
 simp only at h
 split at h
 ·rename_i d e i l
  obtain⟨r,c,j,b⟩:=n _ _ _ _ h
  split at b
  ·exact b.elim
  ·rename_i p
   split at b
   ·rename_i k q m s
    refine⟨k,_,?_,b⟩
    unfold callOwn
    simp only[reach_g a]
    rw[renLS_g i,subSS_g l]
    simp only[j,gO_len]
    rw[if_neg p,ren_g m,renSS_g s]
    simp only[gO_app,putSS_g]
    simp[gO]
   simp_all
 simp_all
section
variable {P:Program} {T:Tab} {p:SPar} {Λ:Nat→LoopAnn}
theorem fnOwnK_sound (A:TabOK P T) (y:SCallsOK T.K p.C) (w:∀f F,p.it f=some F→T.fn f=some F) {f:FuncId} {F:IFn} (u:T.fn f=some F) {args:List SV} {o:SStore} {r:AV} {o':Store} (G:T.K f (gL args) (gO o) true=none) (n:args.length=F.params)
  {Q:SV→SStore→Prop} (m:∀v s,Q v s→v.g=r∧gO s=o') (h:fnOwnK p Λ F args o Q):goodF P f=true∧CallO P f (gL args) (gO o) r o':=by
 unfold fnOwnK at h
 have i:=wpS_sound y w h
 have e:(SSt.mk (bindS 0 args) o).g=⟨bindArgs 0 (gL args),gO o⟩:=by simp[SSt.g,bindS_g]
 rw[e] at i
 have j:(gO o).length=o.length:=gO_len o
 rw[←j] at i
 have E:∀(a:SSt),(resK a F.res fun v=>if v.bel (gO o).length&&a.o.all (fun x=>x.bel (gO o).length)&&decide ((gO o).length≤a.o.length) then Q v (a.o.take (gO o).length) else False)→
   (resultsA a.g F.res).bind (fun l=>finish true (gO o).length l a.g.o)=some (r,o'):=by
  intro a t
  obtain⟨l,k,b⟩:=resK_sound t
  rw[k]
  simp only[Option.bind_some,finish,if_true]
  split at b
  ·rename_i q
   simp only[Bool.and_eq_true,decide_eq_true_eq,List.all_eq_true] at q
   obtain⟨⟨z,D⟩,B⟩:=q
   have d:∀x∈a.g.o,x.bel (gO o).length=true:=by
    grind[SSt.g,gO,obel_g]
   rw[finishOwn_bel (by grind[bel_g]) d (by grind[SSt.g,gO_len])]
   rw[←(m _ _ b).1,←(m _ _ b).2]
   simp_all[SSt.g,gO]
  ·exact b.elim
 obtain⟨k,b,_⟩:=call_of_vw A u (o:=gO o) (own:=true) G (by grind[gL_len]) (v:=r) (o':=o') (i.mono fun c s H=>by
  obtain⟨a,rfl,t⟩:=H
  cases c<;>grind)
 simp_all
end
structure OCtr where
 f:FuncId
 α:Type
 put:α→List SV
 st:α→SStore
 dec:List SV→SStore→Option α
 ok:∀v o a,dec v o=some a→gL v=gL (put a)∧gO o=gO (st a)
 inj:∀a b,gL (put a)=gL (put b)→gO (st a)=gO (st b)→a=b
 dom:α→Prop
 res:α→SV
 out:α→SStore
def HoldsO (P:Program) (c:OCtr):Prop:=∀a,c.dom a→goodF P c.f=true∧CallO P c.f (gL (c.put a)) (gO (c.st a)) (c.res a).g (gO (c.out a))
def findO (f:FuncId):List OCtr→Option OCtr
 |[]=>none
 |c::r=>bif Nat.beq c.f f then some c else findO f r
theorem findO_f:∀{L:List OCtr} {f:FuncId} {c:OCtr},findO f L=some c→c.f=f∧c∈L
 |[],_,_,h=>by cases h
 |d::L,f,c,h=>by
  simp only[findO] at h
  cases a:Nat.beq d.f f with
  |true=>
   simp_all
  |false=>
   rw[a] at h
   simp only[cond_false] at h
   obtain⟨b,e⟩:=findO_f h
   simp_all
def ownC (W:List OCtr) (f:FuncId) (args:List SV) (o:SStore) (K:SV→SStore→Prop):Prop:=
 match findO f W with
 |some c=>optK (c.dec args o) fun a=>c.dom a∧K (c.res a) (c.out a)
 |none=>False
open Classical in
noncomputable def ownA (W:List OCtr) (f:FuncId) (args:List AV) (o:Store):Option (AV×Store):=
 match findO f W with
 |some c=>if h:∃a,args=gL (c.put a)∧o=gO (c.st a)∧c.dom a then some ((c.res (Classical.choose h)).g,gO (c.out (Classical.choose h))) else none
 |none=>none
noncomputable def ownT (W:List OCtr):OwnT:=⟨ownA W,fun f a o K=>ownS (ownC W) f a o K⟩
theorem ownT_ok {P:Program} {W:List OCtr} (u:∀c∈W,HoldsO P c):OwnOK P (ownT W) where
 K:=fun f d o r w h=>by
  simp only[ownT,ownA] at h
  split at h
  ·rename_i c k
   obtain⟨rfl,v⟩:=findO_f k
   split at h
   ·rename_i e
    simp only[Option.some.injEq,Prod.mk.injEq] at h
    generalize t:Classical.choose e=b at h
    have n:=Classical.choose_spec e
    rw[t] at n
    obtain⟨p,s,l⟩:=n
    obtain⟨j,m⟩:=u c v _ l
    simp_all
   ·cases h
  ·cases h
 C:=fun q g f d o K h=>by
  refine ownS_sound ?_ h
  intro f d o K i
  simp only[ownC] at i
  split at i
  ·rename_i c k
   obtain⟨a,p,s,l⟩:=optK_some i
   refine⟨_,_,?_,l⟩
   rw[g]
   obtain⟨j,m⟩:=c.ok _ _ _ p
   have e:∃b,gL d=gL (c.put b)∧gO o=gO (c.st b)∧c.dom b:=⟨a,j,m,s⟩
   simp only[ownT,ownA,k,dif_pos e]
   have:Classical.choose e=a:=c.inj _ _ ((Classical.choose_spec e).1.symm.trans j) ((Classical.choose_spec e).2.1.symm.trans m)
   rw[this]
  simp_all
theorem holdsO_of {P:Program} {i:FuncId→Option IFn} {L:List SCtr} {W:List OCtr} (c:OCtr) {F:IFn} {m:TypeId→Option SId} {j:List Nat×Bool→Option (SId×SId)} {Λ:c.α→Nat→LoopAnn}
  (q:TabOK P ⟨i,fun _ _ _ _=>none⟩) (k:∀c∈W,HoldsO P c) (r:∀c∈L,Holds P c)
  (n:i c.f=some F) (e:∀a,(c.put a).length=F.params)
  (a:c.α) (o:∀d,findO c.f W=some d→∀b,gL (c.put a)=gL (d.put b)→gO (c.st a)=gO (d.st b)→¬d.dom b)
  (h:fnOwnK (parL L (ownT W) m j i) (Λ a) F (c.put a) (c.st a) fun v s=>v.same (c.res a)∧sameO s (c.out a)):
  goodF P c.f=true∧CallO P c.f (gL (c.put a)) (gO (c.st a)) (c.res a).g (gO (c.out a)):=by
 refine fnOwnK_sound (p:=parL L (ownT W) m j i) (Λ:=Λ a) (Q:=fun v s=>v.same (c.res a)∧sameO s (c.out a)) (tabL_ok (ownT_ok k) r q) (tabL_calls (ownT_ok k)) (fun _ _ h=>h) n ?_ (e a) (fun v s l=>⟨l.1,sameO_g l.2⟩) ?_
 ·simp only[tabL,tabK,if_true,ownT,ownA]
  grind
 ·exact h
mutual
def frzA (o:SStore) (k:Nat):SV→(SV→Prop)→Prop
 | .ow e n h,K=>if k≤e then(match o[e]? with
   |some (.row s l _ true)=>if h=s.sz then n=l.length∧K (.row s l) else False
   |some (.row _ _ _ false)=>K (.ow e n h)
   |_=>False) else K (.ow e n h)
 | .ptr e f t,K=>if k≤e then(match o[e]? with
   |some (.cells _ _ _ false)=>K (.ptr e f t)
   |_=>False) else K (.ptr e f t)
 | .agg g,K=>frzAL o k g fun d=>K (.agg d)
 | .tup g,K=>frzAL o k g fun d=>K (.tup d)
 | .ud,K=>K .ud
 | .sc v,K=>K (.sc v)
 | .il q n,K=>K (.il q n)
 | .si q n,K=>K (.si q n)
 | .bl b,K=>K (.bl b)
 | .sb b,K=>K (.sb b)
 | .row s l,K=>K (.row s l)
 | .mp i,K=>K (.mp i)
 | .ia t g,K=>K (.ia t g)
 | .fn f a b,K=>frzAL o k a fun m=>frzAL o k b fun j=>K (.fn f m j)
 |_,_=>False
def frzAL (o:SStore) (k:Nat):List SV→(List SV→Prop)→Prop
 |[],K=>K []
 |c::g,K=>frzA o k c fun p=>frzAL o k g fun d=>K (p::d)
end
section
variable {o:SStore} {k:Nat}
mutual
theorem frzA_sound:∀{v:SV} {K:SV→Prop},frzA o k v K→∃u:SV,v.g.frz (gO o) (fun i=>decide (k≤i))=some u.g∧K u
 | .ow B n A,K,h=>by
  simp only[frzA] at h
  split at h
  ·rename_i q
   split at h
   ·rename_i s l e w
    split at h
    ·rename_i r
     subst r
     obtain⟨rfl,h⟩:=h
     refine⟨_,?_,h⟩
     have y:List.take (l.length*s.sz) (flatA s l)=flatA s l:=List.take_of_length_le (by grind[flatA_len])
     simp_all[SV.g,AV.frz,getI,SObj.g,flatA_len]
    simp_all
   ·rename_i s l e w
    refine⟨_,?_,h⟩
    simp_all[SV.g,AV.frz,getI,SObj.g]
   simp_all
  ·rename_i q
   refine⟨_,?_,h⟩
   simp_all[SV.g,AV.frz,if_neg]
 | .ptr B f t,K,h=>by
  simp only[frzA] at h
  split at h
  ·rename_i q
   split at h
   ·rename_i j e A w
    refine⟨_,?_,h⟩
    simp_all[SV.g,AV.frz,getI,SObj.g]
   simp_all
  ·rename_i q
   refine⟨_,?_,h⟩
   simp_all[SV.g,AV.frz,if_neg]
 | .agg j,K,h=>by
  simp only[frzA] at h
  obtain⟨d,p,m⟩:=frzAL_sound h
  grind[SV.g,AV.frz]
 | .tup j,K,h=>by
  simp only[frzA] at h
  obtain⟨d,p,m⟩:=frzAL_sound h
  grind[SV.g,AV.frz]
 | .ud,K,h=>⟨.ud,by grind[SV.g,AV.frz],by grind[frzA]⟩
 | .sc v,K,h=>⟨.sc v,by grind[SV.g,AV.frz],by grind[frzA]⟩
 | .il k n,K,h=>⟨.il k n,by grind[SV.g,AV.frz],by grind[frzA]⟩
 | .si k n,K,h=>⟨.si k n,by grind[SV.g,AV.frz],by grind[frzA]⟩
 | .bl b,K,h=>⟨.bl b,by grind[SV.g,AV.frz],by grind[frzA]⟩
 | .sb b,K,h=>⟨.sb b,by grind[SV.g,AV.frz],by grind[frzA]⟩
 | .row s l,K,h=>⟨.row s l,by grind[SV.g,AV.frz],by grind[frzA]⟩
 | .mp i,K,h=>⟨.mp i,by grind[SV.g,AV.frz],by grind[frzA]⟩
 | .ia t j,K,h=>⟨.ia t j,by grind[SV.g,AV.frz],by grind[frzA]⟩
 | .fn f a b,K,h=>by
  simp only[frzA] at h
  obtain⟨D,p,m⟩:=frzAL_sound h
  obtain⟨C,z,x⟩:=frzAL_sound m
  grind[SV.g,AV.frz]
 | .ep ..,K,h| .ap ..,K,h| .rp ..,K,h| .os ..,K,h| .oc ..,K,h| .ite ..,K,h=>by simp only[frzA] at h
theorem frzAL_sound:∀{j:List SV} {K:List SV→Prop},frzAL o k j K→∃d:List SV,frzL (gO o) (fun i=>decide (k≤i)) (gL j)=some (gL d)∧K d
 |[],K,h=>⟨[],by simp[gL,frzL],by grind[frzAL]⟩
 |c::j,K,h=>by
  simp only[frzAL] at h
  obtain⟨E,p,m⟩:=frzA_sound h
  obtain⟨d,z,x⟩:=frzAL_sound m
  grind[gL,frzL]
end
def frzAO (o:SStore) (k:Nat):Nat→SStore→(SStore→Prop)→Prop
 |_,[],K=>K []
 |i,x::r,K=>match x with
  | .cells f e m false=>frzAL o k f fun c=>frzAO o k (i+1) r fun a=>K (.cells c e m false::a)
  | .row s l e b=>frzAO o k (i+1) r fun a=>K ((if b&&decide (k≤i) then .dead else .row s l e b)::a)
  | .map g n d j h b=>frzAO o k (i+1) r fun a=>K (.map g n d j h b::a)
  | .dead=>frzAO o k (i+1) r fun a=>K (.dead::a)
  |_=>False
theorem frzAO_sound:∀{i:Nat} {r:SStore} {K:SStore→Prop},frzAO o k i r K→∃r' mid,frzS (gO o) (fun i=>decide (k≤i)) (gO r)=some mid∧dropPu (fun i=>decide (k≤i)) i mid=gO r'∧K r'
 |i,[],K,h=>⟨[],[],rfl,rfl,h⟩
 |i,x::r,K,h=>by
  cases x with
  |dead=>
   simp only[frzAO] at h
   obtain⟨r',mid,m,b,e⟩:=frzAO_sound h
   grind[gO,SObj.g,frzS,AObj.frz,dropPu]
  |cells A c z a=>
   cases a with
   |true=>grind[frzAO]
   |false=>
    simp only[frzAO] at h
    obtain⟨j,y,f⟩:=frzAL_sound h
    obtain⟨r',mid,m,b,e⟩:=frzAO_sound f
    refine⟨_,.cells (gL j) c z false::mid,?_,?_,e⟩
    all_goals simp_all[gO,SObj.g,frzS,AObj.frz,dropPu]
  |rowp s l c t=>grind[frzAO]
  |row s l c a=>
   simp only[frzAO] at h
   obtain⟨r',mid,m,b,e⟩:=frzAO_sound h
   refine⟨_,(SObj.row s l c a).g::mid,?_,?_,e⟩
   ·have d:(SObj.row s l c a).g.frz (gO o) (fun i=>decide (k≤i))=some (SObj.row s l c a).g:=by
     cases a with
     |true=>simp only[SObj.g,AObj.frz,if_true]
     |false=>
      simp only[SObj.g,AObj.frz,Bool.false_eq_true,if_false]
      grind[frzL_plain,flatA_plain]
    grind[gO,frzS]
   ·cases a with
    |true=>
     simp only[SObj.g,dropPu,Bool.true_and]
     by_cases n:k≤i
     ·simp only[n,decide_true,if_true]
      rw[b];rfl
     ·simp only[n,decide_false,Bool.false_eq_true,if_false]
      rw[b];rfl
    |false=>simp only[SObj.g,dropPu,Bool.false_and,Bool.false_eq_true,if_false];rw[b];rfl
  |map u p q w v a=>
   simp only[frzAO] at h
   obtain⟨r',mid,m,b,e⟩:=frzAO_sound h
   have d:(SObj.map u p q w v a).g.frz (gO o) (fun i=>decide (k≤i))=some (SObj.map u p q w v a).g:=by
    cases a with
    |true=>simp only[SObj.g,AObj.frz,if_true]
    |false=>
     simp only[SObj.g,AObj.frz,Bool.false_eq_true,if_false]
     rw[frzM_sc mapA_sc,Option.map_some]
   grind[gO,frzS,SObj.g,dropPu]
end
def finK (r:SV) (o:SStore) (K:SV→SStore→Prop):Prop:=
 frzA o 0 r fun c=>frzAO o 0 0 o fun b=>
  if b.all SObj.noPend=false then False else
  let a:=reachSS b reachD [c] []
  if callOwn.nodupN a then match c.ren (fun j=>idxOf a j),subSS b a a with
   |some e,some d=>K e d
   |_,_=>False
  else False
theorem finK_sound {r:SV} {o:SStore} {K:SV→SStore→Prop} (h:finK r o K):∃r' o',finishOwn 0 r.g (gO o)=some (r'.g,gO o')∧K r' o':=by
 unfold finK at h
 obtain⟨m,n,k⟩:=frzA_sound h
 obtain⟨c,i,e,f,a⟩:=frzAO_sound k
 split at a
 ·exact a.elim
 rename_i b
 simp only[Bool.not_eq_false] at b
 simp only at a
 split at a
 ·rename_i t
  split at a
  ·rename_i j l p q
   refine⟨j,l,?_,a⟩
   unfold finishOwn
   rw[n,e]
   simp only[f,List.take_zero,List.flatMap_nil,List.range_zero]
   have s:=reach_g (o:=c) b (d:=reachD) (vs:=[m]) (acc:=[])
   simp_all[gL,ren_g,subSS_g]
  simp_all
 simp_all
def fnNewK (p:SPar) (Λ:Nat→LoopAnn) (F:IFn) (args:List SV) (Q:SV→SStore→Prop):Prop:=
 wpS p 0 F.body Λ ⟨bindS 0 args,[]⟩ fun a b=>match a with
  | .exit _=>False
  | .goto _=>False
  |_=>resK b F.res fun r=>finK r b.o Q
theorem fnNewK_sound {P:Program} {T:Tab} {p:SPar} {Λ:Nat→LoopAnn} (y:TabOK P T) (t:SCallsOK T.K p.C) (x:∀f F,p.it f=some F→T.fn f=some F) {f:FuncId} {F:IFn} (m:T.fn f=some F) {args:List SV} {r:AV} {o':Store} (A:T.K f (gL args) [] true=none) (j:args.length=F.params)
  {Q:SV→SStore→Prop} (D:∀v s,Q v s→v.g=r∧gO s=o') (h:fnNewK p Λ F args Q):goodF P f=true∧CallO P f (gL args) [] r o':=by
 unfold fnNewK at h
 have k:=wpS_sound t x h
 have b:(SSt.mk (bindS 0 args) []).g=⟨bindArgs 0 (gL args),[]⟩:=by simp[SSt.g,bindS_g,gO]
 rw[b] at k
 have n:∀(a:SSt),(resK a F.res fun v=>finK v a.o Q)→(resultsA a.g F.res).bind (fun c=>finish true 0 c a.g.o)=some (r,o'):=by
  intro a l
  obtain⟨c,e,i⟩:=resK_sound l
  obtain⟨u,q,w,B⟩:=finK_sound i
  rw[e]
  simp only[Option.bind_some,finish,if_true]
  have:finishOwn 0 c.g a.g.o=some (u.g,gO q):=w
  grind
 obtain⟨e,i,_⟩:=call_of_vw y m (o:=[]) (own:=true) A (by grind[gL_len]) (v:=r) (o':=o') (k.mono fun d s z=>by
  obtain⟨a,rfl,l⟩:=z
  cases d<;>simp_all)
 simp_all
theorem ownA_fresh {W:List OCtr} {f:FuncId} {args:List AV} {o:Store} (h:findO f W=none):ownA W f args o=none:=by
 grind[ownA]
open Go.Proofs.YtddpfdamlefbgaaGreat.Ir
open Go.Proofs
def lookH (f:Nat):List (Nat×List RH)→Option (List RH)
 |[]=>none
 |e::r=>bif Nat.beq e.1 f then some e.2 else lookH f r
noncomputable def fnN (f:FuncId):Option IFn:=
 match lookH f tabH with
 |none=>none
 |some H=>match Tryz.prog.funcs[f]? with
  |none=>none
  |some g=>compFn Tryz.prog H g
noncomputable def fG (f:FuncId):IFn:=(fnN f).getD ⟨0,0,.skip,[]⟩
theorem fG_eq {f:FuncId} (h:(fnN f).isSome=true):fnN f=some (fG f):=by
 unfold fG
 cases q:fnN f<;>simp_all
theorem lookH_all {f:Nat} {H:List RH} {p:Nat→Bool}:∀{l:List (Nat×List RH)},lookH f l=some H→(l.all fun e=>p e.1)=true→p f=true
 |[],h,_=>by cases h
 |e::r,h,k=>by
  simp only[lookH] at h
  simp only[List.all_cons,Bool.and_eq_true] at k
  cases q:Nat.beq e.1 f with
  |true=>simp_all
  |false=>rw[q] at h;exact lookH_all h k.2
theorem tab_good:(tabH.all fun e=>goodF Tryz.prog e.1)=true:=by kernel_rfl
theorem base_ok:TabOK Tryz.prog ⟨fnN,fun _ _ _ _=>none⟩ where
 fn:=fun f F h=>by
  simp only[fnN] at h
  split at h
  ·cases h
  ·rename_i H q
   split at h
   ·cases h
   ·rename_i g r;exact⟨g,H,r,h,lookH_all (p:=goodF Tryz.prog) q tab_good⟩
 K:=fun _ _ _ _ _ _ h=>by cases h
def lk {a:Type}:a→Nat→LoopAnn:=fun _ _=> .look
structure Vc (A:Prop):Prop where
 out:A
theorem vcOf {A:Prop} (B:Prop) (h:B=A) (a:B):Vc A:=⟨h▸a⟩
theorem con {L:List SCtr} {W:OwnT} (c:SCtr) (i:c.α→Nat→LoopAnn) (j:OwnOK Tryz.prog W) (e:∀c∈L,Holds Tryz.prog c)
  
  (h:∀a,c.dom a→Vc (fnK (parL L W tyN mtN fnN) (i a) (fG c.f) (c.A.put a) fun v=>v.sameR (c.res a))) (k:(fnN c.f).isSome=true:=by kernel_rfl) (d:findC c.f L=none:=by kernel_rfl) (b:∀a,(c.A.put a).length=(fG c.f).params:=by intro _;kernel_rfl):Holds Tryz.prog c:=
 holds_of c base_ok j e (fG_eq k) d b fun a g=>(h a g).out
theorem con0 {L:List SCtr} (c:SCtr) (e:c.α→Nat→LoopAnn) (g:∀c∈L,Holds Tryz.prog c) (h:∀a,c.dom a→Vc (fnK (parL L OwnT.none tyN mtN fnN) (e a) (fG c.f) (c.A.put a) fun v=>v.sameR (c.res a)))
  (i:(fnN c.f).isSome=true:=by kernel_rfl) (d:findC c.f L=none:=by kernel_rfl) (b:∀a,(c.A.put a).length=(fG c.f).params:=by intro _;kernel_rfl):Holds Tryz.prog c:=con c e (OwnOK.none _) g h i d b
theorem conE {L:List SCtr} {W:OwnT} (c:SCtr) (F:IFn) (Λ:c.α→Nat→LoopAnn) (hW:OwnOK Tryz.prog W) (hL:∀c∈L,Holds Tryz.prog c)
  
  (h:∀a,c.dom a→Vc (fnK (parL L W tyN mtN fnN) (Λ a) F (c.A.put a) fun v=>v.sameR (c.res a))) (hF:fnN c.f=some F:=by kernel_rfl) (hfr:findC c.f L=none:=by kernel_rfl) (hlen:∀a,(c.A.put a).length=F.params:=by intro _;kernel_rfl):Holds Tryz.prog c:=
 holds_of c base_ok hW hL hF hfr hlen fun a ha=>(h a ha).out
theorem conO {L:List SCtr} {W:List OCtr} (c:OCtr) (Λ:c.α→Nat→LoopAnn) (i:∀c∈W,HoldsO Tryz.prog c) (e:∀c∈L,Holds Tryz.prog c)
  
  (h:∀a,c.dom a→Vc (fnOwnK (parL L (ownT W) tyN mtN fnN) (Λ a) (fG c.f) (c.put a) (c.st a) fun v s=>v.same (c.res a)∧sameO s (c.out a))) (g:(fnN c.f).isSome=true:=by kernel_rfl) (b:∀a,(c.put a).length=(fG c.f).params:=by intro _;kernel_rfl) (k:findO c.f W=none:=by kernel_rfl):HoldsO Tryz.prog c:=
 fun a j=>holdsO_of c base_ok i e (fG_eq g) b a (fun d l=>by simp_all) (h a j).out
theorem conN {L:List SCtr} {W:List OCtr} (c:OCtr) (g:Nat→Option (Nat×Nat×Nat)) (Λ:c.α→Nat→LoopAnn) (i:∀c∈W,HoldsO Tryz.prog c) (j:∀c∈L,Holds Tryz.prog c)
  
  (h:∀a,c.dom a→Vc (fnNewK ⟨⟨pureK L,(ownT W).C⟩,tyN,mtN,g,fun _=>none,fun _=>false⟩ (Λ a) (fG c.f) (c.put a) fun v s=>v.same (c.res a)∧sameO s (c.out a))) (l:(fnN c.f).isSome=true:=by kernel_rfl) (b:∀a,(c.put a).length=(fG c.f).params:=by intro _;kernel_rfl) (d:∀a,c.st a=[]:=by intro _;rfl) (k:findO c.f W=none:=by kernel_rfl):HoldsO Tryz.prog c:=
 fun a m=>by
  rw[d a]
  refine fnNewK_sound (p:=⟨⟨pureK L,(ownT W).C⟩,tyN,mtN,g,fun _=>none,fun _=>false⟩) (Λ:=Λ a) (Q:=fun v s=>v.same (c.res a)∧sameO s (c.out a)) (tabL_ok (ownT_ok i) j base_ok) (tabL_calls (ownT_ok i)) (fun _ _ h=>by cases h) (fG_eq l) ?_ (b a) (fun v s e=>⟨e.1,sameO_g e.2⟩) (h a m).out
  simp_all[tabL,tabK,ownT,ownA_fresh]
open Go.ChangeShapes Go.WideShapes Go.RowKit
abbrev noA:Clr:=⟨fun _=>False,0⟩
instance (s:SId):Inhabited s.T:=⟨s.dflt⟩
theorem fr_nil (b:Nat):Fr noA [] b:=⟨by rintro⟨i,c,h⟩;simp at h,fun h=>h⟩
theorem repL_scs {A:Clr} {w:World} {σ:Sig} {o:Store}:∀{vs:List Value},(∀v∈vs,v.oneCell'=true)→RepL A w σ o (vs.map .sc) vs
 |[],_=>by simp[RepL]
 |v::vs,h=>by
  simp only[List.map_cons,RepL]
  exact⟨v,vs,rfl,by grind[Rep],repL_scs fun u a=>h u (by simp[a])⟩
theorem repM_app {A:Clr} {w:World} {σ:Sig} {o:Store}:∀{a b:List AV} {x:Option Addr} {j:Nat},RepM A w σ o a x j→RepM A w σ o b x (j+a.length)→RepM A w σ o (a++b) x j
 |[],b,x,j,_,h=>by simpa using h
 |c::a,b,x,j,h,k=>by
  simp only[List.cons_append,RepM] at h ⊢
  refine⟨h.1,repM_app h.2 ?_⟩
  grind
def Reads (P:Program) (t:TypeId) (s:SId):Prop:=
 ∀(H:Type) (e:TypeId×Value→H) (w:World) (d:Nat) (a:Nat→Bool) (c:Bool) (b:Nat) (f:List Value) (x:DataW H×List MemPlace),DataW.trod e P w d a c b t f=some x→∃y:s.T,f=encV s y
theorem reads_int {P:Program} {t:TypeId} {k:IntKind} (a:P.underlying t=some (.int k)):Reads P t (.i k):=fun _ _ _ _ _ _ _ b _ h=>by
 obtain⟨n,rfl,_,_⟩:=DataW.trod_int a h
 exact⟨n,rfl⟩
theorem cells_get {w:World} {base n:Nat} {a:Addr} {cs:List Value} (h:w.cells? base a n=some cs):cs.length=n∧∀i v,cs[i]?=some v→w.cell? (a.add i)=some v:=by
 unfold World.cells? at h
 split at h
 ·obtain⟨c,f⟩:=mapM_get h
  simp only[List.length_range] at c
  refine⟨c,fun i v d=>?_⟩
  have j:=(List.getElem?_eq_some_iff.1 d).1
  obtain⟨b,g,e⟩:=f i i (by simp_all)
  simp_all
 ·cases h
def ReadsG (P:Program) (t:TypeId) (s:SId):Prop:=
 ∀(H:Type) (d:TypeId×Value→H) (w:World) (a:Nat→Bool) (c:Bool) (b:Nat) (e:List Value) (x:DataW H×List MemPlace),DataW.trod d P w 0 a c b t e=some x→∃y:s.T,RepL noA w [] [] (encA s y) e
theorem Reads.g {P:Program} {t:TypeId} {s:SId} (h:Reads P t s) (i:s.flat=true:=by rfl):ReadsG P t s:=fun H d w a c b e x f=>by
 obtain⟨y,rfl⟩:=h H d w 0 a c b e x f
 exact⟨y,by grind[flat_encA,repL_scs,encV_one]⟩
theorem repM_of {w:World} {a:Addr}:∀{cs:List AV} {vs:List Value} {j:Nat},RepL noA w [] [] cs vs→(∀i v,vs[i]?=some v→w.cell? (a.add (j+i))=some v)→RepM noA w [] [] cs (some a) j
 |[],_,_,_,_=>by simp[RepM]
 |c::cs,vs,j,b,d=>by
  simp only[RepL] at b
  obtain⟨v,r,rfl,e,f⟩:=b
  simp only[RepM]
  refine⟨⟨a,v,rfl,fr_nil _,by simpa using d 0 v (by simp),e⟩,repM_of f fun i u g=>?_⟩
  have:=d (i+1) u (by simp_all)
  grind
theorem repM_flat {w:World} {a:Addr} {s:SId}:∀{l:List s.T} {i0:Nat},(∀i y,l[i]?=some y→∃cs,w.cells? 0 (a.add ((i0+i)*s.sz)) s.sz=some cs∧RepL noA w [] [] (encA s y) cs)→RepM noA w [] [] (flatA s l) (some a) (i0*s.sz)
 |[],_,_=>by simp[flatA,RepM]
 |y::l,i0,h=>by
  obtain⟨cs,b,c⟩:=h 0 y (by simp)
  rw[Nat.add_zero] at b
  obtain⟨d,g⟩:=cells_get b
  have e:flatA s (y::l)=encA s y++flatA s l:=by simp[flatA]
  rw[e]
  refine repM_app (repM_of c fun i v j=>?_) ?_
  ·grind[add_add]
  ·rw[encA_len,show i0*s.sz+s.sz=(i0+1)*s.sz from by grind]
   refine repM_flat fun i z f=>?_
   have:=h (i+1) z (by simp_all)
   grind
theorem reads_sliceG {P:Program} {t e:TypeId} {s:SId} (A:P.underlying t=some (.slice e)) (r:ReadsG P e s) (I:P.cellsOf e=s.sz)
  {H:Type} {enc:TypeId×Value→H} {w:World} {c:Nat→Bool} {j:Bool} {d:Nat} {cs:List Value} {x:DataW H×List MemPlace} (h:DataW.trod enc P w 0 c j d t cs=some x):
  ∃(v:Value) (l:List s.T),cs=[v]∧Rep noA w [] [] (SV.row s l).g v:=by
 rcases Go.Deep.open_slice A h with⟨rfl,_⟩|⟨a,b,k,m,n,D,F,rfl,M,z,L,o,_,q⟩
 ·exact⟨_,[],rfl,by grind[SV.g,Rep,flatA,pureL,RepM]⟩
 ·have B:b≤m:=by grind
  have C:∀i,i<b→∃y:s.T,∃cs,w.cells? 0 (a.add (i*s.sz)) s.sz=some cs∧RepL noA w [] [] (encA s y) cs:=fun i J=>by
   obtain⟨p,K,E⟩:=q i (by omega)
   obtain⟨y,u⟩:=r _ _ _ _ _ _ _ _ E
   grind
  obtain⟨f,G⟩:=Go.Deep.choose_lt C
  refine⟨_,(List.range b).map f,rfl,?_⟩
  simp only[SV.g,Rep,List.length_map,List.length_range]
  refine⟨some a,k,rfl,z,flatA_pure _ _,?_⟩
  have:=repM_flat (w:=w) (a:=a) (s:=s) (l:=(List.range b).map f) (i0:=0) (fun i y u=>by
   grind)
  simp_all
theorem reads_slice {P:Program} {t e:TypeId} {s:SId} (i:P.underlying t=some (.slice e)) (f:Reads P e s) (j:P.cellsOf e=s.sz)
  {H:Type} {enc:TypeId×Value→H} {w:World} {a:Nat→Bool} {c:Bool} {b:Nat} {cs:List Value} {x:DataW H×List MemPlace} (h:DataW.trod enc P w 0 a c b t cs=some x) (d:s.flat=true:=by rfl):
  ∃(v:Value) (l:List s.T),cs=[v]∧Rep noA w [] [] (SV.row s l).g v:=reads_sliceG i (f.g d) j h
theorem one_of {cs:List Value} {i:Nat} {v:Value} (h:(cs.drop i).take 1=[v]):cs[i]?=some v:=by
 have:((cs.drop i).take 1)[0]?=some v:=by rw[h];rfl
 grind
theorem reads_bun {P:Program} {t e:TypeId} (s:P.underlying t=some (.array 6 e)) (F:P.underlying e=some (.int .i64)) (H:P.cellsOf e=1) (l:P.cellsOf t=6):Reads P t .bun:=fun _ _ _ _ _ _ _ c _ h=>by
 obtain⟨z,m,_,_,b,v,D⟩:=DataW.trod_array s h
 have a:∀i,i<6→∃n,c[i]?=some (.int .i64 n):=fun i w=>by
  grind[DataW.trod_int,one_of]
 rw[l] at b
 match c,b,a with
 |[C,A,I,G,B,E],_,a=>
  obtain⟨o,y⟩:=a 0 (by omega)
  obtain⟨x,d⟩:=a 1 (by omega)
  obtain⟨p,u⟩:=a 2 (by omega)
  obtain⟨j,r⟩:=a 3 (by omega)
  obtain⟨k,f⟩:=a 4 (by omega)
  obtain⟨q,g⟩:=a 5 (by omega)
  simp only[List.getElem?_cons_zero,List.getElem?_cons_succ,Option.some.injEq] at y d u r f g
  exact⟨⟨o,x,p,j,k,q⟩,by grind[encV,iv]⟩
theorem reads_off {P:Program} {t b i v:TypeId} {fs:Array Field} (w:P.underlying t=some (.struct fs)) (r:P.cellsOf t=8) (N:(fs[0]?).map (fun f=>(f.type,f.offset))=some (i,0)) (O:(fs[1]?).map (fun f=>(f.type,f.offset))=some (b,1)) (u:(fs[2]?).map (fun f=>(f.type,f.offset))=some (v,7))
  (x:P.underlying i=some (.int .i64)) (e:P.cellsOf i=1) (q:P.underlying v=some (.int .i64)) (k:P.cellsOf v=1) (z:Reads P b .bun) (d:P.cellsOf b=6) (I:fs.size=3):Reads P t .off:=fun _ _ _ _ _ _ _ B _ h=>by
 obtain⟨T,m,_,_,n,K,j⟩:=DataW.trod_struct w h
 rw[r] at n
 obtain⟨F,C,g⟩:=Option.map_eq_some_iff.1 N
 obtain⟨s,D,c⟩:=Option.map_eq_some_iff.1 O
 obtain⟨J,A,a⟩:=Option.map_eq_some_iff.1 u
 simp only[Prod.mk.injEq] at g c a
 have o:=j 0 F C
 have l:=j 1 s D
 have p:=j 2 J A
 rw[g.1,g.2,e,List.getElem?_eq_getElem (by omega)] at o
 rw[c.1,c.2,d,List.getElem?_eq_getElem (by omega)] at l
 rw[a.1,a.2,k,List.getElem?_eq_getElem (by omega)] at p
 obtain⟨G,M,_⟩:=DataW.trod_int x o
 obtain⟨y,E⟩:=z _ _ _ _ _ _ _ _ _ l
 obtain⟨H,L,_⟩:=DataW.trod_int q p
 match B,n with
 |[S,U,R,V,Y,X,Q,W],_=>
  simp[encV] at M E L
  exact⟨⟨G,y,H⟩,by grind[encV,iv]⟩
theorem reads_prob {P:Program} {t b k o:TypeId} {fs:Array Field} (ht:P.underlying t=some (.struct fs)) (hn:P.cellsOf t=20) (a7:fs.size=5)
  (h0:(fs[0]?).map (fun f=>(f.type,f.offset))=some (b,0)) (h1:(fs[1]?).map (fun f=>(f.type,f.offset))=some (b,6)) (h2:(fs[2]?).map (fun f=>(f.type,f.offset))=some (b,12))
  (U:(fs[3]?).map (fun f=>(f.type,f.offset))=some (k,18)) (h4:(fs[4]?).map (fun f=>(f.type,f.offset))=some (o,19))
  (s:Reads P b .bun) (d:P.cellsOf b=6) {e:TypeId} (hk:P.underlying k=some (.slice e)) (z:Reads P e (.i .i64)) (A:P.cellsOf e=1) (y:P.cellsOf k=1)
  {f:TypeId} (ho:P.underlying o=some (.slice f)) (F:Reads P f .off) (u:P.cellsOf f=8) (v:P.cellsOf o=1)
  {H:Type} {enc:TypeId×Value→H} {w:World} {c:Nat→Bool} {q:Bool} {j:Nat} {cs:List Value} {x:DataW H×List MemPlace} (h:DataW.trod enc P w 0 c q j t cs=some x):
  ∃p:Prob,RepL noA w [] [] (gL p.ss) cs:=by
 obtain⟨xs,m,_,_,O,a1,l⟩:=DataW.trod_struct ht h
 rw[hn] at O
 obtain⟨f0,e0,E⟩:=Option.map_eq_some_iff.1 h0
 obtain⟨f1,e1,D⟩:=Option.map_eq_some_iff.1 h1
 obtain⟨Z,e2,r⟩:=Option.map_eq_some_iff.1 h2
 obtain⟨f3,T,B⟩:=Option.map_eq_some_iff.1 U
 obtain⟨f4,e4,C⟩:=Option.map_eq_some_iff.1 h4
 simp only[Prod.mk.injEq] at E D r B C
 have S:=l 0 f0 e0
 have I:=l 1 f1 e1
 have R:=l 2 Z e2
 have J:=l 3 f3 T
 have M:=l 4 f4 e4
 rw[E.1,E.2,d,List.getElem?_eq_getElem (by omega)] at S
 rw[D.1,D.2,d,List.getElem?_eq_getElem (by omega)] at I
 rw[r.1,r.2,d,List.getElem?_eq_getElem (by omega)] at R
 rw[B.1,B.2,y,List.getElem?_eq_getElem (by omega)] at J
 rw[C.1,C.2,v,List.getElem?_eq_getElem (by omega)] at M
 obtain⟨y0,K⟩:=s _ _ _ _ _ _ _ _ _ S
 obtain⟨y1,Q⟩:=s _ _ _ _ _ _ _ _ _ I
 obtain⟨y2,G⟩:=s _ _ _ _ _ _ _ _ _ R
 obtain⟨v3,l3,L,r3⟩:=reads_slice hk z A J
 obtain⟨v4,W,N,r4⟩:=reads_slice ho F u M
 match cs,O with
 |[c0,c1,c2,c3,c4,c5,c6,c7,c8,c9,a0,a5,V,a6,a8,a2,a4,Y,a3,X],_=>
  simp[encV,iv] at K Q G L N
  obtain⟨rfl,rfl,rfl,rfl,rfl,rfl⟩:=K
  obtain⟨rfl,rfl,rfl,rfl,rfl,rfl⟩:=Q
  obtain⟨rfl,rfl,rfl,rfl,rfl,rfl⟩:=G
  subst L
  subst N
  refine⟨⟨y0,y1,y2,l3,W⟩,?_⟩
  have a:∀n:Int,Rep noA w [] [] (SV.si .i64 n).g (.int .i64 n):=fun n=>by simp[SV.g,Rep,Value.oneCell']
  simp only[Prob.ss,gL,RepL]
  exact⟨_,_,rfl,a _,_,_,rfl,a _,_,_,rfl,a _,_,_,rfl,a _,_,_,rfl,a _,_,_,rfl,a _,_,_,rfl,a _,_,_,rfl,a _,_,_,rfl,a _,_,_,rfl,a _,_,_,rfl,a _,_,_,rfl,a _,
   _,_,rfl,a _,_,_,rfl,a _,_,_,rfl,a _,_,_,rfl,a _,_,_,rfl,a _,_,_,rfl,a _,_,_,rfl,r3,_,_,rfl,r4,rfl⟩
theorem agg_cells {P:Program} {w:World} {r:Reach} {base:Nat} {t:TypeId} {v:Value} {fs:Array Field} (a:P.underlying t=some (.struct fs)) (h:Value.okWide P w r base t v):∃cs,v= .agg cs∧v.cells.toList=cs.toList:=by
 unfold Value.okWide at h
 rw[a] at h
 obtain⟨cs,rfl,_⟩:=h
 exact⟨cs,rfl,rfl⟩
theorem cell_slice {P:Program} {w:World} {r:Reach} {base:Nat} {t e:TypeId} {v:Value} (a:P.underlying t=some (.slice e)) (h:Value.okWide P w r base t v):v.cells.toList=[v]:=by
 cases v with
 |agg b=>simp_all[Value.okWide,Cell.okWide,Cell.ok]
 |_=>rfl
theorem stays_all {H:Type} {enc:TypeId×Value→H} {P:Program} (j:laidOutB P=true) {W l:World} (n:Below W.heap.size W l) {m:Nat→Bool}:
  ∀{f:List TypeId} {vs:List Value} {i:List (DataW H)} {g:List MemPlace},DataW.TrodAll enc P W 0 (fun _=>true) true f vs i g→(∀t∈f,P.readableRec t=true∧t<P.types.size)→(∀p∈g,p.block<W.heap.size)→(∀p∈g,m p.block=true)→
   DataW.TrodAll enc P l 0 m true f vs i g
 |[],_,_,_,h,_,_,_=>by
  obtain⟨rfl,rfl,rfl⟩:=trodAll_nil h
  exact rfl
 |t::f,_,_,_,h,o,e,k=>by
  obtain⟨v,vs,d,i,a,b,rfl,rfl,rfl,r,s⟩:=trodAll_cons h
  obtain⟨x,q⟩:=o t (by simp)
  exact⟨a,b,WideElems.Trod_stays j x q r (fun p c=>n.same (e p (by simp[c]))) (fun p c=>k p (by simp[c])),
   stays_all j n s (fun u w=>o u (by simp[w])) (fun p c=>e p (by simp[c])) (fun p c=>k p (by simp[c])),rfl⟩
theorem below_of_ext {W b:World} {a:Sig} {o':Store} (h:Ext W [] [] b a o'):Below W.heap.size W b:=
 ⟨h.os,h.tape,h.output,h.size,fun k e=>(h.blk k e (by rintro⟨i,c,d⟩;simp at d)).1⟩
@[simp] theorem same_si_si {k c:IntKind} {a b:Int}:(SV.si k a).same (.si c b)↔k=c∧a=b:=by simp[SV.same,SV.g]
@[simp] theorem same_il_si {k c:IntKind} {a b:Int}:(SV.il k a).same (.si c b)↔k=c∧a=b:=by simp[SV.same,SV.g]
@[simp] theorem same_sb_sb {a b:Bool}:(SV.sb a).same (.sb b)↔a=b:=by simp[SV.same,SV.g]
@[simp] theorem same_bl_sb {a b:Bool}:(SV.bl a).same (.sb b)↔a=b:=by simp[SV.same,SV.g]
@[simp] theorem same_row {s:SId} {a b:List s.T}:(SV.row s a).same (.row s b)↔a=b:=by
 constructor
 ·intro h;simp only[SV.same,SV.g,AV.sl.injEq] at h;exact flatA_inj s h.1 h.2
 ·rintro rfl;rfl
@[simp] theorem same_si_il {k c:IntKind} {a b:Int}:(SV.si k a).same (.il c b)↔k=c∧a=b:=by simp[SV.same,SV.g]
@[simp] theorem same_il_il {k c:IntKind} {a b:Int}:(SV.il k a).same (.il c b)↔k=c∧a=b:=by simp[SV.same,SV.g]
theorem same_rfl {v:SV}:v.same v↔True:=iff_true_intro rfl
theorem osame_rfl {v:SObj}:v.same v↔True:=iff_true_intro rfl
theorem same_tup2 {a b c d:SV}:(SV.tup [a,b]).same (.tup [c,d])↔a.same c∧b.same d:=by simp[SV.same,SV.g,gL]
theorem same_tup3 {a b c d e f:SV}:(SV.tup [a,b,c]).same (.tup [d,e,f])↔a.same d∧b.same e∧c.same f:=by simp[SV.same,SV.g,gL]
theorem same_nil {s t:SId}:(SV.row s []).same (.row t [])↔True:=iff_true_intro (by simp[SV.same,SV.g,flatA])
theorem same_row_nil {s:SId} {l:List s.T}:(SV.row (.i .i64) []).same (.row s l)↔l=[]:=by
 constructor
 ·grind[SV.same,SV.g]
 ·rintro rfl;exact same_nil.2 trivial
theorem bun_eq {a b:Bun}:a=b↔a.a0=b.a0∧a.a1=b.a1∧a.a2=b.a2∧a.a3=b.a3∧a.a4=b.a4∧a.a5=b.a5:=by
 obtain⟨k,c,n,f,d,l⟩:=a
 obtain⟨g,i,e,h,m,j⟩:=b
 simp_all
@[simp] theorem inR_i64 {n:Int}:inR .i64 n↔ -9223372036854775808≤n∧n≤9223372036854775807:=Iff.rfl
theorem vcs:(∀{p:Prop} [h:Decidable p],(decide p=true)=p)∧(∀{p:Prop} {x:Decidable p},decide p=false↔¬p)∧(∀{k g:IntKind} {a b:Int},(SV.il k a).same (SV.si g b)↔k=g∧a=b)∧(∀{k g:IntKind} {a b:Int},(SV.si k a).same (SV.si g b)↔k=g∧a=b)∧(∀{k g:IntKind} {a b:Int},(SV.si k a).same (SV.il g b)↔k=g∧a=b)∧(∀{k g:IntKind} {a b:Int},(SV.il k a).same (SV.il g b)↔k=g∧a=b)∧(∀{a b:Bool},(SV.sb a).same (SV.sb b)↔a=b)∧(∀{a b:Bool},(SV.bl a).same (SV.sb b)↔a=b)∧(∀{s:SId} {a b:List s.T},(SV.row s a).same (SV.row s b)↔a=b)∧(∀{a b c d:SV},(SV.tup [a,b]).same (SV.tup [c,d])↔a.same c∧b.same d)∧(∀{a b c d e f:SV},(SV.tup [a,b,c]).same (SV.tup [d,e,f])↔a.same d∧b.same e∧c.same f)∧(∀{s t:SId},(SV.row s []).same (SV.row t [])↔True)∧(∀{s:SId} {l:List s.T},(SV.row (SId.i IntKind.i64) []).same (SV.row s l)↔l=[])∧(∀{v:SV},v.same v↔True)∧(∀{v:SObj},v.same v↔True)∧(∀{n:Int},inR IntKind.i64 n↔ -9223372036854775808≤n∧n≤9223372036854775807)∧(∀p:Prop,(True∧p)=p)∧(∀p:Prop,(p∧True)=p)∧(∀a b:Bool,((a&&b)=true)=(a=true∧b=true))∧(∀b:Bool,((!b)=true)=(b=false))∧(∀b:Bool,((!b)=false)=(b=true)):=
 ⟨decide_eq_true_eq,decide_eq_false_iff_not,same_il_si,same_si_si,same_si_il,same_il_il,same_sb_sb,same_bl_sb,same_row,same_tup2,same_tup3,same_nil,same_row_nil,same_rfl,osame_rfl,inR_i64,true_and,and_true,Bool.and_eq_true,Bool.not_eq_true',Bool.not_eq_false'⟩
def Bun.ok (b:Bun):Bool:=[b.a0,b.a1,b.a2,b.a3,b.a4,b.a5].all fun n=>decide (0≤n)&&decide (n≤4)
theorem Bun.ok_iff {b:Bun}:b.ok=true↔(0≤b.a0∧b.a0≤4)∧(0≤b.a1∧b.a1≤4)∧(0≤b.a2∧b.a2≤4)∧(0≤b.a3∧b.a3≤4)∧(0≤b.a4∧b.a4≤4)∧(0≤b.a5∧b.a5≤4):=by
 simp[Bun.ok]
def r146:SCtr:=⟨97,Bun,.one (codE .bun),fun _=>True,fun b=> .si .i64 (if b.ok=true then 0 else 4)⟩
theorem h146:Holds Tryz.prog r146:=by
 refine con0 (L:=[]) r146 (fun _ _=> .unroll 7) (by simp) ?_
 intro b _
 refine vcOf (let i:=decide (b.a0<(0:Int));let a:=SV.si .i64 (if Bun.ok b=true then(0:Int) else(4:Int));let l:=decide ((4:Int)<b.a0);let k:=decide (b.a1<(0:Int));let m:=decide ((4:Int)<b.a1);let o:=decide (b.a2<(0:Int));let j:=decide ((4:Int)<b.a2);let n:=decide (b.a3<(0:Int));let f:=decide ((4:Int)<b.a3);let g:=decide (b.a4<(0:Int));let d:=decide ((4:Int)<b.a4);let c:=decide (b.a5<(0:Int));let e:=decide ((4:Int)<b.a5);(i=true→(SV.il .i64 4).same a)∧(i=false→(l=true→(SV.il .i64 4).same a)∧(l=false→(k=true→(SV.il .i64 4).same a)∧(k=false→(m=true→(SV.il .i64 4).same a)∧(m=false→(o=true→(SV.il .i64 4).same a)∧(o=false→(j=true→(SV.il .i64 4).same a)∧(j=false→(n=true→(SV.il .i64 4).same a)∧(n=false→(f=true→(SV.il .i64 4).same a)∧(f=false→(g=true→(SV.il .i64 4).same a)∧(g=false→(d=true→(SV.il .i64 4).same a)∧(d=false→(c=true→(SV.il .i64 4).same a)∧(c=false→(e=true→(SV.il .i64 4).same a)∧(e=false→(SV.il .i64 0).same a))))))))))))) (by kernel_rfl) ?_
 conv=>zeta
 have p:=@Bun.ok_iff b
 by_cases h:b.ok=true<;>simp_all
def Bun.l (b:Bun):List Int:=[b.a0,b.a1,b.a2,b.a3,b.a4,b.a5]
def nrows (p:Prob):Int:=p.classes.length+12
def boundS (p:Prob) (r:Int):Int:=
 if r - p.classes.length<0 then 1
 else if r - p.classes.length<6 then nthD [p.supply.a0,p.supply.a1,p.supply.a2,p.supply.a3,p.supply.a4,p.supply.a5] (r - p.classes.length).toNat 0
 else nthD [p.opn.a0,p.opn.a1,p.opn.a2,p.opn.a3,p.opn.a4,p.opn.a5] (r - p.classes.length - 6).toNat 0
def coefS (p:Prob) (r:Int) (o:Off):Int:=
 if r - p.classes.length<0 then(if o.bidder=r then 1 else 0)
 else if r - p.classes.length<6 then nthD [o.want.a0,o.want.a1,o.want.a2,o.want.a3,o.want.a4,o.want.a5] (r - p.classes.length).toNat 0
 else if nthD [p.cls.a0,p.cls.a1,p.cls.a2,p.cls.a3,p.cls.a4,p.cls.a5] (r - p.classes.length - 6).toNat 0=0∨nthD [p.cls.a0,p.cls.a1,p.cls.a2,p.cls.a3,p.cls.a4,p.cls.a5] (r - p.classes.length - 6).toNat 0=nthD p.classes o.bidder.toNat 0 then 0
 else nthD [o.want.a0,o.want.a1,o.want.a2,o.want.a3,o.want.a4,o.want.a5] (r - p.classes.length - 6).toNat 0
def r157:SCtr:=⟨66,Prob,.one codP,fun p=>p.classes.length≤8,fun p=> .si .i64 (nrows p)⟩
def r158:SCtr:=⟨67,Prob×Int,.cons codP (.one (codI .i64)),fun a=>a.1.classes.length≤8∧0≤a.2∧a.2<nrows a.1,fun a=> .si .i64 (boundS a.1 a.2)⟩
def r156:SCtr:=⟨65,Prob×Int×Off,.cons codP (.cons (codI .i64) (.one (codE .off))),fun a=>a.1.classes.length≤8∧0≤a.2.1∧a.2.1<nrows a.1∧0≤a.2.2.bidder∧a.2.2.bidder<a.1.classes.length,fun a=> .si .i64 (coefS a.1 a.2.1 a.2.2)⟩
theorem h157:Holds Tryz.prog r157:=by
 refine con0 (L:=[]) r157 (fun _ _=> .unroll 7) (by simp) ?_
 intro p (b:p.classes.length≤8)
 refine vcOf (let a:=(↑p.classes.length:Int)+(12:Int);inR .i64 a∧(SV.si .i64 a).same (SV.si .i64 (nrows p))) (by kernel_rfl) ?_
 simp only[vcs,nrows]
 omega
theorem h158:Holds Tryz.prog r158:=by
 refine con0 (L:=[]) r158 (fun _ _=> .unroll 7) (by simp) ?_
 rintro⟨p,r⟩ ⟨hp,h1,h2⟩
 simp only[nrows] at hp h1 h2
 refine vcOf (let z0:=r - (↑p.classes.length:Int);let z1:=decide (z0<(0:Int));let z2:=SV.si .i64 (boundS p r);let z3:=decide (z0<(6:Int));let z4:=z0 - (6:Int);inR .i64 z0∧(z1=true→(SV.il .i64 1).same z2)∧(z1=false→(z3=true→(0:Int)≤z0∧z0<(6:Int)∧z0.toNat<6∧(SV.si .i64 (nthD [p.supply.a0,p.supply.a1,p.supply.a2,p.supply.a3,p.supply.a4,p.supply.a5] z0.toNat (0:Int))).same z2)∧(z3=false→inR .i64 z4∧(0:Int)≤z4∧z4<(6:Int)∧z4.toNat<6∧(SV.si .i64 (nthD [p.opn.a0,p.opn.a1,p.opn.a2,p.opn.a3,p.opn.a4,p.opn.a5] z4.toNat (0:Int))).same z2))) (by kernel_rfl) ?_
 simp only[vcs]
 repeat' (first|refine And.intro ?_ ?_|intro _)
 all_goals first
  |trivial
  |omega
  |(simp only[boundS];(repeat' split)<;>first|rfl|omega)
theorem h156:Holds Tryz.prog r156:=by
 refine con0 (L:=[]) r156 (fun _ _=> .unroll 7) (by simp) ?_
 rintro⟨p,r,x⟩ ⟨hp,h1,h2,h3,h4⟩
 simp only[nrows] at hp h1 h2 h3 h4
 refine vcOf (let z0:=(↑p.classes.length:Int);let z1:=decide (r - z0<(0:Int));let z2:=decide (x.bidder=r);let z3:=SV.si .i64 (coefS p r x);let z4:=decide (r - z0<(6:Int));let z5:=[x.want.a0,x.want.a1,x.want.a2,x.want.a3,x.want.a4,x.want.a5];let z6:=r - z0 - (6:Int);let z7:=nthD [p.cls.a0,p.cls.a1,p.cls.a2,p.cls.a3,p.cls.a4,p.cls.a5] z6.toNat (0:Int);let z8:=decide (z7=(0:Int));let z9:=decide (z7=nthD p.classes x.bidder.toNat (0:Int));inR .i64 (r - z0)∧(z1=true→(z2=true→(SV.il .i64 1).same z3)∧(z2=false→(z1=true→(SV.il .i64 0).same z3)∧(z1=false→(z4=true→(0:Int)≤r - z0∧r - z0<(6:Int)∧(r - z0).toNat<6∧(SV.si .i64 (nthD z5 (r - z0).toNat (0:Int))).same z3)∧(z4=false→inR .i64 z6∧(0:Int)≤z6∧z6<(6:Int)∧z6.toNat<6∧(z8=true→(SV.il .i64 0).same z3)∧(z8=false→(0:Int)≤z6∧z6<(6:Int)∧z6.toNat<6∧(0:Int)≤x.bidder∧x.bidder<z0∧x.bidder.toNat<p.classes.length∧(z9=true→(SV.il .i64 0).same z3)∧(z9=false→(0:Int)≤z6∧z6<(6:Int)∧z6.toNat<6∧(SV.si .i64 (nthD z5 z6.toNat (0:Int))).same z3))))))∧(z1=false→(z1=true→(SV.il .i64 0).same z3)∧(z1=false→(z4=true→(0:Int)≤r - z0∧r - z0<(6:Int)∧(r - z0).toNat<6∧(SV.si .i64 (nthD z5 (r - z0).toNat (0:Int))).same z3)∧(z4=false→inR .i64 z6∧(0:Int)≤z6∧z6<(6:Int)∧z6.toNat<6∧(z8=true→(SV.il .i64 0).same z3)∧(z8=false→(0:Int)≤z6∧z6<(6:Int)∧z6.toNat<6∧(0:Int)≤x.bidder∧x.bidder<z0∧x.bidder.toNat<p.classes.length∧(z9=true→(SV.il .i64 0).same z3)∧(z9=false→(0:Int)≤z6∧z6<(6:Int)∧z6.toNat<6∧(SV.si .i64 (nthD z5 z6.toNat (0:Int))).same z3)))))) (by kernel_rfl) ?_
 simp only[vcs]
 repeat' (first|refine And.intro ?_ ?_|intro _)
 all_goals first
  |trivial
  |omega
  |(simp only[coefS];(repeat' split)<;>first|rfl|omega)
def L2:List SCtr:=[r156,r157,r158]
theorem hL2:∀c∈L2,Holds Tryz.prog c:=by
 simp_all[L2,h156,h157,h158]
def sumS (p:Prob) (l:List Off) (r:Int):Int:=(l.map (coefS p r)).sum
def fitsB (p:Prob) (l:List Off):Bool:=(List.range (p.classes.length+12)).all fun r=>decide (sumS p l r≤boundS p r)
def r134:SCtr:=⟨41,Prob×List Off,.cons codP (.one (codR .off)),fun a=>a.1.classes.length≤8∧a.2.length≤1000∧(∀x∈a.2,0≤x.bidder∧x.bidder<a.1.classes.length∧x.want.ok=true),fun a=> .sb (fitsB a.1 a.2)⟩
def Λ134 (a:Prob×List Off):Nat→LoopAnn
 |3=> .inv Int (fun i=>⟨[(1,.row .off a.2),(2,.ptr 0 0 20),(5,.fn (.func 65) [] []),(11,.si .i64 (nrows a.1)),(12,.si .i64 i)],[.cells a.1.ss 95 20 false]⟩) (fun s=>iS s 12)
  (fun i=>0≤i∧i≤nrows a.1∧∀r:Nat,r<i→sumS a.1 a.2 r≤boundS a.1 r) (fun i=>(nrows a.1 - i).toNat)
  fun i=>fun
   |7=> .inv (Int×Int) (fun x=>⟨[(1,.row .off a.2),(2,.ptr 0 0 20),(5,.fn (.func 65) [] []),(6,.si .i64 i),(7,.si .i64 x.2),(11,.si .i64 (nrows a.1)),(12,.si .i64 i),(15,.row .off a.2),(16,.si .i64 a.2.length),(17,.si .i64 x.1)],[.cells a.1.ss 95 20 false]⟩)
    (fun s=>(iS s 17,iS s 7))
    (fun x=>0≤x.1∧x.1≤a.2.length∧x.2=sumS a.1 (a.2.take x.1.toNat) i) (fun x=>(a.2.length - x.1).toNat) fun _ _=> .look
   |_=> .look
 |_=> .look
theorem bun_nth {b:Bun} (h:b.ok=true) (k:Nat):0≤nthD [b.a0,b.a1,b.a2,b.a3,b.a4,b.a5] k 0∧nthD [b.a0,b.a1,b.a2,b.a3,b.a4,b.a5] k 0≤4:=by
 grind[Bun.ok_iff,nthD]
theorem coef_bd {p:Prob} {r:Int} {o:Off} (h:o.want.ok=true):0≤coefS p r o∧coefS p r o≤4:=by
 unfold coefS
 have a:=bun_nth h (r - p.classes.length).toNat
 have b:=bun_nth h (r - p.classes.length - 6).toNat
 omega
theorem sum_bd {p:Prob} {r:Int}:∀{l:List Off},(∀x∈l,x.want.ok=true)→0≤sumS p l r∧sumS p l r≤4*l.length
 |[],_=>by simp[sumS]
 |x::l,h=>by
  have b:=@coef_bd p r x (h x (by simp))
  have c:=@sum_bd p r l fun y a=>h y (by simp[a])
  grind[sumS]
theorem nthD_mem {a:Type} {l:List a} {i:Nat} {d:a} (h:i<l.length):nthD l i d∈l:=by grind[nthD_eq]
theorem take_nth {a:Type} {l:List a} {i:Int} {d:a} (b:0≤i) (h:i<l.length):l.take (i+1).toNat=l.take i.toNat++[nthD l i.toNat d]:=by
 rw[show(i+1).toNat=i.toNat+1 from by omega,nthD_eq (by omega),List.take_succ_eq_append_getElem (by omega)]
theorem sum_take {p:Prob} {r:Int} {l:List Off} {i:Int} {d:Off} (a:0≤i) (h:i<l.length):sumS p (l.take (i+1).toNat) r=sumS p (l.take i.toNat) r+coefS p r (nthD l i.toNat d):=by
 grind[take_nth,sumS]
theorem fits_iff {p:Prob} {l:List Off}:fitsB p l=true↔∀r:Nat,r<nrows p→sumS p l r≤boundS p r:=by
 simp only[fitsB,nrows,List.all_eq_true,List.mem_range,decide_eq_true_eq]
 grind
theorem h134:Holds Tryz.prog r134:=by
 refine con0 (L:=L2) r134 Λ134 hL2 ?_
 rintro⟨p,l⟩ ⟨hp,hl,hb⟩
 simp only at hp hl hb
 refine vcOf (let z0:=SV.ptr 0 0 20;let z1:=SV.fn (Fn.func 65) [] [];let z2:=SV.si .i64 (nrows p);let z3:=SObj.cells (Prob.ss p) 95 20 false;let z4:=(↑l.length:Int);let z5:=SV.si .i64 z4;p.classes.length≤8∧((((SV.row SId.off l).same (SV.row SId.off l)∧z0.same z0∧z1.same z1∧z2.same z2∧(SV.il .i64 0).same (SV.si .i64 0)∧True)∧z3.same z3∧True)∧(0:Int)≤(0:Int)∧(0:Int)≤nrows p∧∀(r:Nat),(↑r:Int)<(0:Int)→sumS p l (↑r:Int)≤boundS p (↑r:Int))∧∀(x:Int),let z6:=decide (x<nrows p);let z7:=x+(1:Int);let z8:=SV.si .i64 z7;((0:Int)≤x∧x≤nrows p∧∀(r:Nat),(↑r:Int)<x→sumS p l (↑r:Int)≤boundS p (↑r:Int))→(z6=true→((((SV.row SId.off l).same (SV.row SId.off l)∧z0.same z0∧z1.same z1∧(SV.si .i64 x).same (SV.si .i64 x)∧(SV.il .i64 0).same (SV.si .i64 0)∧z2.same z2∧(SV.si .i64 x).same (SV.si .i64 x)∧(SV.row SId.off l).same (SV.row SId.off l)∧(SV.si .i64 (↑l.length:Int)).same z5∧(SV.il .i64 0).same (SV.si .i64 0)∧True)∧z3.same z3∧True)∧(0:Int)≤(0:Int)∧(0:Int)≤z4∧(0:Int)=sumS p [] x)∧∀(x_1:Int×Int),let z9:=nthD l x_1.fst.toNat SId.off.dflt;let z10:=x_1.snd+coefS p x z9;let z11:=x_1.fst+(1:Int);let z12:=SV.si .i64 x;let z13:=SV.si .i64 z10;let z14:=SV.si .i64 z11;let z15:=decide (boundS p x<x_1.snd);(0:Int)≤x_1.fst∧x_1.fst≤z4∧x_1.snd=sumS p (List.take x_1.fst.toNat l) x→(decide (x_1.fst<z4)=true→(0:Int)≤x_1.fst∧x_1.fst<(↑l.length:Int)∧x_1.fst.toNat<l.length∧(p.classes.length≤8∧(0:Int)≤x∧x<nrows p∧(0:Int)≤z9.bidder∧z9.bidder<(↑p.classes.length:Int))∧inR .i64 z10∧inR .i64 z11∧(((SV.row SId.off l).same (SV.row SId.off l)∧z0.same z0∧z1.same z1∧z12.same z12∧z13.same z13∧z2.same z2∧z12.same z12∧(SV.row SId.off l).same (SV.row SId.off l)∧z5.same z5∧z14.same z14∧True)∧z3.same z3∧True)∧((0:Int)≤z11∧z11≤z4∧z10=sumS p (List.take z11.toNat l) x)∧(z4 - z11).toNat<(z4 - x_1.fst).toNat)∧(decide (x_1.fst<z4)=false→(p.classes.length≤8∧(0:Int)≤x∧x<nrows p)∧(z15=true→(SV.bl false).same (SV.sb (fitsB p l)))∧(z15=false→inR .i64 z7∧(((SV.row SId.off l).same (SV.row SId.off l)∧z0.same z0∧z1.same z1∧z2.same z2∧z8.same z8∧True)∧z3.same z3∧True)∧((0:Int)≤z7∧z7≤nrows p∧∀(r:Nat),(↑r:Int)<z7→sumS p l (↑r:Int)≤boundS p (↑r:Int))∧(nrows p - z7).toNat<(nrows p - x).toNat)))∧(z6=false→(SV.bl true).same (SV.sb (fitsB p l)))) (by kernel_rfl) ?_
 simp only[vcs]
 have hn:nrows p=p.classes.length+12:=rfl
 have ho:∀x∈l,x.want.ok=true:=fun x hx=>(hb x hx).2.2
 refine⟨hp,⟨by omega,by omega,fun r hr=>by omega⟩,?_⟩
 rintro i ⟨hi0,hi1,hi⟩
 refine⟨fun hlt=>⟨⟨by omega,by omega,by simp[sumS]⟩,?_⟩,?_⟩
 ·rintro⟨j,s⟩ ⟨hj0,hj1,hs⟩
  simp only at hj0 hj1 hs ⊢
  have hsb:=@sum_bd p i (l.take j.toNat) fun x hx=>ho x (List.mem_of_mem_take hx)
  have hlen:(l.take j.toNat).length≤l.length:=by simp;omega
  refine⟨fun hjl=>?_,fun hjl=>?_⟩
  ·have hm:=hb _ (nthD_mem (d:=SId.off.dflt) (show j.toNat<l.length by omega))
   have hc:=@coef_bd p i _ hm.2.2
   have hst:=@sum_take p i l j SId.off.dflt hj0 hjl
   refine⟨by omega,by omega,by omega,⟨hp,by omega,by omega,hm.1,hm.2.1⟩,by omega,by omega,⟨by omega,by omega,by omega⟩,by omega⟩
  ·have:j.toNat=l.length:=by omega
   rw[this,List.take_length] at hs
   refine⟨⟨hp,by omega,by omega⟩,fun hgt=>?_,fun hle=>⟨by omega,⟨by omega,by omega,fun r hr=>?_⟩,by omega⟩⟩
   ·symm
    rw[Bool.eq_false_iff]
    intro hf
    have:=fits_iff.1 hf i.toNat (by omega)
    rw[show((i.toNat:Nat):Int)=i from by omega] at this
    omega
   ·by_cases hr2:(r:Int)<i
    ·exact hi r hr2
    ·have:(r:Int)=i:=by omega
     rw[this]
     omega
 ·intro hge
  symm
  exact fits_iff.2 fun r hr=>hi r (by omega)
def L3:List SCtr:=[r134,r146,r156,r157,r158]
theorem hL3:∀c∈L3,Holds Tryz.prog c:=by
 simp only[L3,List.forall_mem_cons,List.not_mem_nil,false_implies,implies_true,and_true]
 grind[h134,h146,h156,h157,h158]
def prodOk (p:Prob) (k:Nat):Prop:=
 let c:=nthD [p.cls.a0,p.cls.a1,p.cls.a2,p.cls.a3,p.cls.a4,p.cls.a5] k 0
 let o:=nthD [p.opn.a0,p.opn.a1,p.opn.a2,p.opn.a3,p.opn.a4,p.opn.a5] k 0
 let s:=nthD [p.supply.a0,p.supply.a1,p.supply.a2,p.supply.a3,p.supply.a4,p.supply.a5] k 0
 0≤c∧c≤4∧0≤o∧o≤s∧(c≠0∨o=s)
instance (p:Prob) (k:Nat):Decidable (prodOk p k):=by unfold prodOk;infer_instance
def prodsOk (p:Prob):Bool:=(List.range 6).all fun k=>decide (prodOk p k)
theorem prodOk_iff {p:Prob} {k:Nat}:prodOk p k↔(0≤nthD [p.cls.a0,p.cls.a1,p.cls.a2,p.cls.a3,p.cls.a4,p.cls.a5] k 0∧nthD [p.cls.a0,p.cls.a1,p.cls.a2,p.cls.a3,p.cls.a4,p.cls.a5] k 0≤4∧0≤nthD [p.opn.a0,p.opn.a1,p.opn.a2,p.opn.a3,p.opn.a4,p.opn.a5] k 0∧
  nthD [p.opn.a0,p.opn.a1,p.opn.a2,p.opn.a3,p.opn.a4,p.opn.a5] k 0≤nthD [p.supply.a0,p.supply.a1,p.supply.a2,p.supply.a3,p.supply.a4,p.supply.a5] k 0∧
  (nthD [p.cls.a0,p.cls.a1,p.cls.a2,p.cls.a3,p.cls.a4,p.cls.a5] k 0≠0∨nthD [p.opn.a0,p.opn.a1,p.opn.a2,p.opn.a3,p.opn.a4,p.opn.a5] k 0=nthD [p.supply.a0,p.supply.a1,p.supply.a2,p.supply.a3,p.supply.a4,p.supply.a5] k 0)):=Iff.rfl
attribute [irreducible] prodOk
theorem prods_iff {p:Prob}:prodsOk p=true↔∀k,k<6→prodOk p k:=by simp[prodsOk]
def frameE (p:Prob):Int:=
 if p.supply.ok=false then 4
 else if prodsOk p=false then 4
 else if 8<p.classes.length∨160<p.offers.length then 3
 else if ¬∀c∈p.classes,0≤c∧c≤4 then 4
 else 0
def r118:SCtr:=⟨63,Prob,.one codP,fun p=>True,fun p=> .si .i64 (frameE p)⟩
def Λ118 (p:Prob):Nat→LoopAnn
 |5=> .inv Int (fun k=>⟨[(1,.ptr 0 0 20),(16,.si .i64 k)],[.cells p.ss 95 20 false]⟩) (fun s=>iS s 16) (fun k=>0≤k∧k≤6∧∀j:Nat,j<k→prodOk p j) (fun k=>(6 - k).toNat) fun _ _=> .look
 |14=> .inv Int (fun k=>⟨[(76,.row (.i .i64) p.classes),(77,.si .i64 p.classes.length),(78,.si .i64 k)],[.cells p.ss 95 20 false]⟩) (fun s=>iS s 78)
  (fun k=>0≤k∧k≤p.classes.length∧∀c∈p.classes.take k.toNat,0≤c∧c≤4) (fun k=>(p.classes.length - k).toNat) fun _ _=> .look
 |_=> .look
theorem frame_sup {p:Prob} (h:p.supply.ok=false):frameE p=4:=by simp[frameE,h]
theorem frame_prod {p:Prob} (h:p.supply.ok=true) {k:Nat} (b:k<6) (a:¬prodOk p k):frameE p=4:=by
 grind[prods_iff,frameE]
theorem frame_len {p:Prob} (h:p.supply.ok=true) (b:∀j:Nat,j<6→prodOk p j) (a:8<p.classes.length∨160<p.offers.length):frameE p=3:=by
 grind[frameE,prods_iff]
theorem frame_cls {p:Prob} (h:p.supply.ok=true) (f:∀j:Nat,j<6→prodOk p j) (e:¬(8<p.classes.length∨160<p.offers.length)) {c:Int} (b:c∈p.classes) (a:¬(0≤c∧c≤4)):frameE p=4:=by
 have:¬∀c∈p.classes,0≤c∧c≤4:=fun d=>a (d c b)
 simp_all[frameE]
theorem frame_ok {p:Prob} (h:p.supply.ok=true) (b:∀j:Nat,j<6→prodOk p j) (d:¬(8<p.classes.length∨160<p.offers.length)) (a:∀c∈p.classes,0≤c∧c≤4):frameE p=0:=by
 simp_all[frameE,prods_iff,if_neg]
theorem frame_zero {p:Prob} (h:frameE p=0):p.supply.ok=true∧(∀j:Nat,j<6→prodOk p j)∧p.classes.length≤8∧p.offers.length≤160∧∀c∈p.classes,0≤c∧c≤4:=by
 unfold frameE at h
 split at h
 ·cases h
 ·split at h
  ·cases h
  ·split at h
   all_goals simp_all[prods_iff]
theorem mem_take_next {l:List Int} {i:Int} {P:Int→Prop} (d:0≤i) (h:i<l.length) (a:∀c∈l.take i.toNat,P c) (b:P (nthD l i.toNat 0)):∀c∈l.take (i+1).toNat,P c:=by
 grind[take_nth]
theorem h118:Holds Tryz.prog r118:=by
 refine con0 (L:=L3) r118 Λ118 hL3 ?_
 intro p _
 refine vcOf (let z0:=if p.supply.ok=true then(0:Int) else(4:Int);let z1:=decide (z0≠(0:Int));let z2:=SV.si .i64 (frameE p);let z3:=SV.ptr 0 0 20;let z4:=SV.il .i64 0;let z5:=SV.row (SId.i .i64) p.classes;let z6:=SObj.cells [SV.si .i64 p.supply.a0,SV.si .i64 p.supply.a1,SV.si .i64 p.supply.a2,SV.si .i64 p.supply.a3,SV.si .i64 p.supply.a4,SV.si .i64 p.supply.a5,SV.si .i64 p.opn.a0,SV.si .i64 p.opn.a1,SV.si .i64 p.opn.a2,SV.si .i64 p.opn.a3,SV.si .i64 p.opn.a4,SV.si .i64 p.opn.a5,SV.si .i64 p.cls.a0,SV.si .i64 p.cls.a1,SV.si .i64 p.cls.a2,SV.si .i64 p.cls.a3,SV.si .i64 p.cls.a4,SV.si .i64 p.cls.a5,z5,SV.row SId.off p.offers] 95 20 false;let z7:=[p.cls.a0,p.cls.a1,p.cls.a2,p.cls.a3,p.cls.a4,p.cls.a5];let z8:=[p.opn.a0,p.opn.a1,p.opn.a2,p.opn.a3,p.opn.a4,p.opn.a5];let z9:=[p.supply.a0,p.supply.a1,p.supply.a2,p.supply.a3,p.supply.a4,p.supply.a5];let z10:=(↑p.classes.length:Int);let z11:=decide ((8:Int)<z10);let z12:=decide ((160:Int)<(↑p.offers.length:Int));let z13:=(↑p.classes.length:Int);let z14:=SV.si .i64 z13;True∧(z1=true→(SV.si .i64 z0).same z2)∧(z1=false→(((z3.same z3∧z4.same (SV.si .i64 0)∧True)∧z6.same z6∧True)∧(0:Int)≤(0:Int)∧(0:Int)≤(6:Int)∧∀(j:Nat),(↑j:Int)<(0:Int)→prodOk p j)∧∀(x:Int),let z15:=decide (x<(6:Int));let z16:=nthD z7 x.toNat (0:Int);let z17:=decide (z16<(0:Int));let z18:=decide ((4:Int)<z16);let z19:=nthD z8 x.toNat (0:Int);let z20:=decide (z19<(0:Int));let z21:=nthD z9 x.toNat (0:Int);let z22:=decide (z16=(0:Int));let z23:=x+(1:Int);let z24:=SV.si .i64 z23;((0:Int)≤x∧x≤(6:Int)∧∀(j:Nat),(↑j:Int)<x→prodOk p j)→(z15=true→(0:Int)≤x∧x<(6:Int)∧x.toNat<6∧(0:Int)≤x∧x<(6:Int)∧x.toNat<6∧(z17=true→(SV.il .i64 4).same z2)∧(z17=false→(z18=true→(SV.il .i64 4).same z2)∧(z18=false→(z20=true→(SV.il .i64 4).same z2)∧(z20=false→(0:Int)≤x∧x<(6:Int)∧x.toNat<6∧(decide (z21<z19)=true→(SV.il .i64 4).same z2)∧(decide (z21<z19)=false→(z22=true→(0:Int)≤x∧x<(6:Int)∧x.toNat<6∧(decide (z19≠z21)=true→(SV.il .i64 4).same z2)∧(decide (z19≠z21)=false→inR .i64 z23∧((z3.same z3∧z24.same z24∧True)∧z6.same z6∧True)∧((0:Int)≤z23∧z23≤(6:Int)∧∀(j:Nat),(↑j:Int)<z23→prodOk p j)∧((6:Int) - z23).toNat<((6:Int) - x).toNat))∧(z22=false→inR .i64 z23∧((z3.same z3∧z24.same z24∧True)∧z6.same z6∧True)∧((0:Int)≤z23∧z23≤(6:Int)∧∀(j:Nat),(↑j:Int)<z23→prodOk p j)∧((6:Int) - z23).toNat<((6:Int) - x).toNat))))))∧(z15=false→(z11=true→(SV.il .i64 3).same z2)∧(z11=false→(z12=true→(SV.il .i64 3).same z2)∧(z12=false→(((z5.same z5∧(SV.si .i64 z10).same z14∧z4.same (SV.si .i64 0)∧True)∧z6.same z6∧True)∧(0:Int)≤(0:Int)∧(0:Int)≤z13∧∀(c:Int),c∈[]→(0:Int)≤c∧c≤(4:Int))∧∀(x:Int),let z25:=nthD p.classes x.toNat (0:Int);let z26:=decide (z25<(0:Int));let z27:=decide ((4:Int)<z25);let z28:=x+(1:Int);let z29:=SV.si .i64 z28;((0:Int)≤x∧x≤z13∧∀(c:Int),c∈List.take x.toNat p.classes→(0:Int)≤c∧c≤(4:Int))→(decide (x<z13)=true→(0:Int)≤x∧x<z10∧x.toNat<p.classes.length∧(z26=true→(SV.il .i64 4).same z2)∧(z26=false→(z27=true→(SV.il .i64 4).same z2)∧(z27=false→inR .i64 z28∧((z5.same z5∧z14.same z14∧z29.same z29∧True)∧z6.same z6∧True)∧((0:Int)≤z28∧z28≤z13∧∀(c:Int),c∈List.take z28.toNat p.classes→(0:Int)≤c∧c≤(4:Int))∧(z13 - z28).toNat<(z13 - x).toNat)))∧(decide (x<z13)=false→z4.same z2)))))) (by kernel_rfl) ?_
 simp only[vcs]
 by_cases hs:Bun.ok p.supply=true
 ·simp only[hs,if_true]
  refine⟨fun h=>absurd rfl h,fun _=>⟨⟨by omega,by omega,fun j hj=>by omega⟩,?_⟩⟩
  rintro k ⟨hk0,hk1,hk⟩
  refine⟨fun hlt=>?_,fun hge=>?_⟩
  ·have bad:¬prodOk p k.toNat→(4:Int)=frameE p:=fun h=>(frame_prod hs (by omega) h).symm
   have nxt:prodOk p k.toNat→∀(j:Nat),(j:Int)<k+1→prodOk p j:=fun h j hj=>by
    by_cases hj2:(j:Int)<k
    ·exact hk j hj2
    ·rw[show j=k.toNat from by omega];exact h
   repeat' (first|refine And.intro ?_ ?_|intro _)
   all_goals first
    |omega
    |exact bad fun hh=>by have h2:=prodOk_iff.1 hh;omega
    |exact nxt (prodOk_iff.2 (by omega)) _ (by assumption)
  ·have hall:∀j:Nat,j<6→prodOk p j:=fun j hj=>hk j (by omega)
   refine⟨fun h=>(frame_len hs hall (.inl (by omega))).symm,fun h8=>⟨fun h=>(frame_len hs hall (.inr (by omega))).symm,fun h160=>⟨⟨by omega,by omega,by simp⟩,?_⟩⟩⟩
   rintro i ⟨hi0,hi1,hi⟩
   refine⟨fun hlt=>?_,fun hge=>?_⟩
   ·have hm:=nthD_mem (d:=0) (show i.toNat<p.classes.length by omega)
    refine⟨by omega,by omega,by omega,fun h=>(frame_cls hs hall (by omega) hm (by omega)).symm,fun h1=>⟨fun h=>(frame_cls hs hall (by omega) hm (by omega)).symm,fun h2=>⟨by omega,⟨by omega,by omega,?_⟩,by omega⟩⟩⟩
    exact mem_take_next hi0 hlt hi (by omega)
   ·rw[show i.toNat=p.classes.length from by omega,List.take_length] at hi
    exact(frame_ok hs hall (by omega) hi).symm
 ·have hs2:Bun.ok p.supply=false:=by simpa using hs
  simp only[hs2,Bool.false_eq_true,if_false]
  exact⟨fun _=>(frame_sup hs2).symm,fun h=>absurd (by decide) h⟩
def simpleE (n:Int) (o:Off):Int:=
 if o.bidder<0∨n≤o.bidder then 6 else if o.value<1∨1000000<o.value then 4 else if o.want.ok then 0 else 4
def r147:SCtr:=⟨98,Int×Off,.cons (codI .i64) (.one (codE .off)),fun p=>True,fun p=> .si .i64 (simpleE p.1 p.2)⟩
theorem h147:Holds Tryz.prog r147:=by
 refine con0 (L:=L3) r147 (fun p=>fun _=> .look) hL3 ?_
 rintro⟨n,x⟩ _
 refine vcOf (let e:=decide (x.bidder<(0:Int));let a:=SV.si .i64 (simpleE n x);let c:=decide (n≤x.bidder);let b:=decide (x.value<(1:Int));let d:=decide ((1000000:Int)<x.value);(e=true→(SV.il .i64 6).same a)∧(e=false→(c=true→(SV.il .i64 6).same a)∧(c=false→(b=true→(SV.il .i64 4).same a)∧(b=false→(d=true→(SV.il .i64 4).same a)∧(d=false→True∧(SV.si .i64 (if x.want.ok=true then(0:Int) else(4:Int))).same a))))) (by kernel_rfl) ?_
 simp only[vcs]
 grind[simpleE]
def offerE (p:Prob) (o:Off):Int:=
 if simpleE p.classes.length o≠0 then simpleE p.classes.length o else if o.want=Bun.zero then 4 else if fitsB p [o]=false then 14 else 0
def r119:SCtr:=⟨64,Prob×Off,.cons codP (.one (codE .off)),fun a=>a.1.classes.length≤8,fun a=> .si .i64 (offerE a.1 a.2)⟩
def L4:List SCtr:=r147::L3
theorem hL4:∀c∈L4,Holds Tryz.prog c:=by
 grind[L4,h147,hL3]
theorem simple_zero {n:Int} {o:Off} (h:simpleE n o=0):0≤o.bidder∧o.bidder<n∧1≤o.value∧o.value≤1000000∧o.want.ok=true:=by
 grind[simpleE]
theorem h119:Holds Tryz.prog r119:=by
 refine con0 (L:=L4) r119 (fun p=>fun _=> .look) hL4 ?_
 rintro⟨p,x⟩ (hp:p.classes.length≤8)
 refine vcOf (let z0:=simpleE (↑p.classes.length:Int) x;let z1:=decide (z0≠(0:Int));let z2:=SV.si .i64 (offerE p x);let z3:=decide (x.want.a0=(0:Int))&&(decide (x.want.a1=(0:Int))&&(decide (x.want.a2=(0:Int))&&(decide (x.want.a3=(0:Int))&&(decide (x.want.a4=(0:Int))&&(decide (x.want.a5=(0:Int))&&true)))));True∧(z1=true→(SV.si .i64 z0).same z2)∧(z1=false→(z3=true→(SV.il .i64 4).same z2)∧(z3=false→(p.classes.length≤8∧1≤1000∧∀(x_1:Off),x_1∈[x]→(0:Int)≤x_1.bidder∧x_1.bidder<(↑p.classes.length:Int)∧x_1.want.ok=true)∧((!fitsB p [x])=true→(SV.il .i64 14).same z2)∧((!fitsB p [x])=false→(SV.il .i64 0).same z2)))) (by kernel_rfl) ?_
 conv=>zeta
 have hw:(decide (x.want.a0=0)&&(decide (x.want.a1=0)&&(decide (x.want.a2=0)&&(decide (x.want.a3=0)&&(decide (x.want.a4=0)&&decide (x.want.a5=0))))))=decide (x.want=Bun.zero):=by
  rw[Bool.eq_iff_iff]
  simp[bun_eq,Bun.zero]
 simp only[Bool.and_true,hw]
 simp only[vcs]
 refine⟨fun h=>by simp only[offerE,if_pos h],fun h=>?_⟩
 have hz:simpleE p.classes.length x=0:=Classical.not_not.1 h
 have hx:=simple_zero hz
 refine⟨fun h3=>by simp[offerE,hz,h3],fun h3=>⟨⟨hp,by omega,?_⟩,fun h4=>?_,fun h4=>?_⟩⟩
 ·intro y hy
  rw[List.mem_singleton.1 hy]
  exact⟨hx.1,hx.2.1,hx.2.2.2.2⟩
 ·simp[offerE,hz,h3,h4]
 ·simp[offerE,hz,h3,h4]
def L5:List SCtr:=r118::r119::L4
theorem hL5:∀c∈L5,Holds Tryz.prog c:=by
 grind[L5,h118,h119,hL4]
def Off.key (o:Off):BKey:=⟨o.bidder,o.want⟩
def checkL (p:Prob) (a:List BKey):List Off→Int
 |[]=>0
 |o::r=>if offerE p o≠0 then offerE p o else if o.key∈a then 7 else checkL p (a++[o.key]) r
def checkE (p:Prob):Int:=if frameE p≠0 then frameE p else checkL p [] p.offers
def r79:SCtr:=⟨39,Prob,.one codP,fun p=>True,fun p=> .si .i64 (checkE p)⟩
def Λ79 (p:Prob):Nat→LoopAnn
 |7=> .inv Int (fun i=>⟨[(3,.ptr 1 0 20),(5,.mp 2),(19,.row .off p.offers),(20,.si .i64 p.offers.length),(21,.si .i64 i)],
   [.cells p.ss 27 20 false,.cells p.ss 95 20 false,.map .key .b true ((p.offers.take i.toNat).map fun o=>(o.key,true)) ([0,0,0,0,0,0,0],true) true]⟩) (fun s=>iS s 21)
  (fun i=>0≤i∧i≤p.offers.length∧checkL p [] p.offers=checkL p ((p.offers.take i.toNat).map Off.key) (p.offers.drop i.toNat)) (fun i=>(p.offers.length - i).toNat) fun _ _=> .look
 |_=> .look
theorem drop_nth {a:Type} {l:List a} {i:Int} {d:a} (b:0≤i) (h:i<l.length):l.drop i.toNat=nthD l i.toNat d::l.drop (i+1).toNat:=by
 rw[show(i+1).toNat=i.toNat+1 from by omega,nthD_eq (by omega),List.drop_eq_getElem_cons (by omega)]
theorem find_keys (k:BKey):∀(l:List Off),(findT .key .b k (l.map fun o=>(o.key,true))).getD false=decide (k∈l.map Off.key)
 |[]=>by simp[findT]
 |o::l=>by
  have:=find_keys k l
  grind[findT]
theorem omap_same {b sv:SId} {c:Bool} {es a:List (b.T×sv.T)} {d:List Nat×Bool} {pu:Bool} (h:es=a):(SObj.map b sv c es d pu).same (.map b sv c a d pu):=by rw[h];rfl
theorem set_keys {k:BKey} {l:List Off} (h:k∉l.map Off.key):setT .key .b k true (l.map fun o=>(o.key,true))=(l.map fun o=>(o.key,true))++[(k,true)]:=
 setT_none fun p a=>by
  grind
theorem h79:Holds Tryz.prog r79:=by
 refine con0 (L:=L5) r79 Λ79 hL5 ?_
 intro p _
 refine vcOf (let z0:=decide (frameE p≠(0:Int));let z1:=SV.si .i64 (checkE p);let z2:=SV.ptr 1 0 20;let z3:=SV.row SId.off p.offers;let z4:=(↑p.offers.length:Int);let z5:=(↑p.offers.length:Int);let z6:=SV.si .i64 z5;let z7:=SV.il .i64 0;let z8:=[SV.si .i64 p.supply.a0,SV.si .i64 p.supply.a1,SV.si .i64 p.supply.a2,SV.si .i64 p.supply.a3,SV.si .i64 p.supply.a4,SV.si .i64 p.supply.a5,SV.si .i64 p.opn.a0,SV.si .i64 p.opn.a1,SV.si .i64 p.opn.a2,SV.si .i64 p.opn.a3,SV.si .i64 p.opn.a4,SV.si .i64 p.opn.a5,SV.si .i64 p.cls.a0,SV.si .i64 p.cls.a1,SV.si .i64 p.cls.a2,SV.si .i64 p.cls.a3,SV.si .i64 p.cls.a4,SV.si .i64 p.cls.a5,SV.row (SId.i .i64) p.classes,z3];let z9:=SObj.cells z8 27 20 false;let z10:=SObj.cells z8 95 20 false;let z11:=([0,0,0,0,0,0,0],true);let z12:=SObj.map SId.key SId.b true [] z11 true;let z13:=checkL p [] p.offers;let z14:=SId.off.dflt;True∧(z0=true→(SV.si .i64 (frameE p)).same z1)∧(z0=false→(((z2.same z2∧(SV.mp 2).same (SV.mp 2)∧z3.same z3∧(SV.si .i64 z4).same z6∧z7.same (SV.si .i64 0)∧True)∧z9.same z9∧z10.same z10∧z12.same z12∧True)∧(0:Int)≤(0:Int)∧(0:Int)≤z5∧z13=z13)∧∀(x:Int),let z15:=List.take x.toNat p.offers;let z16:=nthD p.offers x.toNat z14;let z17:=decide (offerE p z16≠(0:Int));let z18:=BKey.mk z16.bidder z16.want;let z19:=List.map (fun o ↦(o.key,true)) z15;let z20:=(findT SId.key SId.b z18 z19).getD false;let z21:=x+(1:Int);let z22:=SV.si .i64 z21;let z23:=List.take z21.toNat p.offers;(0:Int)≤x∧x≤z5∧z13=checkL p (List.map Off.key z15) (List.drop x.toNat p.offers)→(decide (x<z5)=true→(0:Int)≤x∧x<z4∧x.toNat<p.offers.length∧p.classes.length≤8∧(z17=true→(SV.si .i64 (offerE p z16)).same z1)∧(z17=false→(z20=true→(SV.il .i64 7).same z1)∧(z20=false→inR .i64 z21∧((z2.same z2∧(SV.mp 2).same (SV.mp 2)∧z3.same z3∧z6.same z6∧z22.same z22∧True)∧z9.same z9∧z10.same z10∧(SObj.map SId.key SId.b true (setT SId.key SId.b z18 true z19) z11 true).same (SObj.map SId.key SId.b true (List.map (fun o ↦(o.key,true)) z23) z11 true)∧True)∧((0:Int)≤z21∧z21≤z5∧z13=checkL p (List.map Off.key z23) (List.drop z21.toNat p.offers))∧(z5 - z21).toNat<(z5 - x).toNat)))∧(decide (x<z5)=false→z7.same z1))) (by kernel_rfl) ?_
 simp only[vcs]
 refine⟨fun h=>by simp[checkE,h],fun h=>?_⟩
 have hz:frameE p=0:=Classical.not_not.1 h
 obtain⟨f1,f2,f3,f4,f5⟩:=frame_zero hz
 refine⟨⟨by omega,by omega⟩,?_⟩
 rintro i ⟨hi0,hi1,hi⟩
 refine⟨fun hlt=>?_,fun hge=>?_⟩
 ·rw[drop_nth (d:=SId.off.dflt) hi0 hlt] at hi
  generalize hx:nthD p.offers i.toNat SId.off.dflt=x at hi ⊢
  refine⟨by omega,by omega,by omega,f3,fun he=>?_,fun he=>?_⟩
  ·simp only[checkL,if_pos he] at hi
   simp[checkE,hz,hi]
  ·simp only[checkL,if_neg he] at hi
   have hk:(⟨x.bidder,x.want⟩:BKey)=x.key:=rfl
   simp only[hk]
   refine⟨fun hm=>?_,fun hm=>⟨by omega,?_,⟨by omega,by omega,?_⟩,by omega⟩⟩
   ·have hm2:=of_decide_eq_true ((find_keys _ _).symm.trans hm)
    rw[if_pos hm2] at hi
    simp[checkE,hz,hi]
   ·have hm2:=of_decide_eq_false ((find_keys _ _).symm.trans hm)
    apply omap_same
    rw[set_keys hm2,take_nth (d:=SId.off.dflt) hi0 hlt,hx]
    simp
   ·have hm2:=of_decide_eq_false ((find_keys _ _).symm.trans hm)
    rw[if_neg hm2] at hi
    rw[hi,take_nth (d:=SId.off.dflt) hi0 hlt,hx]
    simp
 ·rw[show i.toNat=p.offers.length from by omega,List.drop_length] at hi
  simp only[checkL] at hi
  simp[checkE,hz,hi]
def pickGo (l:List Off) (a:Int):List Int→Option (List Off)
 |[]=>some []
 |i::r=>if i≤a∨l.length≤i then none else(pickGo l i r).map (nthD l i.toNat SId.off.dflt::·)
def pickOk (p:Prob) (c:List Int):Bool:=(pickGo p.offers (-1) c).isSome
def pickL (p:Prob) (c:List Int):List Off:=(pickGo p.offers (-1) c).getD []
def r133:SCtr:=⟨40,Prob×List Int,.cons codP (.one (codR (.i .i64))),fun a=>a.2.length≤9223372036854775807∧a.1.offers.length≤1000,fun a=> .tup [.row .off (pickL a.1 a.2),.sb (pickOk a.1 a.2)]⟩
def Λ133 (a:Prob×List Int):Nat→LoopAnn
 |4=> .inv (Int×Int×List Off) (fun x=>⟨[(2,.ptr 0 0 20),(6,.ow 1 x.2.2.length 8),(7,.si .i64 x.2.1),(10,.row (.i .i64) a.2),(11,.si .i64 a.2.length),(12,.si .i64 x.1)],
   [.cells a.1.ss 27 20 false,.row .off x.2.2 73 true]⟩) (fun s=>(iS s 12,iS s 7,oS .off s 1))
  (fun x=>0≤x.1∧x.1≤a.2.length∧(x.2.2.length≤x.2.1+1∧x.2.1<1000)∧ -1≤x.2.1∧pickGo a.1.offers (-1) a.2=(pickGo a.1.offers x.2.1 (a.2.drop x.1.toNat)).map (x.2.2++·)) (fun x=>(a.2.length - x.1).toNat) fun _ _=> .look
 |_=> .look
theorem h133:Holds Tryz.prog r133:=by
 refine con0 (L:=L5) r133 Λ133 hL5 ?_
 rintro⟨p,c⟩ ⟨hc,hof⟩
 have hc:c.length≤9223372036854775807:=hc
 have hof:p.offers.length≤1000:=hof
 refine vcOf (let z0:=SV.ptr 0 0 20;let z1:=SV.ow 1 0 8;let z2:=SId.i .i64;let z3:=(↑c.length:Int);let z4:=SV.si .i64 z3;let z5:=SObj.cells [SV.si .i64 p.supply.a0,SV.si .i64 p.supply.a1,SV.si .i64 p.supply.a2,SV.si .i64 p.supply.a3,SV.si .i64 p.supply.a4,SV.si .i64 p.supply.a5,SV.si .i64 p.opn.a0,SV.si .i64 p.opn.a1,SV.si .i64 p.opn.a2,SV.si .i64 p.opn.a3,SV.si .i64 p.opn.a4,SV.si .i64 p.opn.a5,SV.si .i64 p.cls.a0,SV.si .i64 p.cls.a1,SV.si .i64 p.cls.a2,SV.si .i64 p.cls.a3,SV.si .i64 p.cls.a4,SV.si .i64 p.cls.a5,SV.row z2 p.classes,SV.row SId.off p.offers] 27 20 false;let z6:=SObj.row SId.off [] 73 true;let z7:=pickGo p.offers (-1:Int) c;let z8:=SV.tup [SV.row SId.off (pickL p c),SV.sb (pickOk p c)];let z9:=(↑p.offers.length:Int);(((z0.same z0∧z1.same z1∧(SV.il .i64 (-1:Int)).same (SV.si .i64 (-1:Int))∧(SV.row z2 c).same (SV.row z2 c)∧(SV.si .i64 (↑c.length:Int)).same z4∧(SV.il .i64 0).same (SV.si .i64 0)∧True)∧z5.same z5∧z6.same z6∧True)∧(0:Int)≤(0:Int)∧(0:Int)≤z3∧((0:Int)≤(0:Int)∧(-1:Int)<(1000:Int))∧(-1:Int)≤(-1:Int)∧z7=Option.map (fun x ↦((0:Int),(-1:Int),[]).snd.snd++x) z7)∧∀(x:Int×Int×List Off),let z10:=nthD c x.fst.toNat (0:Int);let z11:=decide (z10≤x.snd.fst);let z12:=x.snd.snd.length+1;let z13:=x.fst+(1:Int);let z14:=x.snd.snd++[nthD p.offers z10.toNat SId.off.dflt];let z15:=SV.si .i64 z10;let z16:=SV.si .i64 z13;let z17:=SObj.row SId.off z14 73 true;(0:Int)≤x.fst∧x.fst≤z3∧((↑x.snd.snd.length:Int)≤x.snd.fst+(1:Int)∧x.snd.fst<(1000:Int))∧(-1:Int)≤x.snd.fst∧z7=Option.map (fun x_1 ↦x.snd.snd++x_1) (pickGo p.offers x.snd.fst (List.drop x.fst.toNat c))→(decide (x.fst<z3)=true→(0:Int)≤x.fst∧x.fst<(↑c.length:Int)∧x.fst.toNat<c.length∧(z11=true→(SV.tup [SV.row z2 [],SV.bl false]).same z8)∧(z11=false→(decide (z9≤z10)=true→(SV.tup [SV.row z2 [],SV.bl false]).same z8)∧(decide (z9≤z10)=false→(0:Int)≤z10∧z10<z9∧z10.toNat<p.offers.length∧x.snd.snd.length=x.snd.snd.length∧z12*64≤140737488355328∧z12≤1000000000000∧inR .i64 z13∧((z0.same z0∧(SV.ow 1 z14.length 8).same (SV.ow 1 z14.length 8)∧z15.same z15∧(SV.row z2 c).same (SV.row z2 c)∧z4.same z4∧z16.same z16∧True)∧z5.same z5∧z17.same z17∧True)∧((0:Int)≤z13∧z13≤z3∧((↑z14.length:Int)≤z10+(1:Int)∧z10<(1000:Int))∧(-1:Int)≤z10∧z7=Option.map (fun x ↦(z13,z10,z14).snd.snd++x) (pickGo p.offers z10 (List.drop z13.toNat c)))∧(z3 - z13).toNat<(z3 - x.fst).toNat)))∧(decide (x.fst<z3)=false→x.snd.snd.length=x.snd.snd.length∧(SV.tup [SV.row SId.off x.snd.snd,SV.bl true]).same z8)) (by kernel_rfl) ?_
 simp only[vcs]
 have hrow:∀{l:List Off},l=[]→(SV.row (.i .i64) []).same (SV.row .off l):=by rintro l rfl;exact same_nil.2 trivial
 refine⟨⟨by omega,by omega,by omega,by simp⟩,?_⟩
 rintro⟨i,last,out⟩ ⟨hi0,hi1,hlen,hla,hi⟩
 simp only at hi0 hi1 hlen hla hi ⊢
 refine⟨fun hlt=>?_,fun hge=>?_⟩
 ·rw[drop_nth (d:=0) hi0 hlt] at hi
  generalize hx:nthD c i.toNat 0=x at hi ⊢
  simp only[pickGo] at hi
  refine⟨by omega,by omega,by omega,fun h1=>?_,fun h1=>⟨fun h2=>?_,fun h2=>?_⟩⟩
  ·rw[if_pos (.inl h1)] at hi
   exact⟨hrow (by simp[pickL,hi]),by simp[pickOk,hi]⟩
  ·rw[if_pos (.inr (by omega))] at hi
   exact⟨hrow (by simp[pickL,hi]),by simp[pickOk,hi]⟩
  ·rw[if_neg (by omega)] at hi
   simp only[List.length_append,List.length_singleton]
   refine⟨by omega,by omega,by omega,by omega,by omega,by omega,⟨by omega,by omega,by omega,by omega,?_⟩,by omega⟩
   rw[hi,Option.map_map]
   congr 1
   funext r
   simp
 ·rw[show i.toNat=c.length from by omega,List.drop_length] at hi
  simp only[pickGo,Option.map_some,List.append_nil] at hi
  exact⟨by simp[pickL,hi],by simp[pickOk,hi]⟩
def L6:List SCtr:=r79::r133::L5
theorem hL6:∀c∈L6,Holds Tryz.prog c:=by
 grind[L6,h79,h133,hL5]
def feasE (p:Prob) (c:List Int):Int:=if checkE p≠0 then checkE p else if pickOk p c=false then 4 else if fitsB p (pickL p c)=false then 14 else 0
def r100:SCtr:=⟨16,Prob×List Int,.cons codP (.one (codR (.i .i64))),fun a=>a.2.length≤9223372036854775807,fun a=> .si .i64 (feasE a.1 a.2)⟩
theorem checkL_mem {p:Prob}:∀{l:List Off} {a:List BKey},checkL p a l=0→∀x∈l,offerE p x=0
 |[],_,_=>by simp
 |o::r,a,h=>by
  simp only[checkL] at h
  split at h
  ·omega
  ·rename_i c
   split at h
   ·cases h
   ·intro x b
    rcases List.mem_cons.1 b with rfl|b
    ·omega
    ·exact checkL_mem h x b
theorem check_zero {p:Prob} (h:checkE p=0):frameE p=0∧∀x∈p.offers,offerE p x=0:=by
 unfold checkE at h
 split at h
 ·omega
 ·rename_i a;exact⟨Classical.not_not.1 a,checkL_mem h⟩
theorem offer_zero {p:Prob} {o:Off} (h:offerE p o=0):simpleE p.classes.length o=0∧o.want≠Bun.zero∧fitsB p [o]=true:=by
 unfold offerE at h
 grind
theorem pick_len {l:List Off}:∀{c:List Int} {a:Int} {r:List Off}, -1≤a→pickGo l a c=some r→r.length+a+1≤l.length∨r=[]
 |[],a,r,_,h=>by grind[pickGo]
 |i::c,a,r,d,h=>by
  simp only[pickGo] at h
  split at h
  ·cases h
  ·rename_i e
   obtain⟨f,b,rfl⟩:=Option.map_eq_some_iff.1 h
   have:=pick_len (by omega) b
   grind
theorem pick_mem {l:List Off}:∀{c:List Int} {a:Int} {r:List Off}, -1≤a→pickGo l a c=some r→∀x∈r,x∈l
 |[],a,r,_,h=>by grind[pickGo]
 |i::c,a,r,f,h=>by
  simp only[pickGo] at h
  split at h
  ·cases h
  ·rename_i e
   obtain⟨g,d,rfl⟩:=Option.map_eq_some_iff.1 h
   intro x b
   rcases List.mem_cons.1 b with rfl|b
   ·grind[nthD_mem]
   ·exact pick_mem (by omega) d x b
theorem h100:Holds Tryz.prog r100:=by
 refine con0 (L:=L6) r100 (fun p=>fun _=> .look) hL6 ?_
 rintro⟨p,c⟩ (n:c.length≤9223372036854775807)
 refine vcOf (let e:=decide (checkE p≠(0:Int));let d:=SV.si .i64 (feasE p c);let f:=!fitsB p (pickL p c);True∧(e=true→(SV.si .i64 (checkE p)).same d)∧(e=false→(c.length≤9223372036854775807∧p.offers.length≤1000)∧((!pickOk p c)=true→(SV.il .i64 4).same d)∧((!pickOk p c)=false→(p.classes.length≤8∧(pickL p c).length≤1000∧∀(x:Off),x∈pickL p c→(0:Int)≤x.bidder∧x.bidder<(↑p.classes.length:Int)∧x.want.ok=true)∧(f=true→(SV.il .i64 14).same d)∧(f=false→(SV.il .i64 0).same d)))) (by kernel_rfl) ?_
 simp only[vcs]
 refine⟨fun h=>by simp[feasE,h],fun h=>?_⟩
 have g:checkE p=0:=Classical.not_not.1 h
 obtain⟨m,j⟩:=check_zero g
 obtain⟨s,o,l,q,t⟩:=frame_zero m
 refine⟨⟨n,by omega⟩,fun a=>by grind[feasE],fun a=>⟨⟨l,?_,?_⟩,fun k=>by grind[feasE],fun k=>by grind[feasE]⟩⟩
 ·unfold pickOk at a
  obtain⟨r,b⟩:=Option.isSome_iff_exists.1 a
  have:=pick_len (by omega) b
  grind[pickL]
 ·unfold pickOk at a
  obtain⟨r,b⟩:=Option.isSome_iff_exists.1 a
  simp only[pickL,b,Option.getD_some]
  intro x i
  have u:=simple_zero (offer_zero (j x (pick_mem (by omega) b x i))).1
  simp_all
def L7:List SCtr:=r100::L6
theorem hL7:∀c∈L7,Holds Tryz.prog c:=by
 simp only[L7,List.forall_mem_cons]
 exact⟨h100,hL6⟩
def Bun.sub (a b:Bun):Bun:=⟨a.a0 - b.a0,a.a1 - b.a1,a.a2 - b.a2,a.a3 - b.a3,a.a4 - b.a4,a.a5 - b.a5⟩
def Bun.meet (a b:Bun):Bun:=⟨min a.a0 b.a0,min a.a1 b.a1,min a.a2 b.a2,min a.a3 b.a3,min a.a4 b.a4,min a.a5 b.a5⟩
def Bun.le (a b:Bun):Bool:=decide (a.a0≤b.a0)&&decide (a.a1≤b.a1)&&decide (a.a2≤b.a2)&&decide (a.a3≤b.a3)&&decide (a.a4≤b.a4)&&decide (a.a5≤b.a5)
theorem Bun.le_iff {a b:Bun}:a.le b=true↔a.a0≤b.a0∧a.a1≤b.a1∧a.a2≤b.a2∧a.a3≤b.a3∧a.a4≤b.a4∧a.a5≤b.a5:=by
 simp[Bun.le,and_assoc]
theorem min_left {x y:Int}:min x y=x↔x≤y:=by
 rw[Int.min_def]
 split<;>omega
theorem same_agg {a b:List SV}:(SV.agg a).same (.agg b)↔gL a=gL b:=by simp[SV.same,SV.g]
def r163:SCtr:=⟨124,Bun×Bun,.cons (codE .bun) (.one (codE .bun)),fun _=>True,fun a=> .agg (encS .bun (a.1.meet a.2))⟩
theorem h163:Holds Tryz.prog r163:=by
 refine con0 (L:=[]) r163 (fun _=>fun _=> .unroll 7) (by simp) ?_
 rintro⟨a,b⟩ _
 refine vcOf ((SV.agg [SV.si .i64 (min a.a0 b.a0),SV.si .i64 (min a.a1 b.a1),SV.si .i64 (min a.a2 b.a2),SV.si .i64 (min a.a3 b.a3),SV.si .i64 (min a.a4 b.a4),SV.si .i64 (min a.a5 b.a5)]).same (SV.agg [SV.si .i64 (a.meet b).a0,SV.si .i64 (a.meet b).a1,SV.si .i64 (a.meet b).a2,SV.si .i64 (a.meet b).a3,SV.si .i64 (a.meet b).a4,SV.si .i64 (a.meet b).a5])) (by kernel_rfl) ?_
 simp only[vcs,same_agg,gL,SV.g,Bun.meet,and_self]
def r144:SCtr:=⟨118,Bun×Bun,.cons (codE .bun) (.one (codE .bun)),fun _=>True,fun a=> .sb (a.1.le a.2)⟩
theorem h144:Holds Tryz.prog r144:=by
 refine con0 (L:=[r163]) r144 (fun _=>fun _=> .unroll 7) (by simpa using h163) ?_
 rintro⟨a,b⟩ _
 refine vcOf (True∧(SV.sb (decide ((a.meet b).a0=a.a0)&&(decide ((a.meet b).a1=a.a1)&&(decide ((a.meet b).a2=a.a2)&&(decide ((a.meet b).a3=a.a3)&&(decide ((a.meet b).a4=a.a4)&&(decide ((a.meet b).a5=a.a5)&&true))))))).same (SV.sb (a.le b))) (by kernel_rfl) ?_
 simp only[vcs,Bun.meet]
 rw[Bool.eq_iff_iff]
 simp only[Bool.and_eq_true,decide_eq_true_eq,Bun.le_iff,Bool.and_true,min_left]
def r145:SCtr:=⟨119,Bun×Bun,.cons (codE .bun) (.one (codE .bun)),fun a=>a.1.ok=true∧a.2.ok=true,fun a=> .agg (encS .bun (a.1.sub a.2))⟩
theorem h145:Holds Tryz.prog r145:=by
 refine con0 (L:=[]) r145 (fun _=>fun _=> .unroll 7) (by simp) ?_
 rintro⟨a,b⟩ ⟨h1,h2⟩
 have h1:=Bun.ok_iff.1 h1
 have h2:=Bun.ok_iff.1 h2
 simp only at h1 h2
 refine vcOf (inR .i64 (a.a0 - b.a0)∧inR .i64 (a.a1 - b.a1)∧inR .i64 (a.a2 - b.a2)∧inR .i64 (a.a3 - b.a3)∧inR .i64 (a.a4 - b.a4)∧inR .i64 (a.a5 - b.a5)∧(SV.agg [SV.si .i64 (a.a0 - b.a0),SV.si .i64 (a.a1 - b.a1),SV.si .i64 (a.a2 - b.a2),SV.si .i64 (a.a3 - b.a3),SV.si .i64 (a.a4 - b.a4),SV.si .i64 (a.a5 - b.a5)]).same (SV.agg [SV.si .i64 (a.sub b).a0,SV.si .i64 (a.sub b).a1,SV.si .i64 (a.sub b).a2,SV.si .i64 (a.sub b).a3,SV.si .i64 (a.sub b).a4,SV.si .i64 (a.sub b).a5])) (by kernel_rfl) ?_
 simp only[vcs,same_agg,gL,SV.g,Bun.sub,and_self]
 repeat' (first|refine And.intro ?_ ?_|intro _)
 all_goals first|trivial|omega
def faultE (p:Prob) (m:Int):Int:=if checkE p≠0 then checkE p else if m<0∨2^p.classes.length≤m then 4 else 0
def r112:SCtr:=⟨74,Prob×Int,.cons codP (.one (codI .i64)),fun _=>True,fun a=> .si .i64 (faultE a.1 a.2)⟩
theorem h112:Holds Tryz.prog r112:=by
 refine con0 (L:=L7) r112 (fun _=>fun _=> .unroll 7) hL7 ?_
 rintro⟨p,m⟩ _
 refine vcOf (let z0:=decide (checkE p≠(0:Int));let z1:=SV.si .i64 (faultE p m);let z2:=decide (m<(0:Int));let z3:=(↑p.classes.length:Int);let z4:=(1:Int)*(2:Int)^z3.toNat;True∧(z0=true→(SV.si .i64 (checkE p)).same z1)∧(z0=false→(z2=true→(SV.il .i64 4).same z1)∧(z2=false→(0:Int)≤z3∧z3≤(64:Int)∧inR .i64 z4∧(decide (z4≤m)=true→(SV.il .i64 4).same z1)∧(decide (z4≤m)=false→(SV.il .i64 0).same z1)))) (by kernel_rfl) ?_
 simp only[vcs]
 refine⟨fun h=>by simp[faultE,h],fun h=>⟨fun h1=>?_,fun h1=>?_⟩⟩
 ·have hz:=Classical.not_not.1 h
  simp[faultE,hz,h1]
 ·have hz:checkE p=0:=Classical.not_not.1 h
  obtain⟨f1,f2,f3,f4,f5⟩:=frame_zero (check_zero hz).1
  have hp:(1:Int)*2^((p.classes.length:Int)).toNat=2^p.classes.length:=by simp
  have hb:(2:Int)^p.classes.length≤256:=by
   have:p.classes.length=0∨p.classes.length=1∨p.classes.length=2∨p.classes.length=3∨p.classes.length=4∨p.classes.length=5∨p.classes.length=6∨p.classes.length=7∨p.classes.length=8:=by omega
   rcases this with h|h|h|h|h|h|h|h|h<;>rw[h]<;>decide
  have hb0:(0:Int)<2^p.classes.length:=Int.pow_pos (by decide)
  rw[hp]
  refine⟨by omega,by omega,⟨by omega,by omega⟩,fun h2=>?_,fun h2=>?_⟩
  ·simp only[faultE,hz,ne_eq,not_true,if_false,if_pos (show m<0∨2^p.classes.length≤m from .inr h2)]
  ·simp only[faultE,hz,ne_eq,not_true,if_false,if_neg (show ¬(m<0∨2^p.classes.length≤m) by omega)]
structure L8 where
 (l0 l1 l2 l3 l4 l5 l6 l7:List Off)
structure Sol where
 p:Prob
 ls:L8
 es:List (Sit×Int)
def byB (p:Prob) (j:Int):List Off:=p.offers.filter fun x=>decide (x.bidder=j)
def L8.of (p:Prob):L8:=⟨byB p 0,byB p 1,byB p 2,byB p 3,byB p 4,byB p 5,byB p 6,byB p 7⟩
def Sol.o (s:Sol):SStore:=
 [.cells [.si .i64 s.p.supply.a0,.si .i64 s.p.supply.a1,.si .i64 s.p.supply.a2,.si .i64 s.p.supply.a3,.si .i64 s.p.supply.a4,.si .i64 s.p.supply.a5,
  .si .i64 s.p.opn.a0,.si .i64 s.p.opn.a1,.si .i64 s.p.opn.a2,.si .i64 s.p.opn.a3,.si .i64 s.p.opn.a4,.si .i64 s.p.opn.a5,
  .si .i64 s.p.cls.a0,.si .i64 s.p.cls.a1,.si .i64 s.p.cls.a2,.si .i64 s.p.cls.a3,.si .i64 s.p.cls.a4,.si .i64 s.p.cls.a5,
  .row (.i .i64) s.p.classes,.row .off s.p.offers,.row .off s.ls.l0,.row .off s.ls.l1,.row .off s.ls.l2,.row .off s.ls.l3,.row .off s.ls.l4,.row .off s.ls.l5,.row .off s.ls.l6,.row .off s.ls.l7,.mp 1] 168 29 false,
  .map .sit (.i .i64) true s.es ([0,0,0,0,0,0,0,0,0,0,0,0,0],true) true]
def decSol:SStore→Option Sol
 |[.cells [s0,s1,s2,s3,s4,s5,o0,o1,o2,o3,o4,o5,c0,c1,c2,c3,c4,c5,k,f,l0,l1,l2,l3,l4,l5,l6,l7,.mp 1] 168 29 false,.map sk sv true es ([0,0,0,0,0,0,0,0,0,0,0,0,0],true) true]=>
  match decProb [s0,s1,s2,s3,s4,s5,o0,o1,o2,o3,o4,o5,c0,c1,c2,c3,c4,c5,k,f],castM sk sv .sit (.i .i64) es with
  |some p,some es=>match decRow .off l0,decRow .off l1,decRow .off l2,decRow .off l3,decRow .off l4,decRow .off l5,decRow .off l6,decRow .off l7 with
   |some l0,some l1,some l2,some l3,some l4,some l5,some l6,some l7=>some ⟨p,⟨l0,l1,l2,l3,l4,l5,l6,l7⟩,es⟩
   |_,_,_,_,_,_,_,_=>none
  |_,_=>none
 |_=>none
theorem castM_some {k v k' v':SId} {es:List (k.T×v.T)} {es':List (k'.T×v'.T)} (h:castM k v k' v' es=some es'):k=k'∧v=v'∧HEq es es':=by
 unfold castM at h
 split at h
 ·rename_i hh
  obtain⟨rfl,rfl⟩:=hh
  simp only[Option.some.injEq] at h
  exact⟨rfl,rfl,heq_of_eq h⟩
 ·cases h
theorem decSol_ok {o:SStore} {s:Sol} (h:decSol o=some s):gO o=gO s.o:=by
 unfold decSol at h
 split at h
 ·split at h
  ·rename_i p es' h1 h2
   split at h
   ·rename_i k0 k1 k2 k3 k4 k5 k6 k7
    simp only[Option.some.injEq] at h
    obtain⟨rfl,rfl,he⟩:=castM_some h2
    cases he
    have hp:=decProb_ok h1
    subst h
    simp only[Prob.ss,gL,List.cons.injEq,and_true] at hp
    simp only[Sol.o,gO,List.map_cons,List.map_nil,SObj.g,gL,decRow_ok k0,decRow_ok k1,decRow_ok k2,decRow_ok k3,decRow_ok k4,decRow_ok k5,decRow_ok k6,decRow_ok k7]
    simp only[hp]
   ·cases h
  ·cases h
 ·cases h
theorem sol_inj {s t:Sol} (h:gO s.o=gO t.o):s=t:=by
 obtain⟨p,⟨l0,l1,l2,l3,l4,l5,l6,l7⟩,es⟩:=s
 obtain⟨q,⟨m0,m1,m2,m3,m4,m5,m6,m7⟩,fs⟩:=t
 simp only[Sol.o,gO,List.map_cons,List.map_nil,SObj.g,gL,List.cons.injEq,AObj.cells.injEq,AObj.map.injEq,and_true,true_and] at h
 obtain⟨h,he⟩:=h
 have hp:p=q:=by
  apply codP.inj
  show(SV.agg p.ss).g=(SV.agg q.ss).g
  simp only[SV.g,Prob.ss,gL,AV.agg.injEq,List.cons.injEq,and_true] at h ⊢
  simp only[h,and_self]
 subst hp
 have hr:∀{a b:List Off},(SV.row .off a).g=(SV.row .off b).g→a=b:=fun hab=>(codR .off).inj _ _ hab
 have h0:=h.2.2.2.2.2.2.2.2.2.2.2.2.2.2.2.2.2.2.2.2
 obtain⟨h0,h1,h2,h3,h4,h5,h6,h7⟩:=h0
 have e0:=hr h0
 have e1:=hr h1
 have e2:=hr h2
 have e3:=hr h3
 have e4:=hr h4
 have e5:=hr h5
 have e6:=hr h6
 have e7:=hr h7
 subst e0 e1 e2 e3 e4 e5 e6 e7
 have hes:es=fs:=by
  revert fs
  induction es with
  |nil=>intro fs he;cases fs with
   |nil=>rfl
   |cons=>simp at he
  |cons a es ih=>
   intro fs he
   cases fs with
   |nil=>simp at he
   |cons b fs=>
    simp only[List.map_cons,List.cons.injEq,Prod.mk.injEq] at he
    obtain⟨⟨h1,h2⟩,h3⟩:=he
    have hb:=ih fs h3
    obtain⟨a1,a2⟩:=a
    obtain⟨b1,b2⟩:=b
    simp only[keyV,if_true,Value.agg.injEq,valA,encV,List.headD_cons,AV.sc.injEq,Value.int.injEq,true_and] at h1 h2
    have h1:=encV_inj .sit a1 b1 (by simpa[encV] using h1)
    rw[hb,h1,h2]
 rw[hes]
def L8l:List SCtr:=r112::r144::r145::r163::L7
theorem hL8:∀c∈L8l,Holds Tryz.prog c:=by
 simp only[L8l,List.forall_mem_cons]
 exact⟨h112,h144,h145,h163,hL7⟩
def solCtr (f:FuncId) (β:Type) (A:ACod β) (dom:Sol×β→Prop) (res:Sol×β→SV) (out:Sol×β→Sol):OCtr where
 f:=f
 α:=Sol×β
 put a:=.ptr 0 0 29::A.put a.2
 st a:=a.1.o
 dec v o:=match v with
  | .ptr 0 0 29::r=>match decSol o,A.dec r with
   |some s,some b=>some (s,b)
   |_,_=>none
  |_=>none
 ok v o a h:=by
  split at h
  ·split at h
   ·rename_i h1 h2
    simp only[Option.some.injEq] at h;subst h
    exact⟨by simp only[gL,A.ok _ _ h2],decSol_ok h1⟩
   ·cases h
  ·cases h
 inj a b h1 h2:=by
  simp only[gL,List.cons.injEq,true_and] at h1
  exact Prod.ext (sol_inj h2) (A.inj _ _ h1)
 dom:=dom
 res:=res
 out a:=(out a).o
def r114:OCtr:=solCtr 77 Int (.one (codI .i64)) (fun _=>True) (fun a=> .agg (encS .sit ⟨a.2,a.1.p.supply,a.1.p.opn⟩)) (fun a=>a.1)
theorem h114:HoldsO Tryz.prog r114:=by
 refine conO (L:=[]) (W:=[]) r114 lk (by simp) (by simp) ?_
 rintro⟨s,m⟩ _
 refine vcOf (let z0:=SV.si .i64 s.p.supply.a0;let z1:=SV.si .i64 s.p.supply.a1;let z2:=SV.si .i64 s.p.supply.a2;let z3:=SV.si .i64 s.p.supply.a3;let z4:=SV.si .i64 s.p.supply.a4;let z5:=SV.si .i64 s.p.supply.a5;let z6:=SV.si .i64 s.p.opn.a0;let z7:=SV.si .i64 s.p.opn.a1;let z8:=SV.si .i64 s.p.opn.a2;let z9:=SV.si .i64 s.p.opn.a3;let z10:=SV.si .i64 s.p.opn.a4;let z11:=SV.si .i64 s.p.opn.a5;let z12:=SV.agg [SV.si .i64 m,z0,z1,z2,z3,z4,z5,z6,z7,z8,z9,z10,z11];let z13:=SObj.cells [z0,z1,z2,z3,z4,z5,z6,z7,z8,z9,z10,z11,SV.si .i64 s.p.cls.a0,SV.si .i64 s.p.cls.a1,SV.si .i64 s.p.cls.a2,SV.si .i64 s.p.cls.a3,SV.si .i64 s.p.cls.a4,SV.si .i64 s.p.cls.a5,SV.row (SId.i .i64) s.p.classes,SV.row SId.off s.p.offers,SV.row SId.off s.ls.l0,SV.row SId.off s.ls.l1,SV.row SId.off s.ls.l2,SV.row SId.off s.ls.l3,SV.row SId.off s.ls.l4,SV.row SId.off s.ls.l5,SV.row SId.off s.ls.l6,SV.row SId.off s.ls.l7,SV.mp 1] 168 29 false;let z14:=SObj.map SId.sit (SId.i .i64) true s.es ([0,0,0,0,0,0,0,0,0,0,0,0,0],true) true;z12.same z12∧z13.same z13∧z14.same z14∧True) (by kernel_rfl) ?_
 simp only[vcs]
def oc (c w a j k:Int):Int:=if j<k∧(c=0∨c=a) then 0 else w
def clOf (p:Prob) (x:Off):Int:=nthD p.classes x.bidder.toNat 0
def outK (p:Prob) (x:Off) (k:Int):Bun:=⟨oc p.cls.a0 x.want.a0 (clOf p x) 0 k,oc p.cls.a1 x.want.a1 (clOf p x) 1 k,oc p.cls.a2 x.want.a2 (clOf p x) 2 k,oc p.cls.a3 x.want.a3 (clOf p x) 3 k,oc p.cls.a4 x.want.a4 (clOf p x) 4 k,oc p.cls.a5 x.want.a5 (clOf p x) 5 k⟩
def outS (p:Prob) (x:Off):Bun:=outK p x 6
def r143:OCtr:=solCtr 117 Off (.one (codE .off)) (fun a=>0≤a.2.bidder∧a.2.bidder<a.1.p.classes.length) (fun a=> .agg (encS .bun (outS a.1.p a.2))) (fun a=>a.1)
def Λ143 (a:Sol×Off):Nat→LoopAnn
 |3=> .inv Int (fun k=>⟨[(0,.ptr 0 0 29),(3,.ptr 2 0 8),(4,.ptr 3 0 6),(5,.ptr 4 0 6),(9,.si .i64 k)],a.1.o++[.cells (encS .off a.2) 73 8 false,.cells [.il .i64 0,.il .i64 0,.il .i64 0,.il .i64 0,.il .i64 0,.il .i64 0] 23 6 false,.cells (encS .bun (outK a.1.p a.2 k)) 23 6 false]⟩) (fun s=>iS s 9)
  (fun k=>0≤k∧k≤6) (fun k=>(6 - k).toNat) fun _ _=> .look
 |_=> .look
theorem h143:HoldsO Tryz.prog r143:=by
 refine conO (L:=[]) (W:=[]) r143 Λ143 (by simp) (by simp) ?_
 rintro⟨s,x⟩ ⟨h1,h2⟩
 simp only at h1 h2
 refine vcOf (let z0:=SV.ptr 0 0 29;let z1:=SV.ptr 2 0 8;let z2:=SV.ptr 3 0 6;let z3:=SV.ptr 4 0 6;let z4:=SV.il .i64 0;let z5:=SObj.cells [SV.si .i64 s.p.supply.a0,SV.si .i64 s.p.supply.a1,SV.si .i64 s.p.supply.a2,SV.si .i64 s.p.supply.a3,SV.si .i64 s.p.supply.a4,SV.si .i64 s.p.supply.a5,SV.si .i64 s.p.opn.a0,SV.si .i64 s.p.opn.a1,SV.si .i64 s.p.opn.a2,SV.si .i64 s.p.opn.a3,SV.si .i64 s.p.opn.a4,SV.si .i64 s.p.opn.a5,SV.si .i64 s.p.cls.a0,SV.si .i64 s.p.cls.a1,SV.si .i64 s.p.cls.a2,SV.si .i64 s.p.cls.a3,SV.si .i64 s.p.cls.a4,SV.si .i64 s.p.cls.a5,SV.row (SId.i .i64) s.p.classes,SV.row SId.off s.p.offers,SV.row SId.off s.ls.l0,SV.row SId.off s.ls.l1,SV.row SId.off s.ls.l2,SV.row SId.off s.ls.l3,SV.row SId.off s.ls.l4,SV.row SId.off s.ls.l5,SV.row SId.off s.ls.l6,SV.row SId.off s.ls.l7,SV.mp 1] 168 29 false;let z6:=SObj.map SId.sit (SId.i .i64) true s.es ([0,0,0,0,0,0,0,0,0,0,0,0,0],true) true;let z7:=SV.si .i64 x.want.a0;let z8:=SV.si .i64 x.want.a1;let z9:=SV.si .i64 x.want.a2;let z10:=SV.si .i64 x.want.a3;let z11:=SV.si .i64 x.want.a4;let z12:=SV.si .i64 x.want.a5;let z13:=SObj.cells [SV.si .i64 x.bidder,z7,z8,z9,z10,z11,z12,SV.si .i64 x.value] 73 8 false;let z14:=SObj.cells [z4,z4,z4,z4,z4,z4] 23 6 false;let z15:=outK s.p x (0:Int);let z16:=[s.p.cls.a0,s.p.cls.a1,s.p.cls.a2,s.p.cls.a3,s.p.cls.a4,s.p.cls.a5];(((z0.same z0∧z1.same z1∧z2.same z2∧z3.same z3∧z4.same (SV.si .i64 0)∧True)∧z5.same z5∧z6.same z6∧z13.same z13∧z14.same z14∧(SObj.cells [z7,z8,z9,z10,z11,z12] 23 6 false).same (SObj.cells [SV.si .i64 z15.a0,SV.si .i64 z15.a1,SV.si .i64 z15.a2,SV.si .i64 z15.a3,SV.si .i64 z15.a4,SV.si .i64 z15.a5] 23 6 false)∧True)∧(0:Int)≤(0:Int)∧(0:Int)≤(6:Int))∧∀(x_1:Int),let z17:=decide (x_1<(6:Int));let z18:=nthD z16 x_1.toNat (0:Int);let z19:=decide (z18=(0:Int));let z20:=x_1+(1:Int);let z21:=SV.si .i64 z20;let z22:=outK s.p x x_1;let z23:=outK s.p x z20;let z24:=SObj.cells [SV.si .i64 z23.a0,SV.si .i64 z23.a1,SV.si .i64 z23.a2,SV.si .i64 z23.a3,SV.si .i64 z23.a4,SV.si .i64 z23.a5] 23 6 false;let z25:=decide (z18=nthD s.p.classes x.bidder.toNat (0:Int));let z26:=[SV.si .i64 z22.a0,SV.si .i64 z22.a1,SV.si .i64 z22.a2,SV.si .i64 z22.a3,SV.si .i64 z22.a4,SV.si .i64 z22.a5];let z27:=outS s.p x;(0:Int)≤x_1∧x_1≤(6:Int)→(z17=true→(0:Int)≤x_1∧x_1<(6:Int)∧x_1.toNat<6∧(z19=true→(0:Int)≤x_1∧x_1<(6:Int)∧x_1.toNat<6∧inR .i64 z20∧((z0.same z0∧z1.same z1∧z2.same z2∧z3.same z3∧z21.same z21∧True)∧z5.same z5∧z6.same z6∧z13.same z13∧z14.same z14∧(SObj.cells [SV.si .i64 (if x_1.toNat=0 then(0:Int) else z22.a0),SV.si .i64 (if x_1.toNat=1 then(0:Int) else z22.a1),SV.si .i64 (if x_1.toNat=2 then(0:Int) else z22.a2),SV.si .i64 (if x_1.toNat=3 then(0:Int) else z22.a3),SV.si .i64 (if x_1.toNat=4 then(0:Int) else z22.a4),SV.si .i64 (if x_1.toNat=5 then(0:Int) else z22.a5)] 23 6 false).same z24∧True)∧((0:Int)≤z20∧z20≤(6:Int))∧((6:Int) - z20).toNat<((6:Int) - x_1).toNat)∧(z19=false→(0:Int)≤x_1∧x_1<(6:Int)∧x_1.toNat<6∧(0:Int)≤x.bidder∧x.bidder<(↑s.p.classes.length:Int)∧x.bidder.toNat<s.p.classes.length∧(z25=true→(0:Int)≤x_1∧x_1<(6:Int)∧x_1.toNat<6∧inR .i64 z20∧((z0.same z0∧z1.same z1∧z2.same z2∧z3.same z3∧z21.same z21∧True)∧z5.same z5∧z6.same z6∧z13.same z13∧z14.same z14∧(SObj.cells [SV.si .i64 (if x_1.toNat=0 then(0:Int) else z22.a0),SV.si .i64 (if x_1.toNat=1 then(0:Int) else z22.a1),SV.si .i64 (if x_1.toNat=2 then(0:Int) else z22.a2),SV.si .i64 (if x_1.toNat=3 then(0:Int) else z22.a3),SV.si .i64 (if x_1.toNat=4 then(0:Int) else z22.a4),SV.si .i64 (if x_1.toNat=5 then(0:Int) else z22.a5)] 23 6 false).same z24∧True)∧((0:Int)≤z20∧z20≤(6:Int))∧((6:Int) - z20).toNat<((6:Int) - x_1).toNat)∧(z25=false→inR .i64 z20∧((z0.same z0∧z1.same z1∧z2.same z2∧z3.same z3∧z21.same z21∧True)∧z5.same z5∧z6.same z6∧z13.same z13∧z14.same z14∧(SObj.cells z26 23 6 false).same z24∧True)∧((0:Int)≤z20∧z20≤(6:Int))∧((6:Int) - z20).toNat<((6:Int) - x_1).toNat)))∧(z17=false→(SV.agg z26).same (SV.agg [SV.si .i64 z27.a0,SV.si .i64 z27.a1,SV.si .i64 z27.a2,SV.si .i64 z27.a3,SV.si .i64 z27.a4,SV.si .i64 z27.a5])∧z5.same z5∧z6.same z6∧True)) (by kernel_rfl) ?_
 simp only[vcs]
 have hc:∀{a0 a1 a2 a3 a4 a5 b0 b1 b2 b3 b4 b5:Int},a0=b0∧a1=b1∧a2=b2∧a3=b3∧a4=b4∧a5=b5→
   (SObj.cells [SV.si .i64 a0,SV.si .i64 a1,SV.si .i64 a2,SV.si .i64 a3,SV.si .i64 a4,SV.si .i64 a5] 23 6 false).same (SObj.cells [SV.si .i64 b0,SV.si .i64 b1,SV.si .i64 b2,SV.si .i64 b3,SV.si .i64 b4,SV.si .i64 b5] 23 6 false):=by
  rintro _ _ _ _ _ _ _ _ _ _ _ _ ⟨rfl,rfl,rfl,rfl,rfl,rfl⟩
  rfl
 have hoc0:∀c w cl j:Int,0≤j→oc c w cl j 0=w:=fun c w cl j hj=>by unfold oc;rw[if_neg (by omega)]
 have hocn:∀c w cl j k:Int,j≠k→oc c w cl j (k+1)=oc c w cl j k:=fun c w cl j k hj=>by
  unfold oc
  by_cases h:j<k∧(c=0∨c=cl)
  ·rw[if_pos h,if_pos ⟨by omega,h.2⟩]
  ·rw[if_neg h,if_neg (by omega)]
 have hoct:∀c w cl k:Int,(c=0∨c=cl)→oc c w cl k (k+1)=0:=fun c w cl k h=>by unfold oc;rw[if_pos ⟨by omega,h⟩]
 have hocf:∀c w cl k:Int,¬(c=0∨c=cl)→oc c w cl k (k+1)=oc c w cl k k:=fun c w cl k h=>by
  unfold oc
  rw[if_neg (by omega),if_neg (by omega)]
 have hset:∀k:Int,0≤k→k<6→(nthD [s.p.cls.a0,s.p.cls.a1,s.p.cls.a2,s.p.cls.a3,s.p.cls.a4,s.p.cls.a5] k.toNat 0=0∨nthD [s.p.cls.a0,s.p.cls.a1,s.p.cls.a2,s.p.cls.a3,s.p.cls.a4,s.p.cls.a5] k.toNat 0=clOf s.p x)→
   (if k.toNat=0 then 0 else(outK s.p x k).a0)=(outK s.p x (k+1)).a0∧(if k.toNat=1 then 0 else(outK s.p x k).a1)=(outK s.p x (k+1)).a1∧(if k.toNat=2 then 0 else(outK s.p x k).a2)=(outK s.p x (k+1)).a2∧
   (if k.toNat=3 then 0 else(outK s.p x k).a3)=(outK s.p x (k+1)).a3∧(if k.toNat=4 then 0 else(outK s.p x k).a4)=(outK s.p x (k+1)).a4∧(if k.toNat=5 then 0 else(outK s.p x k).a5)=(outK s.p x (k+1)).a5:=by
  intro k hk0 hk6 hcl
  have hk:k=0∨k=1∨k=2∨k=3∨k=4∨k=5:=by omega
  rcases hk with rfl|rfl|rfl|rfl|rfl|rfl<;>simp[nthD] at hcl<;>simp[outK,oc,hcl]
 have hkeep:∀k:Int,0≤k→k<6→¬(nthD [s.p.cls.a0,s.p.cls.a1,s.p.cls.a2,s.p.cls.a3,s.p.cls.a4,s.p.cls.a5] k.toNat 0=0∨nthD [s.p.cls.a0,s.p.cls.a1,s.p.cls.a2,s.p.cls.a3,s.p.cls.a4,s.p.cls.a5] k.toNat 0=clOf s.p x)→
   (outK s.p x k).a0=(outK s.p x (k+1)).a0∧(outK s.p x k).a1=(outK s.p x (k+1)).a1∧(outK s.p x k).a2=(outK s.p x (k+1)).a2∧
   (outK s.p x k).a3=(outK s.p x (k+1)).a3∧(outK s.p x k).a4=(outK s.p x (k+1)).a4∧(outK s.p x k).a5=(outK s.p x (k+1)).a5:=by
  intro k hk0 hk6 hcl
  have hk:k=0∨k=1∨k=2∨k=3∨k=4∨k=5:=by omega
  rcases hk with rfl|rfl|rfl|rfl|rfl|rfl<;>simp[nthD] at hcl<;>simp[outK,oc,hcl]
 refine⟨⟨hc ⟨by simp[outK,hoc0],by simp[outK,hoc0],by simp[outK,hoc0],by simp[outK,hoc0],by simp[outK,hoc0],by simp[outK,hoc0]⟩,by omega,by omega⟩,?_⟩
 rintro k ⟨hk0,hk6⟩
 refine⟨fun hlt=>⟨by omega,by omega,by omega,fun hA=>⟨by omega,by omega,by omega,by omega,hc (hset k hk0 hlt (.inl hA)),by omega,by omega⟩,fun hA=>⟨by omega,by omega,by omega,by omega,by omega,by omega,
  fun hB=>⟨by omega,by omega,by omega,by omega,hc (hset k hk0 hlt (.inr hB)),by omega,by omega⟩,fun hB=>⟨by omega,hc (hkeep k hk0 hlt (by rintro(h|h);exact hA h;exact hB h)),by omega,by omega⟩⟩⟩,fun hge=>?_⟩
 have:k=6:=by omega
 subst this
 rfl
def Sit.b (a:Sit):Prop:=a.left.ok=true∧a.opn.ok=true
def fitsAt (p:Prob) (a:Sit) (x:Off):Bool:=x.want.le a.left&&(outS p x).le a.opn
def nextAt (p:Prob) (a:Sit) (x:Off):Sit:=⟨binK.andNotI .i64 a.members (2^x.bidder.toNat),a.left.sub x.want,a.opn.sub (outS p x)⟩
def Sit.zero:Sit:=⟨0,Bun.zero,Bun.zero⟩
def afterS (p:Prob) (a:Sit) (x:Off):Sit:=if fitsAt p a x=true then nextAt p a x else Sit.zero
theorem oc_bd {c w cl j k:Int} (h:0≤w∧w≤4):0≤oc c w cl j k∧oc c w cl j k≤4:=by
 unfold oc
 split<;>omega
theorem out_ok {p:Prob} {x:Off} (h:x.want.ok=true):(outS p x).ok=true:=by
 have h:=Bun.ok_iff.1 h
 exact Bun.ok_iff.2 ⟨oc_bd h.1,oc_bd h.2.1,oc_bd h.2.2.1,oc_bd h.2.2.2.1,oc_bd h.2.2.2.2.1,oc_bd h.2.2.2.2.2⟩
def r116:OCtr:=solCtr 103 (Sit×Off) (.cons (codE .sit) (.one (codE .off))) (fun a=>a.1.p.classes.length≤8∧0≤a.2.2.bidder∧a.2.2.bidder<a.1.p.classes.length∧a.2.1.b∧a.2.2.want.ok=true)
 (fun a=> .tup [.agg (encS .sit (afterS a.1.p a.2.1 a.2.2)),.sb (fitsAt a.1.p a.2.1 a.2.2)]) (fun a=>a.1)
theorem h116:HoldsO Tryz.prog r116:=by
 refine conO (L:=L8l) (W:=[r143]) r116 lk (by simpa using h143) hL8 ?_
 rintro⟨s,a,x⟩ ⟨h1,h2,h3,h4,h5⟩
 simp only at h1 h2 h3 h4 h5
 refine vcOf (let z0:=SV.il .i64 0;let z1:=afterS s.p a x;let z2:=z1.left;let z3:=SV.tup [SV.agg [SV.si .i64 z1.members,SV.si .i64 z2.a0,SV.si .i64 z2.a1,SV.si .i64 z2.a2,SV.si .i64 z2.a3,SV.si .i64 z2.a4,SV.si .i64 z2.a5,SV.si .i64 z1.opn.a0,SV.si .i64 z1.opn.a1,SV.si .i64 z1.opn.a2,SV.si .i64 z1.opn.a3,SV.si .i64 z1.opn.a4,SV.si .i64 z1.opn.a5],SV.sb (fitsAt s.p a x)];let z4:=SObj.cells [SV.si .i64 s.p.supply.a0,SV.si .i64 s.p.supply.a1,SV.si .i64 s.p.supply.a2,SV.si .i64 s.p.supply.a3,SV.si .i64 s.p.supply.a4,SV.si .i64 s.p.supply.a5,SV.si .i64 s.p.opn.a0,SV.si .i64 s.p.opn.a1,SV.si .i64 s.p.opn.a2,SV.si .i64 s.p.opn.a3,SV.si .i64 s.p.opn.a4,SV.si .i64 s.p.opn.a5,SV.si .i64 s.p.cls.a0,SV.si .i64 s.p.cls.a1,SV.si .i64 s.p.cls.a2,SV.si .i64 s.p.cls.a3,SV.si .i64 s.p.cls.a4,SV.si .i64 s.p.cls.a5,SV.row (SId.i .i64) s.p.classes,SV.row SId.off s.p.offers,SV.row SId.off s.ls.l0,SV.row SId.off s.ls.l1,SV.row SId.off s.ls.l2,SV.row SId.off s.ls.l3,SV.row SId.off s.ls.l4,SV.row SId.off s.ls.l5,SV.row SId.off s.ls.l6,SV.row SId.off s.ls.l7,SV.mp 1] 168 29 false;let z5:=SObj.map SId.sit (SId.i .i64) true s.es ([0,0,0,0,0,0,0,0,0,0,0,0,0],true) true;let z6:=!(outS s.p x).le a.opn;let z7:=(1:Int)*(2:Int)^x.bidder.toNat;let z8:=a.left.sub x.want;let z9:=a.opn.sub (outS s.p x);((0:Int)≤x.bidder∧x.bidder<(↑s.p.classes.length:Int))∧True∧((!x.want.le a.left)=true→(SV.tup [SV.agg [z0,z0,z0,z0,z0,z0,z0,z0,z0,z0,z0,z0,z0],SV.bl false]).same z3∧z4.same z4∧z5.same z5∧True)∧((!x.want.le a.left)=false→True∧(z6=true→(SV.tup [SV.agg [z0,z0,z0,z0,z0,z0,z0,z0,z0,z0,z0,z0,z0],SV.bl false]).same z3∧z4.same z4∧z5.same z5∧True)∧(z6=false→(0:Int)≤x.bidder∧x.bidder≤(64:Int)∧inR .i64 z7∧(a.left.ok=true∧x.want.ok=true)∧(a.opn.ok=true∧(outS s.p x).ok=true)∧(SV.tup [SV.agg [SV.si .i64 (binK.andNotI .i64 a.members z7),SV.si .i64 z8.a0,SV.si .i64 z8.a1,SV.si .i64 z8.a2,SV.si .i64 z8.a3,SV.si .i64 z8.a4,SV.si .i64 z8.a5,SV.si .i64 z9.a0,SV.si .i64 z9.a1,SV.si .i64 z9.a2,SV.si .i64 z9.a3,SV.si .i64 z9.a4,SV.si .i64 z9.a5],SV.bl true]).same z3∧z4.same z4∧z5.same z5∧True))) (by kernel_rfl) ?_
 simp only[vcs]
 have hz:∀b:Sit,b=Sit.zero→(SV.agg [SV.il .i64 0,SV.il .i64 0,SV.il .i64 0,SV.il .i64 0,SV.il .i64 0,SV.il .i64 0,SV.il .i64 0,SV.il .i64 0,SV.il .i64 0,SV.il .i64 0,SV.il .i64 0,SV.il .i64 0,SV.il .i64 0]).same
   (SV.agg [SV.si .i64 b.members,SV.si .i64 b.left.a0,SV.si .i64 b.left.a1,SV.si .i64 b.left.a2,SV.si .i64 b.left.a3,SV.si .i64 b.left.a4,SV.si .i64 b.left.a5,SV.si .i64 b.opn.a0,SV.si .i64 b.opn.a1,SV.si .i64 b.opn.a2,SV.si .i64 b.opn.a3,SV.si .i64 b.opn.a4,SV.si .i64 b.opn.a5]):=by
  rintro b rfl;rfl
 have h2b:(1:Int)*2^x.bidder.toNat≤256∧0<(1:Int)*2^x.bidder.toNat:=by
  have:x.bidder.toNat=0∨x.bidder.toNat=1∨x.bidder.toNat=2∨x.bidder.toNat=3∨x.bidder.toNat=4∨x.bidder.toNat=5∨x.bidder.toNat=6∨x.bidder.toNat=7:=by omega
  rcases this with h|h|h|h|h|h|h|h<;>rw[h]<;>decide
 refine⟨⟨h2,h3⟩,fun hw=>?_,fun hw=>⟨fun ho=>?_,fun ho=>?_⟩⟩
 ·have hf:fitsAt s.p a x=false:=by simp[fitsAt,hw]
  exact⟨hz _ (by simp[afterS,hf]),hf.symm⟩
 ·have hf:fitsAt s.p a x=false:=by simp[fitsAt,ho]
  exact⟨hz _ (by simp[afterS,hf]),hf.symm⟩
 ·have hf:fitsAt s.p a x=true:=by simp[fitsAt,hw,ho]
  have ha:afterS s.p a x=nextAt s.p a x:=by simp[afterS,hf]
  refine⟨by omega,by omega,by omega,⟨h4.1,h5⟩,⟨h4.2,out_ok h5⟩,?_,hf.symm⟩
  rw[ha]
  simp only[nextAt,Int.one_mul]
  rfl
end Go.Vi
namespace Go.Proofs.YtddpfdamlefbgaaGreat
open Go.ChangeShapes Go.WideShapes Go.ChangeAt Go.RowKit Go.Vi
theorem Tryz.own:ownKnob Tryz.prog.godebug=none:=by kernel_rfl
theorem Tryz.laidOut:laidOutB Tryz.prog=true:=by kernel_rfl
theorem rd_int:Reads Tryz.prog 3 (.i .i64):=reads_int Tryz.underlying3
theorem rd_bun:Reads Tryz.prog 23 .bun:=reads_bun Tryz.underlying23 Tryz.underlying3 (by kernel_rfl) (by kernel_rfl)
theorem rd_off:Reads Tryz.prog 73 .off:=reads_off Tryz.underlying73 (by kernel_rfl) rfl rfl rfl Tryz.underlying3 (by kernel_rfl) Tryz.underlying2 (by kernel_rfl) rd_bun (by kernel_rfl) rfl
theorem rd_prob {H:Type} {enc:TypeId×Value→H} {w:World} {a:Nat→Bool} {c:Bool} {b:Nat} {cs:List Value} {x:DataW H×List MemPlace} (h:DataW.trod enc Tryz.prog w 0 a c b 27 cs=some x):
  ∃p:Prob,RepL noA w [] [] (gL p.ss) cs:=
 reads_prob Tryz.underlying27 (by kernel_rfl) rfl rfl rfl rfl rfl rfl rd_bun (by kernel_rfl) Tryz.underlying24 rd_int (by kernel_rfl) (by kernel_rfl) Tryz.underlying25 rd_off (by kernel_rfl) (by kernel_rfl) h
theorem law_calls {f:FuncId} {args:List SV} (h:CallO Tryz.prog f (gL args) [] (SV.sb true).g []) {W:World} {vs:List Value} (d:RepL noA W [] [] (gL args) vs):
  Calls Tryz.prog f vs.toArray W fun e c=>e= .returned (.bool true)∧Below W.heap.size W c:=by
 refine(h noA W [] vs (simO_nil W (fun b a=>a.elim)) d).mono ?_
 grind[SV.g,Rep,below_of_ext]
end Go.Proofs.YtddpfdamlefbgaaGreat
namespace Go.Vi
open Go.ChangeShapes Go.WideShapes Go.RowKit
def ReadsQ (P:Program) (t:TypeId) (s:SId) (Q:s.T→Prop):Prop:=
 ∀(H:Type) (d:TypeId×Value→H) (w:World) (a:Nat→Bool) (c:Bool) (b:Nat) (e:List Value) (x:DataW H×List MemPlace),DataW.trod d P w 0 a c b t e=some x→∃y:s.T,Q y∧RepL noA w [] [] (encA s y) e
theorem ReadsG.q {P:Program} {t:TypeId} {s:SId} (h:ReadsG P t s):ReadsQ P t s fun _=>True:=fun H d w a c b e x f=>by
 obtain⟨y,g⟩:=h H d w a c b e x f
 grind
theorem readsQ_int {P:Program} {t:TypeId} {k:IntKind} (a:P.underlying t=some (.int k)):ReadsQ P t (.i k) fun n=>k.min≤(show Int from n)∧(show Int from n)≤k.max:=fun _ _ _ _ _ _ c _ h=>by
 obtain⟨n,rfl,_,b⟩:=DataW.trod_int a h
 simp_all[Lit.wf,encA,encV,RepL,Rep,Value.oneCell']
theorem reads_sliceQ {P:Program} {t e:TypeId} {s:SId} {Q:s.T→Prop} (C:P.underlying t=some (.slice e)) (r:ReadsQ P e s Q) (F:P.cellsOf e=s.sz)
  {H:Type} {enc:TypeId×Value→H} {w:World} {c:Nat→Bool} {j:Bool} {d:Nat} {cs:List Value} {x:DataW H×List MemPlace} (h:DataW.trod enc P w 0 c j d t cs=some x):
  ∃(v:Value) (l:List s.T),cs=[v]∧l.length≤9223372036854775807∧(∀y∈l,Q y)∧Rep noA w [] [] (SV.row s l).g v:=by
 rcases Go.Deep.open_slice C h with⟨rfl,_⟩|⟨a,b,k,m,n,D,M,rfl,G,A,N,o,_,p⟩
 ·exact⟨_,[],rfl,by simp,by simp,by grind[SV.g,Rep,flatA,pureL,RepM]⟩
 ·have u:b≤m:=by grind
  have B:∀i,i<b→∃y:s.T,∃cs,Q y∧w.cells? 0 (a.add (i*s.sz)) s.sz=some cs∧RepL noA w [] [] (encA s y) cs:=fun i J=>by
   obtain⟨q,K,E⟩:=p i (by omega)
   obtain⟨y,L,z⟩:=r _ _ _ _ _ _ _ _ E
   grind
  obtain⟨f,I⟩:=Go.Deep.choose_lt B
  refine⟨_,(List.range b).map f,rfl,?_,?_,?_⟩
  ·grind[maxLen]
  ·simp_all
  simp only[SV.g,Rep,List.length_map,List.length_range]
  refine⟨some a,k,rfl,A,flatA_pure _ _,?_⟩
  have:=repM_flat (w:=w) (a:=a) (s:=s) (l:=(List.range b).map f) (i0:=0) (fun i y z=>by
   grind)
  simp_all
theorem readsQ_lst {P:Program} {t e:TypeId} {s:SId} {Q:s.T→Prop} (k:P.underlying t=some (.slice e)) (i:ReadsQ P e s Q) (f:P.cellsOf e=s.sz):
  ReadsQ P t (.lst s) fun l=>(show List s.T from l).length≤9223372036854775807∧∀y∈(show List s.T from l),Q y:=fun H d w a c b n x h=>by
 obtain⟨v,l,rfl,j,m,g⟩:=reads_sliceQ k i f h
 exact⟨l,⟨j,m⟩,by simp only[encA,RepL];exact⟨v,[],rfl,g,rfl⟩⟩
abbrev fracId:SId:=.pair .b (.pair (.lst (.i .u32)) (.lst (.i .u32)))
def digR (l:List Int):Prop:=∀d∈l,0≤d∧d<4294967296
def fracQ (x:Bool×(List Int×List Int)):Prop:=digR x.2.1∧digR x.2.2
theorem readsQ_frac {P:Program} {t b n e:TypeId} {fs:Array Field} (S:P.underlying t=some (.struct fs)) (T:P.cellsOf t=3) (U:fs.size=3)
  (h0:(fs[0]?).map (fun f=>(f.type,f.offset))=some (b,0)) (h1:(fs[1]?).map (fun f=>(f.type,f.offset))=some (n,1)) (h2:(fs[2]?).map (fun f=>(f.type,f.offset))=some (n,2))
  (Q:P.underlying b=some .bool) (k:P.cellsOf b=1) (G:P.underlying n=some (.slice e)) (c:P.cellsOf n=1) (B:P.underlying e=some (.int .u32)) (a:P.cellsOf e=1):
  ReadsQ P t fracId fracQ:=fun H R w v D y K x h=>by
 obtain⟨xs,m,_,_,E,Y,s⟩:=DataW.trod_struct S h
 rw[T] at E
 obtain⟨X,e0,l⟩:=Option.map_eq_some_iff.1 h0
 obtain⟨Z,N,q⟩:=Option.map_eq_some_iff.1 h1
 obtain⟨W,V,j⟩:=Option.map_eq_some_iff.1 h2
 simp only[Prod.mk.injEq] at l q j
 have z:=s 0 X e0
 have J:=s 1 Z N
 have F:=s 2 W V
 rw[l.1,l.2,k,List.getElem?_eq_getElem (by omega)] at z
 rw[q.1,q.2,c,List.getElem?_eq_getElem (by omega)] at J
 rw[j.1,j.2,c,List.getElem?_eq_getElem (by omega)] at F
 obtain⟨o,A,_⟩:=DataW.trod_bool Q z
 obtain⟨v1,u,C,n1,O,r1⟩:=reads_sliceQ G (readsQ_int B) a J
 obtain⟨v2,p,I,n2,d2,r2⟩:=reads_sliceQ G (readsQ_int B) a F
 match K,E with
 |[c0,c1,c2],_=>
  simp at A C I
  subst A
  subst C
  subst I
  refine⟨(o,(u,p)),⟨fun d r=>?_,fun d r=>?_⟩,?_⟩
  ·have:=O d r
   have L:IntKind.u32.min=0:=rfl
   have M:IntKind.u32.max=4294967295:=rfl
   grind
  ·have:=d2 d r
   have L:IntKind.u32.min=0:=rfl
   have M:IntKind.u32.max=4294967295:=rfl
   grind
  ·have e:encA fracId (o,(u,p))=[AV.sc (.bool o),(SV.row (.i .u32) u).g,(SV.row (.i .u32) p).g]:=by
    grind[encA,encV,SV.g,flatA]
   grind[RepL,Rep,Value.oneCell']
theorem readsQ_alloc {P:Program} {t k v:TypeId} {fs:Array Field} (J:P.underlying t=some (.struct fs)) (F:P.cellsOf t=2) (I:fs.size=2)
  (R:(fs[0]?).map (fun f=>(f.type,f.offset))=some (k,0)) (B:(fs[1]?).map (fun f=>(f.type,f.offset))=some (v,1))
  {e:TypeId} (C:P.underlying k=some (.slice e)) (n:P.underlying e=some (.int .i64)) (p:P.cellsOf e=1) (o:P.cellsOf k=1) (D:P.underlying v=some (.int .i64)) (q:P.cellsOf v=1)
  {H:Type} {enc:TypeId×Value→H} {w:World} {b:Nat→Bool} {c:Bool} {d:Nat} {cs:List Value} {x:DataW H×List MemPlace} (h:DataW.trod enc P w 0 b c d t cs=some x):
  ∃a:Alloc,a.chosen.length≤9223372036854775807∧RepL noA w [] [] (gL [.row (.i .i64) a.chosen,.si .i64 a.value]) cs:=by
 obtain⟨U,m,_,_,s,Q,u⟩:=DataW.trod_struct J h
 rw[F] at s
 obtain⟨M,N,j⟩:=Option.map_eq_some_iff.1 R
 obtain⟨E,L,l⟩:=Option.map_eq_some_iff.1 B
 simp only[Prod.mk.injEq] at j l
 have A:=u 0 M N
 have y:=u 1 E L
 rw[j.1,j.2,o,List.getElem?_eq_getElem (by omega)] at A
 rw[l.1,l.2,q,List.getElem?_eq_getElem (by omega)] at y
 obtain⟨W,K,z,G,_,S⟩:=reads_sliceQ C (readsQ_int n) p A
 obtain⟨O,r,_⟩:=DataW.trod_int D y
 match cs,s with
 |[T,V],_=>
  simp at z r
  subst z
  subst r
  refine⟨⟨K,O⟩,G,?_⟩
  grind[gL,RepL,SV.g,Rep,Value.oneCell']
end Go.Vi
namespace Go.Proofs.YtddpfdamlefbgaaGreat
open Go.ChangeShapes Go.WideShapes Go.ChangeAt Go.RowKit Go.Vi
theorem rd_allocQ {H:Type} {enc:TypeId×Value→H} {w:World} {spare:Nat→Bool} {held:Bool} {fuel:Nat} {cs:List Value} {x:DataW H×List MemPlace} (h:DataW.trod enc Tryz.prog w 0 spare held fuel 29 cs=some x):
  ∃a:Alloc,a.chosen.length≤9223372036854775807∧RepL noA w [] [] (gL [.row (.i .i64) a.chosen,.si .i64 a.value]) cs:=
 readsQ_alloc Tryz.underlying29 (by kernel_rfl) rfl rfl rfl Tryz.underlying24 Tryz.underlying3 (by kernel_rfl) (by kernel_rfl) Tryz.underlying2 (by kernel_rfl) h
end Go.Proofs.YtddpfdamlefbgaaGreat
namespace Go.Proofs.YtddpfdamlefbgaaGreat
open Go.ChangeShapes Go.WideShapes Go.ChangeAt Go.RowKit Go.Vi
theorem rd_frac:ReadsQ Tryz.prog 47 fracId fracQ:=
 readsQ_frac Tryz.underlying47 (by kernel_rfl) rfl rfl rfl rfl Tryz.underlying4 (by kernel_rfl) Tryz.underlying45 (by kernel_rfl) Tryz.underlying90 (by kernel_rfl)
end Go.Proofs.YtddpfdamlefbgaaGreat
