/-
  Contracts: the exchange of the greedy method.
  Conditions: none.
-/
import Derived.Test.YtjcmncmajmoiiaaGreatDY06
import Derived.Test.YtjcmncmajmoiiaaGreatDY07
import Derived.Test.YtjcmncmajmoiiaaGreatDY11
import Derived.Test.YtjcmncmajmoiiaaGreatDY10
import Derived.Test.YtjcmncmajmoiiaaGreatDY08
import Derived.Test.YtjcmncmajmoiiaaGreatDY09
set_option maxRecDepth 100000
set_option maxHeartbeats 4000000
set_option linter.all false
open Bool renaming and_eq_true->ζ
open Classical renaming not_not->ω
open Go.Vi.AV.sl renaming injEq->εc
open Go.Vi.SV renaming row->Ψ,si->Ξ,sb->γI,bl->δw,il->γr,ptr->γV,agg->γG,ow->γ8
open Int renaming toNat_natCast->γt
open IntCast renaming intCast->γa
open List renaming map_cons->ι,map_nil->γp,range->τ,map_map->δx,map_congr_left->γ2,take->γd,length_append->ν,length_take->Ω,mem_append->Γ,mem_of_mem_take->γm,pairwise_cons->γx,exists_of_findSome?_eq_some->δ2,mem_range->γL,take_length->Δ,all_eq_true->Φ,nodup_append->γz,mem_map->γg,replicate->ε,ext_getElem->δi,length_replicate->γS,getElem_map->εy,length_map->γB,length->γn,map->γj,map_append->γb
open List.Pairwise renaming nil->δB
open List.cons renaming injEq->π
open Nat renaming le_refl->φ,mul_le_mul->ζe
open Option renaming isNone_iff_eq_none->γR
open Option.some renaming injEq->γ
open Rat renaming mul_nonneg->δC
namespace Go.Vi
open Go.Proofs.YtjcmncmajmoiiaaGreat.Ir
open Go.Proofs
def rX (g:Game):List SV:=[.row (.bK (.i .i64)) g.rows,.row (.i .i64) g.bounds,.row .off g.offers]
def K0:List SV->Option Game
 |[r,v,x]=>match fZ (.bK (.i .i64)) r,fZ (.i .i64) v,fZ .off x with
  |some c,some v,some x=>some ⟨c,v,x⟩
  |_,_,_=>none
 |_=>none
theorem ad6 {cs:List SV} {g:Game} (h:K0 cs=some g):gL cs=gL (rX g):=by
 unfold K0 at h;grind[rX,gL,jI]
theorem ad7 {g a:Game} (h:gL (rX g)=gL (rX a)):g=a:=A2.inj g a (by
 show AV.agg (gL (rX g))=AV.agg (gL (rX a));rw[h])
def mR (g:Game) (v:Int) (c:List Int):Bool:=decide (v<dF g c)&&li g c
def K1:cZ where
 f:=123;α:=List Int×Game×Int;put a:=[.row (.i .i64) a.1,.ptr 0 0 3,.ptr 1 0 1];st a:=[.cells (rX a.2.1) 124 3 false,.cells [.si .i64 a.2.2] 2 1 false];dec v o:=match v,o with
  |[x,.ptr 0 0 3,.ptr 1 0 1],[.cells cs 124 3 false,.cells [y] 2 1 false]=>match fZ (.i .i64) x,K0 cs,y.int .i64 with
   |some x,some g,some y=>some (x,g,y)
   |_,_,_=>none
  |_,_=>none;ok v o a h:=by
  split at h
  ·split at h
   ·rename_i h1 h2 h3;simp only[γ] at h;subst h;refine⟨by simp only[gL,jI h1],?_⟩;simp only[gO,ι,γp,bq.g,ad6 h2,gL,gP h3];rfl
   ·cases h
  ·cases h
 inj a b h1 h2:=by
  simp only[gL,π,and_true,SV.g,εc] at h1;simp only[gO,ι,γp,bq.g,π,bQ.cells.injEq,and_true,gL,SV.g,AV.sc.injEq,Value.int.injEq,true_and] at h2;have h3:=ad7 h2.1;have h4:=lU (.i .i64) h1.1 h1.2;exact Prod.ext h4 (Prod.ext h3 h2.2)
 dom a:=nM a.2.1/\pA a.2.1 a.1/\qg a.2.1 a.1;res a:=.sb (mR a.2.1 a.2.2 a.1);out a:=[.cells (rX a.2.1) 124 3 false,.cells [.si .i64 a.2.2] 2 1 false]
theorem h338:dJ Tryz.prog K1:=by
 refine jm (L:=[EN,yH]) (W:=[]) K1 lk (by simp) (by simpa using⟨h327,h328⟩) ?_;rintro⟨c,g,v⟩ ⟨h1,h2,h3⟩;simp only at h1 h2 h3;refine bO (let a:=Ψ;let b:=bq.cells [a (bn.i .i64).bK g.rows,a (bn.i .i64) g.bounds,a bn.off g.offers] 124 3 false;let d:=bq.cells [Ξ .i64 v] 2 1 false;let e:=decide (v<dF g c);let f:=b.same b/\d.same d/\True;(nM g/\pA g c/\qg g c)/\(e=true->(nM g/\pA g c)/\(γI (li g c)).same (γI (mR g v c))/\f)/\(e=false->(δw false).same (γI (mR g v c))/\f)) (by kernel_rfl) ?_;conv=>zeta
 try simp only[vcs]
 refine⟨⟨h1,h2,h3⟩,λh=>⟨⟨h1,h2⟩,?_⟩,λh=>?_⟩;·unfold mR;rw[decide_eq_true h,Bool.true_and]
 ·unfold mR;rw[decide_eq_false h,Bool.false_and]
def qh (g:Game) (c:List Int) (v:Int) (a:List Int) (o k:Int):Option (List Int):=if k<=o\/k∈c then none else if mR g v (eV (a++[o,k]))=true then some (eV (a++[o,k])) else none
def nN (g:Game) (c:List Int) (v:Int) (a:List Int) (o:Int):Option (List Int):=if o∈c then none else if mR g v (eV (a++[o]))=true then some (eV (a++[o])) else(τ g.offers.length).findSome? λk:Nat=>qh g c v a o k
def iL (c:List Int) (i:Nat):List Int:=c.take i++c.drop (i+1)
def yI (g:Game) (c:List Int) (v:Int) (i:Nat):Option (List Int):=(τ g.offers.length).findSome? λo:Nat=>nN g c v (iL c i) o
def iQ (g:Game) (c:List Int):Option (List Int):=(τ c.length).findSome? λi=>yI g c (dF g c) i
theorem ES {n:Nat} {f:Nat->Option (List Int)} (h:∀i,i<n->f i=none):(τ n).findSome? f=none:=by
 simp_all
theorem ET {n i:Nat} {f:Nat->Option (List Int)} {t:List Int} (c:i<n) (h:∀j,j<i->f j=none) (b:f i=some t):(τ n).findSome? f=some t:=by
 have e:τ n=τ i++(i::(τ (n - (i+1))).map λk=>i+1+k):=by
  have a:=@List.range_add i (n - i);rw[show i+(n - i)=n by omega] at a;rw[a,show n - i=(n - (i+1))+1 by omega,List.range_succ_eq_map];simp only[ι,δx,Nat.add_zero];congr 2;apply γ2;grind
 simp_all[ES]
def uK (g:Game):Prop:=nM g/\∀o∈g.offers,0<=o.value/\o.value<=1000000
def K2:bL:=⟨87,Game×List Int,.cons A2 (.one (dV (.i .i64))),λa=>uK a.1/\(a.2.length<=900/\∀x∈a.2,0<=x/\x<a.1.offers.length),λa=> .bH [.row (.i .i64) ((iQ a.1 a.2).getD []),.sb (iQ a.1 a.2).isSome]⟩
def K3 (g:Game) (c:List Int):bX:=[.cells (rX g) 124 3 false,.cells [.si .i64 (dF g c)] 2 1 false]
def ad8 (g:Game) (c:List Int):Nat->cC
 |4=> .inv Int (λi=>⟨[(1,.row (.i .i64) c),(2,.ptr 0 0 3),(7,.fn (.func 123) [] [.ptr 0 0 3,.ptr 1 0 1]),(19,.si .i64 c.length),(20,.si .i64 i)],K3 g c⟩)
   (λs=>iS s 20) (λi=>(0<=i/\i<=c.length)/\∀k:Nat,(k:Int)<i->yI g c (dF g c) k=none) (λi=>(c.length - i).toNat) λi k=>match k with
   |8=> .inv Int (λo=>⟨[(1,.row (.i .i64) c),(2,.ptr 0 0 3),(7,.fn (.func 123) [] [.ptr 0 0 3,.ptr 1 0 1]),(9,.row (.i .i64) (iL c i.toNat)),(19,.si .i64 c.length),(20,.si .i64 i),(28,.si .i64 g.offers.length),(29,.si .i64 o)],K3 g c⟩)
     (λs=>iS s 29) (λo=>(0<=o/\o<=g.offers.length)/\∀k:Nat,(k:Int)<o->nN g c (dF g c) (iL c i.toNat) k=none) (λo=>(g.offers.length - o).toNat) λo k=>match k with
     |15=> .inv Int (λz=>⟨[(1,.row (.i .i64) c),(2,.ptr 0 0 3),(7,.fn (.func 123) [] [.ptr 0 0 3,.ptr 1 0 1]),(9,.row (.i .i64) (iL c i.toNat)),(10,.si .i64 o),(12,.si .i64 z),(19,.si .i64 c.length),(20,.si .i64 i),(28,.si .i64 g.offers.length),(29,.si .i64 o)],K3 g c⟩)
       (λs=>iS s 12) (λz=>(o<z/\z<=g.offers.length)/\∀k:Nat,(k:Int)<z->qh g c (dF g c) (iL c i.toNat) o k=none) (λz=>(g.offers.length - z).toNat) λ_ _=> .look
     |_=> .look
   |_=> .look
 |_=> .look
theorem h331:Holds Tryz.prog K2:=by
 refine con (L:=[EO,yH,KW,KY]) (W:=fQ [K1]) K2 (λa=>ad8 a.1 a.2) (kZ (by simpa using h338)) (by simpa using⟨h326,h328,h339,h340⟩) ?_;rintro⟨g,c⟩ ⟨⟨hg,hv⟩,hcl,hci⟩;simp only at hg hv hcl hci;refine bO (let a:=Ξ .i64;let b:=Ψ;let d:=(0:Int);let e:=bW .i64;let f:=γr .i64 0;let h:=SV.bH;let j:=(1:Int);let l:=bn.i .i64;let n:=γV 0 0 3;let p:=SV.fn (Fn.func 123) [] [n,γV 1 0 1];let u:=(↑c.length:Int);let s:=a u;let q:=bq.cells [b l.bK g.rows,b l g.bounds,b bn.off g.offers] 124 3 false;let r:=bq.cells [a (dF g c)] 2 1 false;let F:=(↑g.offers.length:Int);let m:=(↑g.offers.length:Int);let v:=a m;let G:=h [b l ((iQ g c).getD []),γI (iQ g c).isSome];(nM g/\pA g c/\qg g c)/\((((b l c).same (b l c)/\n.same n/\p.same p/\(a (↑c.length:Int)).same s/\(f).same (a 0)/\True)/\q.same q/\r.same r/\True)/\(d<=d/\d<=u)/\∀(k:Nat),(↑k:Int)<d->yI g c (dF g c) k=none)/\∀(x:Int),let z:=x+j;let t:=iL c x.toNat;let w:=b l t;let H:=a z;((d<=x/\x<=u)/\∀(k:Nat),(↑k:Int)<x->yI g c (dF g c) k=none)->(decide (x<u)=true->(c.length<=1000/\d<=x/\x<u)/\((((b l c).same (b l c)/\n.same n/\p.same p/\(b l (γd x.toNat c++List.drop z.toNat c)).same w/\s.same s/\(a x).same (a x)/\(a F).same v/\(f).same (a 0)/\True)/\q.same q/\r.same r/\True)/\(d<=d/\d<=m)/\∀(k:Nat),(↑k:Int)<d->nN g c (dF g c) t (↑k:Int)=none)/\∀(x_1:Int),let o:=x_1+j;let y:=a x;let A:=a o;let C:=eV (t++[x_1]);let I:=mR g (dF g c) C;((d<=x_1/\x_1<=m)/\∀(k:Nat),(↑k:Int)<x_1->nN g c (dF g c) t (↑k:Int)=none)->(decide (x_1<m)=true->c.length<=1000/\(decide (x_1∈c)=true->e o/\(((b l c).same (b l c)/\n.same n/\p.same p/\w.same w/\s.same s/\y.same y/\v.same v/\A.same A/\True)/\q.same q/\r.same r/\True)/\((d<=o/\o<=m)/\∀(k:Nat),(↑k:Int)<o->nN g c (dF g c) t (↑k:Int)=none)/\(m - o).toNat<(m - x_1).toNat)/\(decide (x_1∈c)=false->(t.length<=1000/\1<=1/\1<=1000)/\(nM g/\pA g C/\qg g C)/\(I=true->(h [b l C,δw true]).same G)/\(I=false->e o/\((((b l c).same (b l c)/\n.same n/\p.same p/\w.same w/\(a x_1).same (a x_1)/\A.same A/\s.same s/\y.same y/\v.same v/\(a x_1).same (a x_1)/\True)/\q.same q/\r.same r/\True)/\(x_1<o/\o<=m)/\∀(k:Nat),(↑k:Int)<o->qh g c (dF g c) t x_1 (↑k:Int)=none)/\∀(x:Int),let B:=x+j;let D:=a x_1;let J:=a B;let E:=eV (t++[x_1,x]);let K:=mR g (dF g c) E;let L:=e B/\(((b l c).same (b l c)/\n.same n/\p.same p/\w.same w/\D.same D/\J.same J/\s.same s/\y.same y/\v.same v/\D.same D/\True)/\q.same q/\r.same r/\True)/\((x_1<B/\B<=m)/\∀(k:Nat),(↑k:Int)<B->qh g c (dF g c) t x_1 (↑k:Int)=none)/\(m - B).toNat<(m - x).toNat;((x_1<x/\x<=m)/\∀(k:Nat),(↑k:Int)<x->qh g c (dF g c) t x_1 (↑k:Int)=none)->(decide (x<F)=true->c.length<=1000/\(decide (x∈c)=true->L)/\(decide (x∈c)=false->(t.length<=1000/\1<=2/\2<=1000)/\(nM g/\pA g E/\qg g E)/\(K=true->(h [b l E,δw true]).same G)/\(K=false->L)))/\(decide (x<F)=false->e o/\(((b l c).same (b l c)/\n.same n/\p.same p/\w.same w/\s.same s/\y.same y/\v.same v/\A.same A/\True)/\q.same q/\r.same r/\True)/\((d<=o/\o<=m)/\∀(k:Nat),(↑k:Int)<o->nN g c (dF g c) t (↑k:Int)=none)/\(m - o).toNat<(m - x_1).toNat))))/\(decide (x_1<m)=false->e z/\(((b l c).same (b l c)/\n.same n/\p.same p/\s.same s/\H.same H/\True)/\q.same q/\r.same r/\True)/\((d<=z/\z<=u)/\∀(k:Nat),(↑k:Int)<z->yI g c (dF g c) k=none)/\(u - z).toNat<(u - x).toNat))/\(decide (x<u)=false->(h [b l [],δw false]).same G)) (by kernel_rfl) ?_;conv=>zeta
 try simp only[vcs]
 have Uk:∀d:List Int,(∀x∈d,0<=x/\x<g.offers.length)->qg g d:=λd hd x hx=>hv _ (cO (by have:=hd x hx;omega));have hout:∀i:Nat,(iL c i).length<=900/\∀x∈iL c i,x∈c:=λi=>by
  unfold iL;refine⟨by rw[ν,Ω,List.length_drop];omega,λx hx=>?_⟩;rw[Γ] at hx;exact hx.elim γm List.mem_of_mem_drop
 have hnew:∀(i:Nat) (d:List Int),d.length<=2->(∀x∈d,0<=x/\x<g.offers.length)->nM g/\pA g (eV (iL c i++d))/\qg g (eV (iL c i++d)):=λi d hd hx=>by
  have h2:∀x∈eV (iL c i++d),0<=x/\x<g.offers.length:=λx h=>by
   rw[ER,Γ] at h;exact h.elim (λh=>hci x ((hout i).2 x h)) (hx x)
  have:=(hout i).1;exact⟨hg,⟨by rw[wt,ν];omega,h2⟩,Uk _ h2⟩
 have hg1:=hg.1;refine⟨⟨hg,⟨by omega,hci⟩,Uk c hci⟩,⟨by omega,λk h=>by omega⟩,?_⟩;rintro i ⟨⟨i0,i1⟩,hi⟩;refine⟨λhil=>⟨⟨by omega,i0,hil⟩,⟨by unfold iL;rw[show(i+1).toNat=i.toNat+1 by omega],by omega,λk h=>by omega⟩,?_⟩,λhil=>?_⟩
 ·have ho:=hout i.toNat;have found:∀t,yI g c (dF g c) i.toNat=some t->iQ g c=some t:=λt ht=>ET (i:=i.toNat) (by omega) (λj hj=>hi j (by omega)) ht;rintro o ⟨⟨o0,o1⟩,hk⟩;refine⟨λhol=>⟨by omega,λhin=>⟨by omega,⟨by omega,λk h=>?_⟩,by omega⟩,λhin=>⟨by omega,hnew _ _ (by simp) (by simp;omega),λhb=>?_,λhb=>⟨by omega,⟨by omega,λk h=>?_⟩,?_⟩⟩⟩,λhol=>⟨by omega,⟨by omega,λk h=>?_⟩,by omega⟩⟩
  ·by_cases h2:(k:Int)<o;·exact hk k h2
   ·rw[show(k:Int)=o by omega];unfold nN;rw[if_pos hin]
  ·have h2:nN g c (dF g c) (iL c i.toNat) o=some (eV (iL c i.toNat++[o])):=by
    unfold nN;rw[if_neg hin,if_pos hb]
   have h3:=found _ (ET (f:=λo:Nat=>nN g c (dF g c) (iL c i.toNat) o) (i:=o.toNat) (by omega) (λj hj=>hk j (by omega)) (by simp only[show((o.toNat:Nat):Int)=o by omega];exact h2));rw[h3];exact⟨rfl,rfl⟩
  ·unfold qh;rw[if_pos (.inl (by omega))]
  ·rintro z ⟨⟨z0,z1⟩,hz⟩;refine⟨λhzl=>⟨by omega,λhin2=>⟨by omega,⟨by omega,λk h=>?_⟩,by omega⟩,λhin2=>⟨by omega,hnew _ _ (by simp) (by simp;omega),λhb2=>?_,λhb2=>⟨by omega,⟨by omega,λk h=>?_⟩,by omega⟩⟩⟩,λhzl=>⟨by omega,⟨by omega,λk h=>?_⟩,by omega⟩⟩
   ·by_cases h2:(k:Int)<z;·exact hz k h2
    ·rw[show(k:Int)=z by omega];unfold qh;rw[if_pos (.inr hin2)]
   ·have h4:¬z<=o:=by omega
    have h5:qh g c (dF g c) (iL c i.toNat) o z=some (eV (iL c i.toNat++[o,z])):=by
     unfold qh;rw[if_neg (λh=>h.elim h4 hin2),if_pos hb2]
    have h2:nN g c (dF g c) (iL c i.toNat) o=some (eV (iL c i.toNat++[o,z])):=by
     unfold nN;rw[if_neg hin,if_neg (by rw[hb];simp)];exact ET (f:=λk:Nat=>qh g c (dF g c) (iL c i.toNat) o k) (i:=z.toNat) (by omega) (λj hj=>hz j (by omega)) (by simp only[show((z.toNat:Nat):Int)=z by omega];exact h5)
    have h3:=found _ (ET (f:=λo:Nat=>nN g c (dF g c) (iL c i.toNat) o) (i:=o.toNat) (by omega) (λj hj=>hk j (by omega)) (by simp only[show((o.toNat:Nat):Int)=o by omega];exact h2));rw[h3];exact⟨rfl,rfl⟩
   ·by_cases h2:(k:Int)<z;·exact hz k h2
    ·rw[show(k:Int)=z by omega];unfold qh;rw[hb2];simp
   ·by_cases h2:(k:Int)<o;·exact hk k h2
    ·rw[show(k:Int)=o by omega];unfold nN;rw[if_neg hin,if_neg (by rw[hb];simp)];exact ES λj hj=>hz j (by omega)
  ·by_cases h2:(k:Int)<i;·exact hi k h2
   ·rw[show k=i.toNat by omega];exact ES λj hj=>hk j (by omega)
 ·have:iQ g c=none:=ES λj hj=>hi j (by omega);rw[this];exact⟨rfl,rfl⟩
def ft (n:Nat) (c:List Int):Prop:=c.Pairwise (·<·)/\∀x∈c,0<=x/\x<n
theorem Ul {n:Nat}:∀{c:List Int} {a:Int},a<=n->c.Pairwise (·<·)->(∀x∈c,a<=x/\x<n)->(c.length:Int)<=n - a
 |[],a,e,_,_=>by simp;omega;|x::c,a,e,h,b=>by
  have f:=b x (by simp);rw[γx] at h;have:=@Ul n c (x+1) (by omega) h.2 λy d=>⟨by grind,(b y (by simp[d])).2⟩;grind
theorem yJ {n:Nat} {c:List Int} (h:ft n c):c.length<=n:=by
 have:=Ul (n:=n) (a:=0) (by omega) h.1 h.2;omega
theorem K4 {n:Nat} {c:List Int} (f:c.Nodup) (e:∀x∈c,0<=x/\x<n):ft n (eV c):=by
 refine⟨?_,λx i=>e x (ER.1 i)⟩;have g:(eV c).Pairwise (·<=·):=by
  have:=List.pairwise_mergeSort (le:=λx y:Int=>decide (x<=y)) (λa b d f e=>by grind) (λa b=>by simp;omega) c;exact this.imp λh=>of_decide_eq_true h
 have j:(eV c).Pairwise (·≠·):=(List.mergeSort_perm _ _).symm.nodup f;exact(g.and j).imp λh=>by omega
theorem EU {n:Nat} {c:List Int} (h:ft n c):c.Nodup:=h.1.imp λh=>by omega
theorem Um {c:List Int} {i:Nat}:(iL c i).Sublist c:=by
 unfold iL;rw[List.drop_add_one_eq_tail_drop];have:=(List.Sublist.refl (c.take i)).append (List.tail_sublist (c.drop i));simp_all
theorem yK {g:Game} {c t:List Int} (h:iQ g c=some t) (d:ft g.offers.length c):mR g (dF g c) t=true/\ft g.offers.length t:=by
 obtain⟨i,l,h⟩:=δ2 h;obtain⟨o,m,h⟩:=δ2 h;rw[γL] at l m;have f:(iL c i).Nodup:=(EU d).sublist Um;have b:∀x∈iL c i,x∈c:=λx a=>Um.subset a;unfold nN at h;split at h;·cases h
 ·rename_i p;split at h
  ·rename_i e;injection h with h;subst h;refine⟨e,K4 ?_ λx a=>?_⟩;·grind
   ·rw[Γ] at a;rcases a with a|a;·exact d.2 x (b x a)
    simp_all
  ·obtain⟨k,j,h⟩:=δ2 h;rw[γL] at j;unfold qh at h;split at h;·cases h
   ·rename_i n;split at h
    ·rename_i e;injection h with h;subst h;refine⟨e,K4 ?_ λx a=>?_⟩;·grind
     ·rw[Γ] at a;rcases a with a|a;·exact d.2 x (b x a)
      grind
    ·cases h
def my (g:Game):Nat->List Int->List Int
 |0,c=>c
 |n+1,c=>match iQ g c with
  |some t=>my g n t
  |none=>c
def kQ (g:Game) (c:List Int):List Int:=my g (1000000000 - dF g c).toNat c
theorem rY {g:Game} (a:uK g) {c:List Int} (h:ft g.offers.length c):0<=dF g c/\dF g c<=1000000000:=by
 have d:=KV (f:=λx=>(bj g.offers x.toNat bn.off.dflt).value) (c:=c) (k:=c.length) (m:=1000000) (by omega) λx b=>a.2 _ (cO (by have:=h.2 x b;omega));rw[Δ] at d;have e:=yJ h;have i:=a.1.1.2.2;grind[dF]
theorem ad9 {g:Game} (d:uK g):∀{n m:Nat} {c:List Int},ft g.offers.length c->(1000000000 - dF g c).toNat<=n->(1000000000 - dF g c).toNat<=m->my g n c=my g m c:=by
 intro n;induction n with
 |zero=>
  intro m c a k j;have h:=rY d a;cases m with
  |zero=>rfl;|succ m=>
   unfold my;cases f:iQ g c with
   |none=>rfl;|some t=>
    obtain⟨b,e⟩:=yK f a;have i:=rY d e;unfold mR at b;grind
 |succ n l=>
  intro m c a k j;have h:=rY d a;cases f:iQ g c with
  |none=>
   cases m<;>grind[my];|some t=>
   obtain⟨b,e⟩:=yK f a;have i:=rY d e;unfold mR at b;simp only[ζ,decide_eq_true_eq] at b;cases m<;>grind[my]
theorem aea {g:Game} (d:uK g) {c t:List Int} (b:ft g.offers.length c) (h:iQ g c=some t):kQ g c=kQ g t:=by
 obtain⟨a,e⟩:=yK h b;have f:=rY d b;have i:=rY d e;unfold mR at a;simp only[ζ,decide_eq_true_eq] at a;unfold kQ;rw[show(1000000000 - dF g c).toNat=((1000000000 - dF g c).toNat - 1)+1 by omega];grind[my,ad9]
theorem Un {g:Game} {c:List Int} (h:iQ g c=none):kQ g c=c:=by
 unfold kQ;generalize (1000000000 - dF g c).toNat=n;cases n<;>grind[my]
def aeb (p:bp) (c:List Int):Prop:=bC p=0/\ft p.offers.length c
theorem Uo {p:bp} (c:bC p=0):uK (cH p):=by
 have a:=dn c;refine⟨Ug (by have:=a.2.1;omega),λo b=>?_⟩;have:=a.2.2.2.2 o b;omega
theorem Up {l:List Off}:∀{c:List Int} {a:Int}, -1<=a->(fR l a c).isSome=true->c.Pairwise (·<·)/\∀x∈c,a<x/\x<l.length
 |[],a,_,_=>⟨δB,by simp⟩
 |i::c,a,f,h=>by
  simp only[fR] at h;split at h;·simp at h
  ·rename_i g;rw[Option.isSome_map] at h;obtain⟨d,e⟩:=@Up l c i (by omega) h;refine⟨γx.2 ⟨λx b=>(e x b).1,d⟩,λx b=>?_⟩;grind
theorem uL {p:bp} {c:List Int} (h:dc p c=0):aeb p c:=by
 unfold dc at h;split at h;·omega
 ·rename_i b;split at h;·cases h
  ·rename_i d;have a:=@Up p.offers c (-1) (by omega) (by grind[jo]);exact⟨ω.1 b,a.1,λx e=>by grind⟩
def gu (p:bp) (c:List Int):Alloc:=if dc p c=0 then⟨kQ (cH p) c,dF (cH p) (kQ (cH p) c)⟩ else⟨[],0⟩
def A5:bL:=⟨53,bp×Alloc,.cons cY (.one lV),λa=>a.2.chosen.length<=9223372036854775807,λa=>lV.put (gu a.1 a.2.chosen)⟩
def aec (p:bp) (a:Alloc):Nat->cC
 |6=> .inv (List Int×List Int×Bool) (λx=>⟨[(4,.ptr 2 0 2),(5,.ptr 3 0 3),(6,.row (.i .i64) x.1),(7,.row (.i .i64) x.2.1),(8,.sb x.2.2)],[.cells p.ss 27 20 false,.cells [.row (.i .i64) a.chosen,.si .i64 a.value] 41 2 false,.cells [.sc (.slice none 0 0),.il .i64 0] 41 2 false,.cells (rX (cH p)) 124 3 false]⟩)
   (λs=>(rS (.i .i64) s 6,rS (.i .i64) s 7,bS s 8)) (λx=>ft p.offers.length x.1/\(x.2.1=(iQ (cH p) x.1).getD []/\x.2.2=(iQ (cH p) x.1).isSome)/\kQ (cH p) x.1=kQ (cH p) a.chosen) (λx=>(1000000000 - dF (cH p) x.1).toNat) λ_ _=> .look
 |_=> .look
theorem h315:Holds Tryz.prog A5:=by
 refine cG (L:=[zU,EM,EJ,K2,yH]) A5 (λa=>aec a.1 a.2) (by simpa using⟨h100,h325,h330,h331,h328⟩) ?_;rintro⟨p,⟨c,v⟩⟩ hl;replace hl:c.length<=9223372036854775807:=hl;refine bO (let a:=Ξ .i64;let b:=Ψ;let d:=bq.cells;let e:=(1000000000:Int);let f:=(0:Int);let g:=γI;let h:=γG;let y:=decide (dc p c≠f);let j:=bn.i .i64;let z:=[γr .i64 0];let A:=h [b j (gu p c).chosen,a (gu p c).value];let l:=γV 2 0 2;let m:=γV 3 0 3;let n:=(iQ (cH p) c).getD [];let o:=(iQ (cH p) c).isSome;let q:=d [a p.supply.a0,a p.supply.a1,a p.supply.a2,a p.supply.a3,a p.supply.a4,a p.supply.a5,a p.opn.a0,a p.opn.a1,a p.opn.a2,a p.opn.a3,a p.opn.a4,a p.opn.a5,a p.cls.a0,a p.cls.a1,a p.cls.a2,a p.cls.a3,a p.cls.a4,a p.cls.a5,b j p.classes,b bn.off p.offers] 27 20 false;let r:=d [b j c,a v] 41 2 false;let s:=d (SV.sc (Value.slice none 0 0)::z) 41 2 false;let t:=d [b j.bK (cH p).rows,b j (cH p).bounds,b bn.off (cH p).offers] 124 3 false;let w:=p.offers.length;let u:=kQ (cH p) c;c.length<=9223372036854775807/\(y=true->(h (b j []::z)).same A)/\(y=false->True/\c.length<=1000000/\(uK (cH p)/\c.length<=900/\∀(x:Int),x∈c->f<=x/\x<(↑(cH p).offers.length:Int))/\(((l.same l/\m.same m/\(b j c).same (b j c)/\(b j n).same (b j n)/\(g o).same (g o)/\True)/\q.same q/\r.same r/\s.same s/\t.same t/\True)/\ft w c/\(n=n/\o=o)/\u=u)/\∀(x:List Int×List Int×Bool),let k:=iQ (cH p) x.snd.fst;let B:=b j (k.getD []);let C:=dF (cH p) x.fst;ft w x.fst/\(x.snd.fst=(iQ (cH p) x.fst).getD []/\x.snd.snd=(iQ (cH p) x.fst).isSome)/\kQ (cH p) x.fst=u->(x.snd.snd=true->(uK (cH p)/\x.snd.fst.length<=900/\∀(x_1:Int),x_1∈x.snd.fst->f<=x_1/\x_1<(↑(cH p).offers.length:Int))/\((l.same l/\m.same m/\(b j x.snd.fst).same (b j x.snd.fst)/\B.same B/\(g k.isSome).same (g k.isSome)/\True)/\q.same q/\r.same r/\s.same s/\t.same t/\True)/\(ft w x.snd.fst/\(k.getD []=k.getD []/\k.isSome=k.isSome)/\kQ (cH p) x.snd.fst=u)/\(e - dF (cH p) x.snd.fst).toNat<(e - C).toNat)/\(x.snd.snd=false->(nM (cH p)/\pA (cH p) x.fst/\qg (cH p) x.fst)/\(h [b j x.fst,a C]).same A))) (by kernel_rfl) ?_;conv=>zeta
 try simp only[vcs]
 refine⟨by omega,λh=>by simp only[gu,if_neg h];rfl,λh=>?_⟩;have hf:dc p c=0:=ω.1 h;obtain⟨hc,ha⟩:=uL hf;have hg:=Uo hc;have h160:=(dn hc).2.1;have hval:∀d,ft p.offers.length d->nM (cH p)/\pA (cH p) d/\qg (cH p) d:=λd hd=>by
  have h1:=yJ hd;exact⟨hg.1,⟨by omega,hd.2⟩,λx hx=>hg.2 _ (cO (by have:=hd.2 x hx;show x.toNat<p.offers.length;omega))⟩
 have hlen:=yJ ha;refine⟨by omega,⟨hg,by omega,ha.2⟩,ha,?_⟩;rintro⟨d,t,b⟩ ⟨hd,⟨ht,hb⟩,hi⟩;simp only at hd ht hb hi ⊢;have hdl:=yJ hd;refine⟨λhbt=>?_,λhbf=>?_⟩
 ·rw[hbt] at hb;obtain⟨t',he⟩:=Option.isSome_iff_exists.1 hb.symm;rw[he] at ht;simp only[Option.getD_some] at ht;subst ht;obtain⟨h1,h2⟩:=yK he hd;have h3:=yJ h2;have h3':t.length<=p.offers.length:=h3;have hb2:=rY hg h2;have hb1:=rY hg (c:=d) hd;unfold mR at h1;simp only[ζ,decide_eq_true_eq] at h1;exact⟨⟨hg,by omega,h2.2⟩,⟨h2,by rw[<-aea hg hd he];exact hi⟩,by omega⟩
 ·rw[hbf] at hb;have he:iQ (cH p) d=none:=by
   cases hh:iQ (cH p) d with
   |none=>rfl;|some t=>rw[hh] at hb;cases hb
  refine⟨hval d hd,?_⟩;have h1:kQ (cH p) c=d:=by rw[<-hi,Un he]
  simp only[gu,if_pos hf,h1];rfl
theorem Ur {l:List Off}:∀{c:List Int} {a:Int}, -1<=a->c.Pairwise (·<·)->(∀x∈c,a<x/\x<l.length)->fR l a c=some (c.map λx=>bj l x.toNat bn.off.dflt)
 |[],_,_,_,_=>rfl
 |i::c,a,f,h,d=>by
  rw[γx] at h;have e:=d i (by simp);simp only[fR];rw[if_neg (by omega),@Ur l c i (by omega) h.2 λx b=>⟨h.1 x b,(d x (by simp[b])).2⟩];rfl
theorem EV {p:bp} {c:List Int} (h:ft p.offers.length c):fR p.offers (-1) c=some (c.map (oI p)):=Ur (by omega) h.1 λx a=>by have:=h.2 x a;omega
theorem K5 {p:bp} (l:bC p=0) {c:List Int} (h:ft p.offers.length c):dc p c=0↔li (cH p) c=true:=by
 have k:=EV h;have n:jo p c=true:=by grind[jo]
 have i:eE p c=c.map (oI p):=by grind[eE]
 have m:gd p (c.map (oI p))=li (cH p) c:=by
  have f:nR p=p.classes.length+12:=by simp_all[nR]
  have g:(cH p).bounds.length=p.classes.length+12:=by show(kh p (nR p)).length=_;rw[EL,f]
  unfold gd li;rw[g];have d:∀r:Nat,r<p.classes.length+12->bj (cH p).bounds r 0=dD p r/\mr (cH p) c r=cT p (c.map (oI p)) r:=λr j=>by
   refine⟨?_,?_⟩
   ·show bj (kh p (nR p)) r 0=_;grind[cQ,kh]
   ·have a:bj (cH p).rows r []=jN p r p.offers.length:=by
     show bj (mq p (nR p)) r []=_;grind[cQ,mq]
    unfold mr cT;rw[a,δx];congr 1;refine γ2 λx b=>?_;have:=h.2 x b;have e:x.toNat<p.offers.length:=by omega
    show bj (jN p r p.offers.length) x.toNat 0=eT p r (bj p.offers x.toNat bn.off.dflt);grind[cQ,jN]
  grind
 simp_all[dc]
theorem aed {p:bp} (d:bC p=0) {c:List Int} (h:ft p.offers.length c):ez p c=dF (cH p) c:=by
 have a:eE p c=c.map (oI p):=by grind[eE,EV]
 unfold ez;rw[if_pos d,a];clear h a;induction c with
 |nil=>rfl;|cons x c b=>
  have e:dF (cH p) (x::c)=(oI p x).value+dF (cH p) c:=by simp[dF];rfl
  rw[e,<-b];rfl
theorem Us {g:Game} {n:Nat}:∀{l c:List Int},ft n c->l.Nodup->(∀x∈l,x∉c/\0<=x/\x<n)->ft n (l.foldl (stepG g) c)
 |[],c,b,_,_=>b
 |x::l,c,b,e,d=>by
  rw[List.nodup_cons] at e;have i:=d x (by simp);have f:ft n (stepG g c x):=by
   unfold stepG;split
   ·refine K4 ?_ λy a=>?_;·grind[EU]
    ·rw[Γ] at a;rcases a with a|a;·exact b.2 y a
     simp_all
   ·exact b
  show ft n (l.foldl (stepG g) (stepG g c x));refine Us f e.2 λy a=>⟨λh=>?_,(d y (by simp[a])).2⟩;grind[Uh]
theorem aee {p:bp}:(gC p).Nodup:=by
 unfold gC;split;·exact(rV (D:=bM p) (l:=dS p.offers.length)).symm.nodup (A0.imp λh=>by omega)
 simp_all
theorem aef {p:bp} {k:Nat}:ft p.offers.length (oC (cH p) ((gC p).take k)):=
 Us ⟨δB,by simp⟩ (aee.sublist (List.take_sublist _ _)) λx a=>⟨by simp,(KZ (γm a)).2⟩
theorem Ut {l m:List Int} (h:l.Perm m):l.sum=m.sum:=by
 induction h<;>grind
theorem Uu {g:Game}:∀{l c:List Int},li g c=true->li g (l.foldl (stepG g) c)=true
 |[],c,h=>h
 |x::l,c,h=>by
  show li g (l.foldl (stepG g) (stepG g c x))=true;refine Uu ?_;grind[stepG]
theorem aeg {p:bp} (d:bC p=0):li (cH p) []=true:=by
 unfold li;rw[Φ];intro r b;have a:r<(cH p).bounds.length:=γL.1 b;have c:bj (cH p).bounds r 0=dD p r:=by
  show bj (kh p (nR p)) r 0=_;rw[cQ (by exact a)];simp[kh]
 simp_all[EP,mr]
theorem aeh {p:bp}:ft p.offers.length (jO p):=by
 have h:=@aef p (gC p).length;rw[Δ] at h;exact h
theorem Uw {p:bp} (a:bC p=0):dc p (jO p)=0:=(K5 a aeh).2 (Uu (aeg a))
theorem aei {g:Game} (i:uK g):∀{n:Nat} {c:List Int},ft g.offers.length c->li g c=true->ft g.offers.length (my g n c)/\li g (my g n c)=true/\dF g c<=dF g (my g n c)/\((1000000000 - dF g c).toNat<=n->iQ g (my g n c)=none):=by
 intro n;induction n with
 |zero=>
  intro c a j;refine⟨a,j,Int.le_refl _,λh=>?_⟩;show iQ g c=none;cases f:iQ g c with
  |none=>rfl;|some t=>
   obtain⟨d,b⟩:=yK f a;have k:=rY i b;unfold mR at d;grind
 |succ n l=>
  intro c a j;cases f:iQ g c with
  |none=>
   grind[my];|some t=>
   have e:my g (n+1) c=my g n t:=by grind[my]
   rw[e];obtain⟨d,b⟩:=yK f a;have k:=rY i b;unfold mR at d;grind
theorem K6 {p:bp} (a:bC p=0) {c:List Int} (b:dc p c=0):ft p.offers.length (gu p c).chosen/\dc p (gu p c).chosen=0/\ez p (gu p c).chosen=(gu p c).value/\ez p c<=(gu p c).value/\gu p (gu p c).chosen=gu p c:=by
 obtain⟨_,d⟩:=uL b;have h:=Uo a;obtain⟨i,j,l,g⟩:=aei h (n:=(1000000000 - dF (cH p) c).toNat) (c:=c) d ((K5 a d).1 b);have e:gu p c=⟨kQ (cH p) c,dF (cH p) (kQ (cH p) c)⟩:=by simp_all[gu]
 have f:dc p (kQ (cH p) c)=0:=(K5 a i).2 j;have k:kQ (cH p) (kQ (cH p) c)=kQ (cH p) c:=Un (g (φ _));simp_all[aed,gu,kQ,cH]
def iR (t0:Tb) (v:Int):Rat:=if v∈t0.free then t0.cs (t0.free.idxOf v) else 0
section
variable {n m:Nat} {t t0:Tb}
theorem Run.goal (h:Run n m t0 t) {x:Int->Rat} {z:Rat} (d:t.holds n m x z):z=t0.value+(cz m (λk=>iR t0 (t.bv k)*x (t.bv k))+cz n (λj=>iR t0 (t.fv j)*x (t.fv j))):=by
 have a:∀t:Tb,t.WF n m->nI (λv=>iR t0 v*x v) (t.basic++t.free)=cz m (λk=>iR t0 (t.bv k)*x (t.bv k))+cz n (λj=>iR t0 (t.fv j)*x (t.fv j)):=λt c=>by
  rw[J2,wa,wa,c.basic,c.free];rfl
 rw[<-a t h.wf,S7 h.perm,a t0 h.ov];rw[dY (n:=m) (g:=λ_=>0) λk e=>by
  unfold iR;rw[if_neg (S9 h.ov h.nd e)];grind,kL];rw[dY (n:=n) (g:=λj=>t0.cs j*x (t0.fv j)) λj b=>by
  have i:j<t0.free.length:=by rw[h.ov.free];exact b
  unfold iR;rw[if_pos (yu h.ov b),show t0.free.idxOf (t0.fv j)=j from qd (γz.1 h.nd).2.1 i]];have f:=(((h.nJ _ _).1 d).2);rw[f];grind
theorem Run.val (h:Run n m t0 t):t.value=t0.value+cz m λk=>iR t0 (t.bv k)*t.bd k:=by
 have a:=h.goal (asg_holds h.wf h.gV (y:=λ_=>0));rw[dY (n:=n) (f:=λj=>t.cs j*(λ_=>(0:Rat)) j) (g:=λ_=>0) λj _=>by grind,kL] at a;rw[dY (n:=n) (f:=λj=>iR t0 (t.fv j)*jM n t (λ_=>0) (t.fv j)) (g:=λ_=>0) λj c=>by rw[ou h.wf h.gV c];grind,kL] at a;rw[dY (n:=m) (g:=λk=>iR t0 (t.bv k)*t.bd k) λk b=>by
  rw[px h.wf h.gV b,dY (g:=λ_=>0) λj _=>by grind,kL];grind] at a;grind
theorem A6 {n c:Nat} {q:Rat} (d:c<n):cz n (λj=>if j=c then q else 0)=q:=by
 induction n with
 |zero=>omega;|succ n b=>
  unfold cz;by_cases h:c=n
  ·subst h;rw[if_pos rfl,dY (g:=λ_=>0) λj a=>by grind,kL];grind
  grind
theorem Ux {f g:Nat->Rat}:∀{n:Nat},cz n (λj=>f j - g j)=cz n f - cz n g
 |0=>by grind[cz];|n+1=>by simp only[cz,@Ux f g n];grind
theorem Run.aej (h:Run n m t0 t) {c:Nat} (b:c<n):t.cs c=iR t0 (t.fv c) - cz m λk=>iR t0 (t.bv k)*t.cf k c:=by
 have a:=h.goal (asg_holds h.wf h.gV (y:=λj=>if j=c then 1 else 0));rw[dY (n:=n) (f:=λj=>t.cs j*(if j=c then(1:Rat) else 0)) (g:=λj=>if j=c then t.cs c else 0) λj _=>by
  grind,A6 b] at a;rw[dY (n:=n) (f:=λj=>iR t0 (t.fv j)*jM n t (λj=>if j=c then 1 else 0) (t.fv j)) (g:=λj=>if j=c then iR t0 (t.fv c) else 0) λj e=>by
  rw[ou h.wf h.gV e];grind,A6 b] at a;rw[dY (n:=m) (g:=λk=>iR t0 (t.bv k)*t.bd k - iR t0 (t.bv k)*t.cf k c) λk d=>by
  rw[px h.wf h.gV d,dY (g:=λj=>if j=c then t.cf k c else 0) λj _=>by
   grind,A6 b];grind,Ux,h.val] at a;grind
end
theorem K7 {M K:Nat} {p q:Rat} (e:eU M p) (f:eU K q):eU (M*K) (p*q):=by
 obtain⟨a,rfl,d⟩:=e;obtain⟨b,rfl,c⟩:=f;exact⟨a*b,by simp_all,by rw[Int.natAbs_mul];exact ζe d c⟩
theorem Uy {M K:Nat} {p q:Rat} (d:eU M p) (c:eU K q):eU (M+K) (p+q):=by
 obtain⟨a,rfl,f⟩:=d;obtain⟨b,rfl,e⟩:=c;exact⟨a+b,by simp_all,by omega⟩
theorem aek {M:Nat} {p:Rat} (b:eU M p):eU M (-p):=by
 obtain⟨a,rfl,c⟩:=b;exact⟨-a,by simp_all,by omega⟩
theorem Uz {M:Nat}:eU M 0:=⟨0,rfl,by simp⟩
theorem eU.le {M K:Nat} {p:Rat} (b:eU M p) (h:M<=K):eU K p:=by
 obtain⟨a,rfl,c⟩:=b;exact⟨a,rfl,by omega⟩
theorem K8 {M:Nat} {f:Nat->Rat}:∀{n:Nat},(∀k,k<n->eU M (f k))->eU (n*M) (cz n f)
 |0,_=>by grind[cz,Uz];|n+1,h=>by
  have a:=Uy (@K8 M f n λk b=>h k (by omega)) (h n (by omega));grind[cz]
theorem K9 {f:Nat->Rat} {d:Rat}:∀{n:Nat},cz n f*d=cz n λk=>f k*d
 |0=>by grind[cz];|n+1=>by
  have:=@K9 f d n;grind[cz]
theorem ael {X k:Nat} {q D:Rat} (f:eU X (q*D)) (c:eU X D) (g:D≠0) (o:X<4294967296^k):Sz k q:=by
 obtain⟨a,p,l⟩:=f;obtain⟨d,rfl,m⟩:=c;have b:d≠0:=λh=>g (by subst h;rfl);have n:((4294967296^k:Nat):Int)=(4294967296:Int)^k:=by
  simp_all
 have i:(X:Int)<4294967296^k:=by
  omega
 have e:q=mkRat (a*d.sign) d.natAbs:=by
  have f:mkRat (a*d.sign) d.natAbs=((a*d.sign:Int):Rat) / ((d.natAbs:Int):Rat):=by
   rw[Rat.mkRat_eq_div];rfl
  have c:((d.natAbs:Int):Rat)=(d:Rat)*(d.sign:Rat):=by
   rw[<-Rat.intCast_mul];simp_all
  have j:(d.sign:Rat)*(d.sign:Rat)=1:=by
   rw[<-Rat.intCast_mul];rcases Int.lt_or_lt_of_ne b with h|h;·rw[Int.sign_eq_neg_one_of_neg h];rfl
   grind
  grind
 rw[e];refine As (by omega) ?_ (by omega);grind
structure Small (n m M G:Nat) (t0:Tb):Prop where
 wf:t0.WF n m
 nd:(t0.basic++t0.free).Nodup
 cf:∀i j,i<m->j<n->eU M (t0.cf i j)
 bd:∀i,i<m->eU M (t0.bd i)
 cs:∀j,j<n->eU G (t0.cs j)
 v:t0.value=0
 M1:1<=M
 G1:M<=G
 X:(m+2)*(G*nH M m)<4294967296^1000
theorem aem {a b c:Nat} (h:1<=a) (d:1<=b):c<=a*(b*c):=by
 have e:1*(1*c)<=a*(b*c):=ζe h (ζe d (φ _));omega
theorem Small.goal {n m M G:Nat} {t0:Tb} (h:Small n m M G t0) {v:Int}:eU G (iR t0 v):=by
 unfold iR;split
 ·rename_i a;exact h.cs _ (by rw[<-h.wf.free];grind)
 ·exact Uz
theorem Small.UA {n m M G:Nat} {t0 t:Tb} (h:Small n m M G t0) (a:Run n m t0 t):(∀i,i<m->Sz 1000 (t.bd i))/\(∀j,j<n->Sz 1000 (t.cs j))/\Sz 1000 t.value/\∀i j,i<m->j<n->Sz 1000 (t.cf i j):=by
 have y:=a.acM h.M1 h.cf;have A:=h.X;have B:1<=G:=Nat.le_trans h.M1 h.G1;have u:nH M m<=(m+2)*(G*nH M m):=aem (by omega) B;have l:∀{q:Rat},eU ((m+2)*(G*nH M m)) (q*jd m t0 t)->Sz 1000 q:=λz=>ael z (y.le u) a.dt A;have d:∀r c,r<m->c<n->eU (nH M m) (t.cf r c*jd m t0 t):=λr c o d=>a.cfZ h.M1 h.cf o d;have x:∀r,r<m->eU (nH M m) (t.bd r*jd m t0 t):=λr o=>a.bdZ h.M1 h.cf h.bd o;refine⟨λi w=>l ((x i w).le u),λj b=>l ?_,l ?_,λi j w b=>l ((d i j w b).le u)⟩
 ·have e:=a.aej b;have p:t.cs j*jd m t0 t=iR t0 (t.fv j)*jd m t0 t+ -(cz m λk=>iR t0 (t.bv k)*(t.cf k j*jd m t0 t)):=by
   rw[e,dY (f:=λk=>iR t0 (t.bv k)*(t.cf k j*jd m t0 t)) (g:=λk=>(iR t0 (t.bv k)*t.cf k j)*jd m t0 t) λk _=>by grind,<-K9];grind
  rw[p];refine(Uy (K7 h.goal y) (aek (K8 λk s=>K7 h.goal (d k j s b)))).le ?_;grind
 ·have p:t.value*jd m t0 t=cz m λk=>iR t0 (t.bv k)*(t.bd k*jd m t0 t):=by
   rw[a.val,h.v,dY (f:=λk=>iR t0 (t.bv k)*(t.bd k*jd m t0 t)) (g:=λk=>(iR t0 (t.bv k)*t.bd k)*jd m t0 t) λk _=>by grind,<-K9];grind
  rw[p];refine(K8 λk s=>K7 h.goal (x k s)).le ?_;grind
theorem Small.wi {n m M G:Nat} {t0 t:Tb} (h:Small n m M G t0) (b:Run n m t0 t):wi 1000000 t:=by
 obtain⟨g,r,k,o⟩:=h.UA b;have e:∀{f:Type} {l:List f} {P:f->Prop} {d:f},(∀i,i<l.length->P (bj l i d))->∀q∈l,P q:=λh q p=>by
  obtain⟨i,a,rfl⟩:=List.getElem_of_mem p;grind[cQ]
 refine⟨e (d:=[]) λi a=>?_,e (d:=0) λi a=>?_,e (d:=0) λj c=>?_,k.mono (by omega)⟩
 ·rw[b.wf.cj] at a;refine e (d:=0) λj c=>?_;rw[b.wf.row i a] at c;exact(o i j a c).mono (by omega)
 ·rw[b.wf.bound] at a;exact(g i a).mono (by omega)
 ·rw[b.wf.cost] at c;exact(r j c).mono (by omega)
theorem UB {n m:Int} {M G:Nat} {t0 t:Tb} (h:Small n.toNat m.toNat M G t0) (a:Run n.toNat m.toNat t0 t) (c:0<=n/\n<=1000) (b:0<=m/\m<=1000):kO n m t:=⟨⟨c,b⟩,a.wf,h.wi a⟩
section
variable {n m:Nat} {t t0:Tb}
theorem UC:∀{N:Nat} {t:Tb},Run n m t0 t->kg m t->Run n m t0 (runT n m N t)/\kg m (runT n m N t)
 |0,t,b,a=>⟨b,a⟩
 |N+1,t,b,a=>by
  unfold runT;split;·simp_all
  ·rename_i d c;have:=J5 b a c;exact UC this.1 this.2
theorem run_end:∀{N:Nat} {t:Tb},fb n m N t=true->stepT n m (runT n m N t)=none
 |0,t,h=>γR.1 h
 |N+1,t,h=>by
  unfold fb at h;unfold runT;split;·assumption
  ·rename_i b a;rw[a] at h;exact run_end h
theorem UD:∀{N K:Nat} {t:Tb},fb n m N t=true->N<=K->runT n m K t=runT n m N t
 |0,K,t,h,b=>by
  have d:=γR.1 h;cases K<;>grind[runT];|N+1,K,t,h,b=>by
  obtain⟨K,rfl⟩:∃k,K=k+1:=⟨K - 1,by omega⟩;unfold fb at h;unfold runT;split;·rfl
  ·rename_i c a;rw[a] at h;exact UD h (by omega)
theorem UE {f:Nat->Rat}:∀{n:Nat},(∀k,k<n->f k<=0)->cz n f<=0
 |0,_=>by grind[cz];|n+1,h=>by
  have a:=@UE f n λk b=>h k (by omega);grind[cz]
theorem UF {a b:Rat} (d:a<=0) (c:0<=b):a*b<=0:=by
 have:=δC (a:= -a) (b:=b) (by grind) c;grind
theorem Run.best (h:Run n m t0 t) (d:eh t n<0) {x:Int->Rat} {z:Rat} (a:t0.holds n m x z) (b:∀j,j<n->0<=x (t.fv j)):z<=t.value:=by
 have c:=(((h.nJ _ _).2 a).2);grind[wb,UE,UF]
theorem Run.bnd (h:Run n m t0 t) (q:kg m t) {B:Rat} (F:∀x z,t0.holds n m x z->(∀v∈t0.basic++t0.free,0<=x v)->z<=B) {c:Nat} (I:eh t n=(c:Int)) (H:dR t c m<0):False:=by
 rcases @wb t n with⟨C,d⟩|⟨a,C,d,f,G⟩;·omega
 ·have A:a=c:=by omega
  subst A;rcases @wh t a m with⟨D,w⟩|⟨r,D,_⟩;·
   have k:∀s:Rat,0<=s->t.value+s*t.cs a<=B:=λs o=>by
    have p:=asg_holds h.wf h.gV (y:=λj=>if j=a then s else 0);have e:cz n (λj=>t.cs j*(λj=>if j=a then s else 0) j)=s*t.cs a:=by
     rw[dY (g:=λj=>if j=a then s*t.cs a else 0) λj _=>by
      grind,A6 d]
    rw[e] at p;refine F _ _ ((h.nJ _ _).1 p) λv b=>?_;rw[<-h.perm.mem_iff,Γ] at b;rcases b with b|b
    ·obtain⟨i,l,rfl⟩:=yw h.wf b;rw[px h.wf h.gV l];have f:cz n (λj=>t.cf i j*(if j=a then s else 0))=t.cf i a*s:=by
      rw[dY (g:=λj=>if j=a then t.cf i a*s else 0) λj _=>by
       grind,A6 d]
     rw[f];have:=UF (w i l) o;have:=q i l;grind
    ·obtain⟨j,E,rfl⟩:=yv h.wf b;rw[ou h.wf h.gV E];grind
   have u:=k 0 (by grind);have o:0<=(B - t.value+1) / t.cs a:=Tf (by grind) f;grind[div_mul]
  ·omega
end
open Classical in
noncomputable def uM (n m:Nat) (t:Tb):Nat:=if h:∃N,fb n m N t=true then Classical.choose h else 0
noncomputable def lastT (n m:Nat) (t:Tb):Tb:=runT n m (uM n m t) t
section
variable {n m:Nat} {t t0 t':Tb}
theorem EW {N:Nat} (h:fb n m N t=true):lastT n m t=runT n m N t:=by
 have a:∃N,fb n m N t=true:=⟨N,h⟩;have b:fb n m (uM n m t) t=true:=by
  unfold uM;grind
 grind[lastT,UD]
theorem UG (h:stepT n m t=none):lastT n m t=t:=by
 have a:fb n m 0 t=true:=by simp[fb,h]
 rw[EW a];rfl
theorem aen (a:∃N,fb n m N t=true) (h:stepT n m t=some t'):lastT n m t'=lastT n m t:=by
 obtain⟨N,a⟩:=a;have b:=Tq a h;rw[EW b,EW (J6 a)];grind[runT]
theorem La (b:Run n m t0 t) (c:kg m t):Run n m t0 (lastT n m t)/\kg m (lastT n m t)/\stepT n m (lastT n m t)=none:=by
 obtain⟨N,a⟩:=J7 b c;rw[EW a];grind[UC,run_end]
theorem UH (i:Run n m t0 t) (e:kg m t) {B:Rat} (h:∀x z,t0.holds n m x z->(∀v∈t0.basic++t0.free,0<=x v)->z<=B):eh (lastT n m t) n<0:=by
 obtain⟨j,g,a⟩:=La i e;rcases @wb (lastT n m t) n with⟨b,d⟩|⟨c,b,d,l,k⟩;·omega
 ·exfalso;unfold stepT at a;rw[if_neg (by omega),show(eh (lastT n m t) n).toNat=c by omega] at a;split at a
  ·rename_i f;exact j.bnd g h b f
  ·cases a
end
def bF (f:List Int) (d:Int):List Int:=(dS f.length).filter λi=>decide (bj f i.toNat 0=d)
theorem mA {f:List Int} {d x:Int}:x∈bF f d↔(0<=x/\x<f.length)/\bj f x.toNat 0=d:=by
 simp_all[bF,rW]
theorem wy {f:List Int} {d:Int}:(bF f d).Pairwise (·<·):=A0.sublist List.filter_sublist
theorem yL {f:List Int} {d:Int}:(bF f d).length<=f.length:=by
 have:=List.length_filter_le (λi:Int=>decide (bj f i.toNat 0=d)) (dS f.length);rw[jy] at this;exact this
theorem Lc {a b:Type} {g:a->b} {l:List a} {i:Nat} {d:b} {e:a} (h:i<l.length):bj (l.map g) i d=g (bj l i e):=by
 grind[cQ]
theorem Ld {n j:Nat} {d:Int} (h:j<n):bj (dS n) j d=j:=by
 grind[dS,qZ]
def dy (p:bp) (f:List Int):Tb where
 cj:=(τ (p.classes.length+12)).map λr:Nat=>(bF f 0).map λi=>((eT p r (oI p i):Int):Rat);bound:=(τ (p.classes.length+12)).map λr:Nat=>((dD p r - cT p ((bF f 1).map (oI p)) r:Int):Rat);cost:=(bF f 0).map λi=>(((oI p i).value:Int):Rat);value:=0;basic:=(τ (p.classes.length+12)).map λi:Nat=>(((bF f 0).length+i:Nat):Int);free:=dS (bF f 0).length
def iq (p:bp) (f:List Int):Prop:=bC p=0/\f.length=p.offers.length/\gd p ((bF f 1).map (oI p))=true
abbrev nF (f:List Int):Nat:=(bF f 0).length
abbrev mF (p:bp):Nat:=p.classes.length+12
section
variable {p:bp} {f:List Int}
theorem q9:(dy p f).WF (nF f) (mF p) where
 cj:=by simp[dy]
 row i a:=by
  grind[dy,qZ]
 bound:=by simp[dy]
 cost:=by simp[dy]
 basic:=by simp[dy]
 free:=by simp[dy,jy]
theorem A7 {i j:Nat} (b:i<mF p) (a:j<nF f):(dy p f).cf i j=((eT p i (oI p (bj (bF f 0) j 0)):Int):Rat):=by
 grind[Tb.cf,dy,qZ,Lc]
theorem A8 {i:Nat} (a:i<mF p):(dy p f).bd i=((dD p i - cT p ((bF f 1).map (oI p)) i:Int):Rat):=by
 grind[Tb.bd,dy,qZ]
theorem EX {j:Nat} (a:j<nF f):(dy p f).cs j=(((oI p (bj (bF f 0) j 0)).value:Int):Rat):=by
 grind[Tb.cs,dy,Lc]
theorem aeo {i:Nat} (a:i<mF p):(dy p f).bv i=(((nF f)+i:Nat):Int):=by
 grind[Tb.bv,dy,qZ]
theorem EY {j:Nat} (a:j<nF f):(dy p f).fv j=j:=by
 grind[Tb.fv,dy,Ld]
theorem Ba:((dy p f).basic++(dy p f).free).Nodup:=by
 rw[γz];refine⟨?_,A0.imp λh=>by omega,?_⟩
 ·simp only[dy];refine List.Pairwise.map _ (λa b h=>?_) List.nodup_range;omega
 grind[dy,rW]
theorem yM (h:iq p f) {j:Nat} (a:j<nF f):(0<=bj (bF f 0) j 0/\bj (bF f 0) j 0<p.offers.length)/\bj f (bj (bF f 0) j 0).toNat 0=0:=by
 have:=mA.1 (cO (d:=0) a);rw[h.2.1] at this;exact this
theorem pB (a:bC p=0) {i:Int} (h:0<=i/\i<p.offers.length):0<=(oI p i).bE/\(oI p i).bE<p.classes.length/\(oI p i).want.ok=true/\1<=(oI p i).value/\(oI p i).value<=1000000:=(dn a).2.2.2.2 _ (cO (show i.toNat<p.offers.length by omega))
theorem EZ (h:iq p f) {d:Int}:∀x∈(bF f d).map (oI p),0<=x.bE/\x.bE<p.classes.length/\x.want.ok=true/\1<=x.value/\x.value<=1000000:=λx a=>by
 obtain⟨i,b,rfl⟩:=γg.1 a;have:=(mA.1 b).1;rw[h.2.1] at this;exact pB h.1 this
theorem Le {z:Int} {M:Nat} (h:z.natAbs<=M):eU M (z:Rat):=⟨z,rfl,h⟩
theorem UI (h:iq p f) {i:Nat} (b:i<mF p):0<=dD p i - cT p ((bF f 1).map (oI p)) i/\dD p i - cT p ((bF f 1).map (oI p)) i<=4:=by
 have c:i<p.classes.length+12:=b;have d:=o7.1 h.2.2 i (by grind[dm]);have g:=@EP p h.1 i;have e:=@uh p i ((bF f 1).map (oI p)) λx a=>(EZ h x a).2.2.1;omega
theorem aep:∀m:Nat,m<=20->(m+2)*(1000000*nH 4 m)<4294967296^1000:=by
 have h:((τ 21).all λm=>Nat.blt ((m+2)*(1000000*nH 4 m)) (4294967296^1000))=true:=by decide+kernel
 intro m a;have:=Φ.1 h m (γL.2 (by omega));rw[Nat.blt_eq] at this;exact this
theorem E0 (h:iq p f):Small (nF f) (mF p) 4 1000000 (dy p f) where
 wf:=q9;nd:=Ba;cf i j b a:=by
  rw[A7 b a];have:=(pB h.1 (yM h a).1).2.2.1;grind[rL,Le]
 bd i b:=by
  rw[A8 b];have:=UI h b;exact Le (by omega)
 cs j a:=by
  rw[EX a];have:=pB h.1 (yM h a).1;grind[Le]
 v:=rfl;M1:=by omega
 G1:=by omega
 X:=aep _ (by have:=(dn h.1).1;grind)
theorem E1 {z:Int} (h:0<=z):(0:Rat)<=(z:Rat):=by exact_mod_cast h
theorem Lh (h:iq p f):kg (mF p) (dy p f):=λi a=>by
 rw[A8 a];exact E1 (UI h a).1
theorem UJ {g:Nat->Rat}:∀{n:Nat},(∀k,k<n->0<=g k)->0<=cz n g
 |0,_=>by grind[cz];|n+1,h=>by
  have a:=@UJ g n λk b=>h k (by omega);grind[cz]
theorem UK {g k:Nat->Rat}:∀{n:Nat},(∀i,i<n->g i<=k i)->cz n g<=cz n k
 |0,_=>by grind[cz];|n+1,h=>by
  have a:=@UK g k n λk b=>h k (by omega);grind[cz]
theorem aer {g:Nat->Rat} {n j:Nat} (h:∀k,k<n->0<=g k) (a:j<n):g j<=cz n g:=by
 rw[Em a];grind[UJ]
theorem UL (h:iq p f) {x:Int->Rat} {z:Rat} (d:(dy p f).holds (nF f) (mF p) x z) (e:∀v∈(dy p f).basic++(dy p f).free,0<=x v) {j:Nat} (b:j<nF f):x ((dy p f).fv j)<=1:=by
 obtain⟨l,_⟩:=yM h b;have r:=pB h.1 l;have a:(oI p (bj (bF f 0) j 0)).bE.toNat<mF p:=by grind
 have s:=d.1 _ a;have n:=e _ (List.mem_append_left _ (AI q9 a));have i:(dy p f).cf (oI p (bj (bF f 0) j 0)).bE.toNat j=1:=by
  rw[A7 a b];unfold eT;rw[if_pos (by omega),if_pos (by omega)];rfl
 have m:=@aer (λk=>(dy p f).cf (oI p (bj (bF f 0) j 0)).bE.toNat k*x ((dy p f).fv k)) (nF f) j (λk c=>by
  refine δC ?_ (e _ (List.mem_append_right _ (yu q9 c)));rw[A7 a c];exact E1 (rL (pB h.1 (yM h c).1).2.2.1).1) b;simp only[i] at m;have t:(dy p f).bd (oI p (bj (bF f 0) j 0)).bE.toNat<=1:=by
  rw[A8 a];have o:dD p (oI p (bj (bF f 0) j 0)).bE.toNat=1:=by
   unfold dD;omega
  have q:=@uh p (oI p (bj (bF f 0) j 0)).bE.toNat ((bF f 1).map (oI p)) λx d=>(EZ h x d).2.2.1;have g:dD p (oI p (bj (bF f 0) j 0)).bE.toNat - cT p ((bF f 1).map (oI p)) (oI p (bj (bF f 0) j 0)).bE.toNat<=1:=by omega
  exact_mod_cast g
 grind
theorem UM (h:iq p f) {x:Int->Rat} {z:Rat} (c:(dy p f).holds (nF f) (mF p) x z) (e:∀v∈(dy p f).basic++(dy p f).free,0<=x v):z<=cz (nF f) (dy p f).cs:=by
 have g:=c.2;have k:(dy p f).value=0:=rfl;have:=@UK (λj=>(dy p f).cs j*x ((dy p f).fv j)) (dy p f).cs (nF f) λj a=>by
  have i:=UL h c e a;have d:0<=(dy p f).cs j:=by
   rw[EX a];exact E1 (by have:=pB h.1 (yM h a).1;omega)
  have:=δC d (b:=1 - x ((dy p f).fv j)) (by grind);grind
 grind
noncomputable def fc (p:bp) (f:List Int):Tb:=lastT (nF f) (mF p) (dy p f)
theorem rZ (h:iq p f):Run (nF f) (mF p) (dy p f) (fc p f)/\kg (mF p) (fc p f)/\eh (fc p f) (nF f)<0:=by
 have a:=Run.refl (n:=nF f) (m:=mF p) (t0:=dy p f) q9 Ba;have:=La a (Lh h);exact⟨this.1,this.2.1,UH a (Lh h) λx z c b=>UM h c b⟩
end
def fu (d:List bP) (j:Nat) (z:bP):List bP:=d.take j++ε (d.length - j) z
theorem Bc {d:List bP} {j:Nat} {z:bP} (h:j<=d.length):(fu d j z).length=d.length:=by
 grind[fu]
theorem Bd {d:List bP} {z:bP}:fu d 0 z=ε d.length z:=by simp[fu]
theorem Be {d:List bP} {z:bP}:fu d d.length z=d:=by simp[fu]
theorem Bf {d:List bP} {j:Nat} {z x:bP} (h:j<d.length) (b:x=bj d j z):(fu d j z).set j x=fu d (j+1) z:=by
 unfold fu;have a:d.length - j=(d.length - (j+1))+1:=by omega
 rw[a,List.replicate_succ,List.set_append_right _ _ (by grind),Ω,show j - min j d.length=0 by omega,List.set_cons_zero,List.take_succ_eq_append_getElem h,List.append_assoc,b,cQ h];rfl
theorem yN {l:List Rat} {i:Nat} {q:Rat}:(fL l).set i (bu q)=fL (l.set i q):=by
 simp_all[fL]
theorem elim_none {l p:List Rat} {c:Nat} (h:bj l c 0=0) (d:c<l.length):j9 l c p=l:=by
 refine δi En λi b a=>?_;have e:=@Eo c l p i a;grind[cQ]
def r413:cZ where
 f:=222;α:=Int;put a:=[.si .i64 a];st _:=[];dec v o:=match v,o with
  |[v],[]=>v.int .i64
  |_,_=>none;ok v o a h:=by
  split at h;·exact⟨by simp only[gL,gP h];rfl,rfl⟩
  ·cases h
 inj a b h _:=by simpa[gL,SV.g] using h
 dom n:=0<=n/\n<=1000;res n:=.ow 0 n.toNat 3;out n:=[.row sF (fL (ε n.toNat 0)) 157 false]
def aes (n:Int):Nat->cC
 |3=> .inv Int (λj=>⟨[(3,.ow 0 n.toNat 3),(8,.si .i64 n.toNat),(9,.si .i64 j)],[.row sF (fu (fL (ε n.toNat 0)) j.toNat (false,([],[]))) 157 true]⟩)
   (λs=>iS s 9) (λj=>0<=j/\j<=n) (λj=>(n - j).toNat) λ_ _=> .look
 |_=> .look
theorem h413:dJ Tryz.prog r413:=by
 refine zS (L:=[qW]) (W:=[]) r413 (λ_=>none) aes (by simp) (by simpa using h94) ?_;rintro(n:Int) ⟨n0,n1⟩;refine bO (let a:=(0:Int);let c:=bq.row;let d:=Ξ .i64;let e:=γ8 0 n.toNat 3;let h:=d (↑n.toNat:Int);let m:=(bn.i .u32).bK;let j:=(false,[],[]);let k:=fL (ε n.toNat (0:Rat));let l:=bu (γa a);a<=n/\n<=n/\n*(56:Int)<=(140737488355328:Int)/\n<=(1000000000000:Int)/\(((e.same e/\h.same h/\(γr .i64 0).same (d 0)/\True)/\(c (bn.b.pair (m.pair m)) (ε n.toNat j) 157 true).same (c sF (fu k 0 j) 157 true)/\True)/\a<=a/\a<=n)/\∀(x:Int),let o:=decide (x<(↑n.toNat:Int));let f:=fu k x.toNat j;let g:=x+(1:Int);let p:=d g;a<=x/\x<=n->(o=true->((-9223372036854775808:Int)<=a/\a<=(9223372036854775807:Int))/\n.toNat=f.length/\a<=x/\x<(↑f.length:Int)/\n.toNat=f.length/\x.toNat<f.length/\bW .i64 g/\((e.same e/\h.same h/\p.same p/\True)/\(c sF (f.set x.toNat (l.fst,l.snd.fst,l.snd.snd)) 157 true).same (c sF (fu k g.toNat j) 157 true)/\True)/\(a<=g/\g<=n)/\(n - g).toNat<(n - x).toNat)/\(o=false->e.same e/\(c sF f 157 false).same (c sF k 157 false)/\True)) (by kernel_rfl) ?_;conv=>zeta
 try simp only[vcs]
 have hcast:∀k:Nat,((k:Nat):Int).toNat=k:=λk=>γt k;have hl:(fL (ε n.toNat 0)).length=n.toNat:=by rw[fN,γS]
 have hrow:∀{x y:List bP},x=y->(bq.row sF x 157 true).same (bq.row sF y 157 true):=by rintro _ _ rfl;rfl
 refine⟨n0,by omega,by omega,by omega,⟨hrow (by rw[Bd,hl]),by omega,by omega⟩,?_⟩;rintro j ⟨j0,j1⟩;have oP:=@Bc (fL (ε n.toNat 0)) j.toNat (false,([],[])) (by omega);refine⟨λhj=>?_,λhj=>?_⟩
 ·have hE:bj (fL (ε n.toNat 0)) j.toNat (false,([],[]))=bu 0:=by
   rw[js (by rw[γS];omega),cQ (by rw[γS];omega),List.getElem_replicate]
  have h0:(γa 0:Rat)=0:=rfl;simp only[h0,kN];exact⟨by omega,by omega,j0,by omega,by omega,by omega,by omega,hrow (by rw[Bf (by omega) hE.symm,show(j+1).toNat=j.toNat+1 by omega]),by omega,by omega⟩
 ·rw[show j.toNat=(fL (ε n.toNat 0)).length by omega,Be];rfl
def r417:bL:=⟨232,List bP×bP×Int×List bP×bP,.cons (dV sF) (.cons (eG sF) (.cons (dX .i64) (.cons (dV sF) (.one (eG sF))))),
 λa=>∃l b p pb,(a.1=fL l/\a.2.1=bu b/\a.2.2.2.1=fL p/\a.2.2.2.2=bu pb)/\(l.length=p.length/\l.length<=1000)/\(0<=a.2.2.1/\a.2.2.1<l.length)/\(∀q∈l,Sz 10000000 q)/\(∀q∈p,Sz 10000000 q)/\Sz 10000000 b/\Sz 10000000 pb,
 λa=> .bH [.row sF (fL (j9 (vL a.1) a.2.2.1.toNat (vL a.2.2.2.1))),qV (ck a.2.1 - bj (vL a.1) a.2.2.1.toNat 0*ck a.2.2.2.2)]⟩
def aeu (l:List Rat) (b:Rat) (c:Int) (p:List Rat) (pb:Rat):Nat->cC
 |6=> .inv Int (λj=>⟨[(2,.si .i64 c),(3,.row sF (fL p)),(6,.ptr 0 0 3),(9,.ptr 1 0 3),(11,.ptr 2 0 3),(12,.ptr 3 0 3),(13,.ow 4 l.length 3),(28,.row sF (fL l)),(29,.si .i64 l.length),(30,.si .i64 j)],
   [.cells [.sb (bu b).1,.row (.i .u32) (bu b).2.1,.row (.i .u32) (bu b).2.2] 157 3 false,.cells [.sb (bu pb).1,.row (.i .u32) (bu pb).2.1,.row (.i .u32) (bu pb).2.2] 157 3 false,
    .cells [.bl false,.sc (.slice none 0 0),.sc (.slice none 0 0)] 157 3 false,.cells [.sb (bu (bj l c.toNat 0)).1,.row (.i .u32) (bu (bj l c.toNat 0)).2.1,.row (.i .u32) (bu (bj l c.toNat 0)).2.2] 157 3 false,
    .row sF (fu (fL (j9 l c.toNat p)) j.toNat (false,([],[]))) 157 true]⟩)
   (λs=>iS s 30) (λj=>0<=j/\j<=l.length) (λj=>(l.length - j).toNat) λ_ _=> .look
 |_=> .look
theorem h417:Holds Tryz.prog r417:=by
 refine cG (L:=[uE,Ei,yn,Eh]) r417 (λa=>aeu (vL a.1) (ck a.2.1) a.2.2.1 (vL a.2.2.2.1) (ck a.2.2.2.2)) (by simpa using⟨h99,h410,h130,h95⟩) ?_;rintro⟨l',b',c,p',pb'⟩ ⟨l,b,p,pb,⟨e1,e2,e3,e4⟩,⟨g1,g2⟩,⟨c0,c1⟩,hl,hp,hb,hpb⟩;simp only at e1 e2 e3 e4 c0 c1;subst e1 e2 e3 e4;refine bO (let a:=Ψ;let d:=(0:Int);let e:=Ξ .i64;let f:=bq.cells;let g:=bq.row;let h:=γI;let j:=sF.dflt;let k:=γV;let m:=γG;let n:=SV.bH;let F:=bj (fL l) c.toNat j;let a2:=(F.fst,F.snd.fst,F.snd.snd);let o:=bn.i .u32;let t:=(↑(fL l).length:Int);let L:=fL (j9 (vL (fL l)) c.toNat (vL (fL p)));let v:=ck (bu b);let w:=bj (vL (fL l)) c.toNat (0:Rat);let y:=ck (bu pb);let a3:=(bu (v - w*y)).snd;let a4:=n [a sF L,m [h (bu (v - w*y)).fst,a o a3.fst,a o a3.snd]];let z:=fL (vL (fL p));let G:=a sF z;let A:=k 0 0 3;let B:=k 1 0 3;let C:=k 2 0 3;let D:=k 3 0 3;let wz:Nat:=(vL (fL l)).length;let H:=γ8 4 wz 3;let I:=fL (vL (fL l));let J:=a sF I;let r:=(↑wz:Int);let K:=e r;let a5:=SV.sc (Value.slice none 0 0);let E:=f [δw false,a5,a5] 157 3 false;let M:=(false,[],[]);let N:=((bu w).fst,(bu w).snd.fst,(bu w).snd.snd);let O:=f [h (bu v).fst,a o (bu v).snd.fst,a o (bu v).snd.snd] 157 3 false;let P:=f [h (bu y).fst,a o (bu y).snd.fst,a o (bu y).snd.snd] 157 3 false;let Q:=f [h (bu w).fst,a o (bu w).snd.fst,a o (bu w).snd.snd] 157 3 false;let a6:=((bu y).fst,(bu y).snd.fst,(bu y).snd.snd);let a7:=((bu v).fst,(bu v).snd.fst,(bu v).snd.snd);let S:=bu (ck N*ck a6);let a8:=(S.fst,S.snd.fst,S.snd.snd);let U:=bu (ck a7 - ck a8);let a9:=λ(u:Bool) ↦decide (kK (ck a2)=d)=u;let V:=λ(u:bn.b.T) (u_1:(o.bK.pair o.bK).T) (u_2:Rat) ↦(f [h u,a o u_1.fst,a o u_1.snd] 157 3 false).same (f [h (bu u_2).fst,a o (bu u_2).snd.fst,a o (bu u_2).snd.snd] 157 3 false);d<=c/\c<t/\c.toNat<(fL l).length/\de a2/\(a9 true->(n [a sF (fL l),m [h (bu b).fst,a o (bu b).snd.fst,a o (bu b).snd.snd]]).same a4)/\(a9 false->d<=t/\t<=t/\t*(56:Int)<=(140737488355328:Int)/\t<=(1000000000000:Int)/\((((e c).same (e c)/\(a sF (fL p)).same G/\A.same A/\B.same B/\C.same C/\D.same D/\(γ8 4 t.toNat 3).same H/\(a sF (fL l)).same J/\(e t).same K/\(γr .i64 0).same (e 0)/\True)/\V (bu b).fst (bu b).snd v/\V (bu pb).fst (bu pb).snd y/\E.same E/\V F.fst F.snd w/\(g (bn.b.pair (o.bK.pair o.bK)) (ε t.toNat M) 157 true).same (g sF (fu L 0 M) 157 true)/\True)/\d<=d/\d<=r)/\∀(x:Int),let W:=bj z x.toNat j;let X:=(W.fst,W.snd.fst,W.snd.snd);let Y:=bu (ck N*ck X);let Z:=(Y.fst,Y.snd.fst,Y.snd.snd);let q:=fu L x.toNat M;let s:=x+(1:Int);let R:=e s;let aa:=g sF (fu L s.toNat M) 157 true;let a0:=bj I x.toNat j;let ab:=(a0.fst,a0.snd.fst,a0.snd.snd);let ac:=de Z;let ad:=de N/\de X;let ae:=λ(u:Rat) ↦wz=q.length/\d<=x/\x<(↑q.length:Int)/\wz=q.length/\x.toNat<q.length/\bW .i64 s/\(((e c).same (e c)/\G.same G/\A.same A/\B.same B/\C.same C/\D.same D/\H.same H/\J.same J/\K.same K/\R.same R/\True)/\O.same O/\P.same P/\E.same E/\Q.same Q/\(g sF (q.set x.toNat ((bu u).fst,(bu u).snd.fst,(bu u).snd.snd)) 157 true).same aa/\True)/\(d<=s/\s<=r)/\(r - s).toNat<(r - x).toNat;let af:=λ(u:Bool) ↦decide (kK (ck X)=d)=u;let ag:=λ(u:List bP) ↦let a1:=bj u x.toNat j;de (a1.fst,a1.snd.fst,a1.snd.snd);d<=x/\x<=r->(decide (x<r)=true->d<=x/\x<(↑I.length:Int)/\x.toNat<I.length/\(decide (x=c)=true->d<=x/\x<(↑z.length:Int)/\x.toNat<z.length/\ad/\ac/\ae (-ck Z))/\(decide (x=c)=false->d<=x/\x<(↑z.length:Int)/\x.toNat<z.length/\ag z/\(af true->wz=q.length/\d<=x/\x<(↑q.length:Int)/\wz=q.length/\x.toNat<q.length/\bW .i64 s/\(((e c).same (e c)/\G.same G/\A.same A/\B.same B/\C.same C/\D.same D/\H.same H/\J.same J/\K.same K/\R.same R/\True)/\O.same O/\P.same P/\E.same E/\Q.same Q/\(g sF (q.set x.toNat ab) 157 true).same aa/\True)/\(d<=s/\s<=r)/\(r - s).toNat<(r - x).toNat)/\(af false->d<=x/\x<(↑z.length:Int)/\x.toNat<z.length/\ad/\(ag I/\ac)/\ae (ck ab - ck Z))))/\(decide (x<r)=false->(de N/\de a6)/\(de a7/\de a8)/\wz=q.length/\(n [a sF q,m [h U.fst,a o U.snd.fst,a o U.snd.snd]]).same a4))) (by kernel_rfl) ?_;simp only[mh,fa];try simp only[vcs]
 have hfl:=@fN l;have hfp:=@fN p;have hel:(j9 l c.toNat p).length=l.length:=En;have hfe:=@fN (j9 l c.toNat p);have hA:bj (fL l) c.toNat sF.dflt=bu (bj l c.toNat 0):=js (by omega);have hzc:=hl _ (cO (d:=0) (show c.toNat<l.length by omega));have hcast:∀k:Nat,((k:Nat):Int).toNat=k:=λk=>γt k;have hag:∀{x y:Rat},x=y->(γG [γI (bu x).1,Ψ (bn.i IntKind.u32) (bu x).2.1,Ψ (bn.i IntKind.u32) (bu x).2.2]).same (γG [γI (bu y).1,Ψ (bn.i IntKind.u32) (bu y).2.1,Ψ (bn.i IntKind.u32) (bu y).2.2]):=by rintro _ _ rfl;rfl
 have hrow:∀{x y:List bP},x=y->(bq.row sF x 157 true).same (bq.row sF y 157 true):=by rintro _ _ rfl;rfl
 simp only[hA,kN,fa,Tz,hcast];refine⟨c0,by omega,by omega,ei hzc (by omega),λhz=>⟨by rw[elim_none hz (by omega)],hag (by rw[hz];grind)⟩,λhz=>⟨by omega,by omega,by omega,by omega,⟨⟨⟨by rw[hfl];rfl,by omega⟩,rfl,hrow (by rw[Bd,hfe,hel,hfl])⟩,by omega,by omega⟩,?_⟩⟩;rintro j ⟨j0,j1⟩;have oP:=@Bc (fL (j9 l c.toNat p)) j.toNat (false,([],[])) (by omega);refine⟨λhj=>?_,λhj=>?_⟩
 ·have hP:bj (fL p) j.toNat sF.dflt=bu (bj p j.toNat 0):=js (by omega);have hL:bj (fL l) j.toNat sF.dflt=bu (bj l j.toNat 0):=js (by omega);have E2:=hp _ (cO (d:=0) (show j.toNat<p.length by omega));have hzl:=hl _ (cO (d:=0) (show j.toNat<l.length by omega));have hE:bj (fL (j9 l c.toNat p)) j.toNat (false,([],[]))=bu (if j.toNat=c.toNat then -(bj l c.toNat 0*bj p j.toNat 0) else bj l j.toNat 0 - bj l c.toNat 0*bj p j.toNat 0):=by
   rw[js (by omega),Eo (by omega)]
  have hm:=Az hzc E2;have tail:(0<=j+1/\j+1<=(l.length:Int))/\((l.length:Int) - (j+1)).toNat<((l.length:Int) - j).toNat:=by omega
  have step:∀{x:bP},x=bj (fL (j9 l c.toNat p)) j.toNat (false,([],[]))->(bq.row sF ((fu (fL (j9 l c.toNat p)) j.toNat (false,([],[]))).set j.toNat x) 157 true).same (bq.row sF (fu (fL (j9 l c.toNat p)) (j+1).toNat (false,([],[]))) 157 true):=λh=>hrow (by
   rw[Bf (by omega) h,show(j+1).toNat=j.toNat+1 by omega]);simp only[hP,hL,kN,fa,Tz];refine⟨j0,by omega,by omega,λhjc=>⟨j0,by omega,by omega,⟨ei hzc (by omega),ei E2 (by omega)⟩,ei hm (by omega),by omega,j0,by omega,by omega,by omega,by omega,step ?_,tail⟩,λhjc=>⟨j0,by omega,by omega,ei E2 (by omega),λhpz=>⟨by omega,j0,by omega,by omega,by omega,by omega,step ?_,tail⟩,λhpz=>⟨j0,by omega,by omega,⟨ei hzc (by omega),ei E2 (by omega)⟩,⟨ei hzl (by omega),ei hm (by omega)⟩,by omega,j0,by omega,by omega,by omega,by omega,step ?_,tail⟩⟩⟩;·rw[hE,if_pos (by omega)]
  ·rw[hE,if_neg (by omega),hpz];congr 1;grind
  ·rw[hE,if_neg (by omega)]
 ·rw[show j.toNat=(fL (j9 l c.toNat p)).length by omega,Be];exact⟨⟨ei hzc (by omega),ei hpb (by omega)⟩,⟨ei hb (by omega),ei (Az hzc hpb) (by omega)⟩,by omega,rfl,rfl⟩
def r408:cZ:=uG 217 (Int×Int) (.cons (dX .i64) (.one (dX .i64))) (λn m t a=>(0<=a.1/\a.1<m)/\(0<=a.2/\a.2<n)/\t.cf a.1.toNat a.2.toNat≠0) (λ_ _ _ _=> .bH []) (λ_ _ t a=>fJ t a.1.toNat a.2.toNat)
def pC (l:List Rat) (q:Rat):List Rat:=l.map λx=>x*q
def fC (q:Rat):bq:=.cells [.sb (bu q).1,.row (.i .u32) (bu q).2.1,.row (.i .u32) (bu q).2.2] 157 3 false
def iT {a:Type} (f g:Nat->a) (n r i:Nat):List a:=(τ n).map λk=>if k<i/\k≠r then g k else f k
theorem wA {a:Type} {f g:Nat->a} {n r i:Nat}:(iT f g n r i).length=n:=by simp[iT]
theorem UN {a:Type} {l:List a} {g:Nat->a} {r:Nat} {d:a}:iT (λk=>bj l k d) g l.length r 0=l:=by
 refine δi wA λi b c=>?_;grind[iT,bj]
theorem UO {a:Type} {f g:Nat->a} {n r i:Nat} {d:a} (h:i<n):bj (iT f g n r i) i d=f i:=by
 grind[iT,qZ]
theorem UP {a:Type} {f g:Nat->a} {n r i:Nat} (h:i<n) (d:i≠r):(iT f g n r i).set i (g i)=iT f g n r (i+1):=by
 refine δi (by simp[iT]) λk b c=>?_;grind[iT]
theorem UQ {a:Type} {f g:Nat->a} {n r:Nat}:iT f g n r (r+1)=iT f g n r r:=by
 grind[iT]
theorem UR {a:Type} {f g:Nat->a} {n r:Nat} {x:a} (h:r<n):(iT f g n r n).set r x=(τ n).map λk=>if k=r then x else g k:=by
 refine δi (by simp[iT]) λk b c=>?_;grind[iT]
theorem US {l:List (List Rat)} {i:Nat} {x:List Rat}:(fM l).set i (fL x)=fM (l.set i x):=by
 simp_all[fM]
theorem aev {l:List Rat} {c:Nat} (h:c<l.length):(fL (pC l (1 / bj l c 0))).set c (bu (1 / bj l c 0))=fL (kM l c):=by
 rw[yN];congr 1;refine δi (by simp[pC,kM]) λk d e=>?_;have b:k<l.length:=by grind[kM]
 rw[List.getElem_set];simp only[pC,kM,εy,List.getElem_range];by_cases a:c=k;·simp_all
 ·rw[if_neg a,if_neg λh=>a h.symm,cQ (i:=k) b]
def lj (t:Tb) (r c i:Nat):Tb:={t with
 cj:=iT (λk=>bj t.cj k []) (λk=>j9 (bj t.cj k []) c (kM (bj t.cj r []) c)) t.cj.length r i
 bound:=iT t.bd (λk=>t.bd k - t.cf k c*(t.bd r*(1 / t.cf r c))) t.bound.length r i}
theorem aew {t:Tb} {r c:Nat}:lj t r c 0=t:=by
 unfold lj;have b:=@UN (List Rat) t.cj (λk=>j9 (bj t.cj k []) c (kM (bj t.cj r []) c)) r [];have d:=@UN Rat t.bound (λk=>t.bd k - t.cf k c*(t.bd r*(1 / t.cf r c))) r 0;have a:iT t.bd (λk=>t.bd k - t.cf k c*(t.bd r*(1 / t.cf r c))) t.bound.length r 0=t.bound:=d;rw[b,a]
def aex (n m:Int) (t:Tb) (r c:Int):Nat->cC
 |3=> .inv Int (λj=>⟨[(0,.ptr 0 0 10),(1,.si .i64 r),(2,.si .i64 c),(6,.ptr 5 0 3),(8,.ow 6 n.toNat 3),(41,.row sF (fL (bj t.cj r.toNat []))),(42,.si .i64 n),(43,.si .i64 j)],
   (bG n m t).gB++[fC (1 / t.cf r.toNat c.toNat),.row sF (fu (fL (pC (bj t.cj r.toNat []) (1 / t.cf r.toNat c.toNat))) j.toNat (false,([],[]))) 157 true]⟩)
   (λs=>iS s 43) (λj=>0<=j/\j<=n) (λj=>(n - j).toNat) λ_ _=> .look
 |10=> .inv Int (λi=>⟨[(0,.ptr 0 0 10),(1,.si .i64 r),(2,.si .i64 c),(8,.row sF (fL (kM (bj t.cj r.toNat []) c.toNat))),(11,.ptr 7 0 3),(72,.si .i64 m),(73,.si .i64 i)],
   (bG n m (lj t r.toNat c.toNat i.toNat)).gB++[fC (1 / t.cf r.toNat c.toNat),.dead,fC (t.bd r.toNat*(1 / t.cf r.toNat c.toNat))]⟩)
   (λs=>iS s 73) (λj=>0<=j/\j<=m) (λj=>(m - j).toNat) λ_ _=> .look
 |_=> .look
theorem h408:dJ Tryz.prog r408:=by
 refine jm (L:=[qW,Ej,Ei,r417,Ax]) (W:=[]) r408 (λa=>aex a.1.n a.1.m a.1.t a.2.1 a.2.2) (by simp) (by simpa using⟨h94,h416,h410,h417,h129⟩) ?_;rintro⟨x,r,c⟩ ⟨n,m,t,hx,hok,⟨r0,r1⟩,⟨c0,c1⟩,ha⟩;simp only at hx r0 r1 c0 c1 ha;subst hx;refine bO (let a:=Ξ .i64;let d:=bq.row;let e:=(0:Int);let f:=Ψ;let g:=γ8;let h:=bq.cells;let j:=γI;let k:=(1:Int);let o:=sF.dflt;let s:=γr .i64 0;let w:=γV;let K:=(bG n m t).cj;let a0:=bj K r.toNat sF.bK.dflt;let af:=bu (γa k);let aB:=(af.fst,af.snd.fst,af.snd.snd);let ag:=bj a0 c.toNat o;let ah:=(ag.fst,ag.snd.fst,ag.snd.snd);let Q:=(↑(bG n m t).k4:Int);let L:=w 0 0 10;let a3:=w 5 0 3;let A:=(bG n m t).n;let ai:=g 6 A.toNat 3;let M:=(bG n m t).t;let S:=bj M.cj r.toNat [];let aj:=f sF (fL S);let a4:=a A;let G:=(bG n m t).m;let a5:=a G;let z:=bn.i .u32;let B:=bG A G M;let a6:=h [a B.n,a B.m,g 1 B.k0 1,g 2 B.k1 3,f sF B.cost,j B.v.fst,f z B.v.snd.fst,f z B.v.snd.snd,g 3 B.k3 1,g 4 B.k4 1] 267 10 false;let a7:=d sF.bK B.cj 91 false;let a8:=d sF B.bound 157 false;let C:=bn.i .i64;let a9:=d C B.basic 3 false;let aa:=d C B.free 3 false;let ak:=bu (ck aB / ck ah);let N:=(1:Rat) / M.cf r.toNat c.toNat;let R:=h [j (bu N).fst,f z (bu N).snd.fst,f z (bu N).snd.snd] 157 3 false;let ab:=(false,[],[]);let al:=fL (pC S N);let T:=((bu N).fst,(bu N).snd.fst,(bu N).snd.snd);let ac:=B.bound.length;let am:=bj B.bound r.toNat o;let aC:=(am.fst,am.snd.fst,am.snd.snd);let U:=fL (kM S c.toNat);let an:=f sF U;let ad:=w 7 0 3;let D:=bG A G (lj M r.toNat c.toNat 0);let ao:=bu (ck aC*ck T);let V:=bu (M.bd r.toNat*N);let ap:=h [j V.fst,f z V.snd.fst,f z V.snd.snd] 157 3 false;let W:=(V.fst,V.snd.fst,V.snd.snd);let E:=bG A G (fJ M r.toNat c.toNat);((-9223372036854775808:Int)<=k/\k<=(9223372036854775807:Int))/\(bG n m t).k0=K.length/\e<=r/\r<(↑K.length:Int)/\(bG n m t).k0=K.length/\r.toNat<K.length/\e<=c/\c<(↑a0.length:Int)/\c.toNat<a0.length/\((de aB/\de ah)/\ck ah≠(0:Rat))/\e<=Q/\Q<=Q/\Q*(56:Int)<=(140737488355328:Int)/\Q<=(1000000000000:Int)/\(bG n m t).k0=K.length/\e<=r/\r<(↑K.length:Int)/\(bG n m t).k0=K.length/\r.toNat<K.length/\(((L.same L/\(a r).same (a r)/\(a c).same (a c)/\a3.same a3/\(g 6 Q.toNat 3).same ai/\(f sF a0).same aj/\(a (↑a0.length:Int)).same a4/\(s).same (a 0)/\True)/\(h [a4,a5,g 1 (bG n m t).k0 1,g 2 (bG n m t).k1 3,f sF (bG n m t).cost,j (bG n m t).v.fst,f z (bG n m t).v.snd.fst,f z (bG n m t).v.snd.snd,g 3 (bG n m t).k3 1,g 4 (bG n m t).k4 1] 267 10 false).same a6/\(d sF.bK K 91 false).same a7/\(d sF (bG n m t).bound 157 false).same a8/\(d C (bG n m t).basic 3 false).same a9/\(d C (bG n m t).free 3 false).same aa/\(h [j ak.fst,f z ak.snd.fst,f z ak.snd.snd] 157 3 false).same R/\(d (bn.b.pair (z.bK.pair z.bK)) (ε Q.toNat ab) 157 true).same (d sF (fu al 0 ab) 157 true)/\True)/\e<=e/\e<=A)/\∀(x:Int),let aq:=bj (fL S) x.toNat o;let aD:=(aq.fst,aq.snd.fst,aq.snd.snd);let ae:=fu al x.toNat ab;let O:=ae.length;let X:=x+k;let aE:=a X;let ar:=bu (ck aD*ck T);e<=x/\x<=A->(decide (x<A)=true->e<=x/\x<(↑(fL S).length:Int)/\x.toNat<(fL S).length/\(de aD/\de T)/\A.toNat=O/\e<=x/\x<(↑O:Int)/\A.toNat=O/\x.toNat<O/\bW .i64 X/\((L.same L/\(a r).same (a r)/\(a c).same (a c)/\a3.same a3/\ai.same ai/\aj.same aj/\a4.same a4/\aE.same aE/\True)/\a6.same a6/\a7.same a7/\a8.same a8/\a9.same a9/\aa.same aa/\R.same R/\(d sF (ae.set x.toNat (ar.fst,ar.snd.fst,ar.snd.snd)) 157 true).same (d sF (fu al X.toNat ab) 157 true)/\True)/\(e<=X/\X<=A)/\(A - X).toNat<(A - x).toNat)/\(decide (x<A)=false->A.toNat=O/\e<=c/\c<(↑O:Int)/\A.toNat=O/\c.toNat<O/\B.k1=ac/\e<=r/\r<(↑ac:Int)/\B.k1=ac/\r.toNat<ac/\(de aC/\de T)/\A.toNat=(ae.set c.toNat T).length/\(((L.same L/\(a r).same (a r)/\(a c).same (a c)/\(f sF (ae.set c.toNat T)).same an/\ad.same ad/\(a (↑B.k0:Int)).same a5/\(s).same (a 0)/\True)/\a6.same (h [a D.n,a D.m,g 1 D.k0 1,g 2 D.k1 3,f sF D.cost,j D.v.fst,f z D.v.snd.fst,f z D.v.snd.snd,g 3 D.k3 1,g 4 D.k4 1] 267 10 false)/\a7.same (d sF.bK D.cj 91 false)/\a8.same (d sF D.bound 157 false)/\a9.same (d C D.basic 3 false)/\aa.same (d C D.free 3 false)/\R.same R/\bq.dead.same bq.dead/\(h [j ao.fst,f z ao.snd.fst,f z ao.snd.snd] 157 3 false).same ap/\True)/\e<=e/\e<=G)/\∀(x:Int),let y:=bG A G (lj M r.toNat c.toNat x.toNat);let aF:=a y.n;let aG:=a y.m;let aH:=g 1 y.k0 1;let aI:=g 2 y.k1 3;let Y:=y.cost;let aJ:=[g 3 y.k3 1,g 4 y.k4 1];let Z:=x+k;let F:=bG A G (lj M r.toNat c.toNat Z.toNat);let J:=y.basic;let aK:=a Z;let a1:=y.cj;let H:=a1.length;let a2:=y.bound;let I:=a2.length;let au:=bj a1 x.toNat sF.bK.dflt;let av:=bj a2 x.toNat o;let aL:=(av.fst,av.snd.fst,av.snd.snd);let aw:=bu (ck aL - bj (vL au) c.toNat (0:Rat)*ck W);let ax:=(y.v.fst,y.v.snd.fst,y.v.snd.snd);let ay:=bj Y c.toNat o;let aM:=(ay.fst,ay.snd.fst,ay.snd.snd);let az:=bu (ck aM*ck W);let aN:=(az.fst,az.snd.fst,az.snd.snd);let P:=y.free.length;let aA:=bu (ck ax+ck aN);let aP:=(h (aF::aG::aH::aI::f sF Y::j y.v.fst::f z y.v.snd.fst::f z y.v.snd.snd::aJ) 267 10 false).same (h [a F.n,a F.m,g 1 F.k0 1,g 2 F.k1 3,f sF F.cost,j F.v.fst,f z F.v.snd.fst,f z F.v.snd.snd,g 3 F.k3 1,g 4 F.k4 1] 267 10 false);let aQ:=(d C J 3 false).same (d C F.basic 3 false)/\(d C y.free 3 false).same (d C F.free 3 false)/\R.same R/\bq.dead.same bq.dead/\ap.same ap/\True;let aO:=λ(u u_1:bq) ↦bW .i64 Z/\((L.same L/\(a r).same (a r)/\(a c).same (a c)/\an.same an/\ad.same ad/\a5.same a5/\aK.same aK/\True)/\aP/\u.same (d sF.bK F.cj 91 false)/\u_1.same (d sF F.bound 157 false)/\aQ)/\(e<=Z/\Z<=G)/\(G - Z).toNat<(G - x).toNat;e<=x/\x<=G->(decide (x<G)=true->(decide (x≠r)=true->y.k0=H/\e<=x/\x<(↑H:Int)/\y.k0=H/\x.toNat<H/\y.k1=I/\e<=x/\x<(↑I:Int)/\y.k1=I/\x.toNat<I/\(∃(l:List Rat),∃(b:Rat),∃(p:List Rat),∃(pb:Rat),(au=fL l/\aL=bu b/\U=fL p/\W=bu pb)/\(l.length=p.length/\l.length<=1000)/\(e<=c/\c<(↑l.length:Int))/\(∀(q:Rat),q∈l->Sz 10000000 q)/\(∀(q:Rat),q∈p->Sz 10000000 q)/\Sz 10000000 b/\Sz 10000000 pb)/\y.k0=H/\e<=x/\x<(↑H:Int)/\y.k0=H/\x.toNat<H/\y.k1=I/\e<=x/\x<(↑I:Int)/\y.k1=I/\x.toNat<I/\aO (d sF.bK (a1.set x.toNat (fL (j9 (vL au) c.toNat (vL U)))) 91 false) (d sF (a2.set x.toNat (aw.fst,aw.snd.fst,aw.snd.snd)) 157 false))/\(decide (x≠r)=false->aO (d sF.bK a1 91 false) (d sF a2 157 false)))/\(decide (x<G)=false->e<=c/\c<(↑Y.length:Int)/\c.toNat<Y.length/\(∃(l:List Rat),∃(b:Rat),∃(p:List Rat),∃(pb:Rat),(Y=fL l/\ax=bu b/\U=fL p/\W=bu pb)/\(l.length=p.length/\l.length<=1000)/\(e<=c/\c<(↑l.length:Int))/\(∀(q:Rat),q∈l->Sz 10000000 q)/\(∀(q:Rat),q∈p->Sz 10000000 q)/\Sz 10000000 b/\Sz 10000000 pb)/\(de aM/\de W)/\(de ax/\de aN)/\y.k0=H/\e<=r/\r<(↑H:Int)/\y.k0=H/\r.toNat<H/\y.k1=I/\e<=r/\r<(↑I:Int)/\y.k1=I/\r.toNat<I/\y.k4=P/\e<=c/\c<(↑P:Int)/\y.k4=P/\c.toNat<P/\y.k3=J.length/\e<=r/\r<(↑J.length:Int)/\y.k3=J.length/\r.toNat<J.length/\y.k3=J.length/\e<=r/\r<(↑J.length:Int)/\y.k3=J.length/\r.toNat<J.length/\y.k4=P/\e<=c/\c<(↑P:Int)/\y.k4=P/\c.toNat<P/\(SV.bH []).same (SV.bH [])/\(h (aF::aG::aH::aI::f sF (fL (j9 (vL Y) c.toNat (vL U)))::j aA.fst::f z aA.snd.fst::f z aA.snd.snd::aJ) 267 10 false).same (h [a E.n,a E.m,g 1 E.k0 1,g 2 E.k1 3,f sF E.cost,j E.v.fst,f z E.v.snd.fst,f z E.v.snd.snd,g 3 E.k3 1,g 4 E.k4 1] 267 10 false)/\(d sF.bK (a1.set r.toNat U) 91 false).same (d sF.bK E.cj 91 false)/\(d sF (a2.set r.toNat W) 157 false).same (d sF E.bound 157 false)/\(d C (J.set r.toNat (bj y.free c.toNat e)) 3 false).same (d C E.basic 3 false)/\(d C (y.free.set c.toNat (bj J r.toNat e)) 3 false).same (d C E.free 3 false)/\True))) (by kernel_rfl) ?_;conv=>zeta
 try simp only[sY]
 try simp only[bG]
 try simp only[vcs]
 obtain⟨⟨⟨n0,n1⟩,m0,m1⟩,hw,hz⟩:=id hok;have hkl:=hw.cj;have hbl:=hw.bound;have hbb:=hw.basic;have hfl:=hw.free;have hcl:=hw.cost;have hfm:=@J8 t.cj;have zj:=@fN t.bound;have hrl:=hw.row r.toNat (by omega);have hcast:∀k:Nat,((k:Nat):Int).toNat=k:=λk=>γt k;have h1:(γa 1:Rat)=1:=rfl;have hR:bj (fM t.cj) r.toNat sF.bK.dflt=fL (bj t.cj r.toNat []):=J9 (by omega);have hA:bj (fL (bj t.cj r.toNat [])) c.toNat sF.dflt=bu (t.cf r.toNat c.toNat):=js (by omega);have hB:bj (fL t.bound) r.toNat sF.dflt=bu (t.bd r.toNat):=js (by omega);simp only[hR,hA,hB,kN,fa,hcast,h1];have hsA:=hok.cf (i:=r.toNat) (j:=c.toNat) (by omega) (by omega);have hsB:=hok.bd (i:=r.toNat) (by omega);have s1:Sz 1 (1:Rat):=by unfold Sz;decide
 have hsI:=JV s1 hsA ha;have hsP:=Az hsB hsI;have hfr:=@fN (bj t.cj r.toNat []);have hsl:(pC (bj t.cj r.toNat []) (1 / t.cf r.toNat c.toNat)).length=n.toNat:=by unfold pC;rw[γB];exact hrl
 have hfs:=@fN (pC (bj t.cj r.toNat []) (1 / t.cf r.toNat c.toNat));have hrow:∀{x y:List bP},x=y->(bq.row sF x 157 true).same (bq.row sF y 157 true):=by rintro _ _ rfl;rfl
 refine⟨by omega,by omega,r0,by omega,by omega,by omega,c0,by omega,by omega,⟨⟨ei s1 (by omega),ei hsA (by omega)⟩,ha⟩,by omega,by omega,by omega,by omega,by omega,r0,by omega,by omega,by omega,⟨⟨⟨by rw[hfl];rfl,trivial,by omega⟩,rfl,hrow (by rw[Bd,hfs,hsl,hfl])⟩,by omega,by omega⟩,?_⟩;rintro j ⟨j0,j1⟩;have oP:=@Bc (fL (pC (bj t.cj r.toNat []) (1 / t.cf r.toNat c.toNat))) j.toNat (false,([],[])) (by omega);refine⟨λhj=>?_,λhj=>?_⟩
 ·have hL:bj (fL (bj t.cj r.toNat [])) j.toNat sF.dflt=bu (t.cf r.toNat j.toNat):=js (by omega);have hS:bj (fL (pC (bj t.cj r.toNat []) (1 / t.cf r.toNat c.toNat))) j.toNat (false,([],[]))=bu (t.cf r.toNat j.toNat*(1 / t.cf r.toNat c.toNat)):=by
   rw[js (by omega),cQ (by omega)];unfold pC Tb.cf;rw[εy,cQ (l:=bj t.cj r.toNat []) (i:=j.toNat) (by omega)]
  simp only[hL,fa];refine⟨j0,by omega,by omega,⟨ei (hok.cf (by omega) (by omega)) (by omega),ei hsI (by omega)⟩,by omega,j0,by omega,by omega,by omega,by omega,hrow ?_,by omega,by omega⟩;rw[Bf (by omega) hS.symm,show(j+1).toNat=j.toNat+1 by omega]
 ·have hset:(fu (fL (pC (bj t.cj r.toNat []) (1 / t.cf r.toNat c.toNat))) j.toNat (false,([],[]))).set c.toNat (bu (1 / t.cf r.toNat c.toNat))=fL (kM (bj t.cj r.toNat []) c.toNat):=by
   rw[show j.toNat=(fL (pC (bj t.cj r.toNat []) (1 / t.cf r.toNat c.toNat))).length by omega,Be];exact aev (by omega)
  have hpl:(kM (bj t.cj r.toNat []) c.toNat).length=n.toNat:=by rw[S3];exact hrl
  have hfp:=@fN (kM (bj t.cj r.toNat []) c.toNat);simp only[hset,aew];have UT:∀q∈kM (bj t.cj r.toNat []) c.toNat,Sz 10000000 q:=λq hq=>by
   obtain⟨k,hk,rfl⟩:=γg.1 hq;rw[γL] at hk;split;·exact hsI.mono (by omega)
   ·exact(Az (hok.cf (i:=r.toNat) (j:=k) (by omega) (by omega)) hsI).mono (by omega)
  refine⟨by omega,c0,by omega,by omega,by omega,by omega,r0,by omega,by omega,by omega,⟨ei hsB (by omega),ei hsI (by omega)⟩,by omega,⟨⟨⟨trivial,by omega⟩,rfl,rfl,rfl,rfl,rfl,rfl⟩,by omega,by omega⟩,?_⟩;rintro i ⟨i0,i1⟩;have ekl:(lj t r.toNat c.toNat i.toNat).cj.length=m.toNat:=by show(iT _ _ _ _ _).length=_;rw[wA];exact hkl
  have ebl:(lj t r.toNat c.toNat i.toNat).bound.length=m.toNat:=by show(iT _ _ _ _ _).length=_;rw[wA];exact hbl
  have efm:=@J8 (lj t r.toNat c.toNat i.toNat).cj;have efb:=@fN (lj t r.toNat c.toNat i.toNat).bound;have hfc:=@fN t.cost;have aeA:∀{a b:Tb},a.cj.length=b.cj.length->a.bound.length=b.bound.length->a.cost=b.cost->a.value=b.value->a.basic.length=b.basic.length->a.free.length=b.free.length->
    (bq.cells [.si .i64 n,.si .i64 m,.ow 1 a.cj.length 1,.ow 2 a.bound.length 3,.row sF (fL a.cost),.sb (bu a.value).1,.row (.i .u32) (bu a.value).2.1,.row (.i .u32) (bu a.value).2.2,.ow 3 a.basic.length 1,.ow 4 a.free.length 1] 267 10 false).same
    (bq.cells [.si .i64 n,.si .i64 m,.ow 1 b.cj.length 1,.ow 2 b.bound.length 3,.row sF (fL b.cost),.sb (bu b.value).1,.row (.i .u32) (bu b.value).2.1,.row (.i .u32) (bu b.value).2.2,.ow 3 b.basic.length 1,.ow 4 b.free.length 1] 267 10 false):=λh1 h2 h3 h4 h5 h6=>by
   rw[h1,h2,h3,h4,h5,h6];rfl
  have UU:∀{x y:List (List bP)},x=y->(bq.row sF.bK x 91 false).same (bq.row sF.bK y 91 false):=by rintro _ _ rfl;rfl
  have UW:∀{x y:List bP},x=y->(bq.row sF x 157 false).same (bq.row sF y 157 false):=by rintro _ _ rfl;rfl
  have UX:∀{x y:List Int},x=y->(bq.row (.i .i64) x 3 false).same (bq.row (.i .i64) y 3 false):=by rintro _ _ rfl;rfl
  refine⟨λhi=>⟨λhir=>?_,λhir=>?_⟩,λhi=>?_⟩
  ·have hRi:bj (fM (lj t r.toNat c.toNat i.toNat).cj) i.toNat sF.bK.dflt=fL (bj t.cj i.toNat []):=by
    rw[J9 (by omega)];congr 1;exact UO (by omega)
   have hBi:bj (fL (lj t r.toNat c.toNat i.toNat).bound) i.toNat sF.dflt=bu (t.bd i.toNat):=by
    rw[js (by omega)];congr 1;exact UO (by omega)
   have hli:=hw.row i.toNat (by omega);simp only[hRi,hBi,mh,fa];refine⟨by omega,i0,by omega,by omega,by omega,by omega,i0,by omega,by omega,by omega,⟨bj t.cj i.toNat [],t.bd i.toNat,kM (bj t.cj r.toNat []) c.toNat,t.bd r.toNat*(1 / t.cf r.toNat c.toNat),⟨rfl,rfl,rfl,rfl⟩,⟨by omega,by omega⟩,⟨c0,by omega⟩,λq hq=>?_,UT,(hok.bd (by omega)).mono (by omega),hsP.mono (by omega)⟩,by omega,i0,by omega,by omega,by omega,by omega,i0,by omega,by omega,by omega,by omega,⟨aeA ?_ ?_ rfl rfl rfl rfl,UU ?_,UW ?_,rfl,rfl⟩,by omega,by omega⟩;·exact(hz.1 _ (cO (d:=[]) (by omega)) q hq).mono (by omega)
   ·show(iT _ _ _ _ _).length=(iT _ _ _ _ _).length;rw[wA,wA]
   ·show(iT _ _ _ _ _).length=(iT _ _ _ _ _).length;rw[wA,wA]
   ·rw[US,show(i+1).toNat=i.toNat+1 by omega];congr 1;exact UP (by omega) (by omega)
   ·rw[yN,show(i+1).toNat=i.toNat+1 by omega];congr 1;exact UP (f:=t.bd) (g:=λk=>t.bd k - t.cf k c.toNat*(t.bd r.toNat*(1 / t.cf r.toNat c.toNat))) (by omega) (by omega)
  ·have e:lj t r.toNat c.toNat (i+1).toNat=lj t r.toNat c.toNat i.toNat:=by
    rw[show(i+1).toNat=r.toNat+1 by omega,show i.toNat=r.toNat by omega];unfold lj;rw[UQ,UQ]
   rw[e];refine⟨?_,⟨rfl,rfl,rfl,rfl,rfl⟩,?_,?_⟩<;>omega
  ·have UY:=hok.cs (j:=c.toNat) (by omega);have hC:bj (fL t.cost) c.toNat sF.dflt=bu (t.cs c.toNat):=js (by omega);have hcc:(lj t r.toNat c.toNat i.toNat).cost=t.cost:=rfl;have hvv:(lj t r.toNat c.toNat i.toNat).value=t.value:=rfl;have hff:(lj t r.toNat c.toNat i.toNat).free=t.free:=rfl;have hbs:(lj t r.toNat c.toNat i.toNat).basic=t.basic:=rfl;simp only[hC,hcc,hvv,hff,hbs,mh,fa];refine⟨c0,by omega,by omega,⟨t.cost,t.value,kM (bj t.cj r.toNat []) c.toNat,t.bd r.toNat*(1 / t.cf r.toNat c.toNat),⟨rfl,rfl,rfl,rfl⟩,⟨by omega,by omega⟩,⟨c0,by omega⟩,λq hq=>(hz.2.2.1 q hq).mono (by omega),UT,hz.2.2.2.mono (by omega),hsP.mono (by omega)⟩,⟨ei UY (by omega),ei hsP (by omega)⟩,⟨ei hz.2.2.2 (by omega),ei (Az UY hsP) (by omega)⟩,
    by omega,r0,by omega,by omega,by omega,by omega,r0,by omega,by omega,by omega,c0,by omega,by omega,r0,by omega,by omega,r0,by omega,by omega,c0,by omega,by omega,?_,UU ?_,UW ?_,UX rfl,UX rfl⟩
   ·have hpw:=S4 (r:=r.toNat) (c:=c.toNat) hw;rw[ekl,ebl,hbb,hfl,hpw.cj,hpw.bound,hpw.basic,hpw.free];rfl
   ·rw[US,show i.toNat=t.cj.length by omega];congr 1;exact UR (by omega)
   ·rw[yN,show i.toNat=t.bound.length by omega];congr 1;exact UR (by omega)
def okO (n m:Nat) (t:Tb):Prop:=∃a M G,Small n m M G a/\Run n m a t/\kg m t
theorem aeE {n m:Nat} {t:Tb} (h:okO n m t):fb n m (uM n m t) t=true:=by
 obtain⟨e,M,G,c,b,a⟩:=h;have d:=J7 b a;unfold uM;grind
noncomputable def Lj:cZ:=uG 187 Unit .nil (λn m t _=>okO n.toNat m.toNat t) (λn m t _=> .bH [.si .i64 (if eh (lastT n.toNat m.toNat t) n.toNat<0 then 0 else eh (lastT n.toNat m.toNat t) n.toNat),.sb (decide (eh (lastT n.toNat m.toNat t) n.toNat<0))]) (λn m t _=>lastT n.toNat m.toNat t)
def tS (t:Tb) (s:cq):Tb:=match Et s.o with
 |some x=>x.t
 |none=>t
noncomputable def aeF (n m:Int) (t:Tb):Nat->cC
 |1=> .inv Tb (λx=>⟨[(0,.ptr 0 0 10)],(bG n m x).gB⟩) (tS t) (λx=>okO n.toNat m.toNat x/\lastT n.toNat m.toNat x=lastT n.toNat m.toNat t/\fb n.toNat m.toNat (uM n.toNat m.toNat t) x=true) (λx=>yx n.toNat m.toNat (uM n.toNat m.toNat t) x) λ_ _=> .look
 |_=> .look
theorem aeG {n m:Int} {t:Tb} (h:okO n.toNat m.toNat t) (e:0<=n/\n<=1000) (f:0<=m/\m<=1000):kO n m t:=by
 obtain⟨c,M,G,a,b,d⟩:=h;grind[UB]
theorem h402:dJ Tryz.prog Lj:=by
 refine jm (L:=[]) (W:=[Kp,Kq,r408]) Lj (λa=>aeF a.1.n a.1.m a.1.t) (by simpa using⟨h411,h412,h408⟩) (by simp) ?_;rintro⟨x,u⟩ ⟨n,m,t,hx,hok,hd⟩;simp only at hx hd;subst hx;refine bO (let a:=bq.row;let b:=Ξ .i64;let c:=γ8;let d:=Ψ;let e:=bq.cells;let f:=(0:Int);let g:=γI;let h:=SV.bH;let I:=γV 0 0 10;let D:=(bG n m t).n;let E:=(bG n m t).m;let r:=bn.i .u32;let F:=(bG n m t).t;let l:=bG D E F;let o:=bn.i .i64;let k:=D.toNat;let s:=E.toNat;let B:=lastT k s F;let G:=uM k s F;let K:=h [b (if eh B k<f then f else eh B k),g (decide (eh B k<f))];let p:=bG D E B;let L:=e [b p.n,b p.m,c 1 p.k0 1,c 2 p.k1 3,d sF p.cost,g p.v.fst,d r p.v.snd.fst,d r p.v.snd.snd,c 3 p.k3 1,c 4 p.k4 1] 267 10 false;let M:=a sF.bK p.cj 91 false;let N:=a sF p.bound 157 false;let O:=a o p.basic 3 false;let P:=a o p.free 3 false;(((I.same I/\True)/\(e [b D,b E,c 1 (bG n m t).k0 1,c 2 (bG n m t).k1 3,d sF (bG n m t).cost,g (bG n m t).v.fst,d r (bG n m t).v.snd.fst,d r (bG n m t).v.snd.snd,c 3 (bG n m t).k3 1,c 4 (bG n m t).k4 1] 267 10 false).same (e [b l.n,b l.m,c 1 l.k0 1,c 2 l.k1 3,d sF l.cost,g l.v.fst,d r l.v.snd.fst,d r l.v.snd.snd,c 3 l.k3 1,c 4 l.k4 1] 267 10 false)/\(a sF.bK (bG n m t).cj 91 false).same (a sF.bK l.cj 91 false)/\(a sF (bG n m t).bound 157 false).same (a sF l.bound 157 false)/\(a o (bG n m t).basic 3 false).same (a o l.basic 3 false)/\(a o (bG n m t).free 3 false).same (a o l.free 3 false)/\True)/\okO k s F/\B=B/\fb k s G F=true)/\∀(x:Tb),let y:=bG D E x;let z:=eh y.t y.n.toNat;let Q:=decide (z<f);let j:=bG y.n y.m y.t;let H:=dR j.t z.toNat j.m.toNat;let R:=decide (H<f);let C:=bG j.n j.m j.t;let S:=fJ C.t H.toNat z.toNat;let A:=bG C.n C.m S;let q:=bG D E A.t;let T:=λ(u u_1:Int) (u_2 u_3:Tb) (u_4:bq) ↦let J:=bG u u_1 u_2;let U:=bG J.n J.m J.t;let w:=bG U.n U.m u_3;(e [b w.n,b w.m,c 1 w.k0 1,c 2 w.k1 3,d sF w.cost,g w.v.fst,d r w.v.snd.fst,d r w.v.snd.snd,c 3 w.k3 1,c 4 w.k4 1] 267 10 false).same u_4;okO k s x/\lastT k s x=B/\fb k s G x=true->(∃(n:Int),∃(m:Int),∃(t:Tb),y=bG n m t/\kO n m t/\True)/\(Q=true->(h [γr .i64 0,δw true]).same K/\(e [b j.n,b j.m,c 1 j.k0 1,c 2 j.k1 3,d sF j.cost,g j.v.fst,d r j.v.snd.fst,d r j.v.snd.snd,c 3 j.k3 1,c 4 j.k4 1] 267 10 false).same L/\(a sF.bK j.cj 91 false).same M/\(a sF j.bound 157 false).same N/\(a o j.basic 3 false).same O/\(a o j.free 3 false).same P/\True)/\(Q=false->(∃(n:Int),∃(m:Int),∃(t:Tb),j=bG n m t/\kO n m t/\f<=z/\z<n)/\(R=true->(h [b z,δw false]).same K/\T D E x j.t L/\(a sF.bK C.cj 91 false).same M/\(a sF C.bound 157 false).same N/\(a o C.basic 3 false).same O/\(a o C.free 3 false).same P/\True)/\(R=false->(∃(n:Int),∃(m:Int),∃(t:Tb),C=bG n m t/\kO n m t/\(f<=H/\H<m)/\(f<=z/\z<n)/\t.cf H.toNat z.toNat≠(0:Rat))/\0=0/\((I.same I/\True)/\T y.n y.m y.t S (e [b q.n,b q.m,c 1 q.k0 1,c 2 q.k1 3,d sF q.cost,g q.v.fst,d r q.v.snd.fst,d r q.v.snd.snd,c 3 q.k3 1,c 4 q.k4 1] 267 10 false)/\(a sF.bK A.cj 91 false).same (a sF.bK q.cj 91 false)/\(a sF A.bound 157 false).same (a sF q.bound 157 false)/\(a o A.basic 3 false).same (a o q.basic 3 false)/\(a o A.free 3 false).same (a o q.free 3 false)/\True)/\(okO k s A.t/\lastT k s A.t=B/\fb k s G A.t=true)/\yx k s G A.t<yx k s G x))) (by kernel_rfl) ?_;simp only[acV,sY,Tt,Tv];try simp only[vcs]
 obtain⟨⟨hn,hm⟩,hw,hz⟩:=id hok;refine⟨⟨hd,aeE hd⟩,?_⟩;rintro x ⟨hx,hl,he⟩;have E3:=aeG hx hn hm;have hs:stepT n.toNat m.toNat x=if eh x n.toNat<0 then none else if dR x (eh x n.toNat).toNat m.toNat<0 then none else some (fJ x (dR x (eh x n.toNat).toNat m.toNat).toNat (eh x n.toNat).toNat):=rfl;have hwx:=E3.2.1;have fin:∀{y:Tb},y=lastT n.toNat m.toNat t->bG n m y=bG n m (lastT n.toNat m.toNat t):=by rintro _ rfl;rfl
 refine⟨⟨n,m,x,rfl,E3⟩,λh0=>?_,λh0=>?_⟩
 ·rw[if_pos h0] at hs;have e:=UG hs;rw[hl] at e;rw[<-e] at h0 ⊢;rw[if_pos h0,decide_eq_true h0];exact⟨⟨rfl,rfl⟩,rfl,rfl,rfl,rfl,rfl⟩
 ·have h0':¬eh x n.toNat<0:=h0;rw[if_neg h0'] at hs;rcases @wb x n.toNat with⟨e1,e2⟩|⟨c,e1,e2,e3,e4⟩;·omega
  ·refine⟨⟨n,m,x,rfl,E3,by omega,by omega⟩,λh1=>?_,λh1=>?_⟩
   ·rw[if_pos h1] at hs;have e:=UG hs;rw[hl] at e;rw[e,if_neg h0',decide_eq_false h0'];exact⟨⟨rfl,rfl⟩,rfl,rfl,rfl,rfl,rfl⟩
   ·have h1':¬dR x (eh x n.toNat).toNat m.toNat<0:=h1;rw[if_neg h1'] at hs;rcases @wh x (eh x n.toNat).toNat m.toNat with⟨l1,l2⟩|⟨r,l1,l2,l3,l4⟩;·omega
    ·refine⟨⟨n,m,x,rfl,E3,⟨by omega,by omega⟩,⟨by omega,by omega⟩,?_⟩,?_⟩;·rw[l1,γt];grind
     ·obtain⟨t0,M,G,g1,g2,g3⟩:=hx;have hsr:=J5 g2 g3 hs;have aeH:=J7 g2 g3;refine⟨⟨⟨t0,M,G,g1,hsr.1,hsr.2⟩,?_,Tq he hs⟩,left_step he hs⟩;rw[aen aeH hs,hl]
def gl (t:Tb) (n:Nat):Nat->List Rat
 |0=>ε n 0
 |k+1=>if t.bv k<n then(gl t n k).set (t.bv k).toNat (t.bd k) else gl t n k
def kR (t:Tb) (n m:Nat):Nat->List Rat
 |0=>ε m 0
 |k+1=>if(n:Int)<=t.fv k/\t.fv k<n+m then(kR t n m k).set (t.fv k - n).toNat (-(t.cs k)) else kR t n m k
theorem E4 {t:Tb} {n:Nat}:∀{k:Nat},(gl t n k).length=n
 |0=>by simp[gl];|k+1=>by
  have:=@E4 t n k;grind[gl]
theorem UZ {t:Tb} {n m:Nat}:∀{k:Nat},(kR t n m k).length=m
 |0=>by simp[kR];|k+1=>by
  have:=@UZ t n m k;grind[kR]
def E5:cZ:=uG 188 Unit .nil (λ_ _ t _=>∀v∈t.basic,0<=v) (λn m t _=> .row sF (fL (gl t n.toNat m.toNat))) (λ_ _ t _=>t)
def aeI (n m:Int) (t:Tb):Nat->cC
 |3=> .inv Int (λi=>⟨[(0,.ptr 0 0 10),(3,.ow 5 n.toNat 3),(14,.ow 3 t.basic.length 1),(15,.si .i64 t.basic.length),(16,.si .i64 i)],(bG n m t).gB++[.row sF (fL (gl t n.toNat i.toNat)) 157 false]⟩)
   (λs=>iS s 16) (λi=>0<=i/\i<=m) (λi=>(m - i).toNat) λ_ _=> .look
 |_=> .look
theorem h403:dJ Tryz.prog E5:=by
 refine jm (L:=[]) (W:=[r413]) E5 (λa=>aeI a.1.n a.1.m a.1.t) (by simpa using h413) (by simp) ?_;rintro⟨x,u⟩ ⟨n,m,t,hx,hok,hd⟩;simp only at hx hd;subst hx;refine bO (let a:=bq.row;let b:=Ξ .i64;let c:=(0:Int);let d:=Ψ;let e:=γ8;let p:=(bG n m t).n;let B:=γV 0 0 10;let g:=p.toNat;let C:=e 5 g 3;let J:=e 3 (bG n m t).k3 1;let k:=(bG n m t).t;let q:=k.basic.length;let G:=e 3 q 1;let H:=b (↑q:Int);let h:=(bG n m t).m;let D:=bn.i .u32;let f:=bG p h k;let r:=bq.cells [b f.n,b f.m,e 1 f.k0 1,e 2 f.k1 3,d sF f.cost,γI f.v.fst,d D f.v.snd.fst,d D f.v.snd.snd,e 3 f.k3 1,e 4 f.k4 1] 267 10 false;let s:=a sF.bK f.cj 91 false;let w:=a sF f.bound 157 false;let E:=bn.i .i64;let l:=f.basic;let y:=a E l 3 false;let z:=a E f.free 3 false;let F:=f.bound.length;(c<=p/\p<=(1000:Int))/\(((B.same B/\C.same C/\J.same G/\(b (↑(bG n m t).k3:Int)).same H/\(γr .i64 0).same (b 0)/\True)/\(bq.cells [b p,b h,e 1 (bG n m t).k0 1,e 2 (bG n m t).k1 3,d sF (bG n m t).cost,γI (bG n m t).v.fst,d D (bG n m t).v.snd.fst,d D (bG n m t).v.snd.snd,J,e 4 (bG n m t).k4 1] 267 10 false).same r/\(a sF.bK (bG n m t).cj 91 false).same s/\(a sF (bG n m t).bound 157 false).same w/\(a E (bG n m t).basic 3 false).same y/\(a E (bG n m t).free 3 false).same z/\(a sF (fL (ε g (0:Rat))) 157 false).same (a sF (fL (gl k g 0)) 157 false)/\True)/\c<=c/\c<=h)/\∀(x:Int),let o:=x+(1:Int);let K:=b o;let L:=decide (x<(↑q:Int));let A:=bj l x.toNat c;let M:=decide (A<f.n);let j:=fL (gl k g x.toNat);let I:=bj f.bound x.toNat sF.dflt;let N:=λ(u:bq) ↦bW .i64 o/\((B.same B/\C.same C/\G.same G/\H.same H/\K.same K/\True)/\r.same r/\s.same s/\w.same w/\y.same y/\z.same z/\u.same (a sF (fL (gl k g o.toNat)) 157 false)/\True)/\(c<=o/\o<=h)/\(h - o).toNat<(h - x).toNat;c<=x/\x<=h->(L=true->q=l.length/\c<=x/\x<(↑l.length:Int)/\q=l.length/\x.toNat<l.length/\(M=true->f.k1=F/\c<=x/\x<(↑F:Int)/\f.k1=F/\x.toNat<F/\g=j.length/\c<=A/\A<(↑j.length:Int)/\g=j.length/\A.toNat<j.length/\N (a sF (j.set A.toNat (I.fst,I.snd.fst,I.snd.snd)) 157 false))/\(M=false->N (a sF j 157 false)))/\(L=false->g=j.length/\(d sF j).same (d sF (fL (gl k g h.toNat)))/\r.same r/\s.same s/\w.same w/\y.same y/\z.same z/\True)) (by kernel_rfl) ?_;simp only[sY];try simp only[bG]
 simp only[vcs];obtain⟨⟨⟨n0,n1⟩,m0,m1⟩,hw,hz⟩:=id hok;have hbb:=hw.basic;have hbl:=hw.bound;have zj:=@fN t.bound;have hbv:∀k:Nat,bj t.basic k 0=t.bv k:=λk=>rfl;have hrow:∀{x y:List bP},x=y->(bq.row sF x 157 false).same (bq.row sF y 157 false):=by rintro _ _ rfl;rfl
 refine⟨⟨n0,n1⟩,⟨hrow rfl,by omega,by omega⟩,?_⟩;rintro i ⟨i0,i1⟩;have hpl:=@E4 t n.toNat i.toNat;have hfp:=@fN (gl t n.toNat i.toNat);refine⟨λhi=>?_,λhi=>⟨by omega,by rw[show i.toNat=m.toNat by omega]⟩⟩;have hv:=hd _ (AI hw (show i.toNat<m.toNat by omega));have hB:bj (fL t.bound) i.toNat sF.dflt=bu (t.bd i.toNat):=js (by omega);have hs:gl t n.toNat (i+1).toNat=if t.bv i.toNat<n.toNat then(gl t n.toNat i.toNat).set (t.bv i.toNat).toNat (t.bd i.toNat) else gl t n.toNat i.toNat:=by
  rw[show(i+1).toNat=i.toNat+1 by omega];rfl
 simp only[hbv,hB,kN,hs];refine⟨i0,hi,by omega,λhlt=>⟨by omega,i0,by omega,by omega,by omega,by omega,hv,by omega,by omega,by omega,by omega,hrow ?_,by omega,by omega⟩,λhlt=>⟨by omega,hrow ?_,by omega,by omega⟩⟩;·rw[yN,if_pos (by omega)]
 ·rw[if_neg (by omega)]
def E6:cZ:=uG 190 Unit .nil (λ_ _ t _=>True) (λn m t _=> .row sF (fL (kR t n.toNat m.toNat n.toNat))) (λ_ _ t _=>t)
def aeJ (n m:Int) (t:Tb):Nat->cC
 |3=> .inv Int (λi=>⟨[(0,.ptr 0 0 10),(3,.ow 5 m.toNat 3),(14,.ow 4 t.free.length 1),(15,.si .i64 t.free.length),(16,.si .i64 i)],(bG n m t).gB++[.row sF (fL (kR t n.toNat m.toNat i.toNat)) 157 false]⟩)
   (λs=>iS s 16) (λi=>0<=i/\i<=n) (λi=>(n - i).toNat) λ_ _=> .look
 |_=> .look
theorem h405:dJ Tryz.prog E6:=by
 refine jm (L:=[yn]) (W:=[r413]) E6 (λa=>aeJ a.1.n a.1.m a.1.t) (by simpa using h413) (by simpa using h130) ?_;rintro⟨x,u⟩ ⟨n,m,t,hx,hok,hd⟩;simp only at hx hd;subst hx;refine bO (let a:=bq.row;let b:=Ξ .i64;let c:=(0:Int);let d:=Ψ;let e:=γ8;let f:=bW .i64;let A:=(bG n m t).m;let u:=γV 0 0 10;let k:=A.toNat;let w:=e 5 k 3;let M:=e 4 (bG n m t).k4 1;let y:=(bG n m t).t;let B:=y.free.length;let C:=e 4 B 1;let D:=b (↑B:Int);let h:=(bG n m t).n;let G:=bn.i .u32;let g:=bG h A y;let o:=bq.cells [b g.n,b g.m,e 1 g.k0 1,e 2 g.k1 3,d sF g.cost,γI g.v.fst,d G g.v.snd.fst,d G g.v.snd.snd,e 3 g.k3 1,e 4 g.k4 1] 267 10 false;let p:=a sF.bK g.cj 91 false;let q:=a sF g.bound 157 false;let H:=bn.i .i64;let r:=a H g.basic 3 false;let z:=g.free;let s:=a H z 3 false;let E:=h.toNat;(c<=A/\A<=(1000:Int))/\(((u.same u/\w.same w/\M.same C/\(b (↑(bG n m t).k4:Int)).same D/\(γr .i64 0).same (b 0)/\True)/\(bq.cells [b h,b A,e 1 (bG n m t).k0 1,e 2 (bG n m t).k1 3,d sF (bG n m t).cost,γI (bG n m t).v.fst,d G (bG n m t).v.snd.fst,d G (bG n m t).v.snd.snd,e 3 (bG n m t).k3 1,M] 267 10 false).same o/\(a sF.bK (bG n m t).cj 91 false).same p/\(a sF (bG n m t).bound 157 false).same q/\(a H (bG n m t).basic 3 false).same r/\(a H (bG n m t).free 3 false).same s/\(a sF (fL (ε k (0:Rat))) 157 false).same (a sF (fL (kR y E k 0)) 157 false)/\True)/\c<=c/\c<=h)/\∀(x:Int),let j:=x+(1:Int);let I:=b j;let l:=fL (kR y E k x.toNat);let N:=a sF (fL (kR y E k j.toNat)) 157 false;let O:=decide (x<(↑B:Int));let J:=bj z x.toNat c;let P:=decide (g.n<=J);let Q:=decide (J<g.n+g.m);let F:=J - g.n;let K:=bj g.cost x.toNat sF.dflt;let L:=(K.fst,K.snd.fst,K.snd.snd);let R:=(bu (-ck L)).snd;let S:=f j/\((u.same u/\w.same w/\C.same C/\D.same D/\I.same I/\True)/\o.same o/\p.same p/\q.same q/\r.same r/\s.same s/\(a sF l 157 false).same N/\True)/\(c<=j/\j<=h)/\(h - j).toNat<(h - x).toNat;c<=x/\x<=h->(O=true->B=z.length/\c<=x/\x<(↑z.length:Int)/\B=z.length/\x.toNat<z.length/\(P=true->f (g.n+g.m)/\(Q=true->f F/\c<=x/\x<(↑g.cost.length:Int)/\x.toNat<g.cost.length/\de L/\k=l.length/\c<=F/\F<(↑l.length:Int)/\k=l.length/\F.toNat<l.length/\f j/\((u.same u/\w.same w/\C.same C/\D.same D/\I.same I/\True)/\o.same o/\p.same p/\q.same q/\r.same r/\s.same s/\(a sF (l.set F.toNat ((bu (-ck L)).fst,R.fst,R.snd)) 157 false).same N/\True)/\(c<=j/\j<=h)/\(h - j).toNat<(h - x).toNat)/\(Q=false->S))/\(P=false->S))/\(O=false->k=l.length/\(d sF l).same (d sF (fL (kR y E k E)))/\o.same o/\p.same p/\q.same q/\r.same r/\s.same s/\True)) (by kernel_rfl) ?_;simp only[sY];try simp only[bG]
 simp only[vcs];obtain⟨⟨⟨n0,n1⟩,m0,m1⟩,hw,hz⟩:=id hok;have hfl:=hw.free;have hcl:=hw.cost;have hfc:=@fN t.cost;have Eu:∀k:Nat,bj t.free k 0=t.fv k:=λk=>rfl;have hrow:∀{x y:List bP},x=y->(bq.row sF x 157 false).same (bq.row sF y 157 false):=by rintro _ _ rfl;rfl
 refine⟨⟨m0,m1⟩,⟨hrow rfl,by omega,by omega⟩,?_⟩;rintro i ⟨i0,i1⟩;have hpl:=@UZ t n.toNat m.toNat i.toNat;have hfp:=@fN (kR t n.toNat m.toNat i.toNat);refine⟨λhi=>?_,λhi=>⟨by omega,by rw[show i.toNat=n.toNat by omega]⟩⟩;have hC:bj (fL t.cost) i.toNat sF.dflt=bu (t.cs i.toNat):=js (by omega);have hs:kR t n.toNat m.toNat (i+1).toNat=if(n.toNat:Int)<=t.fv i.toNat/\t.fv i.toNat<n.toNat+m.toNat then(kR t n.toNat m.toNat i.toNat).set (t.fv i.toNat - n.toNat).toNat (-(t.cs i.toNat)) else kR t n.toNat m.toNat i.toNat:=by
  rw[show(i+1).toNat=i.toNat+1 by omega];rfl
 simp only[Eu,hC,kN,hs,fa];refine⟨i0,hi,by omega,λh1=>⟨by omega,λh2=>⟨by omega,i0,by omega,by omega,ei (hok.cs (by omega)) (by omega),by omega,by omega,by omega,by omega,by omega,by omega,hrow ?_,by omega,by omega⟩,λh2=>⟨by omega,hrow ?_,by omega,by omega⟩⟩,λh1=>⟨by omega,hrow ?_,by omega,by omega⟩⟩;·rw[yN,if_pos (by omega),show(n.toNat:Int)=n by omega]
 ·rw[if_neg (by omega)]
 ·rw[if_neg (by omega)]
@[reducible] def sR:bn:=.pair (.bK sF) sF
abbrev s9:=List bP×List (List bP×bP)
def yO:oV s9 where
 put a:=.agg [.row sF a.1,.row sR a.2];dec
  | .agg [r,v]=>match fZ sF r,fZ sR v with
   |some c,some v=>some (c,v)
   |_,_=>none
  |_=>none;ok v a h:=by
  grind[SV.g,gL,jI]
 inj a b h:=by
  obtain⟨c,v⟩:=a;obtain⟨f,i⟩:=b;simp only[SV.g,gL,AV.agg.injEq,π,and_true,εc] at h;have e:=lU sF h.1.1 h.1.2;have d:=lU sR h.2.1 h.2.2;rw[e,d]
def mT (x:bP):Prop:=(bA x.2.1/\bA x.2.2)/\x.2.1.length<=1000000/\x.2.2.length<=1000000
def Ll:bL:=⟨216,List bP,.one (dV sF),λl=>(show List bP from l).length<=1000/\∀x∈(show List bP from l),mT x,λl=> .sb ((show List bP from l).all okF)⟩
def aeK (l:List bP):Nat->cC
 |2=> .inv Int (λi=>⟨[(5,.row sF l),(6,.si .i64 l.length),(7,.si .i64 i)],[]⟩)
   (λs=>iS s 7) (λi=>(0<=i/\i<=l.length)/\(l.take i.toNat).all okF=true) (λi=>(l.length - i).toNat) λ_ _=> .look
 |_=> .look
theorem h406:Holds Tryz.prog Ll:=by
 refine cG (L:=[yo]) Ll aeK (by grind[h407]) ?_;rintro(l:List bP) ⟨(q:l.length<=1000),(n:∀x∈l,mT x)⟩;refine bO (let d:=(0:Int);let e:=Ξ .i64;let g:=Ψ;let a:=(↑l.length:Int);let f:=e a;((((g sF l).same (g sF l)/\(e (↑l.length:Int)).same f/\(γr .i64 0).same (e 0)/\True)/\True)/\(d<=d/\d<=a)/\true=true)/\∀(x:Int),let b:=bj l x.toNat sF.dflt;let c:=x+(1:Int);let k:=e c;let m:=λ(u:Bool) ↦(!okF (b.fst,b.snd.fst,b.snd.snd))=u;(d<=x/\x<=a)/\(γd x.toNat l).all okF=true->(decide (x<a)=true->d<=x/\x<(↑l.length:Int)/\x.toNat<l.length/\((bA b.snd.fst/\bA b.snd.snd)/\γn b.snd.fst<=1000000/\γn b.snd.snd<=1000000)/\(m true->(δw false).same (γI (l.all okF)))/\(m false->bW .i64 c/\(((g sF l).same (g sF l)/\f.same f/\k.same k/\True)/\True)/\((d<=c/\c<=a)/\(γd c.toNat l).all okF=true)/\(a - c).toNat<(a - x).toNat))/\(decide (x<a)=false->(δw true).same (γI (l.all okF)))) (by kernel_rfl) ?_;simp only[vcs];refine⟨⟨by omega,by omega⟩,?_⟩;rintro i ⟨⟨j,t⟩,e⟩;refine⟨λh=>?_,λh=>?_⟩
 ·have p:=cO (d:=sF.dflt) (show i.toNat<l.length by omega);have r:=j4 (d:=sF.dflt) j h;have g:=n _ p;have o:okF ((bj l i.toNat sF.dflt).1,(bj l i.toNat sF.dflt).2.1,(bj l i.toNat sF.dflt).2.2)=okF (bj l i.toNat sF.dflt):=rfl;rw[o];refine⟨j,h,by omega,⟨g.1,g.2.1,g.2.2⟩,λs=>?_,λv=>⟨by omega,⟨⟨by omega,by omega⟩,?_⟩,by omega⟩⟩;all_goals grind
 ·rw[show i.toNat=l.length by omega,Δ] at e;simp_all
def Lm:bL:=⟨183,s9,.one yO,λa=>(a.1.length<=160/\a.2.length<=40)/\(∀x∈a.1,mT x/\okF x=true)/\∀r∈a.2,r.1.length=a.1.length/\(∀x∈r.1,mT x/\okF x=true)/\mT r.2/\okF r.2=true,λ_=> .si .i64 0⟩
def aeL (a:s9):Nat->cC
 |6=> .inv Int (λi=>⟨[(1,.ptr 0 0 2),(20,.row sR a.2),(21,.si .i64 a.2.length),(22,.si .i64 i)],[.cells [.row sF a.1,.row sR a.2] 220 2 false]⟩)
   (λs=>iS s 22) (λi=>0<=i/\i<=a.2.length) (λi=>(a.2.length - i).toNat) λ_ _=> .look
 |_=> .look
theorem h398:Holds Tryz.prog Lm:=by
 refine cG (L:=[Ll,yo]) Lm aeL (by simpa using⟨h406,h407⟩) ?_;rintro⟨g,rs⟩ ⟨⟨hl1,hl2⟩,hg,hr⟩;simp only at hl1 hl2 hg hr;refine bO (let a:=γr .i64;let b:=(0:Int);let c:=Ξ .i64;let d:=γr .i64 0;let q:=decide ((160:Int)<(↑g.length:Int));let e:=c 0;let m:=(↑rs.length:Int);let r:=decide ((40:Int)<m);let k:=γV 0 0 2;let i:=Ψ sR rs;let f:=(↑rs.length:Int);let n:=c f;let l:=bq.cells [Ψ sF g,i] 220 2 false;(q=true->(a 3).same e)/\(q=false->(r=true->(a 3).same e)/\(r=false->(g.length<=1000/\∀(x:bP),x∈g->mT x)/\((!g.all okF)=true->(a 2).same e)/\((!g.all okF)=false->(((k.same k/\i.same i/\(c m).same n/\(a 0).same e/\True)/\l.same l/\True)/\b<=b/\b<=f)/\∀(x:Int),let h:=bj rs x.toNat sR.dflt;let o:=h.snd.snd.fst;let p:=h.snd.snd.snd;let s:=!List.all h.fst okF;let j:=x+(1:Int);let t:=c j;let v:=λ(u:Bool) ↦(!okF (h.snd.fst,o,p))=u;let w:=λ(u:Bool) ↦decide ((↑(γn h.fst):Int)≠(↑g.length:Int))=u;b<=x/\x<=f->(decide (x<f)=true->b<=x/\x<m/\x.toNat<rs.length/\(w true->(a 2).same e)/\(w false->(γn h.fst<=1000/\∀(x:bP),x∈h.fst->mT x)/\(s=true->(a 2).same e)/\(s=false->((bA o/\bA p)/\γn o<=1000000/\γn p<=1000000)/\(v true->(a 2).same e)/\(v false->bW .i64 j/\((k.same k/\i.same i/\n.same n/\t.same t/\True)/\l.same l/\True)/\(b<=j/\j<=f)/\(f - j).toNat<(f - x).toNat))))/\(decide (x<f)=false->(a 0).same e))))) (by kernel_rfl) ?_;simp only[vcs];have hall:∀{l:List bP},(∀x∈l,mT x/\okF x=true)->l.all okF=true:=λh=>Φ.2 λx hx=>(h x hx).2;refine⟨λh=>by omega,λ_=>⟨λh=>by omega,λ_=>⟨⟨by omega,λx hx=>(hg x hx).1⟩,λh=>(by rw[hall hg] at h;cases h),λ_=>⟨⟨by omega,by omega⟩,?_⟩⟩⟩⟩;rintro i ⟨i0,i1⟩;refine⟨λhi=>?_,λ_=>trivial⟩;have hm:=hr _ (cO (d:=sR.dflt) (show i.toNat<rs.length by omega));have h2:okF ((bj rs i.toNat sR.dflt).2.1,(bj rs i.toNat sR.dflt).2.2.1,(bj rs i.toNat sR.dflt).2.2.2)=okF (bj rs i.toNat sR.dflt).2:=rfl;rw[h2];refine⟨i0,hi,by omega,λh=>absurd (by rw[hm.1]) h,λ_=>⟨⟨by have:=hm.1;omega,λx hx=>(hm.2.1 x hx).1⟩,λh=>?_,λ_=>⟨⟨hm.2.2.1.1,hm.2.2.1.2.1,hm.2.2.1.2.2⟩,λh=>?_,λ_=>⟨by omega,⟨by omega,by omega⟩,by omega⟩⟩⟩⟩
 ·have:=hall hm.2.1;rw[show List.all (bj rs i.toNat sR.dflt).1 okF=true from this] at h;cases h
 ·rw[hm.2.2.2] at h;cases h
def Bg (a:s9):nK:=⟨a.1.length,a.2.length,a.2.length,a.2.length,a.2.length,a.1.length,a.2.map (·.1),a.2.map (·.2),ε a.1.length (bu 0),bu 0,(dS a.2.length).map λi=>a.1.length+i,dS a.1.length⟩
def Ln:cZ where
 f:=184;α:=s9;put a:=[yO.put a];st _:=[];dec v o:=match v,o with
  |[v],[]=>yO.dec v
  |_,_=>none;ok v o a h:=by
  split at h;·exact⟨by simp only[gL,yO.ok _ _ h],rfl⟩
  ·cases h
 inj a b h _:=yO.inj a b (by simpa[gL] using h);dom a:=a.1.length<=1000/\a.2.length<=1000/\∀r∈a.2,r.1.length<=1000;res a:=.ptr 0 0 10;out a:=(Bg a).gB
def U0 (a:s9) (k0 k1 k2 k3 k4:Nat) (co:List (List bP)) (bo ct:List bP) (ba fr:List Int):bX:=
 [.cells [.row sF a.1,.row sR a.2] 220 2 false,.cells [.si .i64 a.1.length,.si .i64 a.2.length,.ow 2 k0 1,.ow 3 k1 3,.ow 4 k2 3,.sb (bu 0).1,.row (.i .u32) (bu 0).2.1,.row (.i .u32) (bu 0).2.2,.ow 5 k3 1,.ow 6 k4 1] 267 10 false,
  .row (.bK sF) co 91 false,.row sF bo 157 false,.row sF ct 157 true,.row (.i .i64) ba 3 false,.row (.i .i64) fr 3 false]
def aeM (a:s9):Nat->cC
 |3=> .inv Int (λj=>⟨[(1,.ptr 0 0 2),(3,.ptr 1 0 10),(18,.si .i64 a.1.length),(19,.si .i64 j)],U0 a 0 0 j.toNat 0 j.toNat [] [] (ε j.toNat (bu 0)) [] (dS j.toNat)⟩)
   (λs=>iS s 19) (λj=>0<=j/\j<=a.1.length) (λj=>(a.1.length - j).toNat) λ_ _=> .look
 |9=> .inv Int (λi=>⟨[(3,.ptr 1 0 10),(44,.row sR a.2),(45,.si .i64 a.2.length),(46,.si .i64 i)],U0 a i.toNat i.toNat a.1.length i.toNat a.1.length ((a.2.take i.toNat).map (·.1)) ((a.2.take i.toNat).map (·.2)) (ε a.1.length (bu 0)) ((dS i.toNat).map λi=>a.1.length+i) (dS a.1.length)⟩)
   (λs=>iS s 46) (λi=>0<=i/\i<=a.2.length) (λi=>(a.2.length - i).toNat) λ_ _=> .look
 |_=> .look
theorem h399:dJ Tryz.prog Ln:=by
 refine zS (L:=[qW]) (W:=[]) Ln (λ_=>none) aeM (by simp) (by simpa using h94) ?_;rintro⟨g,rs⟩ ⟨hg,hr,hrr⟩;simp only at hg hr hrr;refine bO (let a:=bq.row;let c:=γ8;let d:=bq.cells;let e:=(0:Int);let f:=Ξ .i64;let h:=(-9223372036854775808:Int);let j:=Ψ;let k:=(9223372036854775807:Int);let l:=γr .i64 0;let o:=bW .i64;let p:=γV;let V:=p 0 0 2;let w:=p 1 0 10;let a6:=f (↑g.length:Int);let r:=(↑g.length:Int);let s:=f r;let N:=j sR rs;let y:=d [j sF g,N] 220 2 false;let a7:=f (↑rs.length:Int);let G:=c 2 0 1;let H:=c 3 0 3;let a8:=c 4 0 3;let I:=bu (γa e);let z:=bn.i .u32;let O:=c 5 0 1;let a9:=[O,c 6 0 1];let A:=(↑rs.length:Int);let t:=f A;let J:=bu (0:Rat);let B:=γI J.fst;let C:=j z J.snd.fst;let D:=j z J.snd.snd;let P:=bn.b.pair (z.bK.pair z.bK);let Q:=a sF.bK [] 91 false;let R:=a sF [] 157 false;let u:=bn.i .i64;let F:=a u [] 3 false;let a1:=c 4 g.length 3;let a2:=[c 6 g.length 1];let a3:=ε g.length J;let a4:=a sF a3 157 true;let W:=a u (dS g.length) 3 false;let aa:=p 0 0 10;let q:=Bg (g,rs);(h<=e/\e<=k)/\(((V.same V/\w.same w/\a6.same s/\(l).same (f 0)/\True)/\y.same y/\(d (a6::a7::G::H::a8::γI I.fst::j z I.snd.fst::j z I.snd.snd::a9) 267 10 false).same (d (s::t::G::H::a8::B::C::D::a9) 267 10 false)/\(a P.bK [] 91 false).same Q/\(a P [] 157 false).same R/\(a P [] 157 true).same (a sF [] 157 true)/\F.same F/\F.same (a u (dS 0) 3 false)/\True)/\e<=e/\e<=r)/\∀(x:Int),let S:=dS x.toNat;let ab:=S.length+1;let X:=ε x.toNat J;let ac:=X.length+1;let K:=x+(1:Int);let ad:=f K;let ae:=X++[(I.fst,I.snd.fst,I.snd.snd)];let Y:=K.toNat;e<=x/\x<=r->(decide (x<r)=true->1=1/\x.toNat=S.length/\ab*8<=140737488355328/\ab<=1000000000000/\(h<=e/\e<=k)/\1=1/\x.toNat=X.length/\ac*56<=140737488355328/\ac<=1000000000000/\o K/\((V.same V/\w.same w/\s.same s/\ad.same ad/\True)/\y.same y/\(d [s,t,G,H,c 4 ae.length 3,B,C,D,O,c 6 (S++[x]).length 1] 267 10 false).same (d [s,t,G,H,c 4 Y 3,B,C,D,O,c 6 Y 1] 267 10 false)/\Q.same Q/\R.same R/\(a P ae 157 true).same (a sF (ε Y J) 157 true)/\F.same F/\(a u (S++[x]) 3 false).same (a u (dS Y) 3 false)/\True)/\(e<=K/\K<=r)/\(r - K).toNat<(r - x).toNat)/\(decide (x<r)=false->(((w.same w/\N.same N/\a7.same t/\(l).same (f 0)/\True)/\y.same y/\(d [s,t,G,H,c 4 x.toNat 3,B,C,D,O,c 6 x.toNat 1] 267 10 false).same (d (s::t::G::H::a1::B::C::D::O::a2) 267 10 false)/\Q.same Q/\R.same R/\(a sF X 157 true).same a4/\F.same F/\(a u S 3 false).same W/\True)/\e<=e/\e<=A)/\∀(x:Int),let T:=bj rs x.toNat sR.dflt;let E:=γn T.fst;let af:=γd x.toNat rs;let Z:=γj (λx ↦x.fst) af;let a5:=Z.length+1;let a0:=γj (λx ↦x.snd) af;let ag:=a0.length+1;let U:=γj (λi ↦(↑(g,rs).fst.length:Int)+i) (dS x.toNat);let ah:=U.length+1;let L:=x+(1:Int);let ai:=f L;let aj:=a0++[(T.snd.fst,T.snd.snd.fst,T.snd.snd.snd)];let M:=L.toNat;e<=x/\x<=A->(decide (x<A)=true->e<=x/\x<(↑rs.length:Int)/\x.toNat<rs.length/\0=0/\(0+E)*56<=140737488355328/\0+E<=1000000000000/\x.toNat=Z.length/\a5*24<=140737488355328/\a5<=1000000000000/\E=E/\E=E/\E=E/\1=1/\x.toNat=a0.length/\ag*56<=140737488355328/\ag<=1000000000000/\o (r+x)/\1=1/\x.toNat=U.length/\ah*8<=140737488355328/\ah<=1000000000000/\o L/\((w.same w/\N.same N/\t.same t/\ai.same ai/\True)/\y.same y/\(d (s::t::c 2 a5 1::c 3 aj.length 3::a1::B::C::D::c 5 (U++[r+x]).length 1::a2) 267 10 false).same (d (s::t::c 2 M 1::c 3 M 3::a1::B::C::D::c 5 M 1::a2) 267 10 false)/\(a sF.bK (Z++[T.fst]) 91 false).same (a sF.bK (γj (λx ↦x.fst) (γd M rs)) 91 false)/\(a P aj 157 false).same (a sF (γj (λx ↦x.snd) (γd M rs)) 157 false)/\a4.same a4/\(a u (U++[r+x]) 3 false).same (a u (γj (λi ↦(↑(g,rs).fst.length:Int)+i) (dS M)) 3 false)/\W.same W/\True)/\(e<=L/\L<=A)/\(A - L).toNat<(A - x).toNat)/\(decide (x<A)=false->g.length=a3.length/\aa.same aa/\(d [s,t,c 1 x.toNat 1,c 2 x.toNat 3,j sF a3,B,C,D,c 3 x.toNat 1,c 4 g.length 1] 267 10 false).same (d [f q.n,f q.m,c 1 q.k0 1,c 2 q.k1 3,j sF q.cost,γI q.v.fst,j z q.v.snd.fst,j z q.v.snd.snd,c 3 q.k3 1,c 4 q.k4 1] 267 10 false)/\(a sF.bK Z 91 false).same (a sF.bK q.cj 91 false)/\(a sF a0 157 false).same (a sF q.bound 157 false)/\(a u U 3 false).same (a u q.basic 3 false)/\W.same (a u q.free 3 false)/\True))) (by kernel_rfl) ?_;simp only[vcs];have h0:(γa 0:Rat)=0:=rfl;simp only[h0,kN];have hcell:∀{a b a' b' c d e a2 b2 c2 d2 e2:Nat},a=a2->b=b2->c=c2->d=d2->e=e2->(bq.cells [.si .i64 a',.si .i64 b',.ow 2 a 1,.ow 3 b 3,.ow 4 c 3,.sb (bu 0).1,.row (.i .u32) (bu 0).2.1,.row (.i .u32) (bu 0).2.2,.ow 5 d 1,.ow 6 e 1] 267 10 false).same
   (bq.cells [.si .i64 a',.si .i64 b',.ow 2 a2 1,.ow 3 b2 3,.ow 4 c2 3,.sb (bu 0).1,.row (.i .u32) (bu 0).2.1,.row (.i .u32) (bu 0).2.2,.ow 5 d2 1,.ow 6 e2 1] 267 10 false):=by
  rintro _ _ _ _ _ _ _ _ _ _ _ _ rfl rfl rfl rfl rfl;rfl
 have hrF:∀{x y:List bP},x=y->(bq.row sF x 157 false).same (bq.row sF y 157 false):=by rintro _ _ rfl;rfl
 have uN:∀{x y:List bP},x=y->(bq.row sF x 157 true).same (bq.row sF y 157 true):=by rintro _ _ rfl;rfl
 have hrM:∀{x y:List (List bP)},x=y->(bq.row (.bK sF) x 91 false).same (bq.row (.bK sF) y 91 false):=by rintro _ _ rfl;rfl
 have lG:∀{x y:List Int},x=y->(bq.row (.i .i64) x 3 false).same (bq.row (.i .i64) y 3 false):=by rintro _ _ rfl;rfl
 have hcast:∀k:Nat,((k:Nat):Int).toNat=k:=λk=>γt k;refine⟨by omega,⟨⟨rfl,lG rfl⟩,by omega,by omega⟩,?_⟩;rintro j ⟨j0,j1⟩;have l1:=@jy j.toNat;have l2:(ε j.toNat (bu 0)).length=j.toNat:=γS;refine⟨λhj=>?_,λhj=>?_⟩
 ·have e1:dS j.toNat++[j]=dS (j+1).toNat:=by
   rw[show(j+1).toNat=j.toNat+1 by omega,yG,show((j.toNat:Nat):Int)=j by omega]
  have e2:ε j.toNat (bu 0)++[bu 0]=ε (j+1).toNat (bu 0):=by
   rw[show(j+1).toNat=j.toNat+1 by omega,List.replicate_succ']
  rw[e1,e2,jy,γS];rw[jy,γS];refine⟨rfl,?_,?_,?_,rfl,?_,?_,?_,⟨hcell rfl rfl rfl rfl rfl,uN rfl,lG rfl⟩,?_,?_⟩<;>omega
 ·rw[show j.toNat=g.length by omega];refine⟨⟨⟨hcell rfl rfl rfl rfl rfl,uN rfl,lG rfl⟩,by omega,by omega⟩,?_⟩;rintro i ⟨i0,i1⟩;have l3:(γj (λx:List bP×bP=>x.1) (γd i.toNat rs)).length=i.toNat:=by rw[γB,Ω];omega
  have l4:(γj (λx:List bP×bP=>x.2) (γd i.toNat rs)).length=i.toNat:=by rw[γB,Ω];omega
  have l5:(γj (λi:Int=>(g.length:Int)+i) (dS i.toNat)).length=i.toNat:=by rw[γB,jy]
  refine⟨λhi=>?_,λhi=>?_⟩
  ·have hm:=hrr _ (cO (d:=sR.dflt) (show i.toNat<rs.length by omega));have et:=j4 (d:=sR.dflt) i0 hi;have e1:γj (λx:List bP×bP=>x.1) (γd i.toNat rs)++[(bj rs i.toNat sR.dflt).1]=γj (λx:List bP×bP=>x.1) (γd (i+1).toNat rs):=by rw[et,γb];rfl
   have e2:γj (λx:List bP×bP=>x.2) (γd i.toNat rs)++[(bj rs i.toNat sR.dflt).2]=γj (λx:List bP×bP=>x.2) (γd (i+1).toNat rs):=by rw[et,γb];rfl
   have e3:γj (λi:Int=>(g.length:Int)+i) (dS i.toNat)++[(g.length:Int)+i]=γj (λi:Int=>(g.length:Int)+i) (dS (i+1).toNat):=by
    rw[show(i+1).toNat=i.toNat+1 by omega,yG,γb,show((i.toNat:Nat):Int)=i by omega];rfl
   have l6:(γj (λx:List bP×bP=>x.2) (γd (i+1).toNat rs)).length=(i+1).toNat:=by rw[γB,Ω];omega
   have l7:(γj (λi:Int=>(g.length:Int)+i) (dS (i+1).toNat)).length=(i+1).toNat:=by rw[γB,jy]
   refine⟨i0,hi,by omega,by omega,by omega,l3.symm,by omega,by omega,l4.symm,by omega,by omega,by omega,l5.symm,by omega,by omega,by omega,⟨hcell ?_ ?_ rfl ?_ rfl,hrM e1,hrF e2,lG e3⟩,by omega,by omega⟩;·omega
   ·exact(congrArg γn e2).trans l6
   ·exact(congrArg γn e3).trans l7
  ·have e:i.toNat=rs.length:=by omega
   rw[e,Δ];exact⟨γS.symm,rfl,rfl,rfl,rfl,rfl⟩
def r400:cZ:=uG 185 Unit .nil (λ_ m t _=>kg m.toNat t) (λ_ _ _ _=> .bH [.sc (.slice none 0 0),.sb true]) (λ_ _ t _=>t)
def aeP (n m:Int) (t:Tb):Nat->cC
 |3=> .inv Int (λi=>⟨[(0,.ptr 0 0 10),(4,.si .i64 (-1)),(12,.ow 2 t.bound.length 3),(13,.si .i64 t.bound.length),(14,.si .i64 i)],(bG n m t).gB⟩)
   (λs=>iS s 14) (λi=>0<=i/\i<=m) (λi=>(m - i).toNat) λ_ _=> .look
 |_=> .look
theorem h400:dJ Tryz.prog r400:=by
 refine jm (L:=[uE]) (W:=[]) r400 (λa=>aeP a.1.n a.1.m a.1.t) (by simp) (by simpa using h99) ?_;rintro⟨x,u⟩ ⟨n,m,t,hx,hok,hd⟩;simp only at hx hd;subst hx;refine bO (let a:=Ξ .i64;let b:=bq.row;let c:=(0:Int);let d:=γ8;let e:=Ψ;let f:=(-1:Int);let w:=γV 0 0 10;let A:=a f;let E:=d 2 (bG n m t).k1 3;let k:=(bG n m t).t.bound.length;let B:=d 2 k 3;let C:=a (↑k:Int);let j:=(bG n m t).m;let y:=bn.i .u32;let g:=bG (bG n m t).n j (bG n m t).t;let l:=bq.cells [a g.n,a g.m,d 1 g.k0 1,d 2 g.k1 3,e sF g.cost,γI g.v.fst,e y g.v.snd.fst,e y g.v.snd.snd,d 3 g.k3 1,d 4 g.k4 1] 267 10 false;let o:=b sF.bK g.cj 91 false;let p:=b sF g.bound 157 false;let z:=bn.i .i64;let q:=b z g.basic 3 false;let r:=b z g.free 3 false;let h:=g.bound.length;let F:=SV.sc (Value.slice none 0 0);(((w.same w/\(γr .i64 f).same A/\E.same B/\(a (↑(bG n m t).k1:Int)).same C/\(γr .i64 0).same (a 0)/\True)/\(bq.cells [a (bG n m t).n,a j,d 1 (bG n m t).k0 1,E,e sF (bG n m t).cost,γI (bG n m t).v.fst,e y (bG n m t).v.snd.fst,e y (bG n m t).v.snd.snd,d 3 (bG n m t).k3 1,d 4 (bG n m t).k4 1] 267 10 false).same l/\(b sF.bK (bG n m t).cj 91 false).same o/\(b sF (bG n m t).bound 157 false).same p/\(b z (bG n m t).basic 3 false).same q/\(b z (bG n m t).free 3 false).same r/\True)/\c<=c/\c<=j)/\∀(x:Int),let D:=bj g.bound x.toNat sF.dflt;let G:=(D.fst,D.snd.fst,D.snd.snd);let s:=x+(1:Int);let H:=a s;let I:=decide (x<(↑k:Int));let J:=λ(u:Bool) ↦decide (kK (ck G)<c)=u;let K:=λ(u:SV) ↦bW .i64 s/\((w.same w/\u.same A/\B.same B/\C.same C/\H.same H/\True)/\l.same l/\o.same o/\p.same p/\q.same q/\r.same r/\True)/\(c<=s/\s<=j)/\(j - s).toNat<(j - x).toNat;c<=x/\x<=j->(I=true->k=h/\c<=x/\x<(↑h:Int)/\k=h/\x.toNat<h/\de G/\(J true->(true=true->K (a x))/\(true=false->g.k1=h/\c<=f/\f<(↑h:Int)/\g.k1=h/\0<h/\False))/\(J false->K A))/\(I=false->(true=true->(SV.bH [F,δw true]).same (SV.bH [F,γI true])/\l.same l/\o.same o/\p.same p/\q.same q/\r.same r/\True)/\(true=false->False))) (by kernel_rfl) ?_;simp only[sY];try simp only[bG]
 simp only[vcs];obtain⟨⟨⟨n0,n1⟩,m0,m1⟩,hw,hz⟩:=id hok;have hbl:=hw.bound;have zj:=@fN t.bound;refine⟨⟨by omega,by omega⟩,?_⟩;rintro i ⟨i0,i1⟩;refine⟨λhi=>?_,λhi=>⟨λ_=>trivial,λh=>by cases h⟩⟩;have hB:bj (fL t.bound) i.toNat sF.dflt=bu (t.bd i.toNat):=js (by omega);have hpos:=hd i.toNat (by omega);have hneg:¬kK (t.bd i.toNat)<0:=λh=>by have:=Ko.1 h;grind
 simp only[hB,kN,fa];exact⟨by omega,i0,by omega,by omega,by omega,ei (hok.bd (by omega)) (by omega),λh=>absurd h hneg,λ_=>⟨by omega,by omega,by omega⟩⟩
def Lq:cZ:=uG 186 (List bP) (.one (dV sF)) (λn m t a=>∃g:List Rat,a=fL g/\g.length=n.toNat/\t.free=dS n.toNat/\∀v∈t.basic,n<=v) (λ_ _ _ _=> .bH []) (λ_ _ t a=>{t with cost:=vL a,value:=0})
def aeQ (n m:Int) (t:Tb) (a:List bP):Nat->cC
 |3=> .inv Int (λj=>⟨[(0,.ptr 0 0 10),(1,.row sF a),(4,.ow 5 n.toNat 3),(24,.ow 4 t.free.length 1),(25,.si .i64 t.free.length),(26,.si .i64 j)],(bG n m {t with value:=0}).gB++[.row sF (fu a j.toNat (false,([],[]))) 157 true]⟩)
   (λs=>iS s 26) (λi=>0<=i/\i<=n) (λi=>(n - i).toNat) λ_ _=> .look
 |10=> .inv Int (λi=>⟨[(0,.ptr 0 0 10),(1,.row sF a),(4,.ow 5 n.toNat 3),(52,.ow 3 t.basic.length 1),(53,.si .i64 t.basic.length),(54,.si .i64 i)],(bG n m {t with value:=0}).gB++[.row sF a 157 true]⟩)
   (λs=>iS s 54) (λi=>0<=i/\i<=m) (λi=>(m - i).toNat) λ_ _=> .look
 |_=> .look
theorem h401:dJ Tryz.prog Lq:=by
 refine jm (L:=[qW]) (W:=[]) Lq (λa=>aeQ a.1.n a.1.m a.1.t a.2) (by simp) (by simpa using h94) ?_;rintro⟨x,a⟩ ⟨n,m,t,hx,hok,g,ha,hgl,hfr,hbs⟩;simp only at hx ha;subst hx ha;refine bO (let a:=(0:Int);let c:=Ξ .i64;let d:=bq.row;let e:=γ8;let f:=(-9223372036854775808:Int);let h:=Ψ;let j:=(9223372036854775807:Int);let k:=bq.cells;let l:=γr .i64 0;let w:=(↑(bG n m t).k4:Int);let y:=γV 0 0 10;let s:=h sF (fL g);let p:=(bG n m t).n;let F:=e 5 p.toNat 3;let a0:=e 4 (bG n m t).k4 1;let r:=(bG n m t).t;let N:=r.free.length;let U:=e 4 N 1;let V:=c (↑N:Int);let z:=(bG n m t).m;let H:=bu (γa a);let A:=bn.i .u32;let o:=bG p z (Tb.mk r.cj r.bound r.cost (0:Rat) r.basic r.free);let a1:=c o.n;let a2:=c o.m;let a3:=e 1 o.k0 1;let a4:=e 2 o.k1 3;let a5:=e 3 o.k3 1;let a6:=[γI o.v.fst,h A o.v.snd.fst,h A o.v.snd.snd,a5,e 4 o.k4 1];let G:=k (a1::a2::a3::a4::h sF o.cost::a6) 267 10 false;let B:=d sF.bK o.cj 91 false;let C:=d sF o.bound 157 false;let I:=bn.i .i64;let J:=o.basic;let D:=d I J 3 false;let E:=d I o.free 3 false;let R:=(false,[],[]);let S:=o.free.length;let z29:Nat:=(fL g).length;let O:=r.basic.length;let W:=e 3 O 1;let X:=c (↑O:Int);let Y:=d sF (fL g) 157 true;let q:=bG p z (Tb.mk r.cj r.bound (vL (fL g)) (0:Rat) r.basic r.free);(f<=a/\a<=j)/\a<=w/\w<=w/\w*(56:Int)<=(140737488355328:Int)/\w<=(1000000000000:Int)/\(((y.same y/\s.same s/\(e 5 w.toNat 3).same F/\a0.same U/\(c w).same V/\(l).same (c 0)/\True)/\(k [c p,c z,e 1 (bG n m t).k0 1,e 2 (bG n m t).k1 3,h sF (bG n m t).cost,γI H.fst,h A H.snd.fst,h A H.snd.snd,e 3 (bG n m t).k3 1,a0] 267 10 false).same G/\(d sF.bK (bG n m t).cj 91 false).same B/\(d sF (bG n m t).bound 157 false).same C/\(d I (bG n m t).basic 3 false).same D/\(d I (bG n m t).free 3 false).same E/\(d (bn.b.pair (A.bK.pair A.bK)) (ε w.toNat R) 157 true).same (d sF (fu (fL g) 0 R) 157 true)/\True)/\a<=a/\a<=p)/\∀(x:Int),let K:=x+(1:Int);let a7:=c K;let a8:=decide (x<(↑N:Int));let L:=fu (fL g) x.toNat R;let P:=bj o.free x.toNat a;let a9:=decide (P<o.n);let M:=L.set x.toNat (H.fst,H.snd.fst,H.snd.snd);let Z:=bj (fL g) P.toNat sF.dflt;let aa:=λ(u:List (Bool×List Int×List Int)) ↦bW .i64 K/\((y.same y/\s.same s/\F.same F/\U.same U/\V.same V/\a7.same a7/\True)/\G.same G/\B.same B/\C.same C/\D.same D/\E.same E/\(d sF u 157 true).same (d sF (fu (fL g) K.toNat R) 157 true)/\True)/\(a<=K/\K<=p)/\(p - K).toNat<(p - x).toNat;a<=x/\x<=p->(a8=true->N=S/\a<=x/\x<(↑S:Int)/\N=S/\x.toNat<S/\(f<=a/\a<=j)/\p.toNat=L.length/\a<=x/\x<(↑L.length:Int)/\p.toNat=L.length/\x.toNat<L.length/\(a9=true->a<=P/\P<(↑z29:Int)/\P.toNat<z29/\p.toNat=M.length/\a<=x/\x<(↑M.length:Int)/\p.toNat=M.length/\x.toNat<M.length/\aa (M.set x.toNat (Z.fst,Z.snd.fst,Z.snd.snd)))/\(a9=false->aa M))/\(a8=false->(((y.same y/\s.same s/\F.same F/\a5.same W/\(c (↑o.k3:Int)).same X/\(l).same (c 0)/\True)/\G.same G/\B.same B/\C.same C/\D.same D/\E.same E/\(d sF L 157 true).same Y/\True)/\a<=a/\a<=z)/\∀(x:Int),let ab:=decide (x<(↑O:Int));let T:=bj J x.toNat a;let ac:=decide (o.n<=T);let Q:=x+(1:Int);let ad:=c Q;a<=x/\x<=z->(ab=true->O=J.length/\a<=x/\x<(↑J.length:Int)/\O=J.length/\x.toNat<J.length/\(ac=true->bW .i64 Q/\((y.same y/\s.same s/\F.same F/\W.same W/\X.same X/\ad.same ad/\True)/\G.same G/\B.same B/\C.same C/\D.same D/\E.same E/\Y.same Y/\True)/\(a<=Q/\Q<=z)/\(z - Q).toNat<(z - x).toNat)/\(ac=false->a<=T/\T<(↑z29:Int)/\T.toNat<z29/\False))/\(ab=false->p.toNat=z29/\(SV.bH []).same (SV.bH [])/\(k (a1::a2::a3::a4::s::a6) 267 10 false).same (k [c q.n,c q.m,e 1 q.k0 1,e 2 q.k1 3,h sF q.cost,γI q.v.fst,h A q.v.snd.fst,h A q.v.snd.snd,e 3 q.k3 1,e 4 q.k4 1] 267 10 false)/\B.same (d sF.bK q.cj 91 false)/\C.same (d sF q.bound 157 false)/\D.same (d I q.basic 3 false)/\E.same (d I q.free 3 false)/\True))) (by kernel_rfl) ?_;simp only[sY];try simp only[bG]
 simp only[vcs];obtain⟨⟨⟨n0,n1⟩,m0,m1⟩,hw,hz⟩:=id hok;have hbb:=hw.basic;have hfl:=hw.free;have hfg:=@fN g;have h0:(γa 0:Rat)=0:=rfl;have hrow:∀{x y:List bP},x=y->(bq.row sF x 157 true).same (bq.row sF y 157 true):=by rintro _ _ rfl;rfl
 simp only[h0,kN];refine⟨by omega,by omega,by omega,by omega,by omega,⟨⟨?_,?_,?_⟩,by omega,by omega⟩,?_⟩;·rw[hfl];rfl
 ·rfl
 ·exact hrow (by rw[Bd,hfg,hgl,hfl];rfl)
 rintro j ⟨j0,j1⟩;have oP:=@Bc (fL g) j.toNat (false,([],[])) (by omega);refine⟨λhj=>?_,λhj=>?_⟩
 ·have hv:bj t.free j.toNat 0=j:=by rw[hfr,Ld (by omega)];omega
  rw[hv];have hset:((fu (fL g) j.toNat (false,([],[]))).set j.toNat (bu 0)).set j.toNat (bj (fL g) j.toNat sF.dflt)=fu (fL g) (j+1).toNat (false,([],[])):=by
   have e:=Bf (d:=fL g) (j:=j.toNat) (z:=(false,([],[]))) (x:=bj (fL g) j.toNat sF.dflt) (by omega) rfl;rw[List.set_set,show(j+1).toNat=j.toNat+1 by omega];exact e
  rw[List.length_set];exact⟨j0,by omega,by omega,by omega,by omega,j0,by omega,by omega,by omega,λ_=>⟨j0,by omega,by omega,by omega,j0,by omega,by omega,by omega,by omega,hrow hset,by omega,by omega⟩,λh=>(h (by omega)).elim⟩
 ·have e:j.toNat=(fL g).length:=by omega
  rw[e,Be];refine⟨⟨hrow rfl,by omega,by omega⟩,?_⟩;rintro i ⟨i0,i1⟩;refine⟨λhi=>⟨i0,hi,by omega,λ_=>⟨by omega,by omega,by omega⟩,λh=>absurd (hbs _ (cO (by omega))) h⟩,λhi=>⟨by omega,?_⟩⟩;rw[mh];rfl
end Go.Vi
