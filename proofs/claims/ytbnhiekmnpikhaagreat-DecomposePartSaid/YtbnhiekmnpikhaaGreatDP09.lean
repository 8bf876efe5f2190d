/-
  Contracts: the greedy method's own small functions, and its start.
  Conditions: none.
-/
import Derived.Test.YtbnhiekmnpikhaaGreatDP06
import Derived.Test.YtbnhiekmnpikhaaGreatDP07
import Derived.Test.YtbnhiekmnpikhaaGreatDP08
import Derived.Test.YtbnhiekmnpikhaaGreatDP04
set_option maxRecDepth 100000
set_option maxHeartbeats 4000000
set_option linter.all false
open And renaming intro->γj
open BitVec renaming ofInt->γn
open Bool renaming and_eq_true->θ
open Classical renaming not_not->γg,byContradiction->δT
open Go.Vi.AV.sc renaming injEq->δb
open Go.Vi.SV renaming row->Ψ,si->γh,il->γx,sb->γv,ptr->γO,bl->δc,ow->γZ
open Int renaming natAbs_mul->εo,pow_succ->γQ,sub_zero->ζe,mul_assoc->δj,mul_zero->δF,mul_nonneg->γt,emod_eq_of_lt->δI,pow_add->δ4,lt_of_le_of_lt->εI,mul_le_mul_of_nonneg_left->Ξ,le_of_lt->γe,mul_lt_mul_of_pos_right->γ3,eq_ofNat_of_zero_le->δD,mul_comm->δ1,pow_pos->δL,mul_emod_mul_of_pos->ζy,emod_nonneg->δK,emod_lt_of_pos->δn,lt_of_mul_lt_mul_left->εp,lt_of_lt_of_le->εE,mul_le_mul_of_nonneg_right->γR,add_zero->εg,ediv_nonneg->δY,ediv_lt_of_lt_mul->εT,mul_ediv_add_emod->εe,one_mul->εw,natAbs_natCast->ζf
open List renaming take->Δ,take_of_length_le->γo,getElem_of_mem->γI,mem_map->Ω,mem_range->γy,mem_of_mem_take->γm,mergeSort_perm->δs,length_take->γu,length_append->γf,mem_append->γk,map_cons->π,map_nil->γq,range->ω,map_map->γ4,map_congr_left->γY,pairwise_cons->γA,exists_of_findSome?_eq_some->δV,take_length->ψ,nodup_cons->γW,foldr_cons->ε3,foldr->ζ7,length_cons->γE,set_eq_take_append_cons_drop->εG,getElem_cons_drop->ζA,take_append_drop->γL,drop_drop->δh,nodup_append->γr,replicate->δ,getElem?_replicate->εB,eq_of_mem_replicate->δZ,replicate_succ->δk,length_set->Φ
open List.Pairwise renaming nil->δG
open List.cons renaming injEq->Γ
open Nat renaming le_refl->ξ,min_eq_left->εf,pow_le_pow_right->δp,add_sub_cancel->ζU
open Option.some renaming injEq->γ
open Prod renaming ext->εC
open Rat renaming mul_nonneg->δt,mkRat_self->δU,normalize_eq_mkRat->ζB
namespace Go.Vi
open Go.Proofs.YtbnhiekmnpikhaaGreat.Ir
open Go.Proofs
def DV:bM:=⟨77,List Int×List Int,.cons (dF (.i .i64)) (.one (dF (.i .i64))),λa=>a.1.length<=1000/\1<=a.2.length/\a.2.length<=1000,λa=> .row (.i .i64) (dZ (a.1++a.2))⟩
theorem h326:Holds Tryz.prog DV:=by
 refine con (L:=[]) (W:=gK [vZ,AA]) DV lk (kZ (by grind[h330o,h337])) (by simp) ?_;rintro⟨s,x⟩ ⟨b,c,d⟩;simp only at b c d;refine bO (let a:Nat:=(s++x).length;s.length<=1000000/\s.length=s.length/\(s.length+x.length)*8<=140737488355328/\s.length+x.length<=1000000000000/\((s++x).length=a/\1<=a/\a<=1000000)/\(s++x).length=(dZ (s++x)).length/\(Ψ (bp.i .i64) (dZ (s++x))).same (Ψ (bp.i .i64) (dZ (s++x)))) (by kernel_rfl) ?_;conv=>zeta
 try simp only[vcs]
 grind[rE]
def I8:bM:=⟨109,List Int×Int,.cons (dF (.i .i64)) (.one (eZ .i64)),λa=>a.1.length<=1000/\0<=a.2/\a.2<a.1.length,λa=> .row (.i .i64) (a.1.take a.2.toNat++a.1.drop (a.2+1).toNat)⟩
theorem h339:Holds Tryz.prog I8:=by
 refine con (L:=[]) (W:=gK [vZ,v7]) I8 lk (kZ (by grind[h330o,h347])) (by simp) ?_;rintro⟨s,i⟩ ⟨d,e,f⟩;simp only at d e f;refine bO (let a:=i+(1:Int);let c:=lG s i.toNat a.toNat;let b:=s.length - (a - i).toNat;s.length<=1000000/\cq .i64 a/\((s.length=s.length/\1<=s.length/\s.length<=1000000)/\(0:Int)<=i/\i<=a/\a<=(↑s.length:Int))/\s.length=c.length/\0+b<=s.length/\(Ψ (bp.i .i64) (Δ b c)).same (Ψ (bp.i .i64) (Δ i.toNat s++List.drop a.toNat s))) (by kernel_rfl) ?_;conv=>zeta
 try simp only[vcs]
 have g:=@Ry s i.toNat (i+1).toNat (by omega) (by omega);refine⟨by omega,by omega,by omega,g.symm,by omega,?_⟩;unfold lG;rw[List.take_append_of_le_length (by grind),γo (by grind)]
def sQ (c:List Int) (x:Int):Int:=if x∈c then(c.idxOf x:Int) else -1
theorem abZ {c:List Int} {x:Int} {k:Nat} (h:k<c.length) (b:∀j:Nat,j<k->bj c j 0≠x) (a:bj c k 0=x):sQ c x=k:=by
 unfold sQ;rw[if_pos (a▸dr h)];congr 1;rw[cY h] at a;rw[List.idxOf,List.findIdx_eq h];grind[cY]
theorem ab0 {c:List Int} {x:Int} (a:∀j:Nat,j<c.length->bj c j 0≠x):sQ c x= -1:=by
 unfold sQ;rw[if_neg];intro h;obtain⟨k,b,rfl⟩:=γI h;grind[cY]
theorem ab1 {c:List Int} {x:Int}:0<=sQ c x↔x∈c:=by
 grind[sQ]
def I9:bM:=⟨148,List Int×Int,.cons (dF (.i .i64)) (.one (eZ .i64)),λa=>a.1.length<=1000,λa=> .si .i64 (sQ a.1 a.2)⟩
def ab2 (c:List Int) (x:Int):Nat->cE
 |2=> .inv Int (λi=>⟨[(0,.row (.i .i64) c),(1,.si .i64 x),(7,.si .i64 c.length),(8,.si .i64 i)],[]⟩)
   (λs=>iS s 8) (λi=>(0<=i/\i<=c.length)/\∀k:Nat,(k:Int)<i->bj c k 0≠x) (λi=>(c.length - i).toNat) λ_ _=> .look
 |_=> .look
theorem h348:Holds Tryz.prog I9:=by
 refine cF (L:=[]) I9 (λa=>ab2 a.1 a.2) (by simp) ?_;rintro⟨c,x⟩ o;replace o:c.length<=1000:=o;refine bO (let a:=γh .i64;let h:=(0:Int);let f:=Ψ (bp.i .i64) c;let d:=(↑c.length:Int);let g:=a d;let n:=a (sQ c x);(((f.same f/\(a x).same (a x)/\(a (↑c.length:Int)).same g/\(γx .i64 0).same (a 0)/\True)/\True)/\(h<=h/\h<=d)/\∀(k:Nat),(↑k:Int)<h->bj c k h≠x)/\∀(b:Int),let l:=decide (x=bj c b.toNat h);let e:=b+(1:Int);let j:=a x;let m:=a e;((h<=b/\b<=d)/\∀(k:Nat),(↑k:Int)<b->bj c k h≠x)->(decide (b<d)=true->h<=b/\b<(↑c.length:Int)/\b.toNat<c.length/\(l=true->(a b).same n)/\(l=false->cq .i64 e/\((f.same f/\j.same j/\g.same g/\m.same m/\True)/\True)/\((h<=e/\e<=d)/\∀(k:Nat),(↑k:Int)<e->bj c k h≠x)/\(d - e).toNat<(d - b).toNat))/\(decide (b<d)=false->(γx .i64 (-1:Int)).same n)) (by kernel_rfl) ?_;conv=>zeta
 try simp only[vcs]
 refine⟨⟨by omega,λk h=>by omega⟩,?_⟩;grind[abZ,ab0]
def Ja:bM:=⟨110,List Int×Int,.cons (dF (.i .i64)) (.one (eZ .i64)),λa=>a.1.length<=1000,λa=> .sb (decide (a.2∈a.1))⟩
theorem h340:Holds Tryz.prog Ja:=by
 refine cF (L:=[I9]) Ja lk (by grind[h348]) ?_;rintro⟨c,x⟩ a;replace a:c.length<=1000:=a;refine bO (c.length<=1000/\(γv (decide ((0:Int)<=sQ c x))).same (γv (decide (x∈c)))) (by kernel_rfl) ?_;simp_all[ab1]
theorem AG {p:bn} (a:bz p=0) {r:Int}:0<=dj p r/\dj p r<=4:=by
 obtain⟨_,_,b,c,_⟩:=dQ a;unfold dj;split;·omega
 ·split;all_goals simp_all[HI]
theorem RB {p:bn} (h:p.offers.length<=1000):nD (cM p):=by
 have j:nR p<=20:=by
  unfold nR;split
  ·rename_i a;have:=(dQ a).1;omega
  ·omega
 have d:0<nR p->bz p=0:=by
  grind[nR]
 refine⟨⟨?_,?_,h⟩,λr f=>?_,λb g=>?_⟩
 ·show(l9 p (nR p)).length=(ko p (nR p)).length;rw[Rz,DR]
 ·show(ko p (nR p)).length<=1000;grind[DR]
 ·obtain⟨k,c,rfl⟩:=Ω.1 (show r∈l9 p (nR p) from f);rw[γy] at c;have a:=d (by omega);refine⟨by simp[iz,cM],λx i=>?_⟩;obtain⟨o,e,rfl⟩:=Ω.1 (show x∈iz p k p.offers.length from i);have:=pM (p:=p) (r:=k) ((dQ a).2.2.2.2 o (γm e)).2.2.1;omega
 ·obtain⟨k,c,rfl⟩:=Ω.1 (show b∈ko p (nR p) from g);rw[γy] at c;have:=AG (d (by omega)) (r:=k);omega
def stepG (g:Game) (c:List Int) (x:Int):List Int:=if li g (dZ (c++[x]))=true then dZ (c++[x]) else c
def ox (g:Game) (l:List Int):List Int:=l.foldl (stepG g) []
def gP (p:bn):List Int:=if bz p=0 then vY p else[]
def jY (p:bn):List Int:=ox (cM p) (gP p)
theorem DW {l:List Int} {x:Int}:x∈dZ l↔x∈l:=(δs _ _).mem_iff
theorem RD {g:Game} {c:List Int} {x y:Int} (h:y∈stepG g c x):y∈c\/y=x:=by
 grind[stepG,DW]
theorem ab3 {g:Game} {c:List Int} {x:Int}:(stepG g c x).length<=c.length+1:=by
 grind[stepG,rE]
theorem RE {g:Game} {l:List Int}:∀{c:List Int} {y:Int},y∈l.foldl (stepG g) c->y∈c\/y∈l:=by
 induction l<;>grind[RD]
theorem ab4 {g:Game} {l:List Int}:∀{c:List Int},(l.foldl (stepG g) c).length<=c.length+l.length:=by
 induction l<;>grind[stepG,ab3]
theorem ab5 {g:Game} {l:List Int}:(ox g l).length<=l.length:=by
 grind[ab4,ox]
theorem ab6 {g:Game} {l:List Int} {i:Int} (a:0<=i) (h:i<l.length):ox g (l.take (i+1).toNat)=stepG g (ox g (l.take i.toNat)) (bj l i.toNat 0):=by
 grind[ox,jX]
theorem Jb {p:bn} {x:Int} (h:x∈gP p):bz p=0/\mJ p x:=by
 unfold gP at h;split at h
 ·rename_i a;rw[vY,IP,kK] at h;exact⟨a,h⟩
 ·simp at h
theorem RF {p:bn}:(gP p).length<=p.offers.length:=by
 grind[gP,vY,sO,iP]
theorem ab7 {p:bn} (d:p.offers.length<=20) {k:Nat}:(ox (cM p) ((gP p).take k)).length<=40/\∀x∈ox (cM p) ((gP p).take k),bz p=0/\mJ p x:=by
 have b:=@ab5 (cM p) ((gP p).take k);have c:=@RF p;rw[γu] at b;refine⟨by omega,λx a=>?_⟩;rcases RE a with h|h<;>grind[RE,Jb]
def AH:bM:=⟨55,bn,.one dK,λp=>p.offers.length<=20,λp=>nu.put ⟨jY p,dI (cM p) (jY p)⟩⟩
def ab8 (p:bn):Nat->cE
 |4=> .inv Int (λi=>⟨[(2,.ptr 1 0 2),(3,.ptr 2 0 3),(4,.row (.i .i64) (ox (cM p) ((gP p).take i.toNat))),(11,.row (.i .i64) (gP p)),(12,.si .i64 (gP p).length),(13,.si .i64 i)],[.cells p.ss 27 20 false,.cells [.sc (.slice none 0 0),.il .i64 0] 40 2 false,.cells [.row (.bF (.i .i64)) (cM p).rows,.row (.i .i64) (cM p).bounds,.row .off (cM p).offers] 130 3 false,.dead]⟩)
   (λs=>iS s 13) (λi=>0<=i/\i<=(gP p).length) (λi=>((gP p).length - i).toNat) λ_ _=> .look
 |_=> .look
theorem h312:Holds Tryz.prog AH:=by
 refine cF (L:=[DT,I6,DV,DU,yb]) AH ab8 (by simpa using⟨h325,h308,h326,h327,h328⟩) ?_;intro(p:bn) (hp:p.offers.length<=20);refine bO (let a:=γh .i64;let b:=Ψ;let c:=(0:Int);let d:=bq.cells;let j:=γO 1 0 2;let k:=γO 2 0 3;let e:=bp.i .i64;let s:=if bz p=c then vY p else[];let o:=b e (gP p);let f:=(↑(gP p).length:Int);let q:=a f;let t:=γx .i64 0;let l:=d [a p.supply.a0,a p.supply.a1,a p.supply.a2,a p.supply.a3,a p.supply.a4,a p.supply.a5,a p.opn.a0,a p.opn.a1,a p.opn.a2,a p.opn.a3,a p.opn.a4,a p.opn.a5,a p.cls.a0,a p.cls.a1,a p.cls.a2,a p.cls.a3,a p.cls.a4,a p.cls.a5,b e p.classes,b bp.off p.offers] 27 20 false;let m:=d [SV.sc (Value.slice none 0 0),t] 40 2 false;let n:=d [b e.bF (cM p).rows,b e (cM p).bounds,b bp.off (cM p).offers] 130 3 false;True/\0=0/\p.offers.length<=20/\(((j.same j/\k.same k/\(b e []).same (b e (ox (cM p) []))/\(b e s).same o/\(a (↑s.length:Int)).same q/\t.same (a 0)/\True)/\l.same l/\m.same m/\n.same n/\bq.dead.same bq.dead/\True)/\c<=c/\c<=f)/\∀(x:Int),let g:=ox (cM p) (Δ x.toNat (gP p));let r:=dZ (g++[bj (gP p) x.toNat c]);let h:=x+(1:Int);let v:=a h;let w:=λ(u:Bool) (u_1:List Int) ↦li (cM p) r=u->cq .i64 h/\((j.same j/\k.same k/\(b e u_1).same (b e (ox (cM p) (Δ h.toNat (gP p))))/\o.same o/\q.same q/\v.same v/\True)/\l.same l/\m.same m/\n.same n/\bq.dead.same bq.dead/\True)/\(c<=h/\h<=f)/\(f - h).toNat<(f - x).toNat;c<=x/\x<=f->(decide (x<f)=true->c<=x/\x<(↑(gP p).length:Int)/\x.toNat<(gP p).length/\(g.length<=1000/\1<=1/\1<=1000)/\(nD (cM p)/\pe (cM p) r)/\w true r/\w false g)/\(decide (x<f)=false->(nD (cM p)/\pe (cM p) g/\pQ (cM p) g)/\(SV.agg [b e g,a (dI (cM p) g)]).same (SV.agg [b e (jY p),a (dI (cM p) (jY p))]))) (by kernel_rfl) ?_;conv=>zeta
 try simp only[vcs]
 have hg:=@RB p (by omega);have hol:=@RF p;have e0:(if bz p=0 then vY p else[])=gP p:=rfl;rw[e0];refine⟨hp,⟨⟨rfl,rfl,rfl⟩,by omega,by omega⟩,?_⟩
 ·rintro i ⟨i0,i1⟩;obtain⟨hsl,hsm⟩:=@ab7 p hp i.toNat;refine⟨λhi=>?_,λhi=>?_⟩
  ·have hs:=@ab6 (cM p) (gP p) i i0 hi;have hx:=Jb (dr (d:=0) (show i.toNat<(gP p).length by omega));rw[hs];generalize ox (cM p) ((gP p).take i.toNat)=c at*;refine⟨i0,hi,by omega,⟨by omega,by omega,by omega⟩,⟨hg,by rw[rE,γf];simp;omega,λx h=>?_⟩,λh=>⟨by omega,by unfold stepG;rw[if_pos h],by omega,by omega⟩,λh=>⟨by omega,by unfold stepG;rw[if_neg (by rw[h];simp)],by omega,by omega⟩⟩;rw[DW,γk] at h;rcases h with h|h;·exact(hsm x h).2
   ·rw[List.mem_singleton] at h;rw[h];exact hx.2
  ·have hk:(gP p).take i.toNat=gP p:=γo (by omega);rw[hk] at hsl hsm ⊢;refine⟨⟨hg,⟨by omega,λx h=>(hsm x h).2⟩,λx h=>?_⟩,rfl⟩;obtain⟨hc,hx⟩:=hsm x h;have:=(Au hc hx).1;have e:(bj (cM p).offers x.toNat bp.off.dflt).value=rC p x:=rfl;rw[e];omega
def rF (g:Game):List SV:=[.row (.bF (.i .i64)) g.rows,.row (.i .i64) g.bounds,.row .off g.offers]
def Jc:List SV->Option Game
 |[r,v,x]=>match jG (.bF (.i .i64)) r,jG (.i .i64) v,jG .off x with
  |some c,some v,some x=>some ⟨c,v,x⟩
  |_,_,_=>none
 |_=>none
theorem ab9 {cs:List SV} {g:Game} (h:Jc cs=some g):gL cs=gL (rF g):=by
 unfold Jc at h;grind[rF,gL,oZ]
theorem acd {g a:Game} (h:gL (rF g)=gL (rF a)):g=a:=AE.inj g a (by
 show AV.agg (gL (rF g))=AV.agg (gL (rF a));rw[h])
def nE (g:Game) (v:Int) (c:List Int):Bool:=decide (v<dI g c)&&li g c
def Jd:dH where
 f:=108;α:=List Int×Game×Int;put a:=[.row (.i .i64) a.1,.ptr 0 0 3,.ptr 1 0 1];st a:=[.cells (rF a.2.1) 130 3 false,.cells [.si .i64 a.2.2] 2 1 false];dec v o:=match v,o with
  |[x,.ptr 0 0 3,.ptr 1 0 1],[.cells cs 130 3 false,.cells [y] 2 1 false]=>match jG (.i .i64) x,Jc cs,y.int .i64 with
   |some x,some g,some y=>some (x,g,y)
   |_,_,_=>none
  |_,_=>none;ok v o a h:=by
  split at h
  ·split at h
   ·rename_i h1 h2 h3;simp only[γ] at h;subst h;refine⟨by simp only[gL,oZ h1],?_⟩;simp only[gO,π,γq,bq.g,ab9 h2,gL,iN h3];rfl
   ·cases h
  ·cases h
 inj a b h1 h2:=by
  simp only[gL,Γ,and_true,SV.g,AV.sl.injEq] at h1;simp only[gO,π,γq,bq.g,Γ,bR.cells.injEq,and_true,gL,SV.g,δb,Value.int.injEq,true_and] at h2;have h3:=acd h2.1;have h4:=lz (.i .i64) h1.1 h1.2;exact εC h4 (εC h3 h2.2)
 dom a:=nD a.2.1/\pe a.2.1 a.1/\pQ a.2.1 a.1;res a:=.sb (nE a.2.1 a.2.2 a.1);out a:=[.cells (rF a.2.1) 130 3 false,.cells [.si .i64 a.2.2] 2 1 false]
theorem h338:ec Tryz.prog Jd:=by
 refine lA (L:=[DU,yb]) (W:=[]) Jd lk (by simp) (by grind[h327,h328]) ?_;rintro⟨c,g,v⟩ ⟨j,f,h⟩;simp only at j f h;refine bO (let f:=Ψ;let e:=bq.cells [f (bp.i .i64).bF g.rows,f (bp.i .i64) g.bounds,f bp.off g.offers] 130 3 false;let a:=bq.cells [γh .i64 v] 2 1 false;let b:=decide (v<dI g c);let d:=e.same e/\a.same a/\True;(nD g/\pe g c/\pQ g c)/\(b=true->(nD g/\pe g c)/\(γv (li g c)).same (γv (nE g v c))/\d)/\(b=false->(δc false).same (γv (nE g v c))/\d)) (by kernel_rfl) ?_;simp_all[vcs,nE,decide_eq_false]
def pR (g:Game) (c:List Int) (v:Int) (a:List Int) (o k:Int):Option (List Int):=if k<=o\/k∈c then none else if nE g v (dZ (a++[o,k]))=true then some (dZ (a++[o,k])) else none
def nG (g:Game) (c:List Int) (v:Int) (a:List Int) (o:Int):Option (List Int):=if o∈c then none else if nE g v (dZ (a++[o]))=true then some (dZ (a++[o])) else(ω g.offers.length).findSome? λk:Nat=>pR g c v a o k
def iQ (c:List Int) (i:Nat):List Int:=c.take i++c.drop (i+1)
def yc (g:Game) (c:List Int) (v:Int) (i:Nat):Option (List Int):=(ω g.offers.length).findSome? λo:Nat=>nG g c v (iQ c i) o
def jd (g:Game) (c:List Int):Option (List Int):=(ω c.length).findSome? λi=>yc g c (dI g c) i
theorem DX {n:Nat} {f:Nat->Option (List Int)} (h:∀i,i<n->f i=none):(ω n).findSome? f=none:=by
 simp_all
theorem DY {n i:Nat} {f:Nat->Option (List Int)} {t:List Int} (c:i<n) (h:∀j,j<i->f j=none) (b:f i=some t):(ω n).findSome? f=some t:=by
 have e:ω n=ω i++(i::(ω (n - (i+1))).map λk=>i+1+k):=by
  have a:=@List.range_add i (n - i);rw[show i+(n - i)=n by omega] at a;rw[a,show n - i=(n - (i+1))+1 by omega,List.range_succ_eq_map];simp only[π,γ4,Nat.add_zero];congr 2;apply γY;grind
 simp_all[DX]
def uu (g:Game):Prop:=nD g/\∀o∈g.offers,0<=o.value/\o.value<=1000000
def Je:bM:=⟨74,Game×List Int,.cons AE (.one (dF (.i .i64))),λa=>uu a.1/\(a.2.length<=900/\∀x∈a.2,0<=x/\x<a.1.offers.length),λa=> .bI [.row (.i .i64) ((jd a.1 a.2).getD []),.sb (jd a.1 a.2).isSome]⟩
def Jf (g:Game) (c:List Int):bZ:=[.cells (rF g) 130 3 false,.cells [.si .i64 (dI g c)] 2 1 false]
def ace (g:Game) (c:List Int):Nat->cE
 |4=> .inv Int (λi=>⟨[(1,.row (.i .i64) c),(2,.ptr 0 0 3),(7,.fn (.func 108) [] [.ptr 0 0 3,.ptr 1 0 1]),(19,.si .i64 c.length),(20,.si .i64 i)],Jf g c⟩)
   (λs=>iS s 20) (λi=>(0<=i/\i<=c.length)/\∀k:Nat,(k:Int)<i->yc g c (dI g c) k=none) (λi=>(c.length - i).toNat) λi k=>match k with
   |8=> .inv Int (λo=>⟨[(1,.row (.i .i64) c),(2,.ptr 0 0 3),(7,.fn (.func 108) [] [.ptr 0 0 3,.ptr 1 0 1]),(9,.row (.i .i64) (iQ c i.toNat)),(19,.si .i64 c.length),(20,.si .i64 i),(28,.si .i64 g.offers.length),(29,.si .i64 o)],Jf g c⟩)
     (λs=>iS s 29) (λo=>(0<=o/\o<=g.offers.length)/\∀k:Nat,(k:Int)<o->nG g c (dI g c) (iQ c i.toNat) k=none) (λo=>(g.offers.length - o).toNat) λo k=>match k with
     |15=> .inv Int (λz=>⟨[(1,.row (.i .i64) c),(2,.ptr 0 0 3),(7,.fn (.func 108) [] [.ptr 0 0 3,.ptr 1 0 1]),(9,.row (.i .i64) (iQ c i.toNat)),(10,.si .i64 o),(12,.si .i64 z),(19,.si .i64 c.length),(20,.si .i64 i),(28,.si .i64 g.offers.length),(29,.si .i64 o)],Jf g c⟩)
       (λs=>iS s 12) (λz=>(o<z/\z<=g.offers.length)/\∀k:Nat,(k:Int)<z->pR g c (dI g c) (iQ c i.toNat) o k=none) (λz=>(g.offers.length - z).toNat) λ_ _=> .look
     |_=> .look
   |_=> .look
 |_=> .look
theorem h331:Holds Tryz.prog Je:=by
 refine con (L:=[DV,yb,I8,Ja]) (W:=gK [Jd]) Je (λa=>ace a.1 a.2) (kZ (by simpa using h338)) (by simpa using⟨h326,h328,h339,h340⟩) ?_;rintro⟨g,c⟩ ⟨⟨hg,hv⟩,hcl,hci⟩;simp only at hg hv hcl hci;refine bO (let a:=γh .i64;let b:=Ψ;let d:=(0:Int);let e:=cq .i64;let f:=γx .i64 0;let h:=SV.bI;let j:=(1:Int);let l:=bp.i .i64;let n:=γO 0 0 3;let p:=SV.fn (Fn.func 108) [] [n,γO 1 0 1];let u:=(↑c.length:Int);let s:=a u;let q:=bq.cells [b l.bF g.rows,b l g.bounds,b bp.off g.offers] 130 3 false;let r:=bq.cells [a (dI g c)] 2 1 false;let F:=(↑g.offers.length:Int);let m:=(↑g.offers.length:Int);let v:=a m;let G:=h [b l ((jd g c).getD []),γv (jd g c).isSome];(nD g/\pe g c/\pQ g c)/\((((b l c).same (b l c)/\n.same n/\p.same p/\(a (↑c.length:Int)).same s/\(f).same (a 0)/\True)/\q.same q/\r.same r/\True)/\(d<=d/\d<=u)/\∀(k:Nat),(↑k:Int)<d->yc g c (dI g c) k=none)/\∀(x:Int),let z:=x+j;let t:=iQ c x.toNat;let w:=b l t;let H:=a z;((d<=x/\x<=u)/\∀(k:Nat),(↑k:Int)<x->yc g c (dI g c) k=none)->(decide (x<u)=true->(c.length<=1000/\d<=x/\x<u)/\((((b l c).same (b l c)/\n.same n/\p.same p/\(b l (Δ x.toNat c++List.drop z.toNat c)).same w/\s.same s/\(a x).same (a x)/\(a F).same v/\(f).same (a 0)/\True)/\q.same q/\r.same r/\True)/\(d<=d/\d<=m)/\∀(k:Nat),(↑k:Int)<d->nG g c (dI g c) t (↑k:Int)=none)/\∀(x_1:Int),let o:=x_1+j;let y:=a x;let A:=a o;let C:=dZ (t++[x_1]);let I:=nE g (dI g c) C;((d<=x_1/\x_1<=m)/\∀(k:Nat),(↑k:Int)<x_1->nG g c (dI g c) t (↑k:Int)=none)->(decide (x_1<m)=true->c.length<=1000/\(decide (x_1∈c)=true->e o/\(((b l c).same (b l c)/\n.same n/\p.same p/\w.same w/\s.same s/\y.same y/\v.same v/\A.same A/\True)/\q.same q/\r.same r/\True)/\((d<=o/\o<=m)/\∀(k:Nat),(↑k:Int)<o->nG g c (dI g c) t (↑k:Int)=none)/\(m - o).toNat<(m - x_1).toNat)/\(decide (x_1∈c)=false->(t.length<=1000/\1<=1/\1<=1000)/\(nD g/\pe g C/\pQ g C)/\(I=true->(h [b l C,δc true]).same G)/\(I=false->e o/\((((b l c).same (b l c)/\n.same n/\p.same p/\w.same w/\(a x_1).same (a x_1)/\A.same A/\s.same s/\y.same y/\v.same v/\(a x_1).same (a x_1)/\True)/\q.same q/\r.same r/\True)/\(x_1<o/\o<=m)/\∀(k:Nat),(↑k:Int)<o->pR g c (dI g c) t x_1 (↑k:Int)=none)/\∀(x:Int),let B:=x+j;let D:=a x_1;let J:=a B;let E:=dZ (t++[x_1,x]);let K:=nE g (dI g c) E;let L:=e B/\(((b l c).same (b l c)/\n.same n/\p.same p/\w.same w/\D.same D/\J.same J/\s.same s/\y.same y/\v.same v/\D.same D/\True)/\q.same q/\r.same r/\True)/\((x_1<B/\B<=m)/\∀(k:Nat),(↑k:Int)<B->pR g c (dI g c) t x_1 (↑k:Int)=none)/\(m - B).toNat<(m - x).toNat;((x_1<x/\x<=m)/\∀(k:Nat),(↑k:Int)<x->pR g c (dI g c) t x_1 (↑k:Int)=none)->(decide (x<F)=true->c.length<=1000/\(decide (x∈c)=true->L)/\(decide (x∈c)=false->(t.length<=1000/\1<=2/\2<=1000)/\(nD g/\pe g E/\pQ g E)/\(K=true->(h [b l E,δc true]).same G)/\(K=false->L)))/\(decide (x<F)=false->e o/\(((b l c).same (b l c)/\n.same n/\p.same p/\w.same w/\s.same s/\y.same y/\v.same v/\A.same A/\True)/\q.same q/\r.same r/\True)/\((d<=o/\o<=m)/\∀(k:Nat),(↑k:Int)<o->nG g c (dI g c) t (↑k:Int)=none)/\(m - o).toNat<(m - x_1).toNat))))/\(decide (x_1<m)=false->e z/\(((b l c).same (b l c)/\n.same n/\p.same p/\s.same s/\H.same H/\True)/\q.same q/\r.same r/\True)/\((d<=z/\z<=u)/\∀(k:Nat),(↑k:Int)<z->yc g c (dI g c) k=none)/\(u - z).toNat<(u - x).toNat))/\(decide (x<u)=false->(h [b l [],δc false]).same G)) (by kernel_rfl) ?_;conv=>zeta
 try simp only[vcs]
 have RG:∀d:List Int,(∀x∈d,0<=x/\x<g.offers.length)->pQ g d:=λd hd x hx=>hv _ (dr (by have:=hd x hx;omega));have hout:∀i:Nat,(iQ c i).length<=900/\∀x∈iQ c i,x∈c:=λi=>by
  unfold iQ;refine⟨by rw[γf,γu,List.length_drop];omega,λx hx=>?_⟩;rw[γk] at hx;exact hx.elim γm List.mem_of_mem_drop
 have hnew:∀(i:Nat) (d:List Int),d.length<=2->(∀x∈d,0<=x/\x<g.offers.length)->nD g/\pe g (dZ (iQ c i++d))/\pQ g (dZ (iQ c i++d)):=λi d hd hx=>by
  have h2:∀x∈dZ (iQ c i++d),0<=x/\x<g.offers.length:=λx h=>by
   rw[DW,γk] at h;exact h.elim (λh=>hci x ((hout i).2 x h)) (hx x)
  have:=(hout i).1;exact⟨hg,⟨by rw[rE,γf];omega,h2⟩,RG _ h2⟩
 have hg1:=hg.1;refine⟨⟨hg,⟨by omega,hci⟩,RG c hci⟩,⟨by omega,λk h=>by omega⟩,?_⟩;rintro i ⟨⟨i0,i1⟩,hi⟩;refine⟨λhil=>⟨⟨by omega,i0,hil⟩,⟨by unfold iQ;rw[show(i+1).toNat=i.toNat+1 by omega],by omega,λk h=>by omega⟩,?_⟩,λhil=>?_⟩
 ·have ho:=hout i.toNat;have found:∀t,yc g c (dI g c) i.toNat=some t->jd g c=some t:=λt ht=>DY (i:=i.toNat) (by omega) (λj hj=>hi j (by omega)) ht;rintro o ⟨⟨o0,o1⟩,hk⟩;refine⟨λhol=>⟨by omega,λhin=>⟨by omega,⟨by omega,λk h=>?_⟩,by omega⟩,λhin=>⟨by omega,hnew _ _ (by simp) (by simp;omega),λhb=>?_,λhb=>⟨by omega,⟨by omega,λk h=>?_⟩,?_⟩⟩⟩,λhol=>⟨by omega,⟨by omega,λk h=>?_⟩,by omega⟩⟩
  ·by_cases h2:(k:Int)<o;·exact hk k h2
   ·rw[show(k:Int)=o by omega];unfold nG;rw[if_pos hin]
  ·have h2:nG g c (dI g c) (iQ c i.toNat) o=some (dZ (iQ c i.toNat++[o])):=by
    unfold nG;rw[if_neg hin,if_pos hb]
   have h3:=found _ (DY (f:=λo:Nat=>nG g c (dI g c) (iQ c i.toNat) o) (i:=o.toNat) (by omega) (λj hj=>hk j (by omega)) (by simp only[show((o.toNat:Nat):Int)=o by omega];exact h2));rw[h3];exact⟨rfl,rfl⟩
  ·unfold pR;rw[if_pos (.inl (by omega))]
  ·rintro z ⟨⟨z0,z1⟩,hz⟩;refine⟨λhzl=>⟨by omega,λhin2=>⟨by omega,⟨by omega,λk h=>?_⟩,by omega⟩,λhin2=>⟨by omega,hnew _ _ (by simp) (by simp;omega),λhb2=>?_,λhb2=>⟨by omega,⟨by omega,λk h=>?_⟩,by omega⟩⟩⟩,λhzl=>⟨by omega,⟨by omega,λk h=>?_⟩,by omega⟩⟩
   ·by_cases h2:(k:Int)<z;·exact hz k h2
    ·rw[show(k:Int)=z by omega];unfold pR;rw[if_pos (.inr hin2)]
   ·have h4:¬z<=o:=by omega
    have h5:pR g c (dI g c) (iQ c i.toNat) o z=some (dZ (iQ c i.toNat++[o,z])):=by
     unfold pR;rw[if_neg (λh=>h.elim h4 hin2),if_pos hb2]
    have h2:nG g c (dI g c) (iQ c i.toNat) o=some (dZ (iQ c i.toNat++[o,z])):=by
     unfold nG;rw[if_neg hin,if_neg (by rw[hb];simp)];exact DY (f:=λk:Nat=>pR g c (dI g c) (iQ c i.toNat) o k) (i:=z.toNat) (by omega) (λj hj=>hz j (by omega)) (by simp only[show((z.toNat:Nat):Int)=z by omega];exact h5)
    have h3:=found _ (DY (f:=λo:Nat=>nG g c (dI g c) (iQ c i.toNat) o) (i:=o.toNat) (by omega) (λj hj=>hk j (by omega)) (by simp only[show((o.toNat:Nat):Int)=o by omega];exact h2));rw[h3];exact⟨rfl,rfl⟩
   ·by_cases h2:(k:Int)<z;·exact hz k h2
    ·rw[show(k:Int)=z by omega];unfold pR;rw[hb2];simp
   ·by_cases h2:(k:Int)<o;·exact hk k h2
    ·rw[show(k:Int)=o by omega];unfold nG;rw[if_neg hin,if_neg (by rw[hb];simp)];exact DX λj hj=>hz j (by omega)
  ·by_cases h2:(k:Int)<i;·exact hi k h2
   ·rw[show k=i.toNat by omega];exact DX λj hj=>hk j (by omega)
 ·have:jd g c=none:=DX λj hj=>hi j (by omega);rw[this];exact⟨rfl,rfl⟩
def eM (n:Nat) (c:List Int):Prop:=c.Pairwise (·<·)/\∀x∈c,0<=x/\x<n
theorem Jg {n:Nat}:∀{c:List Int} {a:Int},a<=n->c.Pairwise (·<·)->(∀x∈c,a<=x/\x<n)->(c.length:Int)<=n - a
 |[],a,e,_,_=>by simp;omega;|x::c,a,e,h,b=>by
  have f:=b x (by simp);rw[γA] at h;have:=@Jg n c (x+1) (by omega) h.2 λy d=>⟨by grind,(b y (by simp[d])).2⟩;grind
theorem uv {n:Nat} {c:List Int} (h:eM n c):c.length<=n:=by
 have:=Jg (n:=n) (a:=0) (by omega) h.1 h.2;omega
theorem Jh {n:Nat} {c:List Int} (f:c.Nodup) (e:∀x∈c,0<=x/\x<n):eM n (dZ c):=by
 refine⟨?_,λx i=>e x (DW.1 i)⟩;have g:(dZ c).Pairwise (·<=·):=by
  have:=List.pairwise_mergeSort (le:=λx y:Int=>decide (x<=y)) (λa b d f e=>by grind) (λa b=>by simp;omega) c;exact this.imp λh=>of_decide_eq_true h
 have j:(dZ c).Pairwise (·≠·):=(δs _ _).symm.nodup f;exact(g.and j).imp λh=>by omega
theorem AI {n:Nat} {c:List Int} (h:eM n c):c.Nodup:=h.1.imp λh=>by omega
theorem RI {c:List Int} {i:Nat}:(iQ c i).Sublist c:=by
 unfold iQ;rw[List.drop_add_one_eq_tail_drop];have:=(List.Sublist.refl (c.take i)).append (List.tail_sublist (c.drop i));simp_all
theorem yd {g:Game} {c t:List Int} (h:jd g c=some t) (d:eM g.offers.length c):nE g (dI g c) t=true/\eM g.offers.length t:=by
 obtain⟨i,l,h⟩:=δV h;obtain⟨o,m,h⟩:=δV h;rw[γy] at l m;have f:(iQ c i).Nodup:=(AI d).sublist RI;have b:∀x∈iQ c i,x∈c:=λx a=>RI.subset a;unfold nG at h;split at h;·cases h
 ·rename_i p;split at h
  ·rename_i e;injection h with h;subst h;refine⟨e,Jh ?_ λx a=>?_⟩;·grind
   ·rw[γk] at a;rcases a with a|a;·exact d.2 x (b x a)
    simp_all
  ·obtain⟨k,j,h⟩:=δV h;rw[γy] at j;unfold pR at h;split at h;·cases h
   ·rename_i n;split at h
    ·rename_i e;injection h with h;subst h;refine⟨e,Jh ?_ λx a=>?_⟩;·grind
     ·rw[γk] at a;rcases a with a|a;·exact d.2 x (b x a)
      grind
    ·cases h
def mf (g:Game):Nat->List Int->List Int
 |0,c=>c
 |n+1,c=>match jd g c with
  |some t=>mf g n t
  |none=>c
def kL (g:Game) (c:List Int):List Int:=mf g (1000000000 - dI g c).toNat c
theorem rG {g:Game} (a:uu g) {c:List Int} (h:eM g.offers.length c):0<=dI g c/\dI g c<=1000000000:=by
 have d:=I7 (f:=λx=>(bj g.offers x.toNat bp.off.dflt).value) (c:=c) (k:=c.length) (m:=1000000) (by omega) λx b=>a.2 _ (dr (by have:=h.2 x b;omega));rw[ψ] at d;have e:=uv h;have i:=a.1.1.2.2;grind[dI]
theorem acf {g:Game} (d:uu g):∀{n m:Nat} {c:List Int},eM g.offers.length c->(1000000000 - dI g c).toNat<=n->(1000000000 - dI g c).toNat<=m->mf g n c=mf g m c:=by
 intro n;induction n with
 |zero=>
  intro m c a k j;have h:=rG d a;cases m with
  |zero=>rfl;|succ m=>
   unfold mf;cases f:jd g c with
   |none=>rfl;|some t=>
    obtain⟨b,e⟩:=yd f a;have i:=rG d e;unfold nE at b;grind
 |succ n l=>
  intro m c a k j;have h:=rG d a;cases f:jd g c with
  |none=>
   cases m<;>grind[mf];|some t=>
   obtain⟨b,e⟩:=yd f a;have i:=rG d e;unfold nE at b;simp only[θ,decide_eq_true_eq] at b;cases m<;>grind[mf]
theorem acg {g:Game} (d:uu g) {c t:List Int} (b:eM g.offers.length c) (h:jd g c=some t):kL g c=kL g t:=by
 obtain⟨a,e⟩:=yd h b;have f:=rG d b;have i:=rG d e;unfold nE at a;simp only[θ,decide_eq_true_eq] at a;unfold kL;rw[show(1000000000 - dI g c).toNat=((1000000000 - dI g c).toNat - 1)+1 by omega];grind[mf,acf]
theorem RJ {g:Game} {c:List Int} (h:jd g c=none):kL g c=c:=by
 unfold kL;generalize (1000000000 - dI g c).toNat=n;cases n<;>grind[mf]
def ach (p:bn) (c:List Int):Prop:=bz p=0/\eM p.offers.length c
theorem RL {p:bn} (c:bz p=0):uu (cM p):=by
 have a:=dQ c;refine⟨RB (by have:=a.2.1;omega),λo b=>?_⟩;have:=a.2.2.2.2 o b;omega
theorem DZ {l:List Off}:∀{c:List Int} {a:Int}, -1<=a->(ef l a c).isSome=true->c.Pairwise (·<·)/\∀x∈c,a<x/\x<l.length
 |[],a,_,_=>⟨δG,by simp⟩
 |i::c,a,f,h=>by
  simp only[ef] at h;split at h;·simp at h
  ·rename_i g;rw[Option.isSome_map] at h;obtain⟨d,e⟩:=@DZ l c i (by omega) h;refine⟨γA.2 ⟨λx b=>(e x b).1,d⟩,λx b=>?_⟩;grind
theorem uw {p:bn} {c:List Int} (h:dh p c=0):ach p c:=by
 unfold dh at h;split at h;·omega
 ·rename_i b;split at h;·cases h
  ·rename_i d;have a:=@DZ p.offers c (-1) (by omega) (by grind[fR]);exact⟨γg.1 b,a.1,λx e=>by grind⟩
def gw (p:bn) (c:List Int):Alloc:=if dh p c=0 then⟨kL (cM p) c,dI (cM p) (kL (cM p) c)⟩ else⟨[],0⟩
def AK:bM:=⟨54,bn×Alloc,.cons dK (.one nu),λa=>a.2.chosen.length<=9223372036854775807,λa=>nu.put (gw a.1 a.2.chosen)⟩
def aci (p:bn) (a:Alloc):Nat->cE
 |6=> .inv (List Int×List Int×Bool) (λx=>⟨[(4,.ptr 2 0 2),(5,.ptr 3 0 3),(6,.row (.i .i64) x.1),(7,.row (.i .i64) x.2.1),(8,.sb x.2.2)],[.cells p.ss 27 20 false,.cells [.row (.i .i64) a.chosen,.si .i64 a.value] 40 2 false,.cells [.sc (.slice none 0 0),.il .i64 0] 40 2 false,.cells (rF (cM p)) 130 3 false]⟩)
   (λs=>(rS (.i .i64) s 6,rS (.i .i64) s 7,bS s 8)) (λx=>eM p.offers.length x.1/\(x.2.1=(jd (cM p) x.1).getD []/\x.2.2=(jd (cM p) x.1).isSome)/\kL (cM p) x.1=kL (cM p) a.chosen) (λx=>(1000000000 - dI (cM p) x.1).toNat) λ_ _=> .look
 |_=> .look
theorem h315:Holds Tryz.prog AK:=by
 refine cF (L:=[xN,DT,AB,Je,yb]) AK (λa=>aci a.1 a.2) (by simpa using⟨h100,h325,h330,h331,h328⟩) ?_;rintro⟨p,⟨c,v⟩⟩ hl;replace hl:c.length<=9223372036854775807:=hl;refine bO (let a:=γh .i64;let b:=Ψ;let d:=bq.cells;let e:=(1000000000:Int);let f:=(0:Int);let g:=γv;let h:=SV.agg;let y:=decide (dh p c≠f);let j:=bp.i .i64;let z:=[γx .i64 0];let A:=h [b j (gw p c).chosen,a (gw p c).value];let l:=γO 2 0 2;let m:=γO 3 0 3;let n:=(jd (cM p) c).getD [];let o:=(jd (cM p) c).isSome;let q:=d [a p.supply.a0,a p.supply.a1,a p.supply.a2,a p.supply.a3,a p.supply.a4,a p.supply.a5,a p.opn.a0,a p.opn.a1,a p.opn.a2,a p.opn.a3,a p.opn.a4,a p.opn.a5,a p.cls.a0,a p.cls.a1,a p.cls.a2,a p.cls.a3,a p.cls.a4,a p.cls.a5,b j p.classes,b bp.off p.offers] 27 20 false;let r:=d [b j c,a v] 40 2 false;let s:=d (SV.sc (Value.slice none 0 0)::z) 40 2 false;let t:=d [b j.bF (cM p).rows,b j (cM p).bounds,b bp.off (cM p).offers] 130 3 false;let w:=p.offers.length;let u:=kL (cM p) c;c.length<=9223372036854775807/\(y=true->(h (b j []::z)).same A)/\(y=false->True/\c.length<=1000000/\(uu (cM p)/\c.length<=900/\∀(x:Int),x∈c->f<=x/\x<(↑(cM p).offers.length:Int))/\(((l.same l/\m.same m/\(b j c).same (b j c)/\(b j n).same (b j n)/\(g o).same (g o)/\True)/\q.same q/\r.same r/\s.same s/\t.same t/\True)/\eM w c/\(n=n/\o=o)/\u=u)/\∀(x:List Int×List Int×Bool),let k:=jd (cM p) x.snd.fst;let B:=b j (k.getD []);let C:=dI (cM p) x.fst;eM w x.fst/\(x.snd.fst=(jd (cM p) x.fst).getD []/\x.snd.snd=(jd (cM p) x.fst).isSome)/\kL (cM p) x.fst=u->(x.snd.snd=true->(uu (cM p)/\x.snd.fst.length<=900/\∀(x_1:Int),x_1∈x.snd.fst->f<=x_1/\x_1<(↑(cM p).offers.length:Int))/\((l.same l/\m.same m/\(b j x.snd.fst).same (b j x.snd.fst)/\B.same B/\(g k.isSome).same (g k.isSome)/\True)/\q.same q/\r.same r/\s.same s/\t.same t/\True)/\(eM w x.snd.fst/\(k.getD []=k.getD []/\k.isSome=k.isSome)/\kL (cM p) x.snd.fst=u)/\(e - dI (cM p) x.snd.fst).toNat<(e - C).toNat)/\(x.snd.snd=false->(nD (cM p)/\pe (cM p) x.fst/\pQ (cM p) x.fst)/\(h [b j x.fst,a C]).same A))) (by kernel_rfl) ?_;conv=>zeta
 try simp only[vcs]
 refine⟨by omega,λh=>by simp only[gw,if_neg h];rfl,λh=>?_⟩;have hf:dh p c=0:=γg.1 h;obtain⟨hc,ha⟩:=uw hf;have hg:=RL hc;have h160:=(dQ hc).2.1;have hval:∀d,eM p.offers.length d->nD (cM p)/\pe (cM p) d/\pQ (cM p) d:=λd hd=>by
  have h1:=uv hd;exact⟨hg.1,⟨by omega,hd.2⟩,λx hx=>hg.2 _ (dr (by have:=hd.2 x hx;show x.toNat<p.offers.length;omega))⟩
 have hlen:=uv ha;refine⟨by omega,⟨hg,by omega,ha.2⟩,ha,?_⟩;rintro⟨d,t,b⟩ ⟨hd,⟨ht,hb⟩,hi⟩;simp only at hd ht hb hi ⊢;have hdl:=uv hd;refine⟨λhbt=>?_,λhbf=>?_⟩
 ·rw[hbt] at hb;obtain⟨t',he⟩:=Option.isSome_iff_exists.1 hb.symm;rw[he] at ht;simp only[Option.getD_some] at ht;subst ht;obtain⟨h1,h2⟩:=yd he hd;have h3:=uv h2;have h3':t.length<=p.offers.length:=h3;have hb2:=rG hg h2;have hb1:=rG hg (c:=d) hd;unfold nE at h1;simp only[θ,decide_eq_true_eq] at h1;exact⟨⟨hg,by omega,h2.2⟩,⟨h2,by rw[<-acg hg hd he];exact hi⟩,by omega⟩
 ·rw[hbf] at hb;have he:jd (cM p) d=none:=by
   cases hh:jd (cM p) d with
   |none=>rfl;|some t=>rw[hh] at hb;cases hb
  refine⟨hval d hd,?_⟩;have h1:kL (cM p) c=d:=by rw[<-hi,RJ he]
  simp only[gw,if_pos hf,h1];rfl
theorem RN {l:List Off}:∀{c:List Int} {a:Int}, -1<=a->c.Pairwise (·<·)->(∀x∈c,a<x/\x<l.length)->ef l a c=some (c.map λx=>bj l x.toNat bp.off.dflt)
 |[],_,_,_,_=>rfl
 |i::c,a,f,h,d=>by
  rw[γA] at h;have e:=d i (by simp);simp only[ef];rw[if_neg (by omega),@RN l c i (by omega) h.2 λx b=>⟨h.1 x b,(d x (by simp[b])).2⟩];rfl
theorem AL {p:bn} {c:List Int} (h:eM p.offers.length c):ef p.offers (-1) c=some (c.map (oI p)):=RN (by omega) h.1 λx a=>by have:=h.2 x a;omega
theorem Ji {p:bn} (l:bz p=0) {c:List Int} (h:eM p.offers.length c):dh p c=0↔li (cM p) c=true:=by
 have k:=AL h;have n:fR p c=true:=by grind[fR]
 have i:dX p c=c.map (oI p):=by grind[dX]
 have m:gk p (c.map (oI p))=li (cM p) c:=by
  have f:nR p=p.classes.length+12:=by simp_all[nR]
  have g:(cM p).bounds.length=p.classes.length+12:=by show(ko p (nR p)).length=_;rw[DR,f]
  unfold gk li;rw[g];have d:∀r:Nat,r<p.classes.length+12->bj (cM p).bounds r 0=dj p r/\me (cM p) c r=cT p (c.map (oI p)) r:=λr j=>by
   refine⟨?_,?_⟩
   ·show bj (ko p (nR p)) r 0=_;grind[cY,ko]
   ·have a:bj (cM p).rows r []=iz p r p.offers.length:=by
     show bj (l9 p (nR p)) r []=_;grind[cY,l9]
    unfold me cT;rw[a,γ4];congr 1;refine γY λx b=>?_;have:=h.2 x b;have e:x.toNat<p.offers.length:=by omega
    show bj (iz p r p.offers.length) x.toNat 0=dW p r (bj p.offers x.toNat bp.off.dflt);grind[cY,iz]
  grind
 simp_all[dh]
theorem acj {p:bn} (d:bz p=0) {c:List Int} (h:eM p.offers.length c):ei p c=dI (cM p) c:=by
 have a:dX p c=c.map (oI p):=by grind[dX,AL]
 unfold ei;rw[if_pos d,a];clear h a;induction c with
 |nil=>rfl;|cons x c b=>
  have e:dI (cM p) (x::c)=(oI p x).value+dI (cM p) c:=by simp[dI];rfl
  rw[e,<-b];rfl
theorem RO {g:Game} {n:Nat}:∀{l c:List Int},eM n c->l.Nodup->(∀x∈l,x∉c/\0<=x/\x<n)->eM n (l.foldl (stepG g) c)
 |[],c,b,_,_=>b
 |x::l,c,b,e,d=>by
  rw[γW] at e;have i:=d x (by simp);have f:eM n (stepG g c x):=by
   unfold stepG;split
   ·refine Jh ?_ λy a=>?_;·grind[AI]
    ·rw[γk] at a;rcases a with a|a;·exact b.2 y a
     simp_all
   ·exact b
  show eM n (l.foldl (stepG g) (stepG g c x));refine RO f e.2 λy a=>⟨λh=>?_,(d y (by simp[a])).2⟩;grind[RD]
theorem acn {p:bn}:(gP p).Nodup:=by
 unfold gP;split;·exact(As (D:=fD p) (l:=dm p.offers.length)).symm.nodup (rD.imp λh=>by omega)
 simp_all
theorem aco {p:bn} {k:Nat}:eM p.offers.length (ox (cM p) ((gP p).take k)):=
 RO ⟨δG,by simp⟩ (acn.sublist (List.take_sublist _ _)) λx a=>⟨by simp,(Jb (γm a)).2⟩
def wed (c:Nat->Rat):(List Nat->Rat)->List Nat->Rat
 |_,[]=>0
 |f,i::R=>c i*f R - wed c (λl=>f (i::l)) R
theorem Jj {c:Nat->Rat}:∀{R:List Nat},wed c (λ_=>0) R=0
 |[]=>rfl
 |i::R=>by simp only[wed,Jj];grind
theorem Jk {c:Nat->Rat} {p q:Rat}:∀{R:List Nat} {f g:List Nat->Rat},wed c (λl=>p*f l+q*g l) R=p*wed c f R+q*wed c g R
 |[],_,_=>by grind[wed];|i::R,f,g=>by
  simp only[wed,@Jk c p q R];grind
theorem RP {c d:Nat->Rat} {p q:Rat}:∀{R:List Nat} {f:List Nat->Rat},wed (λi=>p*c i+q*d i) f R=p*wed c f R+q*wed d f R
 |[],_=>by grind[wed];|i::R,f=>by
  simp only[wed,@RP c d p q R];grind
theorem RR {c:Nat->Rat} {p:Rat} {R:List Nat} {f g:List Nat->Rat}:wed c (λl=>p*f l - g l) R=p*wed c f R - wed c g R:=by
 have:=@Jk c p (-1) R f g;grind
theorem Jl {a b:Nat->Rat}:∀{R:List Nat} {f:List Nat->Rat},wed a (wed b f) R= - wed b (wed a f) R
 |[],_=>by grind[wed];|i::R,f=>by
  have d:wed a (λl=>wed b f (i::l)) R=b i*wed a f R - wed a (wed b λl=>f (i::l)) R:=RR;have c:wed b (λl=>wed a f (i::l)) R=a i*wed b f R - wed b (wed a λl=>f (i::l)) R:=RR;have h:=@Jl a b R λl=>f (i::l);grind[wed]
theorem acp {a:Nat->Rat} {f:List Nat->Rat}:wed a (wed a f)=λ_=>0:=by
 grind[Jl]
def ye (R:List Nat):Rat:=if R=[] then 1 else 0
def jZ (a:List (Nat->Rat)):List Nat->Rat:=a.foldr wed ye
theorem RS {c:Nat->Rat} {a:List (Nat->Rat)}:jZ (c::a)=wed c (jZ a):=rfl
theorem RU {a:Nat->Rat}:∀{b:List (Nat->Rat)} {f:List Nat->Rat},wed a (b.foldr wed (wed a f))=λ_=>0
 |[],f=>acp
 |c::b,f=>by
  funext R;simp only[ε3];rw[Jl,@RU a b f,Jj];rfl
theorem fold_zero:∀{cs:List (Nat->Rat)},cs.foldr wed (λ_=>0)=λ_=>0
 |[]=>rfl
 |c::cs=>by
  rw[ε3,fold_zero];grind[Jj]
theorem RV {a:Nat->Rat} {p m q:List (Nat->Rat)}:jZ (p++a::(m++a::q))=λ_=>0:=by
 grind[jZ,RU,fold_zero]
theorem RX {p q:Rat}:∀{a:List (Nat->Rat)} {f g:List Nat->Rat} {R:List Nat},a.foldr wed (λl=>p*f l+q*g l) R=p*a.foldr wed f R+q*a.foldr wed g R
 |[],_,_,_=>rfl
 |c::a,f,g,R=>by
  simp only[ε3];rw[<-Jk];congr 1;funext l;exact RX
theorem RY {c d:Nat->Rat} {p q:Rat} {a b:List (Nat->Rat)} {R:List Nat}:jZ (a++(λi=>p*c i+q*d i)::b) R=p*jZ (a++c::b) R+q*jZ (a++d::b) R:=by
 unfold jZ;simp only[List.foldr_append,ε3];rw[<-RX];have e:wed (λi=>p*c i+q*d i) (ζ7 wed ye b)=λl=>p*wed c (ζ7 wed ye b) l+q*wed d (ζ7 wed ye b) l:=by
  grind[RP]
 rw[e]
def fc (M:Nat) (q:Rat):Prop:=∃z:Int,q=(z:Rat)/\z.natAbs<=M
theorem RZ {c:Nat->Rat} {M K:Nat}:∀{R:List Nat} {f:List Nat->Rat},(∀i∈R,fc M (c i))->(∀l,l.length+1=R.length->(∀i∈l,i∈R)->fc K (f l))->fc (R.length*(M*K)) (wed c f R)
 |[],_,_,_=>⟨0,by simp[wed],by simp⟩
 |i::R,f,e,g=>by
  simp only[wed,γE];obtain⟨y,q,h⟩:=@RZ c M K R (λl=>f (i::l)) (λj a=>e j (by simp[a])) λl n p=>g _ (by simp_all) λj a=>by
   grind
  obtain⟨u,o,b⟩:=e i (by simp);obtain⟨v,k,d⟩:=g R (by simp) λj a=>by simp[a]
  refine⟨u*v - y,?_,?_⟩;·simp_all
  ·have m:(u*v).natAbs<=M*K:=by
    rw[εo];exact Nat.mul_le_mul b d
   grind
def nH (M:Nat):Nat->Nat
 |0=>1
 |n+1=>(n+1)*(M*nH M n)
theorem D1 {M:Nat}:∀{cs:List (Nat->Rat)} {R:List Nat},cs.length=R.length->(∀c∈cs,∀i∈R,fc M (c i))->fc (nH M R.length) (jZ cs R)
 |[],R,b,_=>by
  have:R=[]:=List.eq_nil_of_length_eq_zero (by simp_all);subst this;exact⟨1,by simp[jZ,ye],by simp[nH]⟩;|c::cs,R,b,e=>by
  rw[RS];cases R with
  |nil=>simp at b;|cons i R=>
   simp only[γE,nH];refine RZ (e c (by simp)) λl a g=>?_;simp only[γE] at b a;rw[show R.length=l.length by omega];exact D1 (by omega) λd f j h=>e d (by simp[f]) j (g j h)
def yf (k:Nat):Nat->Rat:=λi=>if i=k then 1 else 0
theorem R1 {c:Nat->Rat}:∀{R:List Nat} {f:List Nat->Rat},(∀i∈R,c i=0)->wed c f R=0
 |[],_,_=>rfl
 |i::R,f,h=>by
  simp only[wed];rw[h i (by simp),R1 λj a=>h j (by simp[a])];grind
theorem R7:∀{R:List Nat},R.Nodup->jZ (R.map yf) R=1
 |[],_=>by simp[jZ,ye];|i::R,h=>by
  rw[γW] at h;rw[π,RS];simp only[wed];rw[R1 (c:=yf i) (R:=R) λj a=>by
   unfold yf;grind];rw[R7 h.2];unfold yf;grind
def bP (n:Nat) (f:Nat->Rat):Rat:=match n with
 |0=>0
 |n+1=>bP n f+f n
theorem dL:∀{n:Nat} {f g:Nat->Rat},(∀i,i<n->f i=g i)->bP n f=bP n g
 |0,_,_,_=>rfl
 |n+1,f,g,h=>by simp only[bP];rw[dL λi a=>h i (by omega),h n (by omega)]
theorem yg:∀{n:Nat} {f g:Nat->Rat},bP n (λi=>f i+g i)=bP n f+bP n g
 |0,_,_=>by grind[bP];|n+1,f,g=>by simp only[bP];rw[yg];grind
theorem v8 {c:Rat}:∀{n:Nat} {f:Nat->Rat},bP n (λi=>c*f i)=c*bP n f
 |0,_=>by grind[bP];|n+1,f=>by simp only[bP];rw[v8];grind
theorem iR:∀{n:Nat},bP n (λ_=>0)=0
 |0=>rfl
 |n+1=>by simp only[bP];rw[iR];grind
theorem wb {k:Nat} {x:Rat}:∀{n:Nat},bP n (λi=>if i=k then x else 0)=if k<n then x else 0
 |0=>by simp[bP];|n+1=>by
  simp only[bP];rw[wb];grind
theorem D2 {n k:Nat} {f:Nat->Rat} (h:k<n):bP n f=f k+bP n λi=>if i=k then 0 else f i:=by
 have a:=@wb k (f k) n;rw[if_pos h] at a;rw[<-a,<-yg];grind[dL]
theorem R9 {a b:List (Nat->Rat)} {R:List Nat} {y:Nat->Rat} {T:Nat->Nat->Rat}:∀{n:Nat},jZ (a++(λi=>bP n λk=>y k*T k i)::b) R=bP n λk=>y k*jZ (a++T k::b) R
 |0=>by
  have e:(λi:Nat=>bP 0 λk=>y k*T k i)=λi=>(0:Rat)*(λ_=>0) i+0*(λ_=>0) i:=by grind[bP]
  rw[e,RY];grind[bP];|n+1=>by
  have e:(λi:Nat=>bP (n+1) λk=>y k*T k i)=λi=>(1:Rat)*(λi=>bP n λk=>y k*T k i) i+y n*T n i:=by
   grind[bP]
  rw[e,RY,R9];grind[bP]
theorem acr {C:List (Nat->Rat)} {R:List Nat} {y:Nat->Rat} {r:Nat} (f:r<C.length):jZ (C.set r (λi=>bP C.length λk=>y k*(C.getD k (λ_=>0)) i)) R=y r*jZ C R:=by
 have a:∀c:Nat->Rat,C.set r c=C.take r++c::C.drop (r+1):=λc=>by rw[εG,if_pos f]
 rw[a,R9,D2 f];have m:∀k,k<C.length->(if k=r then(0:Rat) else y k*jZ (C.take r++C.getD k (λ_=>0)::C.drop (r+1)) R)=0:=by
  intro k g;split;·rfl
  ·rename_i e;have o:jZ (C.take r++C.getD k (λ_=>0)::C.drop (r+1)) R=0:=by
    have n:C.getD k (λ_=>0)=C[k]:=by simp_all
    rw[n];rcases Nat.lt_or_gt_of_ne e with h|h
    ·have j:C.take r=C.take k++C[k]::(C.drop (k+1)).take (r - (k+1)):=by
      have b:C[k]::C.drop (k+1)=C.drop k:=ζA g;obtain⟨d,rfl⟩:∃d,r=k+(d+1):=⟨r - (k+1),by omega⟩;rw[List.take_add,<-b,List.take_succ_cons,show k+(d+1) - (k+1)=d by omega]
     grind[RV]
    ·have j:C.drop (r+1)=(C.drop (r+1)).take (k - (r+1))++C[k]::C.drop (k+1):=by
      have b:C[k]::C.drop (k+1)=C.drop k:=ζA g;rw[b];have l:=γL (k - (r+1)) (C.drop (r+1));rw[δh,show r+1+(k - (r+1))=k by omega] at l;exact l.symm
     rw[j,RV]
   simp_all
 rw[dL m,iR];have b:C.take r++C.getD r (λ_=>0)::C.drop (r+1)=C:=by
  simp_all
 rw[b];grind
structure Tb where
 cj:List (List Rat)
 bound:List Rat
 cost:List Rat
 value:Rat
 basic:List Int
 free:List Int
namespace Tb
def cf (t:Tb) (i j:Nat):Rat:=bj (bj t.cj i []) j 0
def bd (t:Tb) (i:Nat):Rat:=bj t.bound i 0
def cs (t:Tb) (j:Nat):Rat:=bj t.cost j 0
def bv (t:Tb) (i:Nat):Int:=bj t.basic i 0
def fv (t:Tb) (j:Nat):Int:=bj t.free j 0
structure WF (n m:Nat) (t:Tb):Prop where
 cj:t.cj.length=m
 row:∀i,i<m->(bj t.cj i []).length=n
 bound:t.bound.length=m
 cost:t.cost.length=n
 basic:t.basic.length=m
 free:t.free.length=n
def holds (n m:Nat) (t:Tb) (x:Int->Rat) (z:Rat):Prop:=
 (∀i,i<m->x (t.bv i)+bP n (λj=>t.cf i j*x (t.fv j))=t.bd i)/\z=t.value+bP n λj=>t.cs j*x (t.fv j)
end Tb
def kp (l:List Rat) (c:Nat) (p:List Rat):List Rat:=(ω l.length).map λj=>if j=c then -(bj l c 0*bj p j 0) else bj l j 0 - bj l c 0*bj p j 0
def kM (l:List Rat) (c:Nat):List Rat:=(ω l.length).map λj=>if j=c then 1 / bj l c 0 else bj l j 0*(1 / bj l c 0)
def fU (t:Tb) (r c:Nat):Tb where
 cj:=(ω t.cj.length).map λi=>if i=r then kM (bj t.cj r []) c else kp (bj t.cj i []) c (kM (bj t.cj r []) c);bound:=(ω t.bound.length).map λi=>if i=r then t.bd r*(1 / t.cf r c) else t.bd i - t.cf i c*(t.bd r*(1 / t.cf r c));cost:=kp t.cost c (kM (bj t.cj r []) c);value:=t.value+t.cs c*(t.bd r*(1 / t.cf r c));basic:=t.basic.set r (t.fv c);free:=t.free.set c (t.bv r)
theorem qF {a:Type} {f:Nat->a} {n i:Nat} {d:a} (h:i<n):bj ((ω n).map f) i d=f i:=by
 grind[cY]
theorem iT {a:Type} {l:List a} {r i:Nat} {x d:a} (h:r<l.length):bj (l.set r x) i d=if i=r then x else bj l i d:=by
 unfold bj;grind
section
variable {n m:Nat} {t:Tb} {r c:Nat}
theorem Si {l:List Rat}:(kM l c).length=l.length:=by simp[kM]
theorem D3 {l p:List Rat}:(kp l c p).length=l.length:=by simp[kp]
theorem Jm {l:List Rat} {j:Nat} (h:j<l.length):bj (kM l c) j 0=if j=c then 1 / bj l c 0 else bj l j 0*(1 / bj l c 0):=qF h
theorem D4 {l p:List Rat} {j:Nat} (h:j<l.length):bj (kp l c p) j 0=if j=c then -(bj l c 0*bj p j 0) else bj l j 0 - bj l c 0*bj p j 0:=qF h
theorem Sj (h:t.WF n m):(fU t r c).WF n m where
 cj:=by simp[fU,h.cj]
 row i a:=by
  simp only[fU];rw[qF (by rw[h.cj];exact a)];split;·rename_i e;subst e;rw[Si,h.row _ a]
  ·rw[D3,h.row _ a]
 bound:=by simp[fU,h.bound]
 cost:=by simp only[fU];rw[D3,h.cost]
 basic:=by simp[fU,h.basic]
 free:=by simp[fU,h.free]
theorem AO (h:t.WF n m) (b:r<m) (e:c<n) {i j:Nat} (d:i<m) (a:j<n):(fU t r c).cf i j=
  if i=r then(if j=c then 1 / t.cf r c else t.cf r j*(1 / t.cf r c)) else if j=c then -(t.cf i c*(1 / t.cf r c)) else t.cf i j - t.cf i c*(t.cf r j*(1 / t.cf r c)):=by
 unfold Tb.cf;simp only[fU];rw[qF (by rw[h.cj];exact d)];split;·rw[Jm (by rw[h.row _ b];exact a)]
 ·rw[D4 (by rw[h.row _ d];exact a)];rw[Jm (by rw[h.row _ b];exact a)];simp_all
theorem D5 (h:t.WF n m) {i:Nat} (a:i<m):(fU t r c).bd i=if i=r then t.bd r*(1 / t.cf r c) else t.bd i - t.cf i c*(t.bd r*(1 / t.cf r c)):=by
 show bj _ i 0=_;simp only[fU];rw[qF (by rw[h.bound];exact a)]
theorem Sl (h:t.WF n m) (b:r<m) {j:Nat} (a:j<n):(fU t r c).cs j=if j=c then -(t.cs c*(1 / t.cf r c)) else t.cs j - t.cs c*(t.cf r j*(1 / t.cf r c)):=by
 show bj _ j 0=_;simp only[fU];rw[D4 (by rw[h.cost];exact a),Jm (by rw[h.row _ b];exact a)];split;·rfl
 ·rfl
theorem Jn (h:t.WF n m) (a:r<m) {i:Nat}:(fU t r c).bv i=if i=r then t.fv c else t.bv i:=iT (by rw[h.basic];exact a)
theorem Jo (h:t.WF n m) (a:c<n) {j:Nat}:(fU t r c).fv j=if j=c then t.bv r else t.fv j:=iT (by rw[h.free];exact a)
theorem piv_holds (h:t.WF n m) (b:r<m) (k:c<n) (K:t.cf r c≠0) {x:Int->Rat} {z:Rat}:(fU t r c).holds n m x z↔t.holds n m x z:=by
 have d:∀f:Nat->Rat,bP n (λj=>f j*x (t.fv j))=f c*x (t.fv c)+bP n (λj=>if j=c then 0 else f j*x (t.fv j)):=λf=>D2 k;have e:∀f:Nat->Rat,bP n (λj=>f j*x ((fU t r c).fv j))=f c*x (t.bv r)+bP n (λj=>if j=c then 0 else f j*x (t.fv j)):=λf=>by
  rw[D2 k,Jo h k,if_pos rfl];congr 1;refine dL λj _=>?_;split;·rfl
  ·rename_i p;rw[Jo h k,if_neg p]
 have I:bP n (λj=>if j=c then 0 else(fU t r c).cf r j*x (t.fv j))=(1 / t.cf r c)*bP n (λj=>if j=c then 0 else t.cf r j*x (t.fv j)):=by
  rw[<-v8];refine dL λj p=>?_;split;·grind
  ·rename_i l;rw[AO h b k b p,if_pos rfl,if_neg l];grind
 have E:∀f g:Nat->Rat,∀q:Rat,(∀j,j<n->j≠c->g j=f j - q*(t.cf r j*(1 / t.cf r c)))->bP n (λj=>if j=c then 0 else g j*x (t.fv j))=bP n (λj=>if j=c then 0 else f j*x (t.fv j))+(-(q*(1 / t.cf r c)))*bP n (λj=>if j=c then 0 else t.cf r j*x (t.fv j)):=λf g q L=>by
  rw[<-v8,<-yg];refine dL λj p=>?_;grind
 have J:∀j,j<n->j≠c->(fU t r c).cs j=t.cs j - t.cs c*(t.cf r j*(1 / t.cf r c)):=λj p l=>by rw[Sl h b p,if_neg l]
 have B:∀i,i<m->i≠r->∀j,j<n->j≠c->(fU t r c).cf i j=t.cf i j - t.cf i c*(t.cf r j*(1 / t.cf r c)):=λi o a j p l=>by rw[AO h b k o p,if_neg a,if_neg l]
 have G:=E t.cs _ _ J;have v:=Sl (c:=c) h b k;rw[if_pos rfl] at v;have s:=AO h b k b k;rw[if_pos rfl,if_pos rfl] at s;have w:=D5 (r:=r) (c:=c) h b;rw[if_pos rfl] at w;have u:=Jn (c:=c) (i:=r) h b;rw[if_pos rfl] at u;have H:(fU t r c).value=t.value+t.cs c*(t.bd r*(1 / t.cf r c)):=rfl;unfold Tb.holds;constructor
 ·rintro⟨A,F⟩;have C:=A r b;rw[e,I,s,u,w] at C;refine⟨λi o=>?_,?_⟩
  ·by_cases a:i=r
   ·subst a;rw[d];grind
   ·have D:=A i o;have y:=AO h b k o k;rw[if_neg a,if_pos rfl] at y;rw[e,E _ _ _ (B i o a),Jn h b,if_neg a,D5 h o,if_neg a,y] at D;rw[d];grind
  ·rw[e,G,v,H] at F;rw[d];grind
 ·rintro⟨A,F⟩;have C:=A r b;rw[d] at C;refine⟨λi o=>?_,?_⟩
  ·by_cases a:i=r
   ·subst a;rw[e,I,s,u,w];grind
   ·have D:=A i o;have y:=AO h b k o k;rw[if_neg a,if_pos rfl] at y;rw[e,E _ _ _ (B i o a),Jn h b,if_neg a,D5 h o,if_neg a,y];rw[d] at D;grind
  ·rw[e,G,v,H];rw[d] at F;grind
end
def mg (f:Int->Rat):List Int->Rat
 |[]=>0
 |x::l=>f x+mg f l
theorem AP {f:Int->Rat}:∀{l k:List Int},mg f (l++k)=mg f l+mg f k
 |[],k=>by grind[mg];|x::l,k=>by simp only[List.cons_append,mg,@AP f l k];grind
theorem Jp {f:Int->Rat} {l k:List Int} (h:l.Perm k):mg f l=mg f k:=by
 induction h<;>grind[mg,swap,trans]
theorem Sm:∀{n:Nat} {f:Nat->Rat},bP (n+1) f=f 0+bP n λi=>f (i+1)
 |0,f=>by grind[bP];|n+1,f=>by
  rw[bP,Sm];grind[bP]
theorem qG {f:Int->Rat}:∀{l:List Int},mg f l=bP l.length λk=>f (bj l k 0)
 |[]=>rfl
 |x::l=>by
  rw[γE,Sm,mg,qG];rfl
def js (n:Nat) (t:Tb) (y:Nat->Rat) (v:Int):Rat:=if v∈t.free then y (t.free.idxOf v) else t.bd (t.basic.idxOf v) - bP n λj=>t.cf (t.basic.idxOf v) j*y j
section
variable {n m:Nat} {t t0:Tb} {r c:Nat}
theorem pg {l:List Int} {i:Nat} (h:l.Nodup) (a:i<l.length):l.idxOf (bj l i 0)=i:=by
 grind[cY]
theorem mM (h:t.WF n m) (c:(t.basic++t.free).Nodup) {y:Nat->Rat} {j:Nat} (a:j<n):js n t y (t.fv j)=y j:=by
 have b:j<t.free.length:=by rw[h.free];exact a
 unfold js Tb.fv;rw[if_pos (by grind[cY]),pg (γr.1 c).2.1 b]
theorem Jq (h:t.WF n m) (b:(t.basic++t.free).Nodup) {i:Nat} (a:i<m):t.bv i∉t.free:=λc=>by
 have d:i<t.basic.length:=by rw[h.basic];exact a
 grind[Tb.bv,cY]
theorem nI (h:t.WF n m) (a:(t.basic++t.free).Nodup) {y:Nat->Rat} {i:Nat} (c:i<m):js n t y (t.bv i)=t.bd i - bP n λj=>t.cf i j*y j:=by
 have b:i<t.basic.length:=by rw[h.basic];exact c
 have e:t.basic.idxOf (t.bv i)=i:=pg (γr.1 a).1 b;unfold js;grind
theorem asg_holds (h:t.WF n m) (a:(t.basic++t.free).Nodup) {y:Nat->Rat}:t.holds n m (js n t y) (t.value+bP n λj=>t.cs j*y j):=by
 have e:∀f:Nat->Rat,bP n (λj=>f j*js n t y (t.fv j))=bP n λj=>f j*y j:=λf=>dL λj c=>by grind[mM]
 refine⟨λi b=>?_,?_⟩
 ·rw[nI h a b,e];grind
 ·rw[e]
def fV (m:Nat) (a:Tb) (v:Int) (i:Nat):Rat:=if i<m then(if v∈a.free then a.cf i (a.free.idxOf v) else if a.basic.idxOf v=i then 1 else 0) else 0
def yh (m:Nat) (a:Tb) (i:Nat):Rat:=if i<m then a.bd i else 0
def ju (m:Nat) (a t:Tb):Rat:=jZ (t.basic.map (fV m a)) (ω m)
structure Run (n m:Nat) (t0 t:Tb):Prop where
 oz:t0.WF n m
 wf:t.WF n m
 nd:(t0.basic++t0.free).Nodup
 perm:(t.basic++t.free).Perm (t0.basic++t0.free)
 mN:∀x z,t.holds n m x z↔t0.holds n m x z
 dt:ju m t0 t≠0
theorem Run.gn (h:Run n m t0 t):(t.basic++t.free).Nodup:=h.perm.symm.nodup h.nd
theorem Run.refl (h:t0.WF n m) (a:(t0.basic++t0.free).Nodup):Run n m t0 t0:=by
 refine⟨h,h,a,List.Perm.refl _,λ_ _=>Iff.rfl,?_⟩;have e:t0.basic.map (fV m t0)=(ω m).map yf:=by
  refine List.ext_getElem (by simp[h.basic]) λi g d=>?_;simp only[List.getElem_map,List.getElem_range];have f:i<m:=by simp_all
  have b:t0.basic[i]'(by simp_all)=t0.bv i:=by grind[Tb.bv,cY]
  rw[b];funext k;have c:t0.basic.idxOf (t0.bv i)=i:=pg (γr.1 a).1 (by grind);unfold fV yf;grind
 grind[ju,R7]
theorem Run.rows (h:Run n m t0 t) {x:Int->Rat} {z:Rat} (l:t.holds n m x z) {i:Nat}:bP m (λk=>fV m t0 (t.bv k) i*x (t.bv k))+bP n (λj=>fV m t0 (t.fv j) i*x (t.fv j))=yh m t0 i:=by
 have b:∀t:Tb,t.WF n m->mg (λv=>fV m t0 v i*x v) (t.basic++t.free)=bP m (λk=>fV m t0 (t.bv k) i*x (t.bv k))+bP n (λj=>fV m t0 (t.fv j) i*x (t.fv j)):=λt f=>by
  rw[AP,qG,qG,f.basic,f.free];rfl
 rw[<-b t h.wf,Jp h.perm,b t0 h.oz];have p:=(h.mN x z).1 l;unfold yh;by_cases a:i<m
 ·rw[if_pos a,<-p.1 i a];congr 1
  ·have e:bP m (λk=>fV m t0 (t0.bv k) i*x (t0.bv k))=bP m λk=>if k=i then x (t0.bv i) else 0:=dL λk d=>by
    have c:t0.basic.idxOf (t0.bv k)=k:=pg (γr.1 h.nd).1 (by rw[h.oz.basic];exact d);unfold fV;rw[if_pos a,if_neg (Jq h.oz h.nd d),c];grind
   rw[e,wb,if_pos a]
  ·refine dL λj g=>?_;have o:j<t0.free.length:=by rw[h.oz.free];exact g
   unfold fV;rw[if_pos a,if_pos (by grind[Tb.fv,cY])];have c:t0.free.idxOf (t0.fv j)=j:=pg (γr.1 h.nd).2.1 o;rw[c]
 ·rw[if_neg a];have e:∀v,fV m t0 v i=0:=λv=>by simp_all[fV,if_neg]
  simp only[e];grind[iR]
theorem Run.Sr (h:Run n m t0 t):yh m t0=λi=>bP m λk=>t.bd k*fV m t0 (t.bv k) i:=by
 funext i;have a:=h.rows (i:=i) (asg_holds h.wf h.gn (y:=λ_=>0));rw[<-a,dL (n:=n) (g:=λ_=>0) λj c=>by rw[mM h.wf h.gn c];grind,iR,dL (n:=m) (g:=λk=>t.bd k*fV m t0 (t.bv k) i) λk b=>by
  rw[nI h.wf h.gn b,dL (g:=λ_=>0) λj _=>by grind,iR];grind];grind
theorem Run.acs (h:Run n m t0 t) {c:Nat} (a:c<n):fV m t0 (t.fv c)=λi=>bP m λk=>t.cf k c*fV m t0 (t.bv k) i:=by
 funext i;have f:=congrFun h.Sr i;have b:=h.rows (i:=i) (asg_holds h.wf h.gn (y:=λj=>if j=c then 1 else 0));rw[dL (n:=n) (g:=λj=>if j=c then fV m t0 (t.fv c) i else 0) λj e=>by
  rw[mM h.wf h.gn e];grind,wb,if_pos a,dL (n:=m) (g:=λk=>t.bd k*fV m t0 (t.bv k) i+(-1)*(t.cf k c*fV m t0 (t.bv k) i)) λk d=>by
   rw[nI h.wf h.gn d,dL (g:=λj=>if j=c then t.cf k c else 0) λj _=>by
    grind,wb,if_pos a];grind,yg,v8] at b;grind
theorem getD_map {l:List Int} {f:Int->Nat->Rat} {k:Nat} (h:k<l.length):(l.map f).getD k (λ_=>0)=f (bj l k 0):=by
 grind[cY]
theorem Run.Ss (h:Run n m t0 t) {y:Nat->Rat} {r:Nat} (d:r<m):jZ ((t.basic.map (fV m t0)).set r λi=>bP m λk=>y k*fV m t0 (t.bv k) i) (ω m)=y r*ju m t0 t:=by
 have b:(t.basic.map (fV m t0)).length=m:=by rw[List.length_map,h.wf.basic]
 have a:=@acr (t.basic.map (fV m t0)) (ω m) y r (by omega);unfold ju;rw[<-a,b];congr 2;funext i;refine dL λk c=>?_;rw[getD_map (by simp_all)];rfl
theorem Run.Sv (h:Run n m t0 t) {r c:Nat} (a:r<m) (b:c<n):jZ ((t.basic.map (fV m t0)).set r (fV m t0 (t.fv c))) (ω m)=t.cf r c*ju m t0 t:=by
 rw[h.acs b];exact h.Ss (y:=λk=>t.cf k c) a
theorem Run.acu (h:Run n m t0 t) {r:Nat} (a:r<m):jZ ((t.basic.map (fV m t0)).set r (yh m t0)) (ω m)=t.bd r*ju m t0 t:=by
 rw[h.Sr];exact h.Ss (y:=t.bd) a
theorem set_perm {l:List Int} {r:Nat} {x:Int} (a:r<l.length):(l.set r x).Perm (x::(l.take r++l.drop (r+1))):=by
 rw[εG,if_pos a];simp_all
theorem acv {l:List Int} {r:Nat} (a:r<l.length):(l[r]::(l.take r++l.drop (r+1))).Perm l:=by
 have h:=@set_perm l r l[r] a;grind
theorem swap_perm {l k:List Int} {r c:Nat} (a:r<l.length) (b:c<k.length):(l.set r (bj k c 0)++k.set c (bj l r 0)).Perm (l++k):=by
 grind[cY]
theorem Run.piv (h:Run n m t0 t) {r c:Nat} (a:r<m) (b:c<n) (d:t.cf r c≠0):Run n m t0 (fU t r c) where
 oz:=h.oz;wf:=Sj h.wf;nd:=h.nd;perm:=(swap_perm (by rw[h.wf.basic];exact a) (by rw[h.wf.free];exact b)).trans h.perm;mN x z:=(piv_holds h.wf a b d).trans (h.mN x z);dt:=by
  have e:ju m t0 (fU t r c)=t.cf r c*ju m t0 t:=by
   rw[<-h.Sv a b];unfold ju;congr 1;show(t.basic.set r (t.fv c)).map (fV m t0)=_;simp_all
  rw[e];have:=h.dt;grind
theorem D6 {M:Nat} (d:1<=M) (c:∀i j,i<m->j<n->fc M (t0.cf i j)) (a:t0.WF n m) {v:Int} {i:Nat}:fc M (fV m t0 v i):=by
 unfold fV;split
 ·split
  ·rename_i b e;exact c _ _ b (by rw[<-a.free];grind)
  ·split;·exact⟨1,by simp,by omega⟩
   ·exact⟨0,by simp,by simp⟩
 ·exact⟨0,by simp,by simp⟩
theorem mem_set {C:List (Nat->Rat)} {r:Nat} {c d:Nat->Rat} (h:d∈C.set r c):d∈C\/d=c:=List.mem_or_eq_of_mem_set h
theorem Run.acw (h:Run n m t0 t) {M:Nat} (a:1<=M) (c:∀i j,i<m->j<n->fc M (t0.cf i j)):fc (nH M m) (ju m t0 t):=by
 have:=@D1 M (t.basic.map (fV m t0)) (ω m) (by simp[h.wf.basic]) λd b i _=>by
  obtain⟨v,_,rfl⟩:=Ω.1 b;exact D6 a c h.oz
 rwa [List.length_range] at this
theorem Run.cfZ (h:Run n m t0 t) {M:Nat} (e:1<=M) (b:∀i j,i<m->j<n->fc M (t0.cf i j)) {r c:Nat} (f:r<m) (g:c<n):fc (nH M m) (t.cf r c*ju m t0 t):=by
 rw[<-h.Sv f g];have:=@D1 M ((t.basic.map (fV m t0)).set r (fV m t0 (t.fv c))) (ω m) (by simp[h.wf.basic]) λd a i _=>by
  rcases mem_set a with a|rfl
  ·obtain⟨v,_,rfl⟩:=Ω.1 a;exact D6 e b h.oz
  ·exact D6 e b h.oz
 simp_all
theorem Run.bdZ (h:Run n m t0 t) {M:Nat} (b:1<=M) (c:∀i j,i<m->j<n->fc M (t0.cf i j)) (f:∀i,i<m->fc M (t0.bd i)) {r:Nat} (e:r<m):fc (nH M m) (t.bd r*ju m t0 t):=by
 rw[<-h.acu e];have:=@D1 M ((t.basic.map (fV m t0)).set r (yh m t0)) (ω m) (by simp[h.wf.basic]) λd a i g=>by
  rcases mem_set a with a|rfl
  ·obtain⟨v,_,rfl⟩:=Ω.1 a;exact D6 b c h.oz
  simp_all[yh]
 simp_all
end
structure qH (n m:Nat) (t:Tb) (r c:Nat):Prop where
 hr:r<m
 hc:c<n
 cost:0<t.cs c
 least:∀j,j<n->0<t.cs j->t.fv c<=t.fv j
 pos:0<t.cf r c
 ratio:∀i,i<m->0<t.cf i c->t.bd r / t.cf r c<t.bd i / t.cf i c\/(t.bd r / t.cf r c=t.bd i / t.cf i c/\t.bv r<=t.bv i)
def kq (m:Nat) (t:Tb):Prop:=∀i,i<m->0<=t.bd i
section
variable {n m:Nat} {t t0:Tb} {r c:Nat}
theorem AQ (a b:Rat):a<=b\/b<a:=(Classical.em (a<=b)).imp id Rat.not_le.1
theorem div_mul {a b:Rat} (h:0<b):a / b*b=a:=by
 grind
theorem inv_pos {b:Rat} (h:0<b):0<1 / b:=by
 have c:(1 / b)*b=1:=div_mul h;rcases AQ (1 / b) 0 with a|a
 ·exfalso;have d:0<=(-(1 / b))*b:=δt (by grind) (by grind);grind
 ·exact a
theorem SA {a b:Rat} (c:0<=a) (h:0<b):0<=a / b:=by
 grind[δt,inv_pos]
theorem qH.ge (h:qH n m t r c) (a:kq m t):0<=t.bd r / t.cf r c:=SA (a r h.hr) h.pos
theorem qH.yi (h:qH n m t r c) (k:t.WF n m) (d:kq m t):kq m (fU t r c):=by
 intro i a;have f:=h.ge d;have e:t.bd r*(1 / t.cf r c)=t.bd r / t.cf r c:=by grind
 rw[D5 k a,e];split;·exact f
 ·rcases AQ (t.cf i c) 0 with b|b
  ·have j:0<=(-(t.cf i c))*(t.bd r / t.cf r c):=δt (by grind) f;have:=d i a;grind
  ·have j:t.bd r / t.cf r c<=t.bd i / t.cf i c:=by
    rcases h.ratio i a b with g|g<;>grind
   have g:0<=t.cf i c*(t.bd i / t.cf i c - t.bd r / t.cf r c):=δt (by grind) (by grind);grind[div_mul]
theorem qH.value:(fU t r c).value=t.value+t.cs c*(t.bd r / t.cf r c):=by
 show t.value+t.cs c*(t.bd r*(1 / t.cf r c))=_;grind
theorem Jr {b:Type}:∀(L:List b) (f:Nat->b),(∀k,f k∈L)->∃i j,i<j/\f i=f j
 |[],f,h=>by simp_all;|a::L,f,h=>by
  by_cases c:∃i,f i=a
  ·obtain⟨i,g⟩:=c;by_cases e:∃j,i<j/\f j=a;·grind
   ·obtain⟨x,y,d,l⟩:=Jr L (λk=>f (k+i+1)) λk=>by
     grind
    grind
  ·exact Jr L f λk=>by
    simp_all
def AS (V:List Int):Nat->List (List Int)
 |0=>[[]]
 |k+1=>(AS V k).flatMap λl=>V.map λv=>v::l
theorem SB {V:List Int}:∀{l:List Int},(∀v∈l,v∈V)->l∈AS V l.length
 |[],_=>by simp[AS];|x::l,h=>by
  simp only[γE,AS,List.mem_flatMap,Ω];exact⟨l,SB λv a=>h v (by simp[a]),x,h x (by simp),rfl⟩
theorem acA {l:List Int} {r:Nat} {x v:Int} (a:r<l.length) (b:l.Nodup):v∈l.set r x↔v=x\/(v∈l/\v≠bj l r 0):=by
 grind[set_perm,cY,acv]
theorem SC {f:Nat->Int} {i:Nat}:∀{d:Nat},∃k,(i<=k/\k<=i+d)/\∀x,i<=x->x<=i+d->f x<=f k
 |0=>⟨i,by omega,λx a b=>by grind⟩
 |d+1=>by
  obtain⟨k,a,b⟩:=@SC f i d;by_cases h:f k<=f (i+(d+1))
  ·refine⟨i+(d+1),by omega,λx c e=>?_⟩;grind
  ·refine⟨k,by omega,λx c e=>?_⟩;grind
theorem SD:∀{n:Nat} {f:Nat->Rat},0<bP n f->∃j,j<n/\0<f j
 |0,f,h=>by grind[bP];|n+1,f,h=>by
  rcases AQ (f n) 0 with a|a
  ·obtain⟨j,c,b⟩:=@SD n f (by grind[bP]);grind
  grind
theorem wh (h:t.WF n m) {j:Nat} (a:j<n):t.fv j∈t.free:=by
 have b:j<t.free.length:=by rw[h.free];exact a
 grind[Tb.fv,cY]
theorem AW (h:t.WF n m) {j:Nat} (a:j<m):t.bv j∈t.basic:=by
 have b:j<t.basic.length:=by rw[h.basic];exact a
 grind[Tb.bv,cY]
theorem wi (h:t.WF n m) {v:Int} (b:v∈t.free):∃j,j<n/\t.fv j=v:=by
 obtain⟨j,a,rfl⟩:=γI b;exact⟨j,by rw[<-h.free];exact a,by grind[Tb.fv,cY]⟩
theorem yj (h:t.WF n m) {v:Int} (b:v∈t.basic):∃j,j<m/\t.bv j=v:=by
 obtain⟨j,a,rfl⟩:=γI b;exact⟨j,by rw[<-h.basic];exact a,by grind[Tb.bv,cY]⟩
theorem Js (c:(t.basic++t.free).Nodup) {v:Int} (a:v∈t.basic) (b:v∈t.free):False:=(γr.1 c).2.2 _ a _ b rfl
theorem acB (h:t.WF n m) (c:(t.basic++t.free).Nodup) {i j:Nat} (f:i<m) (d:j<m) (e:t.bv i=t.bv j):i=j:=by
 have a:=pg (γr.1 c).1 (show i<t.basic.length by rw[h.basic];exact f);have b:=pg (γr.1 c).1 (show j<t.basic.length by rw[h.basic];exact d);grind[Tb.bv]
theorem acC (h:t.WF n m) (c:(t.basic++t.free).Nodup) {i j:Nat} (f:i<n) (d:j<n) (e:t.fv i=t.fv j):i=j:=by
 have a:=pg (γr.1 c).2.1 (show i<t.free.length by rw[h.free];exact f);have b:=pg (γr.1 c).2.1 (show j<t.free.length by rw[h.free];exact d);grind[Tb.fv]
theorem acD {T:Nat->Tb} {r c:Nat->Nat} (p:∀k,Run n m t0 (T k)) (hF:∀k,kq m (T k)) (B:∀k,qH n m (T k) (r k) (c k)) (hT:∀k,T (k+1)=fU (T k) (r k) (c k)) {i j:Nat} (b8:i<j) (hb:(T i).basic=(T j).basic) (hf:(T i).free=(T j).free):False:=by
 have b7:(T i).value=(T j).value:=by
  have t:=((p j).mN _ _).2 (((p i).mN _ _).1 (asg_holds (p i).wf (p i).gn (y:=λ_=>0)));have e1:bP n (λk=>(T i).cs k*(λ_=>(0:Rat)) k)=0:=by grind[iR]
  have e2:bP n (λk=>(T j).cs k*js n (T i) (λ_=>0) ((T j).fv k))=0:=by
   rw[dL (g:=λ_=>0) λk hk=>by
    have:(T j).fv k=(T i).fv k:=by grind[Tb.fv]
    rw[this,mM (p i).wf (p i).gn hk];grind,iR]
  have K:=t.2;grind
 have L:∀k,(T k).value<=(T (k+1)).value:=λk=>by
  rw[hT k,qH.value];have:=δt (a:=(T k).cs (c k)) (by have:=(B k).cost;grind) ((B k).ge (hF k));grind
 have S:∀d a,(T a).value<=(T (a+d)).value:=λd=>by
  induction d<;>grind
 have H:∀k,i<=k->k<j->(T k).bd (r k)=0:=λk t K=>by
  have a1:=S (k - i) i;have a2:=S (j - (k+1)) (k+1);rw[show i+(k - i)=k by omega] at a1;rw[show k+1+(j - (k+1))=j by omega] at a2;have a3:=L k;rw[hT k] at a2 a3;rw[qH.value] at a2 a3;have h3:=(B k).ge (hF k);have hc:=(B k).cost;have h4:=@div_mul ((T k).bd (r k)) _ (B k).pos;grind[Rat.mul_eq_zero]
 have b6:∀k,i<=k->k<j->∀v,v∈(T k).basic++(T k).free->js n (T (k+1)) (λ_=>0) v=js n (T k) (λ_=>0) v:=λk t K v O=>by
  have hw:=(p k).wf;have G:=(p (k+1)).wf;have hx:=((p (k+1)).mN _ _).2 (((p k).mN _ _).1 (asg_holds hw (p k).gn (y:=λ_=>0)));have hz:∀q,q<n->js n (T k) (λ_=>0) ((T (k+1)).fv q)=0:=λq s=>by
   rw[hT k,Jo hw (B k).hc];split
   ·rw[nI hw (p k).gn (B k).hr,H k t K,dL (g:=λ_=>0) λj _=>by grind,iR];grind
   ·rw[mM hw (p k).gn s]
  have A:v∈(T (k+1)).basic++(T (k+1)).free:=((p (k+1)).perm.trans (p k).perm.symm).mem_iff.2 O;rcases γk.1 A with A|A
  ·obtain⟨q,s,rfl⟩:=yj G A;have:=hx.1 q s;rw[dL (g:=λ_=>0) λj hj=>by simp_all,iR] at this;rw[nI G (p (k+1)).gn s,dL (g:=λ_=>0) λj _=>by grind,iR];grind
  ·obtain⟨q,s,rfl⟩:=wi G A;rw[hz q s,mM G (p (k+1)).gn s]
 have w:∀a b v,v∈(T a).basic++(T a).free->v∈(T b).basic++(T b).free:=λa b v O=>((p b).perm.trans (p a).perm.symm).mem_iff.2 O;have W:∀d a,i<=a->a+d<=j->∀v,v∈(T a).basic++(T a).free->js n (T (a+d)) (λ_=>0) v=js n (T a) (λ_=>0) v:=λd=>by
  induction d<;>grind
 have hA:∀a b,i<=a->a<=j->i<=b->b<=j->∀v,v∈(T a).basic++(T a).free->js n (T a) (λ_=>0) v=js n (T b) (λ_=>0) v:=λa b t K h3 h4 v O=>by
  have e1:=W (a - i) i (by omega) (by omega) v (w _ _ v O);have e2:=W (b - i) i (by omega) (by omega) v (w _ _ v O);simp_all
 have P:∀k v,v∈(T (k+1)).basic↔v=(T k).fv (c k)\/(v∈(T k).basic/\v≠(T k).bv (r k)):=λk v=>by
  rw[hT k];exact acA (by rw[(p k).wf.basic];exact(B k).hr) (γr.1 (p k).gn).1
 have U:∀v a b,i<=a->a<=j->i<=b->b<=j->v∈(T a).basic->v∉(T b).basic->∃k,i<=k/\k<j/\(T k).fv (c k)=v:=λv a b a1 a2 b1 b2 ha a9=>by
  apply δT;intro Y;have I:∀d x,i<=x->x+d<=j->v∈(T (x+d)).basic->v∈(T x).basic:=λd=>by
   induction d<;>grind
  have t:=I (a - i) i (by omega) (by omega) (by simp_all);rw[hb] at t;exact a9 (I (j - b) b (by omega) (by omega) (by simp_all))
 obtain⟨l,⟨a6,b9⟩,a0⟩:=@SC (λk=>(T k).fv (c k)) i (j - 1 - i);have J:∀x,i<=x->x<j->(T x).fv (c x)<=(T l).fv (c l):=λx t K=>a0 x t (by omega);have c2:l<j:=by omega
 have a7:(T l).fv (c l)∈(T l).free:=wh (p l).wf (B l).hc;have c0:(T l).fv (c l)∉(T l).basic:=λh=>Js (p l).gn h a7;obtain⟨o,F,Q,hl⟩:∃o,i<=o/\o<j/\(T o).bv (r o)=(T l).fv (c l):=by
  apply δT;intro Y;have up:∀d x,i<=x->x+d<=j->(T l).fv (c l)∈(T x).basic->(T l).fv (c l)∈(T (x+d)).basic:=λd=>by
   induction d with
   |zero=>intro x _ _ h;exact h;|succ d ih=>
    intro x t K h;exact(P (x+d) _).2 (.inr ⟨ih x t (by omega) h,λe=>Y ⟨x+d,by omega,by omega,e.symm⟩⟩)
  have t:=up (j - (l+1)) (l+1) (by omega) (by omega) ((P l _).2 (.inl rfl));rw[show l+1+(j - (l+1))=j by omega,<-hb] at t;have K:=up (l - i) i (by omega) (by omega) t;simp_all
 have w1:=(p l).wf;have C:=(p o).wf;have n1:=(p l).gn;have E:=(p o).gn;have p1:=B l;have N:=B o;have x1:=(((p l).mN _ _).2 (((p o).mN _ _).1 (asg_holds C E (y:=λq=>if q=c o then 1 else 0)))).2;have x0:=(((p l).mN _ _).2 (((p o).mN _ _).1 (asg_holds C E (y:=λ_=>0)))).2;rw[dL (f:=λq=>(T o).cs q*(λq=>if q=c o then(1:Rat) else 0) q) (g:=λq=>if q=c o then(T o).cs (c o) else 0) λq _=>by
  by_cases s:q=c o<;>grind,wb,if_pos N.hc] at x1;rw[dL (f:=λq=>(T o).cs q*(λ_=>(0:Rat)) q) (g:=λ_=>0) λq _=>by grind,iR] at x0;have hd:0<bP n λq=>(T l).cs q*(js n (T o) (λq=>if q=c o then 1 else 0) ((T l).fv q) - js n (T o) (λ_=>0) ((T l).fv q)):=by
  rw[dL (g:=λq=>(T l).cs q*js n (T o) (λq=>if q=c o then 1 else 0) ((T l).fv q)+(-1)*((T l).cs q*js n (T o) (λ_=>0) ((T l).fv q))) λq _=>by grind,yg,v8];have:=N.cost;grind
 obtain⟨q,s,u⟩:=SD hd;have a5:(T l).fv q∈(T l).free:=wh w1 s;have Z:=w l o _ (List.mem_append_right _ a5);rcases γk.1 Z with a4|X
 ·obtain⟨D,z,e⟩:=yj C a4;rw[<-e,nI C E z,nI C E z,dL (f:=λj=>(T o).cf D j*(λq=>if q=c o then(1:Rat) else 0) j) (g:=λj=>if j=c o then(T o).cf D (c o) else 0) (λj _=>by
   by_cases hj:j=c o<;>grind),wb,if_pos N.hc,dL (f:=λj=>(T o).cf D j*(λ_=>(0:Rat)) j) (g:=λ_=>0) (λj _=>by grind),iR] at u;have M:0<(T l).cs q*(-(T o).cf D (c o)):=by grind
  obtain⟨k3,b3,b5,h3⟩:=U _ o l F (by omega) a6 (by omega) a4 (λh=>Js n1 h a5);have b0:(T l).fv q<=(T l).fv (c l):=by grind
  rcases AQ ((T l).cs q) 0 with hs|hs
  ·have a8:0<(T o).cf D (c o):=by
    rcases AQ ((T o).cf D (c o)) 0 with h4|h4
    ·exfalso;have:=δt (a:= -(T l).cs q) (b:= -(T o).cf D (c o)) (by grind) (by grind);grind
    ·exact h4
   have b4:(T o).bd D=0:=by
    have V:=hA o l F (by omega) a6 (by omega) ((T l).fv q) Z;rw[mM w1 n1 s,<-e,nI C E z,dL (g:=λ_=>0) λj _=>by grind,iR] at V;grind
   have c1:=H o F Q;have hz:∀b:Rat,(0:Rat) / b=0:=λb=>by grind
   rcases N.ratio D z a8 with h6|h6;·simp_all
   ·have h7:(T l).fv (c l)<=(T l).fv q:=by omega
    have h8:=acC w1 n1 s p1.hc (by omega);rw[h8] at hs;have:=p1.cost;grind
  ·have h7:=p1.least q s hs;have h8:D=r o:=acB C E z N.hr (by omega);rw[h8] at M;have:=δt (a:=(T l).cs q) (b:=(T o).cf (r o) (c o)) (by grind) (by have:=N.pos;grind);grind
 ·obtain⟨q2,R,e⟩:=wi C X;rw[<-e,mM C E R,mM C E R] at u;by_cases V:q2=c o
  ·rw[if_pos V] at u;have h6:=p1.least q s (by grind);have h7:=J o F Q;rw[V] at e;have h8:(T l).fv (c l)=(T o).fv (c o):=by omega
   exact Js E (AW C N.hr) (by grind)
  ·rw[if_neg V] at u;grind
end
open Go.Proofs.YtbnhiekmnpikhaaGreat.Ir
open Go.Proofs
def eA (x y:Int):Int:=(Nat.gcd x.toNat y.toNat:Nat)
theorem acE {x y:Int} (h0:0<=x) (h1:0<y):eA y (x % y)=eA x y:=by
 unfold eA;congr 1;rw[Nat.gcd_comm x.toNat,Nat.gcd_rec y.toNat x.toNat,Nat.gcd_comm,Int.toNat_emod h0 (by omega)]
theorem acF {x:Int} (h0:0<=x):eA x 0=x:=by unfold eA;simp;omega
theorem mh {i u v:Nat} (h:u=v):(γZ i u 1).same (γZ i v 1):=by subst h;rfl
theorem SE {l:List Int} (h:l=[]):(Ψ (.i .i64) []).same (Ψ (.i .u32) l):=by subst h;rfl
def sbO (x y:Int):SV:=.bI [.row (.i .u32) (cK (x - y)),.sb (decide (y<=x))]
theorem Jt {n:Int} (h:n<=0):cK n=[]:=by
 unfold cK;rw[show n.toNat=0 by omega];rfl
def Ju:bM:=⟨166,List Int×List Int,.cons (dF (.i .u32)) (.one (dF (.i .u32))),λa=>(bA a.1/\bA a.2)/\a.1.length<=100000000000/\a.2.length<=100000000000,
 λa=>sbO (bk a.1) (bk a.2)⟩
def acH (a:List Int×List Int):Nat->cE
 |7=> .inv (Int×Int×List Int) (λx=>⟨[(0,.row (.i .u32) (bJ a.1)),(1,.row (.i .u32) (bJ a.2)),(6,.ow 0 x.2.2.length 1),(7,.si .u64 x.2.1),(22,.si .i64 (bJ a.1).length),(23,.si .i64 x.1)],[.row (.i .u32) x.2.2 172 true]⟩)
  (λs=>(iS s 23,iS s 7,oS (.i .u32) s 0))
  (λx=>(0<=x.1/\x.1<=(bJ a.1).length)/\(0<=x.2.1/\x.2.1<=1)/\bA x.2.2/\x.2.2.length=(bJ a.1).length/\(∀j,x.1.toNat<=j->bj x.2.2 j 0=0)/\
   bk x.2.2 - 4294967296^x.1.toNat*x.2.1=bk ((bJ a.1).take x.1.toNat) - bk ((bJ a.2).take x.1.toNat)) (λx=>((bJ a.1).length - x.1).toNat) λ_ _=> .look
 |_=> .look
theorem SG {s t row:List Int} {i:Nat} {br d v c:Int} (hs:bA s) (ht:bA t) (hr:bA row) (hl:row.length=s.length) (hz:∀j,i<=j->bj row j 0=0)
  (hv:bk row - 4294967296^i*br=bk (s.take i) - bk (t.take i)) (hi:i<s.length) (hd:d=bj s i 0 - br - bj t i 0) (h0:0<=v/\v<4294967296) (hc:v - 4294967296*c=d):
  bA (row.set i v)/\(row.set i v).length=s.length/\(∀j,i+1<=j->bj (row.set i v) j 0=0)/\bk (row.set i v) - 4294967296^(i+1)*c=bk (s.take (i+1)) - bk (t.take (i+1)):=by
 refine⟨nB hr h0.1 h0.2,by simp[hl],λj hj=>by rw[pO (by omega)];exact hz j (by omega),?_⟩;rw[ui (by omega),lX,lX,hz i (ξ _),γQ,ζe];have h1:(4294967296:Int)^i*(v - 4294967296*c)=4294967296^i*(bj s i 0 - br - bj t i 0):=by rw[hc,hd]
 simp only[Int.mul_sub] at h1;rw[<-δj] at h1;omega
theorem h155:Holds Tryz.prog Ju:=by
 refine cF (L:=[rA,xR]) Ju acH (by simpa using⟨h152,h132⟩) ?_;rintro⟨a,b⟩ ⟨⟨ha,hb⟩,hla,hlb⟩;simp only at ha hb hla hlb;refine bO (let c:=(0:Int);let d:=(18446744073709551616:Int);let e:=Ψ;let f:=(4294967296:Int);let g:=γh .i64;let h:=(1:Int);let k:=γZ;let l:=SV.bI;let z0:Nat:=(bJ a).length;let B:=decide (lV (bk (bJ a)) (bk (bJ b))<c);let m:=bp.i .u32;let C:=l [e m (cK (bk a - bk b)),γv (decide (bk b<=bk a))];let o:=(↑(bJ a).length:Int);let q:=δ o.toNat c;let p:=(↑z0:Int);let z:=g p;let D:=bq.row m q 172 true;let A:=(↑(bJ b).length:Int);a.length<=1000000000000/\b.length<=1000000000000/\((bA (bJ a)/\bA (bJ b))/\z0<=1000000000000/\(bJ b).length<=1000000000000)/\(B=true->(l [e (bp.i .i64) [],δc false]).same C)/\(B=false->c<=o/\o<=o/\o*(4:Int)<=(140737488355328:Int)/\o<=(1000000000000:Int)/\((((e m (bJ a)).same (e m (bJ a))/\(e m (bJ b)).same (e m (bJ b))/\(k 0 o.toNat 1).same (k 0 q.length 1)/\(γx .u64 0).same (γh .u64 0)/\(g o).same z/\(γx .i64 0).same (g 0)/\True)/\D.same D/\True)/\(c<=c/\c<=p)/\(c<=c/\c<=h)/\bA q/\q.length=z0/\(∀(j:Nat),0<=j->bj q j c=c)/\bk q - c=c)/\∀(x:Int×Int×List Int),let r:=x.snd.snd.length;let v:=x.snd.snd.length;let n:=x.fst.toNat;let s:=x.fst+h;let E:=g s;let w:=s.toNat;let F:=bj (bJ a) n c;let G:=λ(u u_1:Int) ↦let H:=(u % d - u_1) % d;let t:=x.snd.snd.set n (H % f);let y:=H / (9223372036854775808:Int);let I:=γh .u64 y;let J:=bq.row m t 172 true;c<=(63:Int)/\(63:Int)<=(64:Int)/\r=v/\c<=x.fst/\x.fst<(↑v:Int)/\r=v/\n<v/\cq .i64 s/\(((e m (bJ a)).same (e m (bJ a))/\(e m (bJ b)).same (e m (bJ b))/\(k 0 r 1).same (k 0 t.length 1)/\I.same I/\z.same z/\E.same E/\True)/\J.same J/\True)/\((c<=s/\s<=p)/\(c<=y/\y<=h)/\bA t/\t.length=z0/\(∀(j:Nat),w<=j->bj t j c=c)/\bk t - f^w*y=bk (Δ w (bJ a)) - bk (Δ w (bJ b)))/\(p - s).toNat<(p - x.fst).toNat;(c<=x.fst/\x.fst<=p)/\(c<=x.snd.fst/\x.snd.fst<=h)/\bA x.snd.snd/\r=z0/\(∀(j:Nat),n<=j->bj x.snd.snd j c=c)/\bk x.snd.snd - f^n*x.snd.fst=bk (Δ n (bJ a)) - bk (Δ n (bJ b))->(decide (x.fst<p)=true->c<=x.fst/\x.fst<o/\n<(bJ a).length/\(decide (x.fst<A)=true->c<=x.fst/\x.fst<A/\n<(bJ b).length/\G (F % d - x.snd.fst) (bj (bJ b) n c % d))/\(decide (x.fst<A)=false->G F x.snd.fst))/\(decide (x.fst<p)=false->r=v/\r<=1000000000000/\(l [e m (bJ x.snd.snd),δc true]).same C))) (by kernel_rfl) ?_;simp only[vcs];obtain⟨va,na⟩:=@rB a;obtain⟨vb,nb⟩:=@rB b;have da:=sL ha;have db:=sL hb;have la:=@uh a;have lb:=@uh b;have pa:=fi da;have pb:=fi db;rw[<-va,<-vb];generalize bJ a=s at*;generalize bJ b=t at*;have hr0:∀n j,bj (δ n (0:Int)) j 0=0:=λn j=>by
  unfold bj;rw[εB];split<;>rfl
 have hd0:∀n,bA (δ n 0):=λn d hd=>by
  have:=δZ hd;omega
 have hv0:∀n,bk (δ n 0)=0:=λn=>by
  induction n with
  |zero=>rfl;|succ n ih=>simp only[δk,bk,ih];omega
 refine⟨by omega,by omega,⟨⟨da,db⟩,by omega,by omega⟩,λhlt=>?_,λhge=>⟨by omega,by omega,by omega,by omega,?_,?_⟩⟩
 ·have hlt2:bk s<bk t:=by unfold lV at hlt;split at hlt<;>(try split at hlt)<;>omega
  refine⟨SE (Jt (by omega)),?_⟩;rw[eq_comm,decide_eq_false_iff_not];omega
 ·repeat' refine γj ?_ ?_
  all_goals first|omega|exact mh (by simp)|exact hd0 _|exact λj _=>hr0 _ j|(simp;done)|(rw[hv0];rfl)
 have Dp:bk t<=bk s:=by unfold lV at hge;split at hge<;>(try split at hge)<;>omega
 rintro⟨i,br,row⟩ ⟨⟨i0,i1⟩,⟨b0,b1⟩,hr,hl,hz,hv⟩;simp only at i0 i1 b0 b1 hr hl hz hv ⊢;refine⟨λlY=>?_,λnA=>?_⟩
 ·have d1:=ek da i.toNat;have d2:=ek db i.toNat;have e:(i+1).toNat=i.toNat+1:=by omega
  refine⟨i0,lY,by omega,λht=>?_,λht=>?_⟩
  ·generalize hq:((bj s i.toNat 0 % 18446744073709551616 - br) % 18446744073709551616 - bj t i.toNat 0 % 18446744073709551616) % 18446744073709551616=q;obtain⟨k1,k2,k3,k4⟩:=SG (v:=q % 4294967296) (c:=q / 9223372036854775808) da db hr hl hz hv (by omega) rfl (by omega) (by omega);rw[e];repeat' refine γj ?_ ?_
   all_goals first|omega|exact mh (by simp)|exact k1|exact k2|exact k3|exact k4
  ·have hz2:=DI (a:=t) (i:=i.toNat) (by omega);generalize hq:(bj s i.toNat 0 % 18446744073709551616 - br) % 18446744073709551616=q;obtain⟨k1,k2,k3,k4⟩:=SG (v:=q % 4294967296) (c:=q / 9223372036854775808) da db hr hl hz hv (by omega) rfl (by omega) (by omega);rw[e];repeat' refine γj ?_ ?_
   all_goals first|omega|exact mh (by simp)|exact k1|exact k2|exact k3|exact k4
 ·have hi:i.toNat=s.length:=by omega
  have hlen:t.length<=s.length:=by
   by_cases h:s.length<t.length
   ·have:=xQ da db nb h;omega
   ·omega
  rw[hi,ψ,γo hlen] at hv;have hbd:=ot hr;have hp:=pow_pos s.length;rw[hl] at hbd;have hb0:br=0:=by
   by_cases h:br=0;·exact h
   ·have:br=1:=by omega
    subst this;omega
  rw[hb0,δF,ζe] at hv;refine⟨by omega,?_,?_⟩;·rw[qy hr,hv]
  ·rw[eq_comm,decide_eq_true_eq];exact Dp
theorem SH {n j:Nat}:bj (δ n (0:Int)) j 0=0:=by
 unfold bj;rw[εB];split<;>rfl
theorem AX {n:Nat}:bA (δ n 0):=λd hd=>by
 have:=δZ hd;omega
theorem yk:∀{n:Nat},bk (δ n 0)=0
 |0=>rfl
 |n+1=>by simp only[δk,bk,@yk n];omega
theorem acI {o b:List Int} {x:Int} {i k:Nat}:iy o b x i (k+1)=((iy o b x i k).1.set (i+k) ((x*bj b k 0+bj (iy o b x i k).1 (i+k) 0+(iy o b x i k).2) % 4294967296),(x*bj b k 0+bj (iy o b x i k).1 (i+k) 0+(iy o b x i k).2) / 4294967296):=rfl
def yl:bM:=⟨164,List Int×List Int,.cons (dF (.i .u32)) (.one (dF (.i .u32))),λa=>(bA a.1/\bA a.2)/\a.1.length<=100000000000/\a.2.length<=100000000000,
 λa=> .row (.i .u32) (cK (bk a.1*bk a.2))⟩
def stM (a:List Int×List Int) (row:List Int):bZ:=[.row (.i .u32) row 172 true]
def acJ (a:List Int×List Int):Nat->cE
 |3=> .inv (Int×List Int) (λx=>⟨[(0,.row (.i .u32) a.1),(1,.row (.i .u32) a.2),(5,.ow 0 x.2.length 1),(17,.si .i64 a.1.length),(18,.si .i64 x.1)],stM a x.2⟩)
  (λs=>(iS s 18,oS (.i .u32) s 0))
  (λx=>(0<=x.1/\x.1<=a.1.length)/\bA x.2/\x.2.length=a.1.length+a.2.length/\bk x.2=bk (a.1.take x.1.toNat)*bk a.2) (λx=>(a.1.length - x.1).toNat)
  λx=>λ
   |7=> .inv (Int×Int×List Int) (λy=>⟨[(0,.row (.i .u32) a.1),(1,.row (.i .u32) a.2),(5,.ow 0 y.2.2.length 1),(6,.si .i64 x.1),(7,.si .u64 y.2.1),(17,.si .i64 a.1.length),(18,.si .i64 x.1),(22,.si .i64 a.2.length),(23,.si .i64 y.1)],stM a y.2.2⟩)
    (λs=>(iS s 23,iS s 7,oS (.i .u32) s 0))
    (λy=>(0<=y.1/\y.1<=a.2.length)/\y.2.2=(iy x.2 a.2 (bj a.1 x.1.toNat 0) x.1.toNat y.1.toNat).1/\y.2.1=(iy x.2 a.2 (bj a.1 x.1.toNat 0) x.1.toNat y.1.toNat).2) (λy=>(a.2.length - y.1).toNat) λ_ _=> .look
   |_=> .look
 |_=> .look
theorem h153:Holds Tryz.prog yl:=by
 refine cF (L:=[rA]) yl acJ (by simpa using h152) ?_;rintro⟨a,b⟩ ⟨⟨ha,hb⟩,hla,hlb⟩;simp only at ha hb hla hlb;refine bO (let c:=(18446744073709551616:Int);let d:=(0:Int);let e:=Ψ;let f:=γh .i64;let g:=(4294967296:Int);let h:=cq .i64;let j:=γZ;let k:=γx .i64 0;let l:=bq.row;let F:=(↑a.length:Int);let z:=(↑b.length:Int);let p:=F+z;let m:=bp.i .u32;let A:=δ p.toNat d;let q:=(↑a.length:Int);let t:=f q;let J:=l m A 172 true;let G:=a.length+b.length;let r:=(↑b.length:Int);let H:=f r;h p/\d<=p/\p<=p/\p*(4:Int)<=(140737488355328:Int)/\p<=(1000000000000:Int)/\((((e m a).same (e m a)/\(e m b).same (e m b)/\(j 0 p.toNat 1).same (j 0 A.length 1)/\(f F).same t/\(k).same (f 0)/\True)/\J.same J/\True)/\(d<=d/\d<=q)/\bA A/\A.length=G/\bk A=bk []*bk b)/\∀(x:Int×List Int),let C:=x.snd.length;let v:=x.fst.toNat;let K:=j 0 C 1;let s:=f x.fst;let L:=l m x.snd 172 true;let D:=bj a v d;let M:=iy x.snd b D v 0;let w:=x.fst+(1:Int);let N:=f w;(d<=x.fst/\x.fst<=q)/\bA x.snd/\C=G/\bk x.snd=bk (Δ v a)*bk b->(decide (x.fst<q)=true->((((e m a).same (e m a)/\(e m b).same (e m b)/\K.same K/\s.same s/\(γx .u64 0).same (γh .u64 0)/\t.same t/\s.same s/\(f z).same H/\(k).same (f 0)/\True)/\L.same L/\True)/\(d<=d/\d<=r)/\x.snd=M.fst/\d=M.snd)/\∀(x_1:Int×Int×List Int),let O:=iy x.snd b D v x_1.fst.toNat;let o:=x.fst+x_1.fst;let n:=x_1.snd.snd.length;let y:=x_1.fst+(1:Int);let P:=j 0 x_1.snd.snd.length 1;let I:=((D % c*(bj b x_1.fst.toNat d % c) % c+bj x_1.snd.snd o.toNat d % c) % c+x_1.snd.fst) % c;let Q:=x_1.snd.snd.set o.toNat (I % g);let R:=I / g;let S:=γh .u64 R;let T:=f y;let U:=iy x.snd b D v y.toNat;let B:=x.fst+z;let E:=x_1.snd.snd.set B.toNat (x_1.snd.fst % g);let V:=λ(u u_1:Int) ↦let W:=l m (x_1.snd.snd.set (x.fst+u).toNat (u_1 % g)) 172 true;W.same W/\True;(d<=x_1.fst/\x_1.fst<=r)/\x_1.snd.snd=O.fst/\x_1.snd.fst=O.snd->(decide (x_1.fst<r)=true->d<=x.fst/\x.fst<F/\v<a.length/\d<=x_1.fst/\x_1.fst<z/\x_1.fst.toNat<b.length/\h o/\x_1.snd.snd.length=n/\d<=o/\o<(↑n:Int)/\x_1.snd.snd.length=n/\o.toNat<n/\h o/\d<=(32:Int)/\(32:Int)<=(64:Int)/\x_1.snd.snd.length=n/\d<=o/\o<(↑n:Int)/\x_1.snd.snd.length=n/\o.toNat<n/\h y/\(((e m a).same (e m a)/\(e m b).same (e m b)/\P.same (j 0 Q.length 1)/\s.same s/\S.same S/\t.same t/\s.same s/\H.same H/\T.same T/\True)/\V x_1.fst I)/\((d<=y/\y<=r)/\Q=U.fst/\R=U.snd)/\(r - y).toNat<(r - x_1.fst).toNat)/\(decide (x_1.fst<r)=false->h B/\x_1.snd.snd.length=n/\d<=B/\B<(↑n:Int)/\x_1.snd.snd.length=n/\B.toNat<n/\h w/\(((e m a).same (e m a)/\(e m b).same (e m b)/\P.same (j 0 E.length 1)/\t.same t/\N.same N/\True)/\V z x_1.snd.fst)/\((d<=w/\w<=q)/\bA E/\E.length=G/\bk E=bk (Δ w.toNat a)*bk b)/\(q - w).toNat<(q - x.fst).toNat))/\(decide (x.fst<q)=false->C=x.snd.length/\C<=1000000000000/\(e m (bJ x.snd)).same (e m (cK (bk a*bk b))))) (by kernel_rfl) ?_;simp only[vcs];refine⟨by omega,by omega,by omega,by omega,by omega,?_,?_⟩
 ·repeat' refine γj ?_ ?_
  all_goals first|omega|exact mh (by simp)|exact AX|(simp;omega)|(rw[yk];simp[bk])
 rintro⟨i,row⟩ ⟨⟨i0,i1⟩,hr,hl,hv⟩;simp only at i0 i1 hr hl hv ⊢;refine⟨λlY=>⟨⟨⟨by omega,by omega⟩,rfl,rfl⟩,?_⟩,λnA=>?_⟩
 ·rintro⟨k,c,ro⟩ ⟨⟨k0,k1⟩,e1,e2⟩;simp only at k0 k1 e1 e2 ⊢;have x1:=ek ha i.toNat;obtain⟨m1,m2,⟨m3,m4⟩,m5,m6⟩:=@QX row b (bj a i.toNat 0) i.toNat hr hb x1.1 x1.2 k.toNat (by omega);have hp:=@acI row b (bj a i.toNat 0) i.toNat k.toNat;generalize iy row b (bj a i.toNat 0) i.toNat k.toNat=M at*;obtain⟨p,q⟩:=M;simp only at e1 e2 m1 m2 m3 m4 m5 m6 hp;subst e1 e2;have hik:(i+k).toNat=i.toNat+k.toNat:=by omega
  have hk1:(k+1).toNat=k.toNat+1:=by omega
  have hi1:(i+1).toNat=i.toNat+1:=by omega
  refine⟨λklt=>?_,λkge=>?_⟩
  ·have x2:=ek hb k.toNat;have x3:=ek m1 (i.toNat+k.toNat);have hxb:0<=bj a i.toNat 0*bj b k.toNat 0:=γt x1.1 x2.1;have ah6:bj a i.toNat 0*bj b k.toNat 0<=4294967295*4294967295:=Int.mul_le_mul (by omega) (by omega) x2.1 (by omega);rw[hik,hk1,hp];have hq:(((bj a i.toNat 0 % 18446744073709551616*(bj b k.toNat 0 % 18446744073709551616) % 18446744073709551616+bj ro (i.toNat+k.toNat) 0 % 18446744073709551616) % 18446744073709551616+c) % 18446744073709551616)=bj a i.toNat 0*bj b k.toNat 0+bj ro (i.toNat+k.toNat) 0+c:=by
    rw[δI (a:=bj a i.toNat 0) (by omega) (by omega),δI (a:=bj b k.toNat 0) (by omega) (by omega)];omega
   rw[hq];repeat' refine γj ?_ ?_
   all_goals first|omega|exact mh (by simp)|rfl
  ·have hkl:k.toNat=b.length:=by omega
   rw[show(i+(b.length:Int)).toNat=i.toNat+b.length by omega];rw[hkl,ψ] at m6;rw[hkl] at m5;have hz:bj ro (i.toNat+b.length) 0=0:=by
    rw[m5 _ (ξ _)];refine Ai hr (i:=i.toNat+b.length) ?_ (ξ _);rw[hv,δ4];have t1:=ot (nz ha i.toNat);rw[γu,εf (by omega)] at t1;have t2:=ot hb;have t3:=fi (nz ha i.toNat);have t4:=fi hb;exact εI (Ξ (γe t2) t3) (γ3 t1 (pow_pos _))
   have hc:c % 4294967296=c:=by omega
   rw[hc,hi1];have hfin:bk (ro.set (i.toNat+b.length) c)=bk (a.take (i.toNat+1))*bk b:=by
    rw[ui (by omega),hz,ζe,m6,hv,lX,Int.add_mul,δj]
   repeat' refine γj ?_ ?_
   all_goals first|omega|exact mh (by simp)|exact nB m1 m3 m4|exact hfin|(rw[Φ];omega)
 ·have hi:i.toNat=a.length:=by omega
  rw[hi,ψ] at hv;refine⟨by omega,?_⟩;rw[qy hr,hv]
theorem SI {x m:Int} {k:Nat} (p:0<=x) (t:x<2^k) (o:0<=m) (j:m*2^k<4294967296) (u:x<4294967296):gX.nW .u32 x (m*2^k)=x+m*2^k:=by
 obtain⟨a,rfl⟩:=δD p;obtain⟨b,rfl⟩:=δD o;have e:((b:Int)*2^k)=((2^k*b:Nat):Int):=by grind
 have h:a<2^k:=by grind
 rw[e] at j ⊢;generalize i:2^k*b=c at*;have d:c<4294967296:=by omega
 have f:a<4294967296:=by omega
 have q:(γn 32 ((a:Nat):Int)).toNat=a:=by simp_all
 have r:(γn 32 ((c:Nat):Int)).toNat=c:=by simp_all
 have g:a |||c=a+c:=by
  rw[Nat.or_comm,<-i,<-Nat.two_pow_add_eq_or_of_lt h];omega
 have l:a+c<4294967296:=by
  rw[<-g];exact Nat.or_lt_two_pow (n:=32) f d
 have s:(γn 32 ((a:Nat):Int) |||γn 32 ((c:Nat):Int)).toNat=a+c:=by
  grind
 show eX .u32 ((γn 32 ((a:Nat):Int) |||γn 32 ((c:Nat):Int)).toNat:Nat)=_;grind[tJ,IntKind.wrap,IntKind.bits,IntKind.signed]
theorem Jv:∀{l:List Int} {i:Nat},bA l->4294967296^i*bj l i 0<=bk l
 |[],i,_=>by simp[bj,bk];|d::l,0,h=>by
  obtain⟨b,a⟩:=jq.1 h;have:=fi a;grind[bj,bk];|d::l,i+1,h=>by
  obtain⟨b,a⟩:=jq.1 h;have:=@Jv l i a;have e:bj (d::l) (i+1) 0=bj l i 0:=by simp[bj]
  rw[e,γQ,δ1 (4294967296^i),δj];grind[bk]
theorem SJ {a b:List Int} {i k:Nat} (n:bA a) (e:bA b) (F:b.length=a.length+1) (G:i<a.length) (u:k<=31) (q:bk b=bk (a.take i)*2^k):
  bA ((b.set i (gX.nW .u32 (bj b i 0) (bj a i 0 % 18446744073709551616*2^k % 18446744073709551616 % 4294967296))).set (i+1) (bj a i 0 % 18446744073709551616*2^k % 18446744073709551616 / 4294967296 % 4294967296))/\
  bk ((b.set i (gX.nW .u32 (bj b i 0) (bj a i 0 % 18446744073709551616*2^k % 18446744073709551616 % 4294967296))).set (i+1) (bj a i 0 % 18446744073709551616*2^k % 18446744073709551616 / 4294967296 % 4294967296))=bk (a.take (i+1))*2^k:=by
 have x:=ek n i;have r:=ek e i;have c:(0:Int)<2^k:=δL (by decide);have A:(2:Int)^k<=2147483648:=by
  have D:(2:Nat)^k<=2^31:=δp (by decide) u;grind
 have w:(4294967296:Int)=2^(32 - k)*2^k:=by
  rw[<-δ4,show 32 - k+k=32 by omega];decide
 have B:(0:Int)<2^(32 - k):=δL (by decide);have v:0<=bj a i 0*2^k:=γt x.1 (γe c);have H:bj a i 0*2^k<4294967296*2^k:=γ3 x.2 c;have z:bj a i 0 % 18446744073709551616*2^k % 18446744073709551616=bj a i 0*2^k:=by
  rw[δI (a:=bj a i 0) (by omega) (by omega),δI v (by omega)]
 have o:bj a i 0*2^k % 4294967296=(bj a i 0 % 2^(32 - k))*2^k:=by
  conv=>lhs;rw[w]
  rw[δ1 (bj a i 0),δ1 (2^(32 - k)),ζy _ _ c,δ1]
 have p:=δK (bj a i 0) (show(2:Int)^(32 - k)≠0 by omega);have E:=δn (bj a i 0) B;have s:=pow_pos i;have d:bk b<4294967296^i*2^k:=by
  rw[q];have:=ot (nz n i);rw[γu,εf (by omega)] at this;simp_all
 have h:bj b i 0<2^k:=εp (εI (Jv e) d) (γe s);have m:bj b (i+1) 0=0:=by
  refine Ai e (i:=i+1) ?_ (ξ _);rw[γQ];exact εE d (Ξ (by omega) (γe s))
 have f:(bj a i 0 % 2^(32 - k))*2^k+2^k<=4294967296:=by
  have:(bj a i 0 % 2^(32 - k)+1)*2^k<=2^(32 - k)*2^k:=γR (by omega) (γe c);grind
 have l:0<=(bj a i 0 % 2^(32 - k))*2^k:=γt p (γe c);have g:=SI (k:=k) r.1 h p (by omega) r.2;rw[z,o,g];generalize y:bj a i 0*2^k=t at*;have j:(bj a i 0 % 2^(32 - k))*2^k=t % 4294967296:=o.symm;rw[j] at f l ⊢;refine⟨nB (nB e (by omega) (by omega)) (by omega) (by omega),?_⟩;rw[ui (by simp;omega),ui (by omega),pO (by omega),m,lX,Int.add_mul,δj,y,q,γQ];have C:t / 4294967296 % 4294967296=t / 4294967296:=by omega
 grind
def shl (a:List Int) (k:Nat):List Int:=ix (a.length+1) (bk a*2^k)
abbrev SK:=List Int×Int
def AY (a:SK):Prop:=bA a.1/\a.1.length<=100000000000/\0<=a.2/\a.2<=31
def Jw:bM:=⟨187,List Int×Int,.cons (dF (.i .u32)) (.one (eZ .u64)),AY,λa=> .row (.i .u32) (shl a.1 a.2.toNat)⟩
def Jx:dH where
 f:=187;α:=List Int×Int;put a:=[.row (.i .u32) a.1,.si .u64 a.2];st _:=[];dec v o:=match v,o with
  |[v,m],[]=>match jG (.i .u32) v,m.int .u64 with
   |some p,some m=>some (p,m)
   |_,_=>none
  |_,_=>none;ok v o a h:=by
  split at h
  ·split at h
   ·rename_i h1 h2;simp only[γ] at h;subst h;exact⟨by simp only[gL,oZ h1,iN h2];rfl,rfl⟩
   ·cases h
  ·cases h
 inj a b h _:=by
  simp only[gL,Γ,and_true] at h;have h2:=h.2;simp only[SV.g,δb,Value.int.injEq,true_and] at h2;exact εC ((dF (.i .u32)).inj _ _ h.1) h2
 dom:=AY;res a:=.ow 0 (shl a.1 a.2.toNat).length 1;out a:=[.row (.i .u32) (shl a.1 a.2.toNat) 172 false]
def SL (a:SK):Nat->cE
 |3=> .inv (Int×List Int) (λx=>⟨[(0,.row (.i .u32) a.1),(1,.si .u64 a.2),(5,.ow 0 x.2.length 1),(13,.si .i64 a.1.length),(14,.si .i64 x.1)],[.row (.i .u32) x.2 172 false]⟩)
  (λs=>(iS s 14,oS (.i .u32) s 0))
  (λx=>(0<=x.1/\x.1<=a.1.length)/\bA x.2/\x.2.length=a.1.length+1/\bk x.2=bk (a.1.take x.1.toNat)*2^a.2.toNat) (λx=>(a.1.length - x.1).toNat) λ_ _=> .look
 |_=> .look
theorem h168:ec Tryz.prog Jx:=by
 refine HE (L:=[]) (W:=[]) Jx (λ_=>none) SL (by simp) (by simp) ?_;rintro⟨a,s⟩ ⟨ha,hla,s0,s1⟩;simp only at ha hla s0 s1;refine bO (let b:=(0:Int);let c:=(18446744073709551616:Int);let d:=(4294967296:Int);let e:=γh .i64;let f:=bq.row;let g:=cq .i64;let h:=Ψ;let j:=γZ;let w:=(↑a.length:Int);let o:=w+(1:Int);let l:=bp.i .u32;let r:=b::δ a.length b;let m:=(↑a.length:Int);let y:=e m;let A:=f l r 172 false;let z:=a.length+1;let u:=(2:Int)^s.toNat;g o/\b<=o/\o<=o/\o*(4:Int)<=(140737488355328:Int)/\o<=(1000000000000:Int)/\((((h l a).same (h l a)/\(γh .u64 s).same (γh .u64 s)/\(j 0 o.toNat 1).same (j 0 r.length 1)/\(e w).same y/\(γx .i64 0).same (e 0)/\True)/\A.same A/\True)/\(b<=b/\b<=m)/\bA r/\r.length=z/\bk r=bk []*u)/\∀(x:Int×List Int),let p:=x.snd.length;let q:=x.fst.toNat;let B:=bj a q b % c*u % c;let v:=x.snd.set q (gX.nW .u32 (bj x.snd q b) (B % d));let n:=x.snd.length;let k:=x.fst+(1:Int);let C:=j 0 p 1;let t:=v.set k.toNat (B / d % d);let D:=e k;let E:=f l t 172 false;let F:=p=v.length;(b<=x.fst/\x.fst<=m)/\bA x.snd/\p=z/\bk x.snd=bk (Δ q a)*u->(decide (x.fst<m)=true->b<=x.fst/\x.fst<w/\q<a.length/\b<=s/\s<=(64:Int)/\p=n/\b<=x.fst/\x.fst<(↑n:Int)/\p=n/\q<n/\p=n/\b<=x.fst/\x.fst<(↑n:Int)/\p=n/\q<n/\g k/\b<=(32:Int)/\(32:Int)<=(64:Int)/\F/\b<=k/\k<(↑v.length:Int)/\F/\k.toNat<v.length/\g k/\(((h l a).same (h l a)/\(γh .u64 s).same (γh .u64 s)/\C.same (j 0 t.length 1)/\y.same y/\D.same D/\True)/\E.same E/\True)/\((b<=k/\k<=m)/\bA t/\t.length=z/\bk t=bk (Δ k.toNat a)*u)/\(m - k).toNat<(m - x.fst).toNat)/\(decide (x.fst<m)=false->C.same (j 0 (shl a s.toNat).length 1)/\(f l x.snd 172 false).same (f l (shl a s.toNat) 172 false)/\True)) (by kernel_rfl) ?_;simp only[vcs];refine⟨by omega,by omega,by omega,by omega,by omega,?_,?_⟩
 ·repeat' refine γj ?_ ?_
  all_goals first|omega|exact mh (by simp)|exact jq.2 ⟨by omega,AX⟩|(simp;done)|(simp only[bk,yk];omega)
 rintro⟨i,row⟩ ⟨⟨i0,i1⟩,hr,hl,hv⟩;simp only at i0 i1 hr hl hv ⊢;refine⟨λlY=>?_,λnA=>?_⟩
 ·obtain⟨k1,k2⟩:=SJ ha hr hl (show i.toNat<a.length by omega) (show s.toNat<=31 by omega) hv;have e:(i+1).toNat=i.toNat+1:=by omega
  rw[e];repeat' refine γj ?_ ?_
  all_goals first|omega|exact mh (by simp)|(simp only[Φ];done)|(simp only[Φ];omega)|exact k1|exact k2
 ·have hi:i.toNat=a.length:=by omega
  rw[hi,ψ] at hv;have hrow:row=shl a s.toNat:=Iy hr hl hv;rw[hrow];exact⟨rfl,rfl⟩
theorem h168p:Holds Tryz.prog Jw:=by
 refine cF (L:=[]) Jw SL (by simp) ?_;rintro⟨a,s⟩ ⟨ha,hla,s0,s1⟩;simp only at ha hla s0 s1;refine bO (let b:=(0:Int);let c:=(18446744073709551616:Int);let d:=(4294967296:Int);let e:=γh .i64;let f:=Ψ;let g:=cq .i64;let h:=γZ;let v:=(↑a.length:Int);let o:=v+(1:Int);let l:=bp.i .u32;let q:=b::δ a.length b;let m:=(↑a.length:Int);let w:=e m;let z:=bq.row l q 172 false;let y:=a.length+1;let t:=(2:Int)^s.toNat;g o/\b<=o/\o<=o/\o*(4:Int)<=(140737488355328:Int)/\o<=(1000000000000:Int)/\((((f l a).same (f l a)/\(γh .u64 s).same (γh .u64 s)/\(h 0 o.toNat 1).same (h 0 q.length 1)/\(e v).same w/\(γx .i64 0).same (e 0)/\True)/\z.same z/\True)/\(b<=b/\b<=m)/\bA q/\q.length=y/\bk q=bk []*t)/\∀(x:Int×List Int),let n:=x.snd.length;let p:=x.fst.toNat;let A:=bj a p b % c*t % c;let u:=x.snd.set p (gX.nW .u32 (bj x.snd p b) (A % d));let k:=x.snd.length;let j:=x.fst+(1:Int);let r:=u.set j.toNat (A / d % d);let B:=e j;let C:=bq.row l r 172 false;let D:=n=u.length;(b<=x.fst/\x.fst<=m)/\bA x.snd/\n=y/\bk x.snd=bk (Δ p a)*t->(decide (x.fst<m)=true->b<=x.fst/\x.fst<v/\p<a.length/\b<=s/\s<=(64:Int)/\n=k/\b<=x.fst/\x.fst<(↑k:Int)/\n=k/\p<k/\n=k/\b<=x.fst/\x.fst<(↑k:Int)/\n=k/\p<k/\g j/\b<=(32:Int)/\(32:Int)<=(64:Int)/\D/\b<=j/\j<(↑u.length:Int)/\D/\j.toNat<u.length/\g j/\(((f l a).same (f l a)/\(γh .u64 s).same (γh .u64 s)/\(h 0 n 1).same (h 0 r.length 1)/\w.same w/\B.same B/\True)/\C.same C/\True)/\((b<=j/\j<=m)/\bA r/\r.length=y/\bk r=bk (Δ j.toNat a)*t)/\(m - j).toNat<(m - x.fst).toNat)/\(decide (x.fst<m)=false->n=k/\(f l x.snd).same (f l (shl a s.toNat)))) (by kernel_rfl) ?_;simp only[vcs];refine⟨by omega,by omega,by omega,by omega,by omega,?_,?_⟩
 ·repeat' refine γj ?_ ?_
  all_goals first|omega|exact mh (by simp)|exact jq.2 ⟨by omega,AX⟩|(simp;done)|(simp only[bk,yk];omega)
 rintro⟨i,row⟩ ⟨⟨i0,i1⟩,hr,hl,hv⟩;simp only at i0 i1 hr hl hv ⊢;refine⟨λlY=>?_,λnA=>?_⟩
 ·obtain⟨k1,k2⟩:=SJ ha hr hl (show i.toNat<a.length by omega) (show s.toNat<=31 by omega) hv;have e:(i+1).toNat=i.toNat+1:=by omega
  rw[e];repeat' refine γj ?_ ?_
  all_goals first|omega|exact mh (by simp)|(simp only[Φ];done)|(simp only[Φ];omega)|exact k1|exact k2
 ·have hi:i.toNat=a.length:=by omega
  rw[hi,ψ] at hv;have hrow:row=shl a s.toNat:=Iy hr hl hv;rw[hrow]
theorem wj {U:List Int} {j:Nat} (h:j<=U.length):bk U=bk (U.take j)+4294967296^j*bk (U.drop j):=by
 conv=>lhs;rw[<-γL j U]
 grind[IA]
theorem acK {U l:List Int} {j:Nat} (h:j<=U.length):(jr U j l).take j=U.take j:=by
 grind[jr]
theorem acL {U l:List Int} {j:Nat} (h:j<=U.length):(jr U j l).drop j=l++U.drop (j+l.length):=by
 grind[jr]
theorem acM {U l:List Int} {j:Nat} (a:bA U) (b:bA l):bA (jr U j l):=QW (nz a _) (QW b (Ah a _))
theorem acN {U q v:List Int} {j m:Nat} {A:Int} (d:bA U) (w:bA v) (G:bA q) (H:2<=v.length) (u:U.length=m+1+v.length) (x:q.length=m+1) (J:j<=m) (p:0<bk v)
  (s:bj q j 0=0) (B:bk U+bk v*bk q=A) (D:bk (U.drop (j+1))<bk v):
  bk (prt U j (v.length+1))<4294967296*bk v/\
  (bA (jr U j (ix (v.length+1) (bk (prt U j (v.length+1)) % bk v)))/\(jr U j (ix (v.length+1) (bk (prt U j (v.length+1)) % bk v))).length=U.length)/\
  (0<=bk (prt U j (v.length+1)) / bk v/\bk (prt U j (v.length+1)) / bk v<4294967296)/\
  bk (jr U j (ix (v.length+1) (bk (prt U j (v.length+1)) % bk v)))+bk v*bk (q.set j (bk (prt U j (v.length+1)) / bk v))=A/\
  bk ((jr U j (ix (v.length+1) (bk (prt U j (v.length+1)) % bk v))).drop j)<bk v:=by
 have y:=ot w;have f:=Ah d (j+1);have l:=fi (uk d (j:=j) (k:=v.length+1));have b:bk (U.drop (j+(v.length+1)))=0:=by
  have e:bk (U.drop (j+1))=bk ((U.drop (j+1)).take v.length)+4294967296^v.length*bk ((U.drop (j+1)).drop v.length):=wj (by simp;omega);rw[δh,show j+1+v.length=j+(v.length+1) by omega] at e;have I:=fi (nz f v.length);have F:=fi (Ah d (j+(v.length+1)));by_cases h:bk (U.drop (j+(v.length+1)))=0;·exact h
  ·have:=Ξ (show(1:Int)<=bk (U.drop (j+(v.length+1))) by omega) (γe (pow_pos v.length));omega
 have a:bk (U.drop j)=bk (prt U j (v.length+1)):=by
  have e:bk (U.drop j)=bk ((U.drop j).take (v.length+1))+4294967296^(v.length+1)*bk ((U.drop j).drop (v.length+1)):=wj (by simp;omega);rw[δh,b,δF,εg] at e;exact e
 have g:bk (U.drop j)=bj U j 0+4294967296*bk (U.drop (j+1)):=by
  rw[DG (show j<U.length by omega)];rfl
 have K:=ek d j;have r:bk (prt U j (v.length+1))<4294967296*bk v:=by omega
 have i:=@Ag (v.length+1) (bk (prt U j (v.length+1)) % bk v);have C:=δK (bk (prt U j (v.length+1))) (show bk v≠0 by omega);have E:=δn (bk (prt U j (v.length+1))) p;have t:bk (ix (v.length+1) (bk (prt U j (v.length+1)) % bk v))=bk (prt U j (v.length+1)) % bk v:=by
  grind[Iz]
 have o:bk ((jr U j (ix (v.length+1) (bk (prt U j (v.length+1)) % bk v))).drop j)=bk (prt U j (v.length+1)) % bk v:=by
  grind[acL,IA]
 have c:(jr U j (ix (v.length+1) (bk (prt U j (v.length+1)) % bk v))).length=U.length:=QZ (by rw[i];omega);have n:0<=bk (prt U j (v.length+1)) / bk v:=δY l (by omega);refine⟨r,⟨acM d Ix,c⟩,⟨n,εT p r⟩,?_,by omega⟩;rw[wj (U:=jr U j _) (j:=j) (by rw[c];omega),acK (by omega),o,ui (by omega),s,ζe];rw[wj (U:=U) (j:=j) (by omega),a] at B;have z:=εe (bk (prt U j (v.length+1))) (bk v);grind
theorem SN {a b:List Int} {s:Nat} (k:bA a) (w:bA b) (u:s<=31) (l:b.length<=a.length) (q:1<=b.length) (d:1<=bj b (b.length - 1) 0):
  bA (shl a s)/\(shl a s).length=a.length+1/\bk (shl a s)=bk a*2^s/\bk ((shl a s).drop (a.length - b.length+1))<bk b*2^s:=by
 have e:(0:Int)<2^s:=δL (by decide);have v:(2:Int)^s<=2147483648:=by
  have h:(2:Nat)^s<=2^31:=δp (by decide) u;grind
 have f:=fi k;have g:=ot k;have n:bk a*2^s<4294967296^a.length*2^s:=γ3 g e;have c:bk (shl a s)=bk a*2^s:=by
  unfold shl;refine Iz (γt f (γe e)) (εE n ?_);rw[γQ];exact Ξ (by omega) (γe (pow_pos _))
 have i:bA (shl a s):=Ix;have t:(shl a s).length=a.length+1:=Ag;refine⟨i,t,c,?_⟩;have h:=wj (U:=shl a s) (j:=a.length - b.length+1) (by omega);have y:=fi (nz i (a.length - b.length+1));have x:4294967296^(b.length - 1)*bj b (b.length - 1) 0<=bk b:=Jv w;have o:(4294967296:Int)^(b.length - 1)<=bk b:=by
  have:=Ξ d (γe (pow_pos (b.length - 1)));omega
 have m:(4294967296:Int)^a.length=4294967296^(a.length - b.length+1)*4294967296^(b.length - 1):=by
  rw[<-δ4];congr 1;omega
 rw[c] at h;have p:(4294967296:Int)^(a.length - b.length+1)*bk ((shl a s).drop (a.length - b.length+1))<4294967296^(a.length - b.length+1)*(4294967296^(b.length - 1)*2^s):=by
  rw[<-δj,<-m];omega
 have r:=εp p (γe (pow_pos _));exact εE r (γR o (γe e))
theorem acO {x y:Int} {s:Nat} (n:0<=x) (u:x<4294967296) (t:0<=y) (o:y<4294967296) (g:0<s) (q:s<=31):
  ∃r,gX.nW .u32 (x / 2^s) (y*2^(32 - s) % 4294967296)=r/\(0<=r/\r<4294967296)/\2^s*r=x - x % 2^s+4294967296*(y % 2^s):=by
 have b:(0:Int)<2^s:=δL (by decide);have c:(0:Int)<2^(32 - s):=δL (by decide);have l:(4294967296:Int)=2^s*2^(32 - s):=by
  rw[<-δ4,show s+(32 - s)=32 by omega];decide
 have f:y*2^(32 - s) % 4294967296=(y % 2^s)*2^(32 - s):=by
  conv=>lhs;rw[l]
  rw[δ1 y,δ1 (2^s),ζy _ _ c,δ1]
 have d:=δK y (show(2:Int)^s≠0 by omega);have p:=δn y b;have e:0<=x / 2^s:=δY n (γe b);have m:x / 2^s<2^(32 - s):=εT b (by grind);have h:(y % 2^s)*2^(32 - s)+2^(32 - s)<=4294967296:=by
  have:=γR (show y % 2^s+1<=2^s by omega) (γe c);grind
 have j:0<=(y % 2^s)*2^(32 - s):=γt d (γe c);have a:=SI (k:=32 - s) e m d (by omega) (by omega);refine⟨x / 2^s+(y % 2^s)*2^(32 - s),by rw[f,a],⟨by omega,by omega⟩,?_⟩;have i:=εe x (2^s);grind
theorem SO {U r:List Int} {i s:Nat} {d:Int} (b:bA U) (c:bA r) (h:i<r.length) (g:∀j,i<=j->bj r j 0=0) (a:0<=d/\d<4294967296)
  (f:2^s*d=bj U i 0 - bj U i 0 % 2^s+4294967296*(bj U (i+1) 0 % 2^s))
  (e:2^s*bk r=bk (U.take i) - bj U 0 0 % 2^s+4294967296^i*(bj U i 0 % 2^s)):
  bA (r.set i d)/\(r.set i d).length=r.length/\(∀j,i+1<=j->bj (r.set i d) j 0=0)/\
  2^s*bk (r.set i d)=bk (U.take (i+1)) - bj U 0 0 % 2^s+4294967296^(i+1)*(bj U (i+1) 0 % 2^s):=by
 grind[nB,pO,ui,lX]
theorem acP {U r v q:List Int} {n s:Nat} {a b:Int} (f:bA U) (A:bA r) (y:bA v) (g:v.length=n) (u:bk U<bk v) (J:bk v=b*2^s) (C:0<b) (D:bk U+bk v*bk q=a*2^s)
  (G:s<=31) (x:n+1<=U.length)
  (c:2^s*bk r=bk (U.take n) - bj U 0 0 % 2^s+4294967296^n*(bj U n 0 % 2^s)):bk q=a / b/\bk r=a % b:=by
 have H:(0:Int)<2^s:=δL (by decide);have m:=ot y;rw[g] at m;have o:bj U n 0=0:=Ai f (i:=n) (by omega) (ξ _);have e:bk (U.take n)=bk U:=by
  have k:=wj (U:=U) (j:=n) (by omega);have p:=fi (nz f n);have w:=fi (Ah f n);by_cases h:bk (U.drop n)=0;·simp_all
  ·have:=Ξ (show(1:Int)<=bk (U.drop n) by omega) (γe (pow_pos n));omega
 have d:bk U=2^s*(a - b*bk q):=by
  grind
 have l:bj U 0 0 % 2^s=0:=by
  have k:=@lX U 0;have p:=wj (U:=U) (j:=1) (by omega);have E:(4294967296:Int)=2^s*2^(32 - s):=by
   rw[<-δ4,show s+(32 - s)=32 by omega];decide
  simp only[Nat.zero_add,List.take_zero,bk,Int.pow_zero,εw,Int.zero_add] at k;rw[k,γQ,Int.pow_zero,εw] at p;have w:bj U 0 0=2^s*(a - b*bk q - 2^(32 - s)*bk (U.drop 1)):=by
   grind
  simp_all
 rw[o,l,e,Int.zero_emod,δF,ζe,εg,d] at c;have t:bk r=a - b*bk q:=Int.eq_of_mul_eq_mul_left (by omega) c;have B:=fi A;have z:bk r<b:=by
  have:2^s*bk r<2^s*b:=by
   grind
  simp_all
 obtain⟨F,I⟩:=vT (X:=a) (V:=b) (q:=bk q) (by grind) (by grind);grind
theorem D7:∀{w:List Int},bA w->fS w->w≠[]->4294967296^(w.length - 1)<=bk w
 |[],_,_,h=>absurd rfl h
 |[d],a,b,_=>by
  have f:=(jq.1 a).1;have c:=b.1 rfl;grind[bk];|d::e::l,a,b,_=>by
  obtain⟨f,c⟩:=jq.1 a;have g:=D7 c b.2 (by simp);have i:bk (d::e::l)=d+4294967296*bk (e::l):=rfl;simp only[γE,ζU] at g ⊢;omega
theorem D8 {a b:Nat} (h:a<=b):(4294967296:Int)^a<=4294967296^b:=by
 obtain⟨m,rfl⟩:=Nat.exists_eq_add_of_le h;rw[δ4];have c:=pow_pos a;have d:=pow_pos m;have:=Ξ (show(1:Int)<=4294967296^m by omega) (γe c);omega
theorem Jy {t:List Int} {s:Nat} (e:bA t) (H:1<=t.length) (G:s<=31) (d:bj t (t.length - 1) 0*2^s<4294967296) (c:2147483648<=bj t (t.length - 1) 0*2^s):
  bA (bJ (shl t s))/\(bJ (shl t s)).length=t.length/\bk (bJ (shl t s))=bk t*2^s/\2147483648<=bj (bJ (shl t s)) (t.length - 1) 0/\1<=bj t (t.length - 1) 0:=by
 have o:(0:Int)<2^s:=δL (by decide);have q:=ek e (t.length - 1);have a:1<=bj t (t.length - 1) 0:=by
  grind
 obtain⟨y,N,z,_⟩:=SN e e G (ξ _) H a;obtain⟨f,E⟩:=@rB (shl t s);have i:=sL y;rw[z] at f;generalize bJ (shl t s)=w at*;obtain⟨n,A⟩:∃n,t.length=n+1:=⟨t.length - 1,by omega⟩;rw[A] at d c a q ⊢;simp only[ζU] at d c a q ⊢;have p:=pow_pos n;have v:bk t=bk (t.take n)+4294967296^n*bj t n 0:=by
  grind[lX]
 have B:=fi (nz e n);have k:=ot (nz e n);rw[γu,εf (by omega)] at k;have J:(4294967296:Int)=2^(32 - s)*2^s:=by
  rw[<-δ4,show 32 - s+s=32 by omega];decide
 have L:(0:Int)<2^(32 - s):=δL (by decide);have D:bj t n 0<2^(32 - s):=by
  simp_all
 have l:(bj t n 0+1)*2^s<=4294967296:=by
  have:=γR (show bj t n 0+1<=2^(32 - s) by omega) (γe o);omega
 have x:bk w<4294967296^(n+1):=by
  rw[f,γQ];have F:bk t<4294967296^n*(bj t n 0+1):=by grind
  have M:=γ3 F o;have I:=Ξ l (γe p);grind
 have u:4294967296^n*(bj t n 0*2^s)<=bk w:=by
  rw[f,<-δj];exact γR (by omega) (γe o)
 have r:(4294967296:Int)^n<=bk w:=by
  have:=Ξ (show(1:Int)<=bj t n 0*2^s by omega) (γe p);omega
 have b:w.length=n+1:=by
  have K:n<w.length:=by
   by_cases h:n<w.length;·exact h
   ·have:=ot i;have:=D8 (show w.length<=n by omega);omega
  by_cases h:w.length=n+1;·exact h
  ·have j:w≠[]:=by grind
   have:=D7 i E j;have:=D8 (show n+1<=w.length - 1 by omega);omega
 refine⟨i,b,f,?_,a⟩;have C:bk w=bk (w.take n)+4294967296^n*bj w n 0:=by
  grind[lX]
 have m:=ot (nz i n);rw[γu,εf (by omega)] at m;have g:4294967296^n*(bj t n 0*2^s)<4294967296^n*(bj w n 0+1):=by grind
 have:=εp g (γe p);omega
@[reducible] def sF:bp:=.pair .b (.pair (.bF (.i .u32)) (.bF (.i .u32)))
abbrev bL:=Bool×(List Int×List Int)
def bu (q:Rat):bL:=(decide (q<0),(cK (q.num.natAbs:Int),cK (q.den:Int)))
def bV (x:bL):Rat:=mkRat (if x.1 then -bk x.2.1 else bk x.2.1) (bk x.2.2).toNat
def Sz (k:Nat) (q:Rat):Prop:=(q.num.natAbs:Int)<4294967296^k/\(q.den:Int)<4294967296^k
theorem mO {n:Int} {k:Nat} (e:0<=n) (h:n<4294967296^k):(cK n).length<=k:=by
 obtain⟨f,b,d⟩:=gl e;by_cases c:(cK n).length<=k;·exact c
 ·have a:cK n≠[]:=by grind
  have:=D7 b d a;have:=D8 (show k<=(cK n).length - 1 by omega);omega
theorem eC (q:Rat):bV (bu q)=q:=by
 unfold bV bu;have a:=(gl (show(0:Int)<=(q.num.natAbs:Int) by omega)).1;have b:=(gl (show(0:Int)<=(q.den:Int) by omega)).1;simp only[a,b,decide_eq_true_eq,Int.toNat_natCast];grind[Rat.num_nonneg,δU]
theorem SQ {N:Int} {D:Nat} (a:D≠0):(mkRat N D).num.natAbs=N.natAbs / N.natAbs.gcd D/\(mkRat N D).den=D / N.natAbs.gcd D:=by
 rw[<-ζB a,Rat.normalize_eq a];simp only;refine⟨?_,trivial⟩;have b:0<N.natAbs.gcd D:=Nat.gcd_pos_of_pos_right _ (by omega);have c:((N.natAbs.gcd D:Nat):Int)∣N:=Int.ofNat_dvd_left.2 (Nat.gcd_dvd_left _ _);generalize N.natAbs.gcd D=g at*;obtain⟨m,rfl⟩:=c;rw[Int.mul_ediv_cancel_left _ (by omega),εo,ζf,Nat.mul_div_cancel_left _ b]
theorem acQ {N:Int} {D:Nat} (f:D≠0):mkRat N D<0↔N<0:=by
 have i:(0:Rat)=mkRat 0 D:=(Rat.zero_mkRat D).symm;have e:mkRat N D<0↔¬0<=mkRat N D:=Rat.not_le.symm;rw[e,<-Rat.num_nonneg];have g:=Rat.num_divInt_den (mkRat N D);have c:(mkRat N D).num*(D:Int)=N*((mkRat N D).den:Int):=by
  grind[Rat.mkRat_eq_iff,mkRat,δU]
 have d:(0:Int)<((mkRat N D).den:Int):=by have:=(mkRat N D).den_pos;omega
 have b:(0:Int)<(D:Int):=by omega
 constructor
 ·intro h;by_cases a:N<0;·exact a
  ·exfalso;apply h;have:0<=(mkRat N D).num*(D:Int):=by rw[c];exact γt (by omega) (by omega)
   exact Int.nonneg_of_mul_nonneg_left this b
 ·intro a h;have:0<=(mkRat N D).num*(D:Int):=γt h (by omega);rw[c] at this;have:=Int.mul_neg_of_neg_of_pos a d;omega
theorem SR {s:Bool} {n d:Int} (n0:0<=n) (f:0<d):bu (mkRat (if s then -n else n) d.toNat)=(s&&decide (0<n),(cK (n / eA n d),cK (d / eA n d))):=by
 have e:d.toNat≠0:=by omega
 obtain⟨b,c⟩:=SQ (N:=if s then -n else n) e;have a:(if s then -n else n).natAbs=n.toNat:=by split<;>omega
 unfold bu;rw[b,c,a];have g:eA n d=((n.toNat.gcd d.toNat:Nat):Int):=rfl;refine εC ?_ (εC ?_ ?_)
 ·simp only;rw[Bool.eq_iff_iff];simp only[decide_eq_true_eq,θ];grind[acQ]
 all_goals grind
theorem AZ {N:Int} {D:Nat} {k:Nat} (b:D≠0) (f:(N.natAbs:Int)<4294967296^k) (e:(D:Int)<4294967296^k):Sz k (mkRat N D):=by
 obtain⟨c,a⟩:=SQ (N:=N) b;unfold Sz;rw[c,a];have g:=Nat.div_le_self N.natAbs (N.natAbs.gcd D);have d:=Nat.div_le_self D (N.natAbs.gcd D);omega
theorem Sz.mono {j k:Nat} {q:Rat} (h:Sz j q) (a:j<=k):Sz k q:=by
 have:=D8 a;exact⟨by have:=h.1;omega,by have:=h.2;omega⟩
theorem SS (p q:Rat):p+q=mkRat (p.num*q.den+q.num*p.den) (p.den*q.den):=by
 rw[Rat.add_def,ζB]
theorem A0 {p q:Rat} {i j:Nat} (e:Sz i p) (c:Sz j q):Sz (i+j+1) (p+q):=by
 rw[SS];have g:=p.den_pos;have l:=q.den_pos;have k:p.den*q.den≠0:=Nat.ne_of_gt (Nat.mul_pos g l);have m:∀{a b:Int} {i j:Nat},0<=a->0<=b->a<4294967296^i->b<4294967296^j->a*b<4294967296^(i+j):=by
  intro a b i j h o f d;rw[δ4];exact εI (Ξ (γe d) h) (γ3 f (pow_pos _))
 have f:=m (by omega) (by omega) e.1 c.2;have d:=m (by omega) (by omega) c.1 e.2;have n:=m (by omega) (by omega) e.2 c.2;rw[Nat.add_comm j i] at d;have t:=pow_pos (i+j);refine AZ k ?_ ?_
 ·have r:(p.num*(q.den:Int)).natAbs=p.num.natAbs*q.den:=by rw[εo,ζf]
  have s:(q.num*(p.den:Int)).natAbs=q.num.natAbs*p.den:=by rw[εo,ζf]
  omega
 omega
theorem A1 {p:Rat} {i:Nat} (a:Sz i p):Sz i (-p):=by
 grind[Sz,Rat.neg_num,Rat.neg_den]
theorem SU {l m:List Int} (h:l.Perm m):l.sum=m.sum:=by
 induction h<;>grind
theorem SX {g:Game}:∀{l c:List Int},li g c=true->li g (l.foldl (stepG g) c)=true
 |[],c,h=>h
 |x::l,c,h=>by
  show li g (l.foldl (stepG g) (stepG g c x))=true;refine SX ?_;grind[stepG]
theorem acR {p:bn} (d:bz p=0):li (cM p) []=true:=by
 unfold li;rw[List.all_eq_true];intro r b;have a:r<(cM p).bounds.length:=γy.1 b;have c:bj (cM p).bounds r 0=dj p r:=by
  show bj (ko p (nR p)) r 0=_;rw[cY (by exact a)];simp[ko]
 simp_all[AG,me]
theorem acS {p:bn}:eM p.offers.length (jY p):=by
 have h:=@aco p (gP p).length;rw[ψ] at h;exact h
theorem SY {p:bn} (a:bz p=0):dh p (jY p)=0:=(Ji a acS).2 (SX (acR a))
theorem acT {g:Game} (i:uu g):∀{n:Nat} {c:List Int},eM g.offers.length c->li g c=true->eM g.offers.length (mf g n c)/\li g (mf g n c)=true/\dI g c<=dI g (mf g n c)/\((1000000000 - dI g c).toNat<=n->jd g (mf g n c)=none):=by
 intro n;induction n with
 |zero=>
  intro c a j;refine⟨a,j,Int.le_refl _,λh=>?_⟩;show jd g c=none;cases f:jd g c with
  |none=>rfl;|some t=>
   obtain⟨d,b⟩:=yd f a;have k:=rG i b;unfold nE at d;grind
 |succ n l=>
  intro c a j;cases f:jd g c with
  |none=>
   grind[mf];|some t=>
   have e:mf g (n+1) c=mf g n t:=by grind[mf]
   rw[e];obtain⟨d,b⟩:=yd f a;have k:=rG i b;unfold nE at d;grind
theorem Jz {p:bn} (a:bz p=0) {c:List Int} (b:dh p c=0):eM p.offers.length (gw p c).chosen/\dh p (gw p c).chosen=0/\ei p (gw p c).chosen=(gw p c).value/\ei p c<=(gw p c).value/\gw p (gw p c).chosen=gw p c:=by
 obtain⟨_,d⟩:=uw b;have h:=RL a;obtain⟨i,j,l,g⟩:=acT h (n:=(1000000000 - dI (cM p) c).toNat) (c:=c) d ((Ji a d).1 b);have e:gw p c=⟨kL (cM p) c,dI (cM p) (kL (cM p) c)⟩:=by simp_all[gw]
 have f:dh p (kL (cM p) c)=0:=(Ji a i).2 j;have k:kL (cM p) (kL (cM p) c)=kL (cM p) c:=RJ (g (ξ _));simp_all[acj,gw,kL,cM]
def ym:bM:=⟨138,Int,.one (eZ .u64),λx=>0<=(show Int from x)/\(show Int from x)<18446744073709551616,λx=> .row (.i .u32) (cK x)⟩
theorem h128:Holds Tryz.prog ym:=by
 refine cF (L:=[rA]) ym lk (by grind[h152]) ?_;intro(x:Int) h;obtain⟨b,a⟩:0<=x/\x<18446744073709551616:=h;refine bO (let a:=(4294967296:Int);(0:Int)<=(32:Int)/\(32:Int)<=(64:Int)/\2<=1000000000000/\(Ψ (bp.i .u32) (bJ [x % a,x / a % a])).same (Ψ (bp.i .u32) (cK x))) (by kernel_rfl) ?_;simp only[vcs];grind[bA,qy,bk]
end Go.Vi
