/-
  Contracts: the greedy method's own small functions, and its start.
  Conditions: none.
-/
import Derived.Test.YtjcmncmajmoiiaaGreatVY06
import Derived.Test.YtjcmncmajmoiiaaGreatVY07
import Derived.Test.YtjcmncmajmoiiaaGreatVY09
import Derived.Test.YtjcmncmajmoiiaaGreatVY10
import Derived.Test.YtjcmncmajmoiiaaGreatVY11
import Derived.Test.YtjcmncmajmoiiaaGreatVY08
set_option maxRecDepth 100000
set_option maxHeartbeats 4000000
set_option linter.all false
open Bool renaming and_eq_true->ζ
open Classical renaming not_not->ω
open Go.Vi.AV.sl renaming injEq->δ6
open Go.Vi.SV renaming row->Φ,si->Θ,il->γp,sb->γD,ptr->γS,agg->γC,bl->δo,ow->γ6
open Int renaming toNat_natCast->γk
open IntCast renaming intCast->Ω
open List renaming length_append->κ,take->γa,take_of_length_le->γh,getElem_of_mem->δb,mem_map->γg,mem_range->γH,mem_of_mem_take->γl,mergeSort_perm->εw,length_take->Ψ,mem_append->γc,map_cons->ι,map_nil->γt,range->π,map_map->δn,map_congr_left->γW,pairwise_cons->γv,exists_of_findSome?_eq_some->δY,take_length->ψ,all_eq_true->Ξ,nodup_append->γx,replicate->ε,ext_getElem->δi,length_replicate->γR,getElem_map->εr,length->γn
open List.Pairwise renaming nil->δy
open List.cons renaming injEq->ξ
open Nat renaming le_refl->τ,mul_le_mul->ζa
open Option renaming isNone_iff_eq_none->γQ
open Option.some renaming injEq->γ
open Rat renaming mul_nonneg->δA
namespace Go.Vi
open Go.Proofs.YtjcmncmajmoiiaaGreat.Ir
open Go.Proofs
def E1:bL:=⟨90,List Int×List Int,.cons (dW (.i .i64)) (.one (dW (.i .i64))),λa=>a.1.length<=1000/\1<=a.2.length/\a.2.length<=1000,λa=> .row (.i .i64) (eW (a.1++a.2))⟩
theorem h326:Holds Tryz.prog E1:=by
 refine con (L:=[]) (W:=fU [wo,A5]) E1 lk (lg (by simpa using⟨h330o,h337⟩)) (by simp) ?_;rintro⟨s,x⟩ ⟨h1,h2,h3⟩;simp only at h1 h2 h3;refine bN (let z0:Nat:=(s++x).length;s.length<=1000000/\s.length=s.length/\(s.length+x.length)*8<=140737488355328/\s.length+x.length<=1000000000000/\((s++x).length=z0/\1<=z0/\z0<=1000000)/\(s++x).length=(eW (s++x)).length/\(Φ (bk.i .i64) (eW (s++x))).same (Φ (bk.i .i64) (eW (s++x)))) (by kernel_rfl) ?_;conv=>zeta
 try simp only[vcs]
 have:=@wm (s++x);rw[κ] at this ⊢;omega
def K3:bL:=⟨124,List Int×Int,.cons (dW (.i .i64)) (.one (dV .i64)),λa=>a.1.length<=1000/\0<=a.2/\a.2<a.1.length,λa=> .row (.i .i64) (a.1.take a.2.toNat++a.1.drop (a.2+1).toNat)⟩
theorem h339:Holds Tryz.prog K3:=by
 refine con (L:=[]) (W:=fU [wo,wq]) K3 lk (lg (by grind[h330o,h347])) (by simp) ?_;rintro⟨s,i⟩ ⟨d,e,f⟩;simp only at d e f;refine bN (let a:=i+(1:Int);let c:=lL s i.toNat a.toNat;let b:=s.length - (a - i).toNat;s.length<=1000000/\bV .i64 a/\((s.length=s.length/\1<=s.length/\s.length<=1000000)/\(0:Int)<=i/\i<=a/\a<=(↑s.length:Int))/\s.length=c.length/\0+b<=s.length/\(Φ (bk.i .i64) (γa b c)).same (Φ (bk.i .i64) (γa i.toNat s++List.drop a.toNat s))) (by kernel_rfl) ?_;conv=>zeta
 try simp only[vcs]
 have g:=@Um s i.toNat (i+1).toNat (by omega) (by omega);refine⟨by omega,by omega,by omega,g.symm,by omega,?_⟩;unfold lL;rw[List.take_append_of_le_length (by grind),γh (by grind)]
def tc (c:List Int) (x:Int):Int:=if x∈c then(c.idxOf x:Int) else -1
theorem ad4 {c:List Int} {x:Int} {k:Nat} (h:k<c.length) (b:∀j:Nat,j<k->bj c j 0≠x) (a:bj c k 0=x):tc c x=k:=by
 unfold tc;rw[if_pos (a▸cK h)];congr 1;rw[cM h] at a;rw[List.idxOf,List.findIdx_eq h];grind[cM]
theorem ad5 {c:List Int} {x:Int} (a:∀j:Nat,j<c.length->bj c j 0≠x):tc c x= -1:=by
 unfold tc;rw[if_neg];intro h;obtain⟨k,b,rfl⟩:=δb h;grind[cM]
theorem ad6 {c:List Int} {x:Int}:0<=tc c x↔x∈c:=by
 grind[tc]
def K4:bL:=⟨167,List Int×Int,.cons (dW (.i .i64)) (.one (dV .i64)),λa=>a.1.length<=1000,λa=> .si .i64 (tc a.1 a.2)⟩
def ad7 (c:List Int) (x:Int):Nat->cB
 |2=> .inv Int (λi=>⟨[(0,.row (.i .i64) c),(1,.si .i64 x),(7,.si .i64 c.length),(8,.si .i64 i)],[]⟩)
   (λs=>iS s 8) (λi=>(0<=i/\i<=c.length)/\∀k:Nat,(k:Int)<i->bj c k 0≠x) (λi=>(c.length - i).toNat) λ_ _=> .look
 |_=> .look
theorem h348:Holds Tryz.prog K4:=by
 refine cF (L:=[]) K4 (λa=>ad7 a.1 a.2) (by simp) ?_;rintro⟨c,x⟩ o;replace o:c.length<=1000:=o;refine bN (let a:=Θ .i64;let h:=(0:Int);let f:=Φ (bk.i .i64) c;let d:=(↑c.length:Int);let g:=a d;let n:=a (tc c x);(((f.same f/\(a x).same (a x)/\(a (↑c.length:Int)).same g/\(γp .i64 0).same (a 0)/\True)/\True)/\(h<=h/\h<=d)/\∀(k:Nat),(↑k:Int)<h->bj c k h≠x)/\∀(b:Int),let l:=decide (x=bj c b.toNat h);let e:=b+(1:Int);let j:=a x;let m:=a e;((h<=b/\b<=d)/\∀(k:Nat),(↑k:Int)<b->bj c k h≠x)->(decide (b<d)=true->h<=b/\b<(↑c.length:Int)/\b.toNat<c.length/\(l=true->(a b).same n)/\(l=false->bV .i64 e/\((f.same f/\j.same j/\g.same g/\m.same m/\True)/\True)/\((h<=e/\e<=d)/\∀(k:Nat),(↑k:Int)<e->bj c k h≠x)/\(d - e).toNat<(d - b).toNat))/\(decide (b<d)=false->(γp .i64 (-1:Int)).same n)) (by kernel_rfl) ?_;conv=>zeta
 try simp only[vcs]
 refine⟨⟨by omega,λk h=>by omega⟩,?_⟩;grind[ad4,ad5]
def K5:bL:=⟨125,List Int×Int,.cons (dW (.i .i64)) (.one (dV .i64)),λa=>a.1.length<=1000,λa=> .sb (decide (a.2∈a.1))⟩
theorem h340:Holds Tryz.prog K5:=by
 refine cF (L:=[K4]) K5 lk (by grind[h348]) ?_;rintro⟨c,x⟩ a;replace a:c.length<=1000:=a;refine bN (c.length<=1000/\(γD (decide ((0:Int)<=tc c x))).same (γD (decide (x∈c)))) (by kernel_rfl) ?_;simp_all[ad6]
theorem E2 {p:bp} (a:bC p=0) {r:Int}:0<=dC p r/\dC p r<=4:=by
 obtain⟨_,_,b,c,_⟩:=dm a;unfold dC;split;·omega
 ·split;all_goals simp_all[H3]
theorem Up {p:bp} (h:p.offers.length<=1000):nP (cH p):=by
 have j:nR p<=20:=by
  unfold nR;split
  ·rename_i a;have:=(dm a).1;omega
  ·omega
 have d:0<nR p->bC p=0:=by
  grind[nR]
 refine⟨⟨?_,?_,h⟩,λr f=>?_,λb g=>?_⟩
 ·show(mC p (nR p)).length=(kn p (nR p)).length;rw[Un,EY]
 ·show(kn p (nR p)).length<=1000;grind[EY]
 ·obtain⟨k,c,rfl⟩:=γg.1 (show r∈mC p (nR p) from f);rw[γH] at c;have a:=d (by omega);refine⟨by simp[jO,cH],λx i=>?_⟩;obtain⟨o,e,rfl⟩:=γg.1 (show x∈jO p k p.offers.length from i);have:=rL (p:=p) (r:=k) ((dm a).2.2.2.2 o (γl e)).2.2.1;omega
 ·obtain⟨k,c,rfl⟩:=γg.1 (show b∈kn p (nR p) from g);rw[γH] at c;have:=E2 (d (by omega)) (r:=k);omega
def stepG (g:Game) (c:List Int) (x:Int):List Int:=if lq g (eW (c++[x]))=true then eW (c++[x]) else c
def oD (g:Game) (l:List Int):List Int:=l.foldl (stepG g) []
def gI (p:bp):List Int:=if bC p=0 then wj p else[]
def jP (p:bp):List Int:=oD (cH p) (gI p)
theorem E3 {l:List Int} {x:Int}:x∈eW l↔x∈l:=(εw _ _).mem_iff
theorem Ur {g:Game} {c:List Int} {x y:Int} (h:y∈stepG g c x):y∈c\/y=x:=by
 grind[stepG,E3]
theorem ad8 {g:Game} {c:List Int} {x:Int}:(stepG g c x).length<=c.length+1:=by
 grind[stepG,wm]
theorem Us {g:Game} {l:List Int}:∀{c:List Int} {y:Int},y∈l.foldl (stepG g) c->y∈c\/y∈l:=by
 induction l<;>grind[Ur]
theorem ad9 {g:Game} {l:List Int}:∀{c:List Int},(l.foldl (stepG g) c).length<=c.length+l.length:=by
 induction l<;>grind[stepG,ad8]
theorem aea {g:Game} {l:List Int}:(oD g l).length<=l.length:=by
 grind[ad9,oD]
theorem aeb {g:Game} {l:List Int} {i:Int} (a:0<=i) (h:i<l.length):oD g (l.take (i+1).toNat)=stepG g (oD g (l.take i.toNat)) (bj l i.toNat 0):=by
 grind[oD,jo]
theorem K6 {p:bp} {x:Int} (h:x∈gI p):bC p=0/\iz p x:=by
 unfold gI at h;split at h
 ·rename_i a;rw[wj,yx,rV] at h;exact⟨a,h⟩
 ·simp at h
theorem Ut {p:bp}:(gI p).length<=p.offers.length:=by
 grind[gI,wj,oz,jA]
theorem aec {p:bp} (d:p.offers.length<=40) {k:Nat}:(oD (cH p) ((gI p).take k)).length<=40/\∀x∈oD (cH p) ((gI p).take k),bC p=0/\iz p x:=by
 have b:=@aea (cH p) ((gI p).take k);have c:=@Ut p;rw[Ψ] at b;refine⟨by omega,λx a=>?_⟩;rcases Us a with h|h<;>grind[Us,K6]
def A7:bL:=⟨54,bp,.one cY,λp=>p.offers.length<=40,λp=>lC.put ⟨jP p,dF (cH p) (jP p)⟩⟩
def aed (p:bp):Nat->cB
 |4=> .inv Int (λi=>⟨[(2,.ptr 1 0 2),(3,.ptr 2 0 3),(4,.row (.i .i64) (oD (cH p) ((gI p).take i.toNat))),(11,.row (.i .i64) (gI p)),(12,.si .i64 (gI p).length),(13,.si .i64 i)],[.cells p.ss 27 20 false,.cells [.sc (.slice none 0 0),.il .i64 0] 41 2 false,.cells [.row (.bJ (.i .i64)) (cH p).rows,.row (.i .i64) (cH p).bounds,.row .off (cH p).offers] 124 3 false,.dead]⟩)
   (λs=>iS s 13) (λi=>0<=i/\i<=(gI p).length) (λi=>((gI p).length - i).toNat) λ_ _=> .look
 |_=> .look
theorem h312:Holds Tryz.prog A7:=by
 refine cF (L:=[EZ,K0,E1,E0,yE]) A7 aed (by simpa using⟨h325,h308,h326,h327,h328⟩) ?_;intro(p:bp) (hp:p.offers.length<=40);refine bN (let a:=Θ .i64;let b:=Φ;let c:=(0:Int);let d:=bq.cells;let j:=γS 1 0 2;let k:=γS 2 0 3;let e:=bk.i .i64;let s:=if bC p=c then wj p else[];let o:=b e (gI p);let f:=(↑(gI p).length:Int);let q:=a f;let t:=γp .i64 0;let l:=d [a p.supply.a0,a p.supply.a1,a p.supply.a2,a p.supply.a3,a p.supply.a4,a p.supply.a5,a p.opn.a0,a p.opn.a1,a p.opn.a2,a p.opn.a3,a p.opn.a4,a p.opn.a5,a p.cls.a0,a p.cls.a1,a p.cls.a2,a p.cls.a3,a p.cls.a4,a p.cls.a5,b e p.classes,b bk.off p.offers] 27 20 false;let m:=d [SV.sc (Value.slice none 0 0),t] 41 2 false;let n:=d [b e.bJ (cH p).rows,b e (cH p).bounds,b bk.off (cH p).offers] 124 3 false;True/\0=0/\p.offers.length<=40/\(((j.same j/\k.same k/\(b e []).same (b e (oD (cH p) []))/\(b e s).same o/\(a (↑s.length:Int)).same q/\t.same (a 0)/\True)/\l.same l/\m.same m/\n.same n/\bq.dead.same bq.dead/\True)/\c<=c/\c<=f)/\∀(x:Int),let g:=oD (cH p) (γa x.toNat (gI p));let r:=eW (g++[bj (gI p) x.toNat c]);let h:=x+(1:Int);let v:=a h;let w:=λ(u:Bool) (u_1:List Int) ↦lq (cH p) r=u->bV .i64 h/\((j.same j/\k.same k/\(b e u_1).same (b e (oD (cH p) (γa h.toNat (gI p))))/\o.same o/\q.same q/\v.same v/\True)/\l.same l/\m.same m/\n.same n/\bq.dead.same bq.dead/\True)/\(c<=h/\h<=f)/\(f - h).toNat<(f - x).toNat;c<=x/\x<=f->(decide (x<f)=true->c<=x/\x<(↑(gI p).length:Int)/\x.toNat<(gI p).length/\(g.length<=1000/\1<=1/\1<=1000)/\(nP (cH p)/\px (cH p) r)/\w true r/\w false g)/\(decide (x<f)=false->(nP (cH p)/\px (cH p) g/\qe (cH p) g)/\(γC [b e g,a (dF (cH p) g)]).same (γC [b e (jP p),a (dF (cH p) (jP p))]))) (by kernel_rfl) ?_;conv=>zeta
 try simp only[vcs]
 have hg:=@Up p (by omega);have hol:=@Ut p;have e0:(if bC p=0 then wj p else[])=gI p:=rfl;rw[e0];refine⟨hp,⟨⟨rfl,rfl,rfl⟩,by omega,by omega⟩,?_⟩
 ·rintro i ⟨i0,i1⟩;obtain⟨hsl,hsm⟩:=@aec p hp i.toNat;refine⟨λhi=>?_,λhi=>?_⟩
  ·have hs:=@aeb (cH p) (gI p) i i0 hi;have hx:=K6 (cK (d:=0) (show i.toNat<(gI p).length by omega));rw[hs];generalize oD (cH p) ((gI p).take i.toNat)=c at*;refine⟨i0,hi,by omega,⟨by omega,by omega,by omega⟩,⟨hg,by rw[wm,κ];simp;omega,λx h=>?_⟩,λh=>⟨by omega,by unfold stepG;rw[if_pos h],by omega,by omega⟩,λh=>⟨by omega,by unfold stepG;rw[if_neg (by rw[h];simp)],by omega,by omega⟩⟩;rw[E3,γc] at h;rcases h with h|h;·exact(hsm x h).2
   ·rw[List.mem_singleton] at h;rw[h];exact hx.2
  ·have hk:(gI p).take i.toNat=gI p:=γh (by omega);rw[hk] at hsl hsm ⊢;refine⟨⟨hg,⟨by omega,λx h=>(hsm x h).2⟩,λx h=>?_⟩,rfl⟩;obtain⟨hc,hx⟩:=hsm x h;have:=(AP hc hx).1;have e:(bj (cH p).offers x.toNat bk.off.dflt).value=rT p x:=rfl;rw[e];omega
def rW (g:Game):List SV:=[.row (.bJ (.i .i64)) g.rows,.row (.i .i64) g.bounds,.row .off g.offers]
def K7:List SV->Option Game
 |[r,v,x]=>match gj (.bJ (.i .i64)) r,gj (.i .i64) v,gj .off x with
  |some c,some v,some x=>some ⟨c,v,x⟩
  |_,_,_=>none
 |_=>none
theorem aee {cs:List SV} {g:Game} (h:K7 cs=some g):gL cs=gL (rW g):=by
 unfold K7 at h;grind[rW,gL,jK]
theorem aef {g a:Game} (h:gL (rW g)=gL (rW a)):g=a:=A6.inj g a (by
 show AV.agg (gL (rW g))=AV.agg (gL (rW a));rw[h])
def mZ (g:Game) (v:Int) (c:List Int):Bool:=decide (v<dF g c)&&lq g c
def K8:cZ where
 f:=123;α:=List Int×Game×Int;put a:=[.row (.i .i64) a.1,.ptr 0 0 3,.ptr 1 0 1];st a:=[.cells (rW a.2.1) 124 3 false,.cells [.si .i64 a.2.2] 2 1 false];dec v o:=match v,o with
  |[x,.ptr 0 0 3,.ptr 1 0 1],[.cells cs 124 3 false,.cells [y] 2 1 false]=>match gj (.i .i64) x,K7 cs,y.int .i64 with
   |some x,some g,some y=>some (x,g,y)
   |_,_,_=>none
  |_,_=>none;ok v o a h:=by
  split at h
  ·split at h
   ·rename_i h1 h2 h3;simp only[γ] at h;subst h;refine⟨by simp only[gL,jK h1],?_⟩;simp only[gO,ι,γt,bq.g,aee h2,gL,gU h3];rfl
   ·cases h
  ·cases h
 inj a b h1 h2:=by
  simp only[gL,ξ,and_true,SV.g,δ6] at h1;simp only[gO,ι,γt,bq.g,ξ,bP.cells.injEq,and_true,gL,SV.g,AV.sc.injEq,Value.int.injEq,true_and] at h2;have h3:=aef h2.1;have h4:=l8 (.i .i64) h1.1 h1.2;exact Prod.ext h4 (Prod.ext h3 h2.2)
 dom a:=nP a.2.1/\px a.2.1 a.1/\qe a.2.1 a.1;res a:=.sb (mZ a.2.1 a.2.2 a.1);out a:=[.cells (rW a.2.1) 124 3 false,.cells [.si .i64 a.2.2] 2 1 false]
theorem h338:dK Tryz.prog K8:=by
 refine jm (L:=[E0,yE]) (W:=[]) K8 lk (by simp) (by simpa using⟨h327,h328⟩) ?_;rintro⟨c,g,v⟩ ⟨h1,h2,h3⟩;simp only at h1 h2 h3;refine bN (let a:=Φ;let b:=bq.cells [a (bk.i .i64).bJ g.rows,a (bk.i .i64) g.bounds,a bk.off g.offers] 124 3 false;let d:=bq.cells [Θ .i64 v] 2 1 false;let e:=decide (v<dF g c);let f:=b.same b/\d.same d/\True;(nP g/\px g c/\qe g c)/\(e=true->(nP g/\px g c)/\(γD (lq g c)).same (γD (mZ g v c))/\f)/\(e=false->(δo false).same (γD (mZ g v c))/\f)) (by kernel_rfl) ?_;conv=>zeta
 try simp only[vcs]
 refine⟨⟨h1,h2,h3⟩,λh=>⟨⟨h1,h2⟩,?_⟩,λh=>?_⟩;·unfold mZ;rw[decide_eq_true h,Bool.true_and]
 ·unfold mZ;rw[decide_eq_false h,Bool.false_and]
def qf (g:Game) (c:List Int) (v:Int) (a:List Int) (o k:Int):Option (List Int):=if k<=o\/k∈c then none else if mZ g v (eW (a++[o,k]))=true then some (eW (a++[o,k])) else none
def nQ (g:Game) (c:List Int) (v:Int) (a:List Int) (o:Int):Option (List Int):=if o∈c then none else if mZ g v (eW (a++[o]))=true then some (eW (a++[o])) else(π g.offers.length).findSome? λk:Nat=>qf g c v a o k
def iK (c:List Int) (i:Nat):List Int:=c.take i++c.drop (i+1)
def yF (g:Game) (c:List Int) (v:Int) (i:Nat):Option (List Int):=(π g.offers.length).findSome? λo:Nat=>nQ g c v (iK c i) o
def iP (g:Game) (c:List Int):Option (List Int):=(π c.length).findSome? λi=>yF g c (dF g c) i
theorem E4 {n:Nat} {f:Nat->Option (List Int)} (h:∀i,i<n->f i=none):(π n).findSome? f=none:=by
 simp_all
theorem E5 {n i:Nat} {f:Nat->Option (List Int)} {t:List Int} (c:i<n) (h:∀j,j<i->f j=none) (b:f i=some t):(π n).findSome? f=some t:=by
 have e:π n=π i++(i::(π (n - (i+1))).map λk=>i+1+k):=by
  have a:=@List.range_add i (n - i);rw[show i+(n - i)=n by omega] at a;rw[a,show n - i=(n - (i+1))+1 by omega,List.range_succ_eq_map];simp only[ι,δn,Nat.add_zero];congr 2;apply γW;grind
 simp_all[E4]
def uK (g:Game):Prop:=nP g/\∀o∈g.offers,0<=o.value/\o.value<=1000000
def K9:bL:=⟨87,Game×List Int,.cons A6 (.one (dW (.i .i64))),λa=>uK a.1/\(a.2.length<=900/\∀x∈a.2,0<=x/\x<a.1.offers.length),λa=> .bH [.row (.i .i64) ((iP a.1 a.2).getD []),.sb (iP a.1 a.2).isSome]⟩
def La (g:Game) (c:List Int):bW:=[.cells (rW g) 124 3 false,.cells [.si .i64 (dF g c)] 2 1 false]
def aeg (g:Game) (c:List Int):Nat->cB
 |4=> .inv Int (λi=>⟨[(1,.row (.i .i64) c),(2,.ptr 0 0 3),(7,.fn (.func 123) [] [.ptr 0 0 3,.ptr 1 0 1]),(19,.si .i64 c.length),(20,.si .i64 i)],La g c⟩)
   (λs=>iS s 20) (λi=>(0<=i/\i<=c.length)/\∀k:Nat,(k:Int)<i->yF g c (dF g c) k=none) (λi=>(c.length - i).toNat) λi k=>match k with
   |8=> .inv Int (λo=>⟨[(1,.row (.i .i64) c),(2,.ptr 0 0 3),(7,.fn (.func 123) [] [.ptr 0 0 3,.ptr 1 0 1]),(9,.row (.i .i64) (iK c i.toNat)),(19,.si .i64 c.length),(20,.si .i64 i),(28,.si .i64 g.offers.length),(29,.si .i64 o)],La g c⟩)
     (λs=>iS s 29) (λo=>(0<=o/\o<=g.offers.length)/\∀k:Nat,(k:Int)<o->nQ g c (dF g c) (iK c i.toNat) k=none) (λo=>(g.offers.length - o).toNat) λo k=>match k with
     |15=> .inv Int (λz=>⟨[(1,.row (.i .i64) c),(2,.ptr 0 0 3),(7,.fn (.func 123) [] [.ptr 0 0 3,.ptr 1 0 1]),(9,.row (.i .i64) (iK c i.toNat)),(10,.si .i64 o),(12,.si .i64 z),(19,.si .i64 c.length),(20,.si .i64 i),(28,.si .i64 g.offers.length),(29,.si .i64 o)],La g c⟩)
       (λs=>iS s 12) (λz=>(o<z/\z<=g.offers.length)/\∀k:Nat,(k:Int)<z->qf g c (dF g c) (iK c i.toNat) o k=none) (λz=>(g.offers.length - z).toNat) λ_ _=> .look
     |_=> .look
   |_=> .look
 |_=> .look
theorem h331:Holds Tryz.prog K9:=by
 refine con (L:=[E1,yE,K3,K5]) (W:=fU [K8]) K9 (λa=>aeg a.1 a.2) (lg (by simpa using h338)) (by simpa using⟨h326,h328,h339,h340⟩) ?_;rintro⟨g,c⟩ ⟨⟨hg,hv⟩,hcl,hci⟩;simp only at hg hv hcl hci;refine bN (let a:=Θ .i64;let b:=Φ;let d:=(0:Int);let e:=bV .i64;let f:=γp .i64 0;let h:=SV.bH;let j:=(1:Int);let l:=bk.i .i64;let n:=γS 0 0 3;let p:=SV.fn (Fn.func 123) [] [n,γS 1 0 1];let u:=(↑c.length:Int);let s:=a u;let q:=bq.cells [b l.bJ g.rows,b l g.bounds,b bk.off g.offers] 124 3 false;let r:=bq.cells [a (dF g c)] 2 1 false;let F:=(↑g.offers.length:Int);let m:=(↑g.offers.length:Int);let v:=a m;let G:=h [b l ((iP g c).getD []),γD (iP g c).isSome];(nP g/\px g c/\qe g c)/\((((b l c).same (b l c)/\n.same n/\p.same p/\(a (↑c.length:Int)).same s/\(f).same (a 0)/\True)/\q.same q/\r.same r/\True)/\(d<=d/\d<=u)/\∀(k:Nat),(↑k:Int)<d->yF g c (dF g c) k=none)/\∀(x:Int),let z:=x+j;let t:=iK c x.toNat;let w:=b l t;let H:=a z;((d<=x/\x<=u)/\∀(k:Nat),(↑k:Int)<x->yF g c (dF g c) k=none)->(decide (x<u)=true->(c.length<=1000/\d<=x/\x<u)/\((((b l c).same (b l c)/\n.same n/\p.same p/\(b l (γa x.toNat c++List.drop z.toNat c)).same w/\s.same s/\(a x).same (a x)/\(a F).same v/\(f).same (a 0)/\True)/\q.same q/\r.same r/\True)/\(d<=d/\d<=m)/\∀(k:Nat),(↑k:Int)<d->nQ g c (dF g c) t (↑k:Int)=none)/\∀(x_1:Int),let o:=x_1+j;let y:=a x;let A:=a o;let C:=eW (t++[x_1]);let I:=mZ g (dF g c) C;((d<=x_1/\x_1<=m)/\∀(k:Nat),(↑k:Int)<x_1->nQ g c (dF g c) t (↑k:Int)=none)->(decide (x_1<m)=true->c.length<=1000/\(decide (x_1∈c)=true->e o/\(((b l c).same (b l c)/\n.same n/\p.same p/\w.same w/\s.same s/\y.same y/\v.same v/\A.same A/\True)/\q.same q/\r.same r/\True)/\((d<=o/\o<=m)/\∀(k:Nat),(↑k:Int)<o->nQ g c (dF g c) t (↑k:Int)=none)/\(m - o).toNat<(m - x_1).toNat)/\(decide (x_1∈c)=false->(t.length<=1000/\1<=1/\1<=1000)/\(nP g/\px g C/\qe g C)/\(I=true->(h [b l C,δo true]).same G)/\(I=false->e o/\((((b l c).same (b l c)/\n.same n/\p.same p/\w.same w/\(a x_1).same (a x_1)/\A.same A/\s.same s/\y.same y/\v.same v/\(a x_1).same (a x_1)/\True)/\q.same q/\r.same r/\True)/\(x_1<o/\o<=m)/\∀(k:Nat),(↑k:Int)<o->qf g c (dF g c) t x_1 (↑k:Int)=none)/\∀(x:Int),let B:=x+j;let D:=a x_1;let J:=a B;let E:=eW (t++[x_1,x]);let K:=mZ g (dF g c) E;let L:=e B/\(((b l c).same (b l c)/\n.same n/\p.same p/\w.same w/\D.same D/\J.same J/\s.same s/\y.same y/\v.same v/\D.same D/\True)/\q.same q/\r.same r/\True)/\((x_1<B/\B<=m)/\∀(k:Nat),(↑k:Int)<B->qf g c (dF g c) t x_1 (↑k:Int)=none)/\(m - B).toNat<(m - x).toNat;((x_1<x/\x<=m)/\∀(k:Nat),(↑k:Int)<x->qf g c (dF g c) t x_1 (↑k:Int)=none)->(decide (x<F)=true->c.length<=1000/\(decide (x∈c)=true->L)/\(decide (x∈c)=false->(t.length<=1000/\1<=2/\2<=1000)/\(nP g/\px g E/\qe g E)/\(K=true->(h [b l E,δo true]).same G)/\(K=false->L)))/\(decide (x<F)=false->e o/\(((b l c).same (b l c)/\n.same n/\p.same p/\w.same w/\s.same s/\y.same y/\v.same v/\A.same A/\True)/\q.same q/\r.same r/\True)/\((d<=o/\o<=m)/\∀(k:Nat),(↑k:Int)<o->nQ g c (dF g c) t (↑k:Int)=none)/\(m - o).toNat<(m - x_1).toNat))))/\(decide (x_1<m)=false->e z/\(((b l c).same (b l c)/\n.same n/\p.same p/\s.same s/\H.same H/\True)/\q.same q/\r.same r/\True)/\((d<=z/\z<=u)/\∀(k:Nat),(↑k:Int)<z->yF g c (dF g c) k=none)/\(u - z).toNat<(u - x).toNat))/\(decide (x<u)=false->(h [b l [],δo false]).same G)) (by kernel_rfl) ?_;conv=>zeta
 try simp only[vcs]
 have Uu:∀d:List Int,(∀x∈d,0<=x/\x<g.offers.length)->qe g d:=λd hd x hx=>hv _ (cK (by have:=hd x hx;omega));have hout:∀i:Nat,(iK c i).length<=900/\∀x∈iK c i,x∈c:=λi=>by
  unfold iK;refine⟨by rw[κ,Ψ,List.length_drop];omega,λx hx=>?_⟩;rw[γc] at hx;exact hx.elim γl List.mem_of_mem_drop
 have hnew:∀(i:Nat) (d:List Int),d.length<=2->(∀x∈d,0<=x/\x<g.offers.length)->nP g/\px g (eW (iK c i++d))/\qe g (eW (iK c i++d)):=λi d hd hx=>by
  have h2:∀x∈eW (iK c i++d),0<=x/\x<g.offers.length:=λx h=>by
   rw[E3,γc] at h;exact h.elim (λh=>hci x ((hout i).2 x h)) (hx x)
  have:=(hout i).1;exact⟨hg,⟨by rw[wm,κ];omega,h2⟩,Uu _ h2⟩
 have hg1:=hg.1;refine⟨⟨hg,⟨by omega,hci⟩,Uu c hci⟩,⟨by omega,λk h=>by omega⟩,?_⟩;rintro i ⟨⟨i0,i1⟩,hi⟩;refine⟨λhil=>⟨⟨by omega,i0,hil⟩,⟨by unfold iK;rw[show(i+1).toNat=i.toNat+1 by omega],by omega,λk h=>by omega⟩,?_⟩,λhil=>?_⟩
 ·have ho:=hout i.toNat;have found:∀t,yF g c (dF g c) i.toNat=some t->iP g c=some t:=λt ht=>E5 (i:=i.toNat) (by omega) (λj hj=>hi j (by omega)) ht;rintro o ⟨⟨o0,o1⟩,hk⟩;refine⟨λhol=>⟨by omega,λhin=>⟨by omega,⟨by omega,λk h=>?_⟩,by omega⟩,λhin=>⟨by omega,hnew _ _ (by simp) (by simp;omega),λhb=>?_,λhb=>⟨by omega,⟨by omega,λk h=>?_⟩,?_⟩⟩⟩,λhol=>⟨by omega,⟨by omega,λk h=>?_⟩,by omega⟩⟩
  ·by_cases h2:(k:Int)<o;·exact hk k h2
   ·rw[show(k:Int)=o by omega];unfold nQ;rw[if_pos hin]
  ·have h2:nQ g c (dF g c) (iK c i.toNat) o=some (eW (iK c i.toNat++[o])):=by
    unfold nQ;rw[if_neg hin,if_pos hb]
   have h3:=found _ (E5 (f:=λo:Nat=>nQ g c (dF g c) (iK c i.toNat) o) (i:=o.toNat) (by omega) (λj hj=>hk j (by omega)) (by simp only[show((o.toNat:Nat):Int)=o by omega];exact h2));rw[h3];exact⟨rfl,rfl⟩
  ·unfold qf;rw[if_pos (.inl (by omega))]
  ·rintro z ⟨⟨z0,z1⟩,hz⟩;refine⟨λhzl=>⟨by omega,λhin2=>⟨by omega,⟨by omega,λk h=>?_⟩,by omega⟩,λhin2=>⟨by omega,hnew _ _ (by simp) (by simp;omega),λhb2=>?_,λhb2=>⟨by omega,⟨by omega,λk h=>?_⟩,by omega⟩⟩⟩,λhzl=>⟨by omega,⟨by omega,λk h=>?_⟩,by omega⟩⟩
   ·by_cases h2:(k:Int)<z;·exact hz k h2
    ·rw[show(k:Int)=z by omega];unfold qf;rw[if_pos (.inr hin2)]
   ·have h4:¬z<=o:=by omega
    have h5:qf g c (dF g c) (iK c i.toNat) o z=some (eW (iK c i.toNat++[o,z])):=by
     unfold qf;rw[if_neg (λh=>h.elim h4 hin2),if_pos hb2]
    have h2:nQ g c (dF g c) (iK c i.toNat) o=some (eW (iK c i.toNat++[o,z])):=by
     unfold nQ;rw[if_neg hin,if_neg (by rw[hb];simp)];exact E5 (f:=λk:Nat=>qf g c (dF g c) (iK c i.toNat) o k) (i:=z.toNat) (by omega) (λj hj=>hz j (by omega)) (by simp only[show((z.toNat:Nat):Int)=z by omega];exact h5)
    have h3:=found _ (E5 (f:=λo:Nat=>nQ g c (dF g c) (iK c i.toNat) o) (i:=o.toNat) (by omega) (λj hj=>hk j (by omega)) (by simp only[show((o.toNat:Nat):Int)=o by omega];exact h2));rw[h3];exact⟨rfl,rfl⟩
   ·by_cases h2:(k:Int)<z;·exact hz k h2
    ·rw[show(k:Int)=z by omega];unfold qf;rw[hb2];simp
   ·by_cases h2:(k:Int)<o;·exact hk k h2
    ·rw[show(k:Int)=o by omega];unfold nQ;rw[if_neg hin,if_neg (by rw[hb];simp)];exact E4 λj hj=>hz j (by omega)
  ·by_cases h2:(k:Int)<i;·exact hi k h2
   ·rw[show k=i.toNat by omega];exact E4 λj hj=>hk j (by omega)
 ·have:iP g c=none:=E4 λj hj=>hi j (by omega);rw[this];exact⟨rfl,rfl⟩
def fu (n:Nat) (c:List Int):Prop:=c.Pairwise (·<·)/\∀x∈c,0<=x/\x<n
theorem Uw {n:Nat}:∀{c:List Int} {a:Int},a<=n->c.Pairwise (·<·)->(∀x∈c,a<=x/\x<n)->(c.length:Int)<=n - a
 |[],a,e,_,_=>by simp;omega;|x::c,a,e,h,b=>by
  have f:=b x (by simp);rw[γv] at h;have:=@Uw n c (x+1) (by omega) h.2 λy d=>⟨by grind,(b y (by simp[d])).2⟩;grind
theorem yG {n:Nat} {c:List Int} (h:fu n c):c.length<=n:=by
 have:=Uw (n:=n) (a:=0) (by omega) h.1 h.2;omega
theorem Lc {n:Nat} {c:List Int} (f:c.Nodup) (e:∀x∈c,0<=x/\x<n):fu n (eW c):=by
 refine⟨?_,λx i=>e x (E3.1 i)⟩;have g:(eW c).Pairwise (·<=·):=by
  have:=List.pairwise_mergeSort (le:=λx y:Int=>decide (x<=y)) (λa b d f e=>by grind) (λa b=>by simp;omega) c;exact this.imp λh=>of_decide_eq_true h
 have j:(eW c).Pairwise (·≠·):=(εw _ _).symm.nodup f;exact(g.and j).imp λh=>by omega
theorem E6 {n:Nat} {c:List Int} (h:fu n c):c.Nodup:=h.1.imp λh=>by omega
theorem Ux {c:List Int} {i:Nat}:(iK c i).Sublist c:=by
 unfold iK;rw[List.drop_add_one_eq_tail_drop];have:=(List.Sublist.refl (c.take i)).append (List.tail_sublist (c.drop i));simp_all
theorem yH {g:Game} {c t:List Int} (h:iP g c=some t) (d:fu g.offers.length c):mZ g (dF g c) t=true/\fu g.offers.length t:=by
 obtain⟨i,l,h⟩:=δY h;obtain⟨o,m,h⟩:=δY h;rw[γH] at l m;have f:(iK c i).Nodup:=(E6 d).sublist Ux;have b:∀x∈iK c i,x∈c:=λx a=>Ux.subset a;unfold nQ at h;split at h;·cases h
 ·rename_i p;split at h
  ·rename_i e;injection h with h;subst h;refine⟨e,Lc ?_ λx a=>?_⟩;·grind
   ·rw[γc] at a;rcases a with a|a;·exact d.2 x (b x a)
    simp_all
  ·obtain⟨k,j,h⟩:=δY h;rw[γH] at j;unfold qf at h;split at h;·cases h
   ·rename_i n;split at h
    ·rename_i e;injection h with h;subst h;refine⟨e,Lc ?_ λx a=>?_⟩;·grind
     ·rw[γc] at a;rcases a with a|a;·exact d.2 x (b x a)
      grind
    ·cases h
def mE (g:Game):Nat->List Int->List Int
 |0,c=>c
 |n+1,c=>match iP g c with
  |some t=>mE g n t
  |none=>c
def kT (g:Game) (c:List Int):List Int:=mE g (1000000000 - dF g c).toNat c
theorem rX {g:Game} (a:uK g) {c:List Int} (h:fu g.offers.length c):0<=dF g c/\dF g c<=1000000000:=by
 have d:=K2 (f:=λx=>(bj g.offers x.toNat bk.off.dflt).value) (c:=c) (k:=c.length) (m:=1000000) (by omega) λx b=>a.2 _ (cK (by have:=h.2 x b;omega));rw[ψ] at d;have e:=yG h;have i:=a.1.1.2.2;grind[dF]
theorem aeh {g:Game} (d:uK g):∀{n m:Nat} {c:List Int},fu g.offers.length c->(1000000000 - dF g c).toNat<=n->(1000000000 - dF g c).toNat<=m->mE g n c=mE g m c:=by
 intro n;induction n with
 |zero=>
  intro m c a k j;have h:=rX d a;cases m with
  |zero=>rfl;|succ m=>
   unfold mE;cases f:iP g c with
   |none=>rfl;|some t=>
    obtain⟨b,e⟩:=yH f a;have i:=rX d e;unfold mZ at b;grind
 |succ n l=>
  intro m c a k j;have h:=rX d a;cases f:iP g c with
  |none=>
   cases m<;>grind[mE];|some t=>
   obtain⟨b,e⟩:=yH f a;have i:=rX d e;unfold mZ at b;simp only[ζ,decide_eq_true_eq] at b;cases m<;>grind[mE]
theorem aei {g:Game} (d:uK g) {c t:List Int} (b:fu g.offers.length c) (h:iP g c=some t):kT g c=kT g t:=by
 obtain⟨a,e⟩:=yH h b;have f:=rX d b;have i:=rX d e;unfold mZ at a;simp only[ζ,decide_eq_true_eq] at a;unfold kT;rw[show(1000000000 - dF g c).toNat=((1000000000 - dF g c).toNat - 1)+1 by omega];grind[mE,aeh]
theorem Uy {g:Game} {c:List Int} (h:iP g c=none):kT g c=c:=by
 unfold kT;generalize (1000000000 - dF g c).toNat=n;cases n<;>grind[mE]
def aej (p:bp) (c:List Int):Prop:=bC p=0/\fu p.offers.length c
theorem Uz {p:bp} (c:bC p=0):uK (cH p):=by
 have a:=dm c;refine⟨Up (by have:=a.2.1;omega),λo b=>?_⟩;have:=a.2.2.2.2 o b;omega
theorem UA {l:List Off}:∀{c:List Int} {a:Int}, -1<=a->(fW l a c).isSome=true->c.Pairwise (·<·)/\∀x∈c,a<x/\x<l.length
 |[],a,_,_=>⟨δy,by simp⟩
 |i::c,a,f,h=>by
  simp only[fW] at h;split at h;·simp at h
  ·rename_i g;rw[Option.isSome_map] at h;obtain⟨d,e⟩:=@UA l c i (by omega) h;refine⟨γv.2 ⟨λx b=>(e x b).1,d⟩,λx b=>?_⟩;grind
theorem uL {p:bp} {c:List Int} (h:dc p c=0):aej p c:=by
 unfold dc at h;split at h;·omega
 ·rename_i b;split at h;·cases h
  ·rename_i d;have a:=@UA p.offers c (-1) (by omega) (by grind[jq]);exact⟨ω.1 b,a.1,λx e=>by grind⟩
def gx (p:bp) (c:List Int):Alloc:=if dc p c=0 then⟨kT (cH p) c,dF (cH p) (kT (cH p) c)⟩ else⟨[],0⟩
def A8:bL:=⟨53,bp×Alloc,.cons cY (.one lC),λa=>a.2.chosen.length<=9223372036854775807,λa=>lC.put (gx a.1 a.2.chosen)⟩
def aek (p:bp) (a:Alloc):Nat->cB
 |6=> .inv (List Int×List Int×Bool) (λx=>⟨[(4,.ptr 2 0 2),(5,.ptr 3 0 3),(6,.row (.i .i64) x.1),(7,.row (.i .i64) x.2.1),(8,.sb x.2.2)],[.cells p.ss 27 20 false,.cells [.row (.i .i64) a.chosen,.si .i64 a.value] 41 2 false,.cells [.sc (.slice none 0 0),.il .i64 0] 41 2 false,.cells (rW (cH p)) 124 3 false]⟩)
   (λs=>(rS (.i .i64) s 6,rS (.i .i64) s 7,bS s 8)) (λx=>fu p.offers.length x.1/\(x.2.1=(iP (cH p) x.1).getD []/\x.2.2=(iP (cH p) x.1).isSome)/\kT (cH p) x.1=kT (cH p) a.chosen) (λx=>(1000000000 - dF (cH p) x.1).toNat) λ_ _=> .look
 |_=> .look
theorem h315:Holds Tryz.prog A8:=by
 refine cF (L:=[zQ,EZ,EW,K9,yE]) A8 (λa=>aek a.1 a.2) (by simpa using⟨h100,h325,h330,h331,h328⟩) ?_;rintro⟨p,⟨c,v⟩⟩ hl;replace hl:c.length<=9223372036854775807:=hl;refine bN (let a:=Θ .i64;let b:=Φ;let d:=bq.cells;let e:=(1000000000:Int);let f:=(0:Int);let g:=γD;let h:=γC;let y:=decide (dc p c≠f);let j:=bk.i .i64;let z:=[γp .i64 0];let A:=h [b j (gx p c).chosen,a (gx p c).value];let l:=γS 2 0 2;let m:=γS 3 0 3;let n:=(iP (cH p) c).getD [];let o:=(iP (cH p) c).isSome;let q:=d [a p.supply.a0,a p.supply.a1,a p.supply.a2,a p.supply.a3,a p.supply.a4,a p.supply.a5,a p.opn.a0,a p.opn.a1,a p.opn.a2,a p.opn.a3,a p.opn.a4,a p.opn.a5,a p.cls.a0,a p.cls.a1,a p.cls.a2,a p.cls.a3,a p.cls.a4,a p.cls.a5,b j p.classes,b bk.off p.offers] 27 20 false;let r:=d [b j c,a v] 41 2 false;let s:=d (SV.sc (Value.slice none 0 0)::z) 41 2 false;let t:=d [b j.bJ (cH p).rows,b j (cH p).bounds,b bk.off (cH p).offers] 124 3 false;let w:=p.offers.length;let u:=kT (cH p) c;c.length<=9223372036854775807/\(y=true->(h (b j []::z)).same A)/\(y=false->True/\c.length<=1000000/\(uK (cH p)/\c.length<=900/\∀(x:Int),x∈c->f<=x/\x<(↑(cH p).offers.length:Int))/\(((l.same l/\m.same m/\(b j c).same (b j c)/\(b j n).same (b j n)/\(g o).same (g o)/\True)/\q.same q/\r.same r/\s.same s/\t.same t/\True)/\fu w c/\(n=n/\o=o)/\u=u)/\∀(x:List Int×List Int×Bool),let k:=iP (cH p) x.snd.fst;let B:=b j (k.getD []);let C:=dF (cH p) x.fst;fu w x.fst/\(x.snd.fst=(iP (cH p) x.fst).getD []/\x.snd.snd=(iP (cH p) x.fst).isSome)/\kT (cH p) x.fst=u->(x.snd.snd=true->(uK (cH p)/\x.snd.fst.length<=900/\∀(x_1:Int),x_1∈x.snd.fst->f<=x_1/\x_1<(↑(cH p).offers.length:Int))/\((l.same l/\m.same m/\(b j x.snd.fst).same (b j x.snd.fst)/\B.same B/\(g k.isSome).same (g k.isSome)/\True)/\q.same q/\r.same r/\s.same s/\t.same t/\True)/\(fu w x.snd.fst/\(k.getD []=k.getD []/\k.isSome=k.isSome)/\kT (cH p) x.snd.fst=u)/\(e - dF (cH p) x.snd.fst).toNat<(e - C).toNat)/\(x.snd.snd=false->(nP (cH p)/\px (cH p) x.fst/\qe (cH p) x.fst)/\(h [b j x.fst,a C]).same A))) (by kernel_rfl) ?_;conv=>zeta
 try simp only[vcs]
 refine⟨by omega,λh=>by simp only[gx,if_neg h];rfl,λh=>?_⟩;have hf:dc p c=0:=ω.1 h;obtain⟨hc,ha⟩:=uL hf;have hg:=Uz hc;have h160:=(dm hc).2.1;have hval:∀d,fu p.offers.length d->nP (cH p)/\px (cH p) d/\qe (cH p) d:=λd hd=>by
  have h1:=yG hd;exact⟨hg.1,⟨by omega,hd.2⟩,λx hx=>hg.2 _ (cK (by have:=hd.2 x hx;show x.toNat<p.offers.length;omega))⟩
 have hlen:=yG ha;refine⟨by omega,⟨hg,by omega,ha.2⟩,ha,?_⟩;rintro⟨d,t,b⟩ ⟨hd,⟨ht,hb⟩,hi⟩;simp only at hd ht hb hi ⊢;have hdl:=yG hd;refine⟨λhbt=>?_,λhbf=>?_⟩
 ·rw[hbt] at hb;obtain⟨t',he⟩:=Option.isSome_iff_exists.1 hb.symm;rw[he] at ht;simp only[Option.getD_some] at ht;subst ht;obtain⟨h1,h2⟩:=yH he hd;have h3:=yG h2;have h3':t.length<=p.offers.length:=h3;have hb2:=rX hg h2;have hb1:=rX hg (c:=d) hd;unfold mZ at h1;simp only[ζ,decide_eq_true_eq] at h1;exact⟨⟨hg,by omega,h2.2⟩,⟨h2,by rw[<-aei hg hd he];exact hi⟩,by omega⟩
 ·rw[hbf] at hb;have he:iP (cH p) d=none:=by
   cases hh:iP (cH p) d with
   |none=>rfl;|some t=>rw[hh] at hb;cases hb
  refine⟨hval d hd,?_⟩;have h1:kT (cH p) c=d:=by rw[<-hi,Uy he]
  simp only[gx,if_pos hf,h1];rfl
theorem UB {l:List Off}:∀{c:List Int} {a:Int}, -1<=a->c.Pairwise (·<·)->(∀x∈c,a<x/\x<l.length)->fW l a c=some (c.map λx=>bj l x.toNat bk.off.dflt)
 |[],_,_,_,_=>rfl
 |i::c,a,f,h,d=>by
  rw[γv] at h;have e:=d i (by simp);simp only[fW];rw[if_neg (by omega),@UB l c i (by omega) h.2 λx b=>⟨h.1 x b,(d x (by simp[b])).2⟩];rfl
theorem E7 {p:bp} {c:List Int} (h:fu p.offers.length c):fW p.offers (-1) c=some (c.map (oI p)):=UB (by omega) h.1 λx a=>by have:=h.2 x a;omega
theorem Ld {p:bp} (l:bC p=0) {c:List Int} (h:fu p.offers.length c):dc p c=0↔lq (cH p) c=true:=by
 have k:=E7 h;have n:jq p c=true:=by grind[jq]
 have i:eE p c=c.map (oI p):=by grind[eE]
 have m:fV p (c.map (oI p))=lq (cH p) c:=by
  have f:nR p=p.classes.length+12:=by simp_all[nR]
  have g:(cH p).bounds.length=p.classes.length+12:=by show(kn p (nR p)).length=_;rw[EY,f]
  unfold fV lq;rw[g];have d:∀r:Nat,r<p.classes.length+12->bj (cH p).bounds r 0=dC p r/\mD (cH p) c r=cT p (c.map (oI p)) r:=λr j=>by
   refine⟨?_,?_⟩
   ·show bj (kn p (nR p)) r 0=_;grind[cM,kn]
   ·have a:bj (cH p).rows r []=jO p r p.offers.length:=by
     show bj (mC p (nR p)) r []=_;grind[cM,mC]
    unfold mD cT;rw[a,δn];congr 1;refine γW λx b=>?_;have:=h.2 x b;have e:x.toNat<p.offers.length:=by omega
    show bj (jO p r p.offers.length) x.toNat 0=eT p r (bj p.offers x.toNat bk.off.dflt);grind[cM,jO]
  grind
 simp_all[dc]
theorem ael {p:bp} (d:bC p=0) {c:List Int} (h:fu p.offers.length c):dH p c=dF (cH p) c:=by
 have a:eE p c=c.map (oI p):=by grind[eE,E7]
 unfold dH;rw[if_pos d,a];clear h a;induction c with
 |nil=>rfl;|cons x c b=>
  have e:dF (cH p) (x::c)=(oI p x).value+dF (cH p) c:=by simp[dF];rfl
  rw[e,<-b];rfl
theorem UC {g:Game} {n:Nat}:∀{l c:List Int},fu n c->l.Nodup->(∀x∈l,x∉c/\0<=x/\x<n)->fu n (l.foldl (stepG g) c)
 |[],c,b,_,_=>b
 |x::l,c,b,e,d=>by
  rw[List.nodup_cons] at e;have i:=d x (by simp);have f:fu n (stepG g c x):=by
   unfold stepG;split
   ·refine Lc ?_ λy a=>?_;·grind[E6]
    ·rw[γc] at a;rcases a with a|a;·exact b.2 y a
     simp_all
   ·exact b
  show fu n (l.foldl (stepG g) (stepG g c x));refine UC f e.2 λy a=>⟨λh=>?_,(d y (by simp[a])).2⟩;grind[Ur]
theorem aem {p:bp}:(gI p).Nodup:=by
 unfold gI;split;·exact(rU (D:=bM p) (l:=dT p.offers.length)).symm.nodup (A4.imp λh=>by omega)
 simp_all
theorem aen {p:bp} {k:Nat}:fu p.offers.length (oD (cH p) ((gI p).take k)):=
 UC ⟨δy,by simp⟩ (aem.sublist (List.take_sublist _ _)) λx a=>⟨by simp,(K6 (γl a)).2⟩
theorem UD {l m:List Int} (h:l.Perm m):l.sum=m.sum:=by
 induction h<;>grind
theorem UE {g:Game}:∀{l c:List Int},lq g c=true->lq g (l.foldl (stepG g) c)=true
 |[],c,h=>h
 |x::l,c,h=>by
  show lq g (l.foldl (stepG g) (stepG g c x))=true;refine UE ?_;grind[stepG]
theorem aeo {p:bp} (d:bC p=0):lq (cH p) []=true:=by
 unfold lq;rw[Ξ];intro r b;have a:r<(cH p).bounds.length:=γH.1 b;have c:bj (cH p).bounds r 0=dC p r:=by
  show bj (kn p (nR p)) r 0=_;rw[cM (by exact a)];simp[kn]
 simp_all[E2,mD]
theorem aep {p:bp}:fu p.offers.length (jP p):=by
 have h:=@aen p (gI p).length;rw[ψ] at h;exact h
theorem UF {p:bp} (a:bC p=0):dc p (jP p)=0:=(Ld a aep).2 (UE (aeo a))
theorem aer {g:Game} (i:uK g):∀{n:Nat} {c:List Int},fu g.offers.length c->lq g c=true->fu g.offers.length (mE g n c)/\lq g (mE g n c)=true/\dF g c<=dF g (mE g n c)/\((1000000000 - dF g c).toNat<=n->iP g (mE g n c)=none):=by
 intro n;induction n with
 |zero=>
  intro c a j;refine⟨a,j,Int.le_refl _,λh=>?_⟩;show iP g c=none;cases f:iP g c with
  |none=>rfl;|some t=>
   obtain⟨d,b⟩:=yH f a;have k:=rX i b;unfold mZ at d;grind
 |succ n l=>
  intro c a j;cases f:iP g c with
  |none=>
   grind[mE];|some t=>
   have e:mE g (n+1) c=mE g n t:=by grind[mE]
   rw[e];obtain⟨d,b⟩:=yH f a;have k:=rX i b;unfold mZ at d;grind
theorem Le {p:bp} (a:bC p=0) {c:List Int} (b:dc p c=0):fu p.offers.length (gx p c).chosen/\dc p (gx p c).chosen=0/\dH p (gx p c).chosen=(gx p c).value/\dH p c<=(gx p c).value/\gx p (gx p c).chosen=gx p c:=by
 obtain⟨_,d⟩:=uL b;have h:=Uz a;obtain⟨i,j,l,g⟩:=aer h (n:=(1000000000 - dF (cH p) c).toNat) (c:=c) d ((Ld a d).1 b);have e:gx p c=⟨kT (cH p) c,dF (cH p) (kT (cH p) c)⟩:=by simp_all[gx]
 have f:dc p (kT (cH p) c)=0:=(Ld a i).2 j;have k:kT (cH p) (kT (cH p) c)=kT (cH p) c:=Uy (g (τ _));simp_all[ael,gx,kT,cH]
def iQ (t0:Tb) (v:Int):Rat:=if v∈t0.free then t0.cs (t0.free.idxOf v) else 0
section
variable {n m:Nat} {t t0:Tb}
theorem Run.goal (h:Run n m t0 t) {x:Int->Rat} {z:Rat} (d:t.holds n m x z):z=t0.value+(cy m (λk=>iQ t0 (t.bv k)*x (t.bv k))+cy n (λj=>iQ t0 (t.fv j)*x (t.fv j))):=by
 have a:∀t:Tb,t.WF n m->nL (λv=>iQ t0 v*x v) (t.basic++t.free)=cy m (λk=>iQ t0 (t.bv k)*x (t.bv k))+cy n (λj=>iQ t0 (t.fv j)*x (t.fv j)):=λt c=>by
  rw[J8,vZ,vZ,c.basic,c.free];rfl
 rw[<-a t h.wf,Tm h.perm,a t0 h.ox];rw[dY (n:=m) (g:=λ_=>0) λk e=>by
  unfold iQ;rw[if_neg (Tq h.ox h.nd e)];grind,kO];rw[dY (n:=n) (g:=λj=>t0.cs j*x (t0.fv j)) λj b=>by
  have i:j<t0.free.length:=by rw[h.ox.free];exact b
  unfold iQ;rw[if_pos (yq h.ox b),show t0.free.idxOf (t0.fv j)=j from qb (γx.1 h.nd).2.1 i]];have f:=(((h.nM _ _).1 d).2);rw[f];grind
theorem Run.val (h:Run n m t0 t):t.value=t0.value+cy m λk=>iQ t0 (t.bv k)*t.bd k:=by
 have a:=h.goal (asg_holds h.wf h.gY (y:=λ_=>0));rw[dY (n:=n) (f:=λj=>t.cs j*(λ_=>(0:Rat)) j) (g:=λ_=>0) λj _=>by grind,kO] at a;rw[dY (n:=n) (f:=λj=>iQ t0 (t.fv j)*jN n t (λ_=>0) (t.fv j)) (g:=λ_=>0) λj c=>by rw[ov h.wf h.gY c];grind,kO] at a;rw[dY (n:=m) (g:=λk=>iQ t0 (t.bv k)*t.bd k) λk b=>by
  rw[pq h.wf h.gY b,dY (g:=λ_=>0) λj _=>by grind,kO];grind] at a;grind
theorem Ba {n c:Nat} {q:Rat} (d:c<n):cy n (λj=>if j=c then q else 0)=q:=by
 induction n with
 |zero=>omega;|succ n b=>
  unfold cy;by_cases h:c=n
  ·subst h;rw[if_pos rfl,dY (g:=λ_=>0) λj a=>by grind,kO];grind
  grind
theorem UG {f g:Nat->Rat}:∀{n:Nat},cy n (λj=>f j - g j)=cy n f - cy n g
 |0=>by grind[cy];|n+1=>by simp only[cy,@UG f g n];grind
theorem Run.aes (h:Run n m t0 t) {c:Nat} (b:c<n):t.cs c=iQ t0 (t.fv c) - cy m λk=>iQ t0 (t.bv k)*t.cf k c:=by
 have a:=h.goal (asg_holds h.wf h.gY (y:=λj=>if j=c then 1 else 0));rw[dY (n:=n) (f:=λj=>t.cs j*(if j=c then(1:Rat) else 0)) (g:=λj=>if j=c then t.cs c else 0) λj _=>by
  grind,Ba b] at a;rw[dY (n:=n) (f:=λj=>iQ t0 (t.fv j)*jN n t (λj=>if j=c then 1 else 0) (t.fv j)) (g:=λj=>if j=c then iQ t0 (t.fv c) else 0) λj e=>by
  rw[ov h.wf h.gY e];grind,Ba b] at a;rw[dY (n:=m) (g:=λk=>iQ t0 (t.bv k)*t.bd k - iQ t0 (t.bv k)*t.cf k c) λk d=>by
  rw[pq h.wf h.gY d,dY (g:=λj=>if j=c then t.cf k c else 0) λj _=>by
   grind,Ba b];grind,UG,h.val] at a;grind
end
theorem Lh {M K:Nat} {p q:Rat} (e:eV M p) (f:eV K q):eV (M*K) (p*q):=by
 obtain⟨a,rfl,d⟩:=e;obtain⟨b,rfl,c⟩:=f;exact⟨a*b,by simp_all,by rw[Int.natAbs_mul];exact ζa d c⟩
theorem UH {M K:Nat} {p q:Rat} (d:eV M p) (c:eV K q):eV (M+K) (p+q):=by
 obtain⟨a,rfl,f⟩:=d;obtain⟨b,rfl,e⟩:=c;exact⟨a+b,by simp_all,by omega⟩
theorem aeu {M:Nat} {p:Rat} (b:eV M p):eV M (-p):=by
 obtain⟨a,rfl,c⟩:=b;exact⟨-a,by simp_all,by omega⟩
theorem UI {M:Nat}:eV M 0:=⟨0,rfl,by simp⟩
theorem eV.le {M K:Nat} {p:Rat} (b:eV M p) (h:M<=K):eV K p:=by
 obtain⟨a,rfl,c⟩:=b;exact⟨a,rfl,by omega⟩
theorem Lj {M:Nat} {f:Nat->Rat}:∀{n:Nat},(∀k,k<n->eV M (f k))->eV (n*M) (cy n f)
 |0,_=>by grind[cy,UI];|n+1,h=>by
  have a:=UH (@Lj M f n λk b=>h k (by omega)) (h n (by omega));grind[cy]
theorem Ll {f:Nat->Rat} {d:Rat}:∀{n:Nat},cy n f*d=cy n λk=>f k*d
 |0=>by grind[cy];|n+1=>by
  have:=@Ll f d n;grind[cy]
theorem aev {X k:Nat} {q D:Rat} (f:eV X (q*D)) (c:eV X D) (g:D≠0) (o:X<4294967296^k):Sz k q:=by
 obtain⟨a,p,l⟩:=f;obtain⟨d,rfl,m⟩:=c;have b:d≠0:=λh=>g (by subst h;rfl);have n:((4294967296^k:Nat):Int)=(4294967296:Int)^k:=by
  simp_all
 have i:(X:Int)<4294967296^k:=by
  omega
 have e:q=mkRat (a*d.sign) d.natAbs:=by
  have f:mkRat (a*d.sign) d.natAbs=((a*d.sign:Int):Rat) / ((d.natAbs:Int):Rat):=by
   rw[Rat.mkRat_eq_div];rfl
  have c:((d.natAbs:Int):Rat)=(d:Rat)*(d.sign:Rat):=by
   rw[<-Rat.intCast_mul];simp_all
  have j:(d.sign:Rat)*(d.sign:Rat)=1:=by
   rw[<-Rat.intCast_mul];rcases Int.lt_or_lt_of_ne b with h|h;·rw[Int.sign_eq_neg_one_of_neg h];rfl
   grind
  grind
 rw[e];refine Aw (by omega) ?_ (by omega);grind
structure Small (n m M G:Nat) (t0:Tb):Prop where
 wf:t0.WF n m
 nd:(t0.basic++t0.free).Nodup
 cf:∀i j,i<m->j<n->eV M (t0.cf i j)
 bd:∀i,i<m->eV M (t0.bd i)
 cs:∀j,j<n->eV G (t0.cs j)
 v:t0.value=0
 M1:1<=M
 G1:M<=G
 X:(m+2)*(G*nK M m)<4294967296^1000
theorem aew {a b c:Nat} (h:1<=a) (d:1<=b):c<=a*(b*c):=by
 have e:1*(1*c)<=a*(b*c):=ζa h (ζa d (τ _));omega
theorem Small.goal {n m M G:Nat} {t0:Tb} (h:Small n m M G t0) {v:Int}:eV G (iQ t0 v):=by
 unfold iQ;split
 ·rename_i a;exact h.cs _ (by rw[<-h.wf.free];grind)
 ·exact UI
theorem Small.UJ {n m M G:Nat} {t0 t:Tb} (h:Small n m M G t0) (a:Run n m t0 t):(∀i,i<m->Sz 1000 (t.bd i))/\(∀j,j<n->Sz 1000 (t.cs j))/\Sz 1000 t.value/\∀i j,i<m->j<n->Sz 1000 (t.cf i j):=by
 have y:=a.acU h.M1 h.cf;have A:=h.X;have B:1<=G:=Nat.le_trans h.M1 h.G1;have u:nK M m<=(m+2)*(G*nK M m):=aew (by omega) B;have l:∀{q:Rat},eV ((m+2)*(G*nK M m)) (q*jd m t0 t)->Sz 1000 q:=λz=>aev z (y.le u) a.dt A;have d:∀r c,r<m->c<n->eV (nK M m) (t.cf r c*jd m t0 t):=λr c o d=>a.cfZ h.M1 h.cf o d;have x:∀r,r<m->eV (nK M m) (t.bd r*jd m t0 t):=λr o=>a.bdZ h.M1 h.cf h.bd o;refine⟨λi w=>l ((x i w).le u),λj b=>l ?_,l ?_,λi j w b=>l ((d i j w b).le u)⟩
 ·have e:=a.aes b;have p:t.cs j*jd m t0 t=iQ t0 (t.fv j)*jd m t0 t+ -(cy m λk=>iQ t0 (t.bv k)*(t.cf k j*jd m t0 t)):=by
   rw[e,dY (f:=λk=>iQ t0 (t.bv k)*(t.cf k j*jd m t0 t)) (g:=λk=>(iQ t0 (t.bv k)*t.cf k j)*jd m t0 t) λk _=>by grind,<-Ll];grind
  rw[p];refine(UH (Lh h.goal y) (aeu (Lj λk s=>Lh h.goal (d k j s b)))).le ?_;grind
 ·have p:t.value*jd m t0 t=cy m λk=>iQ t0 (t.bv k)*(t.bd k*jd m t0 t):=by
   rw[a.val,h.v,dY (f:=λk=>iQ t0 (t.bv k)*(t.bd k*jd m t0 t)) (g:=λk=>(iQ t0 (t.bv k)*t.bd k)*jd m t0 t) λk _=>by grind,<-Ll];grind
  rw[p];refine(Lj λk s=>Lh h.goal (x k s)).le ?_;grind
theorem Small.wa {n m M G:Nat} {t0 t:Tb} (h:Small n m M G t0) (b:Run n m t0 t):wa 1000000 t:=by
 obtain⟨g,r,k,o⟩:=h.UJ b;have e:∀{f:Type} {l:List f} {P:f->Prop} {d:f},(∀i,i<l.length->P (bj l i d))->∀q∈l,P q:=λh q p=>by
  obtain⟨i,a,rfl⟩:=δb p;grind[cM]
 refine⟨e (d:=[]) λi a=>?_,e (d:=0) λi a=>?_,e (d:=0) λj c=>?_,k.mono (by omega)⟩
 ·rw[b.wf.ca] at a;refine e (d:=0) λj c=>?_;rw[b.wf.row i a] at c;exact(o i j a c).mono (by omega)
 ·rw[b.wf.bound] at a;exact(g i a).mono (by omega)
 ·rw[b.wf.cost] at c;exact(r j c).mono (by omega)
theorem UK {n m:Int} {M G:Nat} {t0 t:Tb} (h:Small n.toNat m.toNat M G t0) (a:Run n.toNat m.toNat t0 t) (c:0<=n/\n<=1000) (b:0<=m/\m<=1000):kR n m t:=⟨⟨c,b⟩,a.wf,h.wa a⟩
section
variable {n m:Nat} {t t0:Tb}
theorem UL:∀{N:Nat} {t:Tb},Run n m t0 t->km m t->Run n m t0 (runT n m N t)/\km m (runT n m N t)
 |0,t,b,a=>⟨b,a⟩
 |N+1,t,b,a=>by
  unfold runT;split;·simp_all
  ·rename_i d c;have:=Kp b a c;exact UL this.1 this.2
theorem run_end:∀{N:Nat} {t:Tb},fc n m N t=true->stepT n m (runT n m N t)=none
 |0,t,h=>γQ.1 h
 |N+1,t,h=>by
  unfold fc at h;unfold runT;split;·assumption
  ·rename_i b a;rw[a] at h;exact run_end h
theorem UM:∀{N K:Nat} {t:Tb},fc n m N t=true->N<=K->runT n m K t=runT n m N t
 |0,K,t,h,b=>by
  have d:=γQ.1 h;cases K<;>grind[runT];|N+1,K,t,h,b=>by
  obtain⟨K,rfl⟩:∃k,K=k+1:=⟨K - 1,by omega⟩;unfold fc at h;unfold runT;split;·rfl
  ·rename_i c a;rw[a] at h;exact UM h (by omega)
theorem UN {f:Nat->Rat}:∀{n:Nat},(∀k,k<n->f k<=0)->cy n f<=0
 |0,_=>by grind[cy];|n+1,h=>by
  have a:=@UN f n λk b=>h k (by omega);grind[cy]
theorem UO {a b:Rat} (d:a<=0) (c:0<=b):a*b<=0:=by
 have:=δA (a:= -a) (b:=b) (by grind) c;grind
theorem Run.best (h:Run n m t0 t) (d:eh t n<0) {x:Int->Rat} {z:Rat} (a:t0.holds n m x z) (b:∀j,j<n->0<=x (t.fv j)):z<=t.value:=by
 have c:=(((h.nM _ _).2 a).2);grind[v7,UN,UO]
theorem Run.bnd (h:Run n m t0 t) (q:km m t) {B:Rat} (F:∀x z,t0.holds n m x z->(∀v∈t0.basic++t0.free,0<=x v)->z<=B) {c:Nat} (I:eh t n=(c:Int)) (H:dS t c m<0):False:=by
 rcases @v7 t n with⟨C,d⟩|⟨a,C,d,f,G⟩;·omega
 ·have A:a=c:=by omega
  subst A;rcases @v8 t a m with⟨D,w⟩|⟨r,D,_⟩;·
   have k:∀s:Rat,0<=s->t.value+s*t.cs a<=B:=λs o=>by
    have p:=asg_holds h.wf h.gY (y:=λj=>if j=a then s else 0);have e:cy n (λj=>t.cs j*(λj=>if j=a then s else 0) j)=s*t.cs a:=by
     rw[dY (g:=λj=>if j=a then s*t.cs a else 0) λj _=>by
      grind,Ba d]
    rw[e] at p;refine F _ _ ((h.nM _ _).1 p) λv b=>?_;rw[<-h.perm.mem_iff,γc] at b;rcases b with b|b
    ·obtain⟨i,l,rfl⟩:=yt h.wf b;rw[pq h.wf h.gY l];have f:cy n (λj=>t.cf i j*(if j=a then s else 0))=t.cf i a*s:=by
      rw[dY (g:=λj=>if j=a then t.cf i a*s else 0) λj _=>by
       grind,Ba d]
     rw[f];have:=UO (w i l) o;have:=q i l;grind
    ·obtain⟨j,E,rfl⟩:=yr h.wf b;rw[ov h.wf h.gY E];grind
   have u:=k 0 (by grind);have o:0<=(B - t.value+1) / t.cs a:=TA (by grind) f;grind[div_mul]
  ·omega
end
open Classical in
noncomputable def uM (n m:Nat) (t:Tb):Nat:=if h:∃N,fc n m N t=true then Classical.choose h else 0
noncomputable def lastT (n m:Nat) (t:Tb):Tb:=runT n m (uM n m t) t
section
variable {n m:Nat} {t t0 t':Tb}
theorem E8 {N:Nat} (h:fc n m N t=true):lastT n m t=runT n m N t:=by
 have a:∃N,fc n m N t=true:=⟨N,h⟩;have b:fc n m (uM n m t) t=true:=by
  unfold uM;grind
 grind[lastT,UM]
theorem UP (h:stepT n m t=none):lastT n m t=t:=by
 have a:fc n m 0 t=true:=by simp[fc,h]
 rw[E8 a];rfl
theorem aex (a:∃N,fc n m N t=true) (h:stepT n m t=some t'):lastT n m t'=lastT n m t:=by
 obtain⟨N,a⟩:=a;have b:=TF a h;rw[E8 b,E8 (Kq a)];grind[runT]
theorem Lm (b:Run n m t0 t) (c:km m t):Run n m t0 (lastT n m t)/\km m (lastT n m t)/\stepT n m (lastT n m t)=none:=by
 obtain⟨N,a⟩:=Kr b c;rw[E8 a];grind[UL,run_end]
theorem UQ (i:Run n m t0 t) (e:km m t) {B:Rat} (h:∀x z,t0.holds n m x z->(∀v∈t0.basic++t0.free,0<=x v)->z<=B):eh (lastT n m t) n<0:=by
 obtain⟨j,g,a⟩:=Lm i e;rcases @v7 (lastT n m t) n with⟨b,d⟩|⟨c,b,d,l,k⟩;·omega
 ·exfalso;unfold stepT at a;rw[if_neg (by omega),show(eh (lastT n m t) n).toNat=c by omega] at a;split at a
  ·rename_i f;exact j.bnd g h b f
  ·cases a
end
def bF (f:List Int) (d:Int):List Int:=(dT f.length).filter λi=>decide (bj f i.toNat 0=d)
theorem mG {f:List Int} {d x:Int}:x∈bF f d↔(0<=x/\x<f.length)/\bj f x.toNat 0=d:=by
 simp_all[bF,rV]
theorem wt {f:List Int} {d:Int}:(bF f d).Pairwise (·<·):=A4.sublist List.filter_sublist
theorem yI {f:List Int} {d:Int}:(bF f d).length<=f.length:=by
 have:=List.length_filter_le (λi:Int=>decide (bj f i.toNat 0=d)) (dT f.length);rw[jA] at this;exact this
theorem Ln {a b:Type} {g:a->b} {l:List a} {i:Nat} {d:b} {e:a} (h:i<l.length):bj (l.map g) i d=g (bj l i e):=by
 grind[cM]
theorem Lq {n j:Nat} {d:Int} (h:j<n):bj (dT n) j d=j:=by
 grind[dT,qY]
def dx (p:bp) (f:List Int):Tb where
 ca:=(π (p.classes.length+12)).map λr:Nat=>(bF f 0).map λi=>((eT p r (oI p i):Int):Rat);bound:=(π (p.classes.length+12)).map λr:Nat=>((dC p r - cT p ((bF f 1).map (oI p)) r:Int):Rat);cost:=(bF f 0).map λi=>(((oI p i).value:Int):Rat);value:=0;basic:=(π (p.classes.length+12)).map λi:Nat=>(((bF f 0).length+i:Nat):Int);free:=dT (bF f 0).length
def iw (p:bp) (f:List Int):Prop:=bC p=0/\f.length=p.offers.length/\fV p ((bF f 1).map (oI p))=true
abbrev nF (f:List Int):Nat:=(bF f 0).length
abbrev mF (p:bp):Nat:=p.classes.length+12
section
variable {p:bp} {f:List Int}
theorem q8:(dx p f).WF (nF f) (mF p) where
 ca:=by simp[dx]
 row i a:=by
  grind[dx,qY]
 bound:=by simp[dx]
 cost:=by simp[dx]
 basic:=by simp[dx]
 free:=by simp[dx,jA]
theorem Bc {i j:Nat} (b:i<mF p) (a:j<nF f):(dx p f).cf i j=((eT p i (oI p (bj (bF f 0) j 0)):Int):Rat):=by
 grind[Tb.cf,dx,qY,Ln]
theorem Bd {i:Nat} (a:i<mF p):(dx p f).bd i=((dC p i - cT p ((bF f 1).map (oI p)) i:Int):Rat):=by
 grind[Tb.bd,dx,qY]
theorem E9 {j:Nat} (a:j<nF f):(dx p f).cs j=(((oI p (bj (bF f 0) j 0)).value:Int):Rat):=by
 grind[Tb.cs,dx,Ln]
theorem aey {i:Nat} (a:i<mF p):(dx p f).bv i=(((nF f)+i:Nat):Int):=by
 grind[Tb.bv,dx,qY]
theorem Fa {j:Nat} (a:j<nF f):(dx p f).fv j=j:=by
 grind[Tb.fv,dx,Lq]
theorem Be:((dx p f).basic++(dx p f).free).Nodup:=by
 rw[γx];refine⟨?_,A4.imp λh=>by omega,?_⟩
 ·simp only[dx];refine List.Pairwise.map _ (λa b h=>?_) List.nodup_range;omega
 grind[dx,rV]
theorem yJ (h:iw p f) {j:Nat} (a:j<nF f):(0<=bj (bF f 0) j 0/\bj (bF f 0) j 0<p.offers.length)/\bj f (bj (bF f 0) j 0).toNat 0=0:=by
 have:=mG.1 (cK (d:=0) a);rw[h.2.1] at this;exact this
theorem py (a:bC p=0) {i:Int} (h:0<=i/\i<p.offers.length):0<=(oI p i).bD/\(oI p i).bD<p.classes.length/\(oI p i).want.ok=true/\1<=(oI p i).value/\(oI p i).value<=1000000:=(dm a).2.2.2.2 _ (cK (show i.toNat<p.offers.length by omega))
theorem Fb (h:iw p f) {d:Int}:∀x∈(bF f d).map (oI p),0<=x.bD/\x.bD<p.classes.length/\x.want.ok=true/\1<=x.value/\x.value<=1000000:=λx a=>by
 obtain⟨i,b,rfl⟩:=γg.1 a;have:=(mG.1 b).1;rw[h.2.1] at this;exact py h.1 this
theorem Lr {z:Int} {M:Nat} (h:z.natAbs<=M):eV M (z:Rat):=⟨z,rfl,h⟩
theorem UR (h:iw p f) {i:Nat} (b:i<mF p):0<=dC p i - cT p ((bF f 1).map (oI p)) i/\dC p i - cT p ((bF f 1).map (oI p)) i<=4:=by
 have c:i<p.classes.length+12:=b;have d:=o7.1 h.2.2 i (by grind[dn]);have g:=@E2 p h.1 i;have e:=@ug p i ((bF f 1).map (oI p)) λx a=>(Fb h x a).2.2.1;omega
theorem aez:∀m:Nat,m<=20->(m+2)*(1000000*nK 4 m)<4294967296^1000:=by
 have h:((π 21).all λm=>Nat.blt ((m+2)*(1000000*nK 4 m)) (4294967296^1000))=true:=by decide+kernel
 intro m a;have:=Ξ.1 h m (γH.2 (by omega));rw[Nat.blt_eq] at this;exact this
theorem Fe (h:iw p f):Small (nF f) (mF p) 4 1000000 (dx p f) where
 wf:=q8;nd:=Be;cf i j b a:=by
  rw[Bc b a];have:=(py h.1 (yJ h a).1).2.2.1;grind[rL,Lr]
 bd i b:=by
  rw[Bd b];have:=UR h b;exact Lr (by omega)
 cs j a:=by
  rw[E9 a];have:=py h.1 (yJ h a).1;grind[Lr]
 v:=rfl;M1:=by omega
 G1:=by omega
 X:=aez _ (by have:=(dm h.1).1;grind)
theorem Ff {z:Int} (h:0<=z):(0:Rat)<=(z:Rat):=by exact_mod_cast h
theorem Ls (h:iw p f):km (mF p) (dx p f):=λi a=>by
 rw[Bd a];exact Ff (UR h a).1
theorem US {g:Nat->Rat}:∀{n:Nat},(∀k,k<n->0<=g k)->0<=cy n g
 |0,_=>by grind[cy];|n+1,h=>by
  have a:=@US g n λk b=>h k (by omega);grind[cy]
theorem UT {g k:Nat->Rat}:∀{n:Nat},(∀i,i<n->g i<=k i)->cy n g<=cy n k
 |0,_=>by grind[cy];|n+1,h=>by
  have a:=@UT g k n λk b=>h k (by omega);grind[cy]
theorem aeA {g:Nat->Rat} {n j:Nat} (h:∀k,k<n->0<=g k) (a:j<n):g j<=cy n g:=by
 rw[EC a];grind[US]
theorem UU (h:iw p f) {x:Int->Rat} {z:Rat} (d:(dx p f).holds (nF f) (mF p) x z) (e:∀v∈(dx p f).basic++(dx p f).free,0<=x v) {j:Nat} (b:j<nF f):x ((dx p f).fv j)<=1:=by
 obtain⟨l,_⟩:=yJ h b;have r:=py h.1 l;have a:(oI p (bj (bF f 0) j 0)).bD.toNat<mF p:=by grind
 have s:=d.1 _ a;have n:=e _ (List.mem_append_left _ (AO q8 a));have i:(dx p f).cf (oI p (bj (bF f 0) j 0)).bD.toNat j=1:=by
  rw[Bc a b];unfold eT;rw[if_pos (by omega),if_pos (by omega)];rfl
 have m:=@aeA (λk=>(dx p f).cf (oI p (bj (bF f 0) j 0)).bD.toNat k*x ((dx p f).fv k)) (nF f) j (λk c=>by
  refine δA ?_ (e _ (List.mem_append_right _ (yq q8 c)));rw[Bc a c];exact Ff (rL (py h.1 (yJ h c).1).2.2.1).1) b;simp only[i] at m;have t:(dx p f).bd (oI p (bj (bF f 0) j 0)).bD.toNat<=1:=by
  rw[Bd a];have o:dC p (oI p (bj (bF f 0) j 0)).bD.toNat=1:=by
   unfold dC;omega
  have q:=@ug p (oI p (bj (bF f 0) j 0)).bD.toNat ((bF f 1).map (oI p)) λx d=>(Fb h x d).2.2.1;have g:dC p (oI p (bj (bF f 0) j 0)).bD.toNat - cT p ((bF f 1).map (oI p)) (oI p (bj (bF f 0) j 0)).bD.toNat<=1:=by omega
  exact_mod_cast g
 grind
theorem UW (h:iw p f) {x:Int->Rat} {z:Rat} (c:(dx p f).holds (nF f) (mF p) x z) (e:∀v∈(dx p f).basic++(dx p f).free,0<=x v):z<=cy (nF f) (dx p f).cs:=by
 have g:=c.2;have k:(dx p f).value=0:=rfl;have:=@UT (λj=>(dx p f).cs j*x ((dx p f).fv j)) (dx p f).cs (nF f) λj a=>by
  have i:=UU h c e a;have d:0<=(dx p f).cs j:=by
   rw[E9 a];exact Ff (by have:=py h.1 (yJ h a).1;omega)
  have:=δA d (b:=1 - x ((dx p f).fv j)) (by grind);grind
 grind
noncomputable def fe (p:bp) (f:List Int):Tb:=lastT (nF f) (mF p) (dx p f)
theorem rY (h:iw p f):Run (nF f) (mF p) (dx p f) (fe p f)/\km (mF p) (fe p f)/\eh (fe p f) (nF f)<0:=by
 have a:=Run.refl (n:=nF f) (m:=mF p) (t0:=dx p f) q8 Be;have:=Lm a (Ls h);exact⟨this.1,this.2.1,UQ a (Ls h) λx z c b=>UW h c b⟩
end
def fw (d:List bO) (j:Nat) (z:bO):List bO:=d.take j++ε (d.length - j) z
theorem Bf {d:List bO} {j:Nat} {z:bO} (h:j<=d.length):(fw d j z).length=d.length:=by
 grind[fw]
theorem Bg {d:List bO} {z:bO}:fw d 0 z=ε d.length z:=by simp[fw]
theorem Bh {d:List bO} {z:bO}:fw d d.length z=d:=by simp[fw]
theorem Bi {d:List bO} {j:Nat} {z x:bO} (h:j<d.length) (b:x=bj d j z):(fw d j z).set j x=fw d (j+1) z:=by
 unfold fw;have a:d.length - j=(d.length - (j+1))+1:=by omega
 rw[a,List.replicate_succ,List.set_append_right _ _ (by grind),Ψ,show j - min j d.length=0 by omega,List.set_cons_zero,List.take_succ_eq_append_getElem h,List.append_assoc,b,cM h];rfl
theorem yK {l:List Rat} {i:Nat} {q:Rat}:(fL l).set i (bu q)=fL (l.set i q):=by
 simp_all[fL]
theorem elim_none {l p:List Rat} {c:Nat} (h:bj l c 0=0) (d:c<l.length):kj l c p=l:=by
 refine δi ED λi b a=>?_;have e:=@EE c l p i a;grind[cM]
def r413:cZ where
 f:=222;α:=Int;put a:=[.si .i64 a];st _:=[];dec v o:=match v,o with
  |[v],[]=>v.int .i64
  |_,_=>none;ok v o a h:=by
  split at h;·exact⟨by simp only[gL,gU h];rfl,rfl⟩
  ·cases h
 inj a b h _:=by simpa[gL,SV.g] using h
 dom n:=0<=n/\n<=1000;res n:=.ow 0 n.toNat 3;out n:=[.row sF (fL (ε n.toNat 0)) 157 false]
def aeB (n:Int):Nat->cB
 |3=> .inv Int (λj=>⟨[(3,.ow 0 n.toNat 3),(8,.si .i64 n.toNat),(9,.si .i64 j)],[.row sF (fw (fL (ε n.toNat 0)) j.toNat (false,([],[]))) 157 true]⟩)
   (λs=>iS s 9) (λj=>0<=j/\j<=n) (λj=>(n - j).toNat) λ_ _=> .look
 |_=> .look
theorem h413:dK Tryz.prog r413:=by
 refine zM (L:=[qV]) (W:=[]) r413 (λ_=>none) aeB (by simp) (by simpa using h94) ?_;rintro(n:Int) ⟨n0,n1⟩;refine bN (let a:=(0:Int);let c:=bq.row;let d:=Θ .i64;let e:=γ6 0 n.toNat 3;let h:=d (↑n.toNat:Int);let m:=(bk.i .u32).bJ;let j:=(false,[],[]);let k:=fL (ε n.toNat (0:Rat));let l:=bu (Ω a);a<=n/\n<=n/\n*(56:Int)<=(140737488355328:Int)/\n<=(1000000000000:Int)/\(((e.same e/\h.same h/\(γp .i64 0).same (d 0)/\True)/\(c (bk.b.pair (m.pair m)) (ε n.toNat j) 157 true).same (c sF (fw k 0 j) 157 true)/\True)/\a<=a/\a<=n)/\∀(x:Int),let o:=decide (x<(↑n.toNat:Int));let f:=fw k x.toNat j;let g:=x+(1:Int);let p:=d g;a<=x/\x<=n->(o=true->((-9223372036854775808:Int)<=a/\a<=(9223372036854775807:Int))/\n.toNat=f.length/\a<=x/\x<(↑f.length:Int)/\n.toNat=f.length/\x.toNat<f.length/\bV .i64 g/\((e.same e/\h.same h/\p.same p/\True)/\(c sF (f.set x.toNat (l.fst,l.snd.fst,l.snd.snd)) 157 true).same (c sF (fw k g.toNat j) 157 true)/\True)/\(a<=g/\g<=n)/\(n - g).toNat<(n - x).toNat)/\(o=false->e.same e/\(c sF f 157 false).same (c sF k 157 false)/\True)) (by kernel_rfl) ?_;conv=>zeta
 try simp only[vcs]
 have hcast:∀k:Nat,((k:Nat):Int).toNat=k:=λk=>γk k;have hl:(fL (ε n.toNat 0)).length=n.toNat:=by rw[fQ,γR]
 have hrow:∀{x y:List bO},x=y->(bq.row sF x 157 true).same (bq.row sF y 157 true):=by rintro _ _ rfl;rfl
 refine⟨n0,by omega,by omega,by omega,⟨hrow (by rw[Bg,hl]),by omega,by omega⟩,?_⟩;rintro j ⟨j0,j1⟩;have qC:=@Bf (fL (ε n.toNat 0)) j.toNat (false,([],[])) (by omega);refine⟨λhj=>?_,λhj=>?_⟩
 ·have hE:bj (fL (ε n.toNat 0)) j.toNat (false,([],[]))=bu 0:=by
   rw[jv (by rw[γR];omega),cM (by rw[γR];omega),List.getElem_replicate]
  have h0:(Ω 0:Rat)=0:=rfl;simp only[h0,kQ];exact⟨by omega,by omega,j0,by omega,by omega,by omega,by omega,hrow (by rw[Bi (by omega) hE.symm,show(j+1).toNat=j.toNat+1 by omega]),by omega,by omega⟩
 ·rw[show j.toNat=(fL (ε n.toNat 0)).length by omega,Bh];rfl
def r417:bL:=⟨232,List bO×bO×Int×List bO×bO,.cons (dW sF) (.cons (eG sF) (.cons (dV .i64) (.cons (dW sF) (.one (eG sF))))),
 λa=>∃l b p pb,(a.1=fL l/\a.2.1=bu b/\a.2.2.2.1=fL p/\a.2.2.2.2=bu pb)/\(l.length=p.length/\l.length<=1000)/\(0<=a.2.2.1/\a.2.2.1<l.length)/\(∀q∈l,Sz 10000000 q)/\(∀q∈p,Sz 10000000 q)/\Sz 10000000 b/\Sz 10000000 pb,
 λa=> .bH [.row sF (fL (kj (vL a.1) a.2.2.1.toNat (vL a.2.2.2.1))),qU (ck a.2.1 - bj (vL a.1) a.2.2.1.toNat 0*ck a.2.2.2.2)]⟩
def aeC (l:List Rat) (b:Rat) (c:Int) (p:List Rat) (pb:Rat):Nat->cB
 |6=> .inv Int (λj=>⟨[(2,.si .i64 c),(3,.row sF (fL p)),(6,.ptr 0 0 3),(9,.ptr 1 0 3),(11,.ptr 2 0 3),(12,.ptr 3 0 3),(13,.ow 4 l.length 3),(28,.row sF (fL l)),(29,.si .i64 l.length),(30,.si .i64 j)],
   [.cells [.sb (bu b).1,.row (.i .u32) (bu b).2.1,.row (.i .u32) (bu b).2.2] 157 3 false,.cells [.sb (bu pb).1,.row (.i .u32) (bu pb).2.1,.row (.i .u32) (bu pb).2.2] 157 3 false,
    .cells [.bl false,.sc (.slice none 0 0),.sc (.slice none 0 0)] 157 3 false,.cells [.sb (bu (bj l c.toNat 0)).1,.row (.i .u32) (bu (bj l c.toNat 0)).2.1,.row (.i .u32) (bu (bj l c.toNat 0)).2.2] 157 3 false,
    .row sF (fw (fL (kj l c.toNat p)) j.toNat (false,([],[]))) 157 true]⟩)
   (λs=>iS s 30) (λj=>0<=j/\j<=l.length) (λj=>(l.length - j).toNat) λ_ _=> .look
 |_=> .look
theorem h417:Holds Tryz.prog r417:=by
 refine cF (L:=[uE,Ez,yk,Ey]) r417 (λa=>aeC (vL a.1) (ck a.2.1) a.2.2.1 (vL a.2.2.2.1) (ck a.2.2.2.2)) (by simpa using⟨h99,h410,h130,h95⟩) ?_;rintro⟨l',b',c,p',pb'⟩ ⟨l,b,p,pb,⟨e1,e2,e3,e4⟩,⟨g1,g2⟩,⟨c0,c1⟩,hl,hp,hb,hpb⟩;simp only at e1 e2 e3 e4 c0 c1;subst e1 e2 e3 e4;refine bN (let a:=Φ;let d:=(0:Int);let e:=Θ .i64;let f:=bq.cells;let g:=bq.row;let h:=γD;let j:=sF.dflt;let k:=γS;let m:=γC;let n:=SV.bH;let F:=bj (fL l) c.toNat j;let a2:=(F.fst,F.snd.fst,F.snd.snd);let o:=bk.i .u32;let t:=(↑(fL l).length:Int);let L:=fL (kj (vL (fL l)) c.toNat (vL (fL p)));let v:=ck (bu b);let w:=bj (vL (fL l)) c.toNat (0:Rat);let y:=ck (bu pb);let a3:=(bu (v - w*y)).snd;let a4:=n [a sF L,m [h (bu (v - w*y)).fst,a o a3.fst,a o a3.snd]];let z:=fL (vL (fL p));let G:=a sF z;let A:=k 0 0 3;let B:=k 1 0 3;let C:=k 2 0 3;let D:=k 3 0 3;let wu:Nat:=(vL (fL l)).length;let H:=γ6 4 wu 3;let I:=fL (vL (fL l));let J:=a sF I;let r:=(↑wu:Int);let K:=e r;let a5:=SV.sc (Value.slice none 0 0);let E:=f [δo false,a5,a5] 157 3 false;let M:=(false,[],[]);let N:=((bu w).fst,(bu w).snd.fst,(bu w).snd.snd);let O:=f [h (bu v).fst,a o (bu v).snd.fst,a o (bu v).snd.snd] 157 3 false;let P:=f [h (bu y).fst,a o (bu y).snd.fst,a o (bu y).snd.snd] 157 3 false;let Q:=f [h (bu w).fst,a o (bu w).snd.fst,a o (bu w).snd.snd] 157 3 false;let a6:=((bu y).fst,(bu y).snd.fst,(bu y).snd.snd);let a7:=((bu v).fst,(bu v).snd.fst,(bu v).snd.snd);let S:=bu (ck N*ck a6);let a8:=(S.fst,S.snd.fst,S.snd.snd);let U:=bu (ck a7 - ck a8);let a9:=λ(u:Bool) ↦decide (kN (ck a2)=d)=u;let V:=λ(u:bk.b.T) (u_1:(o.bJ.pair o.bJ).T) (u_2:Rat) ↦(f [h u,a o u_1.fst,a o u_1.snd] 157 3 false).same (f [h (bu u_2).fst,a o (bu u_2).snd.fst,a o (bu u_2).snd.snd] 157 3 false);d<=c/\c<t/\c.toNat<(fL l).length/\de a2/\(a9 true->(n [a sF (fL l),m [h (bu b).fst,a o (bu b).snd.fst,a o (bu b).snd.snd]]).same a4)/\(a9 false->d<=t/\t<=t/\t*(56:Int)<=(140737488355328:Int)/\t<=(1000000000000:Int)/\((((e c).same (e c)/\(a sF (fL p)).same G/\A.same A/\B.same B/\C.same C/\D.same D/\(γ6 4 t.toNat 3).same H/\(a sF (fL l)).same J/\(e t).same K/\(γp .i64 0).same (e 0)/\True)/\V (bu b).fst (bu b).snd v/\V (bu pb).fst (bu pb).snd y/\E.same E/\V F.fst F.snd w/\(g (bk.b.pair (o.bJ.pair o.bJ)) (ε t.toNat M) 157 true).same (g sF (fw L 0 M) 157 true)/\True)/\d<=d/\d<=r)/\∀(x:Int),let W:=bj z x.toNat j;let X:=(W.fst,W.snd.fst,W.snd.snd);let Y:=bu (ck N*ck X);let Z:=(Y.fst,Y.snd.fst,Y.snd.snd);let q:=fw L x.toNat M;let s:=x+(1:Int);let R:=e s;let aa:=g sF (fw L s.toNat M) 157 true;let a0:=bj I x.toNat j;let ab:=(a0.fst,a0.snd.fst,a0.snd.snd);let ac:=de Z;let ad:=de N/\de X;let ae:=λ(u:Rat) ↦wu=q.length/\d<=x/\x<(↑q.length:Int)/\wu=q.length/\x.toNat<q.length/\bV .i64 s/\(((e c).same (e c)/\G.same G/\A.same A/\B.same B/\C.same C/\D.same D/\H.same H/\J.same J/\K.same K/\R.same R/\True)/\O.same O/\P.same P/\E.same E/\Q.same Q/\(g sF (q.set x.toNat ((bu u).fst,(bu u).snd.fst,(bu u).snd.snd)) 157 true).same aa/\True)/\(d<=s/\s<=r)/\(r - s).toNat<(r - x).toNat;let af:=λ(u:Bool) ↦decide (kN (ck X)=d)=u;let ag:=λ(u:List bO) ↦let a1:=bj u x.toNat j;de (a1.fst,a1.snd.fst,a1.snd.snd);d<=x/\x<=r->(decide (x<r)=true->d<=x/\x<(↑I.length:Int)/\x.toNat<I.length/\(decide (x=c)=true->d<=x/\x<(↑z.length:Int)/\x.toNat<z.length/\ad/\ac/\ae (-ck Z))/\(decide (x=c)=false->d<=x/\x<(↑z.length:Int)/\x.toNat<z.length/\ag z/\(af true->wu=q.length/\d<=x/\x<(↑q.length:Int)/\wu=q.length/\x.toNat<q.length/\bV .i64 s/\(((e c).same (e c)/\G.same G/\A.same A/\B.same B/\C.same C/\D.same D/\H.same H/\J.same J/\K.same K/\R.same R/\True)/\O.same O/\P.same P/\E.same E/\Q.same Q/\(g sF (q.set x.toNat ab) 157 true).same aa/\True)/\(d<=s/\s<=r)/\(r - s).toNat<(r - x).toNat)/\(af false->d<=x/\x<(↑z.length:Int)/\x.toNat<z.length/\ad/\(ag I/\ac)/\ae (ck ab - ck Z))))/\(decide (x<r)=false->(de N/\de a6)/\(de a7/\de a8)/\wu=q.length/\(n [a sF q,m [h U.fst,a o U.snd.fst,a o U.snd.snd]]).same a4))) (by kernel_rfl) ?_;simp only[mA,fb];try simp only[vcs]
 have hfl:=@fQ l;have hfp:=@fQ p;have hel:(kj l c.toNat p).length=l.length:=ED;have hfe:=@fQ (kj l c.toNat p);have hA:bj (fL l) c.toNat sF.dflt=bu (bj l c.toNat 0):=jv (by omega);have hzc:=hl _ (cK (d:=0) (show c.toNat<l.length by omega));have hcast:∀k:Nat,((k:Nat):Int).toNat=k:=λk=>γk k;have hag:∀{x y:Rat},x=y->(γC [γD (bu x).1,Φ (bk.i IntKind.u32) (bu x).2.1,Φ (bk.i IntKind.u32) (bu x).2.2]).same (γC [γD (bu y).1,Φ (bk.i IntKind.u32) (bu y).2.1,Φ (bk.i IntKind.u32) (bu y).2.2]):=by rintro _ _ rfl;rfl
 have hrow:∀{x y:List bO},x=y->(bq.row sF x 157 true).same (bq.row sF y 157 true):=by rintro _ _ rfl;rfl
 simp only[hA,kQ,fb,TJ,hcast];refine⟨c0,by omega,by omega,ei hzc (by omega),λhz=>⟨by rw[elim_none hz (by omega)],hag (by rw[hz];grind)⟩,λhz=>⟨by omega,by omega,by omega,by omega,⟨⟨⟨by rw[hfl];rfl,by omega⟩,rfl,hrow (by rw[Bg,hfe,hel,hfl])⟩,by omega,by omega⟩,?_⟩⟩;rintro j ⟨j0,j1⟩;have qC:=@Bf (fL (kj l c.toNat p)) j.toNat (false,([],[])) (by omega);refine⟨λhj=>?_,λhj=>?_⟩
 ·have hP:bj (fL p) j.toNat sF.dflt=bu (bj p j.toNat 0):=jv (by omega);have hL:bj (fL l) j.toNat sF.dflt=bu (bj l j.toNat 0):=jv (by omega);have Fg:=hp _ (cK (d:=0) (show j.toNat<p.length by omega));have hzl:=hl _ (cK (d:=0) (show j.toNat<l.length by omega));have hE:bj (fL (kj l c.toNat p)) j.toNat (false,([],[]))=bu (if j.toNat=c.toNat then -(bj l c.toNat 0*bj p j.toNat 0) else bj l j.toNat 0 - bj l c.toNat 0*bj p j.toNat 0):=by
   rw[jv (by omega),EE (by omega)]
  have hm:=AE hzc Fg;have tail:(0<=j+1/\j+1<=(l.length:Int))/\((l.length:Int) - (j+1)).toNat<((l.length:Int) - j).toNat:=by omega
  have step:∀{x:bO},x=bj (fL (kj l c.toNat p)) j.toNat (false,([],[]))->(bq.row sF ((fw (fL (kj l c.toNat p)) j.toNat (false,([],[]))).set j.toNat x) 157 true).same (bq.row sF (fw (fL (kj l c.toNat p)) (j+1).toNat (false,([],[]))) 157 true):=λh=>hrow (by
   rw[Bi (by omega) h,show(j+1).toNat=j.toNat+1 by omega]);simp only[hP,hL,kQ,fb,TJ];refine⟨j0,by omega,by omega,λhjc=>⟨j0,by omega,by omega,⟨ei hzc (by omega),ei Fg (by omega)⟩,ei hm (by omega),by omega,j0,by omega,by omega,by omega,by omega,step ?_,tail⟩,λhjc=>⟨j0,by omega,by omega,ei Fg (by omega),λhpz=>⟨by omega,j0,by omega,by omega,by omega,by omega,step ?_,tail⟩,λhpz=>⟨j0,by omega,by omega,⟨ei hzc (by omega),ei Fg (by omega)⟩,⟨ei hzl (by omega),ei hm (by omega)⟩,by omega,j0,by omega,by omega,by omega,by omega,step ?_,tail⟩⟩⟩;·rw[hE,if_pos (by omega)]
  ·rw[hE,if_neg (by omega),hpz];congr 1;grind
  ·rw[hE,if_neg (by omega)]
 ·rw[show j.toNat=(fL (kj l c.toNat p)).length by omega,Bh];exact⟨⟨ei hzc (by omega),ei hpb (by omega)⟩,⟨ei hb (by omega),ei (AE hzc hpb) (by omega)⟩,by omega,rfl,rfl⟩
def r408:cZ:=uG 217 (Int×Int) (.cons (dV .i64) (.one (dV .i64))) (λn m t a=>(0<=a.1/\a.1<m)/\(0<=a.2/\a.2<n)/\t.cf a.1.toNat a.2.toNat≠0) (λ_ _ _ _=> .bH []) (λ_ _ t a=>fN t a.1.toNat a.2.toNat)
def pz (l:List Rat) (q:Rat):List Rat:=l.map λx=>x*q
def fC (q:Rat):bq:=.cells [.sb (bu q).1,.row (.i .u32) (bu q).2.1,.row (.i .u32) (bu q).2.2] 157 3 false
def iR {a:Type} (f g:Nat->a) (n r i:Nat):List a:=(π n).map λk=>if k<i/\k≠r then g k else f k
theorem wv {a:Type} {f g:Nat->a} {n r i:Nat}:(iR f g n r i).length=n:=by simp[iR]
theorem UX {a:Type} {l:List a} {g:Nat->a} {r:Nat} {d:a}:iR (λk=>bj l k d) g l.length r 0=l:=by
 refine δi wv λi b c=>?_;grind[iR,bj]
theorem UY {a:Type} {f g:Nat->a} {n r i:Nat} {d:a} (h:i<n):bj (iR f g n r i) i d=f i:=by
 grind[iR,qY]
theorem UZ {a:Type} {f g:Nat->a} {n r i:Nat} (h:i<n) (d:i≠r):(iR f g n r i).set i (g i)=iR f g n r (i+1):=by
 refine δi (by simp[iR]) λk b c=>?_;grind[iR]
theorem U0 {a:Type} {f g:Nat->a} {n r:Nat}:iR f g n r (r+1)=iR f g n r r:=by
 grind[iR]
theorem U1 {a:Type} {f g:Nat->a} {n r:Nat} {x:a} (h:r<n):(iR f g n r n).set r x=(π n).map λk=>if k=r then x else g k:=by
 refine δi (by simp[iR]) λk b c=>?_;grind[iR]
theorem U2 {l:List (List Rat)} {i:Nat} {x:List Rat}:(fM l).set i (fL x)=fM (l.set i x):=by
 simp_all[fM]
theorem aeD {l:List Rat} {c:Nat} (h:c<l.length):(fL (pz l (1 / bj l c 0))).set c (bu (1 / bj l c 0))=fL (kP l c):=by
 rw[yK];congr 1;refine δi (by simp[pz,kP]) λk d e=>?_;have b:k<l.length:=by grind[kP]
 rw[List.getElem_set];simp only[pz,kP,εr,List.getElem_range];by_cases a:c=k;·simp_all
 ·rw[if_neg a,if_neg λh=>a h.symm,cM (i:=k) b]
def lr (t:Tb) (r c i:Nat):Tb:={t with
 ca:=iR (λk=>bj t.ca k []) (λk=>kj (bj t.ca k []) c (kP (bj t.ca r []) c)) t.ca.length r i
 bound:=iR t.bd (λk=>t.bd k - t.cf k c*(t.bd r*(1 / t.cf r c))) t.bound.length r i}
theorem aeE {t:Tb} {r c:Nat}:lr t r c 0=t:=by
 unfold lr;have b:=@UX (List Rat) t.ca (λk=>kj (bj t.ca k []) c (kP (bj t.ca r []) c)) r [];have d:=@UX Rat t.bound (λk=>t.bd k - t.cf k c*(t.bd r*(1 / t.cf r c))) r 0;have a:iR t.bd (λk=>t.bd k - t.cf k c*(t.bd r*(1 / t.cf r c))) t.bound.length r 0=t.bound:=d;rw[b,a]
def aeF (n m:Int) (t:Tb) (r c:Int):Nat->cB
 |3=> .inv Int (λj=>⟨[(0,.ptr 0 0 10),(1,.si .i64 r),(2,.si .i64 c),(6,.ptr 5 0 3),(8,.ow 6 n.toNat 3),(41,.row sF (fL (bj t.ca r.toNat []))),(42,.si .i64 n),(43,.si .i64 j)],
   (bG n m t).gG++[fC (1 / t.cf r.toNat c.toNat),.row sF (fw (fL (pz (bj t.ca r.toNat []) (1 / t.cf r.toNat c.toNat))) j.toNat (false,([],[]))) 157 true]⟩)
   (λs=>iS s 43) (λj=>0<=j/\j<=n) (λj=>(n - j).toNat) λ_ _=> .look
 |10=> .inv Int (λi=>⟨[(0,.ptr 0 0 10),(1,.si .i64 r),(2,.si .i64 c),(8,.row sF (fL (kP (bj t.ca r.toNat []) c.toNat))),(11,.ptr 7 0 3),(72,.si .i64 m),(73,.si .i64 i)],
   (bG n m (lr t r.toNat c.toNat i.toNat)).gG++[fC (1 / t.cf r.toNat c.toNat),.dead,fC (t.bd r.toNat*(1 / t.cf r.toNat c.toNat))]⟩)
   (λs=>iS s 73) (λj=>0<=j/\j<=m) (λj=>(m - j).toNat) λ_ _=> .look
 |_=> .look
theorem h408:dK Tryz.prog r408:=by
 refine jm (L:=[qV,EA,Ez,r417,AB]) (W:=[]) r408 (λa=>aeF a.1.n a.1.m a.1.t a.2.1 a.2.2) (by simp) (by simpa using⟨h94,h416,h410,h417,h129⟩) ?_;rintro⟨x,r,c⟩ ⟨n,m,t,hx,hok,⟨r0,r1⟩,⟨c0,c1⟩,ha⟩;simp only at hx r0 r1 c0 c1 ha;subst hx;refine bN (let a:=Θ .i64;let d:=bq.row;let e:=(0:Int);let f:=Φ;let g:=γ6;let h:=bq.cells;let j:=γD;let k:=(1:Int);let o:=sF.dflt;let s:=γp .i64 0;let w:=γS;let K:=(bG n m t).ca;let a0:=bj K r.toNat sF.bJ.dflt;let af:=bu (Ω k);let aB:=(af.fst,af.snd.fst,af.snd.snd);let ag:=bj a0 c.toNat o;let ah:=(ag.fst,ag.snd.fst,ag.snd.snd);let Q:=(↑(bG n m t).k4:Int);let L:=w 0 0 10;let a3:=w 5 0 3;let A:=(bG n m t).n;let ai:=g 6 A.toNat 3;let M:=(bG n m t).t;let S:=bj M.ca r.toNat [];let aj:=f sF (fL S);let a4:=a A;let G:=(bG n m t).m;let a5:=a G;let z:=bk.i .u32;let B:=bG A G M;let a6:=h [a B.n,a B.m,g 1 B.k0 1,g 2 B.k1 3,f sF B.cost,j B.v.fst,f z B.v.snd.fst,f z B.v.snd.snd,g 3 B.k3 1,g 4 B.k4 1] 267 10 false;let a7:=d sF.bJ B.ca 91 false;let a8:=d sF B.bound 157 false;let C:=bk.i .i64;let a9:=d C B.basic 3 false;let aa:=d C B.free 3 false;let ak:=bu (ck aB / ck ah);let N:=(1:Rat) / M.cf r.toNat c.toNat;let R:=h [j (bu N).fst,f z (bu N).snd.fst,f z (bu N).snd.snd] 157 3 false;let ab:=(false,[],[]);let al:=fL (pz S N);let T:=((bu N).fst,(bu N).snd.fst,(bu N).snd.snd);let ac:=B.bound.length;let am:=bj B.bound r.toNat o;let aC:=(am.fst,am.snd.fst,am.snd.snd);let U:=fL (kP S c.toNat);let an:=f sF U;let ad:=w 7 0 3;let D:=bG A G (lr M r.toNat c.toNat 0);let ao:=bu (ck aC*ck T);let V:=bu (M.bd r.toNat*N);let ap:=h [j V.fst,f z V.snd.fst,f z V.snd.snd] 157 3 false;let W:=(V.fst,V.snd.fst,V.snd.snd);let E:=bG A G (fN M r.toNat c.toNat);((-9223372036854775808:Int)<=k/\k<=(9223372036854775807:Int))/\(bG n m t).k0=K.length/\e<=r/\r<(↑K.length:Int)/\(bG n m t).k0=K.length/\r.toNat<K.length/\e<=c/\c<(↑a0.length:Int)/\c.toNat<a0.length/\((de aB/\de ah)/\ck ah≠(0:Rat))/\e<=Q/\Q<=Q/\Q*(56:Int)<=(140737488355328:Int)/\Q<=(1000000000000:Int)/\(bG n m t).k0=K.length/\e<=r/\r<(↑K.length:Int)/\(bG n m t).k0=K.length/\r.toNat<K.length/\(((L.same L/\(a r).same (a r)/\(a c).same (a c)/\a3.same a3/\(g 6 Q.toNat 3).same ai/\(f sF a0).same aj/\(a (↑a0.length:Int)).same a4/\(s).same (a 0)/\True)/\(h [a4,a5,g 1 (bG n m t).k0 1,g 2 (bG n m t).k1 3,f sF (bG n m t).cost,j (bG n m t).v.fst,f z (bG n m t).v.snd.fst,f z (bG n m t).v.snd.snd,g 3 (bG n m t).k3 1,g 4 (bG n m t).k4 1] 267 10 false).same a6/\(d sF.bJ K 91 false).same a7/\(d sF (bG n m t).bound 157 false).same a8/\(d C (bG n m t).basic 3 false).same a9/\(d C (bG n m t).free 3 false).same aa/\(h [j ak.fst,f z ak.snd.fst,f z ak.snd.snd] 157 3 false).same R/\(d (bk.b.pair (z.bJ.pair z.bJ)) (ε Q.toNat ab) 157 true).same (d sF (fw al 0 ab) 157 true)/\True)/\e<=e/\e<=A)/\∀(x:Int),let aq:=bj (fL S) x.toNat o;let aD:=(aq.fst,aq.snd.fst,aq.snd.snd);let ae:=fw al x.toNat ab;let O:=ae.length;let X:=x+k;let aE:=a X;let ar:=bu (ck aD*ck T);e<=x/\x<=A->(decide (x<A)=true->e<=x/\x<(↑(fL S).length:Int)/\x.toNat<(fL S).length/\(de aD/\de T)/\A.toNat=O/\e<=x/\x<(↑O:Int)/\A.toNat=O/\x.toNat<O/\bV .i64 X/\((L.same L/\(a r).same (a r)/\(a c).same (a c)/\a3.same a3/\ai.same ai/\aj.same aj/\a4.same a4/\aE.same aE/\True)/\a6.same a6/\a7.same a7/\a8.same a8/\a9.same a9/\aa.same aa/\R.same R/\(d sF (ae.set x.toNat (ar.fst,ar.snd.fst,ar.snd.snd)) 157 true).same (d sF (fw al X.toNat ab) 157 true)/\True)/\(e<=X/\X<=A)/\(A - X).toNat<(A - x).toNat)/\(decide (x<A)=false->A.toNat=O/\e<=c/\c<(↑O:Int)/\A.toNat=O/\c.toNat<O/\B.k1=ac/\e<=r/\r<(↑ac:Int)/\B.k1=ac/\r.toNat<ac/\(de aC/\de T)/\A.toNat=(ae.set c.toNat T).length/\(((L.same L/\(a r).same (a r)/\(a c).same (a c)/\(f sF (ae.set c.toNat T)).same an/\ad.same ad/\(a (↑B.k0:Int)).same a5/\(s).same (a 0)/\True)/\a6.same (h [a D.n,a D.m,g 1 D.k0 1,g 2 D.k1 3,f sF D.cost,j D.v.fst,f z D.v.snd.fst,f z D.v.snd.snd,g 3 D.k3 1,g 4 D.k4 1] 267 10 false)/\a7.same (d sF.bJ D.ca 91 false)/\a8.same (d sF D.bound 157 false)/\a9.same (d C D.basic 3 false)/\aa.same (d C D.free 3 false)/\R.same R/\bq.dead.same bq.dead/\(h [j ao.fst,f z ao.snd.fst,f z ao.snd.snd] 157 3 false).same ap/\True)/\e<=e/\e<=G)/\∀(x:Int),let y:=bG A G (lr M r.toNat c.toNat x.toNat);let aF:=a y.n;let aG:=a y.m;let aH:=g 1 y.k0 1;let aI:=g 2 y.k1 3;let Y:=y.cost;let aJ:=[g 3 y.k3 1,g 4 y.k4 1];let Z:=x+k;let F:=bG A G (lr M r.toNat c.toNat Z.toNat);let J:=y.basic;let aK:=a Z;let a1:=y.ca;let H:=a1.length;let a2:=y.bound;let I:=a2.length;let au:=bj a1 x.toNat sF.bJ.dflt;let av:=bj a2 x.toNat o;let aL:=(av.fst,av.snd.fst,av.snd.snd);let aw:=bu (ck aL - bj (vL au) c.toNat (0:Rat)*ck W);let ax:=(y.v.fst,y.v.snd.fst,y.v.snd.snd);let ay:=bj Y c.toNat o;let aM:=(ay.fst,ay.snd.fst,ay.snd.snd);let az:=bu (ck aM*ck W);let aN:=(az.fst,az.snd.fst,az.snd.snd);let P:=y.free.length;let aA:=bu (ck ax+ck aN);let aP:=(h (aF::aG::aH::aI::f sF Y::j y.v.fst::f z y.v.snd.fst::f z y.v.snd.snd::aJ) 267 10 false).same (h [a F.n,a F.m,g 1 F.k0 1,g 2 F.k1 3,f sF F.cost,j F.v.fst,f z F.v.snd.fst,f z F.v.snd.snd,g 3 F.k3 1,g 4 F.k4 1] 267 10 false);let aQ:=(d C J 3 false).same (d C F.basic 3 false)/\(d C y.free 3 false).same (d C F.free 3 false)/\R.same R/\bq.dead.same bq.dead/\ap.same ap/\True;let aO:=λ(u u_1:bq) ↦bV .i64 Z/\((L.same L/\(a r).same (a r)/\(a c).same (a c)/\an.same an/\ad.same ad/\a5.same a5/\aK.same aK/\True)/\aP/\u.same (d sF.bJ F.ca 91 false)/\u_1.same (d sF F.bound 157 false)/\aQ)/\(e<=Z/\Z<=G)/\(G - Z).toNat<(G - x).toNat;e<=x/\x<=G->(decide (x<G)=true->(decide (x≠r)=true->y.k0=H/\e<=x/\x<(↑H:Int)/\y.k0=H/\x.toNat<H/\y.k1=I/\e<=x/\x<(↑I:Int)/\y.k1=I/\x.toNat<I/\(∃(l:List Rat),∃(b:Rat),∃(p:List Rat),∃(pb:Rat),(au=fL l/\aL=bu b/\U=fL p/\W=bu pb)/\(l.length=p.length/\l.length<=1000)/\(e<=c/\c<(↑l.length:Int))/\(∀(q:Rat),q∈l->Sz 10000000 q)/\(∀(q:Rat),q∈p->Sz 10000000 q)/\Sz 10000000 b/\Sz 10000000 pb)/\y.k0=H/\e<=x/\x<(↑H:Int)/\y.k0=H/\x.toNat<H/\y.k1=I/\e<=x/\x<(↑I:Int)/\y.k1=I/\x.toNat<I/\aO (d sF.bJ (a1.set x.toNat (fL (kj (vL au) c.toNat (vL U)))) 91 false) (d sF (a2.set x.toNat (aw.fst,aw.snd.fst,aw.snd.snd)) 157 false))/\(decide (x≠r)=false->aO (d sF.bJ a1 91 false) (d sF a2 157 false)))/\(decide (x<G)=false->e<=c/\c<(↑Y.length:Int)/\c.toNat<Y.length/\(∃(l:List Rat),∃(b:Rat),∃(p:List Rat),∃(pb:Rat),(Y=fL l/\ax=bu b/\U=fL p/\W=bu pb)/\(l.length=p.length/\l.length<=1000)/\(e<=c/\c<(↑l.length:Int))/\(∀(q:Rat),q∈l->Sz 10000000 q)/\(∀(q:Rat),q∈p->Sz 10000000 q)/\Sz 10000000 b/\Sz 10000000 pb)/\(de aM/\de W)/\(de ax/\de aN)/\y.k0=H/\e<=r/\r<(↑H:Int)/\y.k0=H/\r.toNat<H/\y.k1=I/\e<=r/\r<(↑I:Int)/\y.k1=I/\r.toNat<I/\y.k4=P/\e<=c/\c<(↑P:Int)/\y.k4=P/\c.toNat<P/\y.k3=J.length/\e<=r/\r<(↑J.length:Int)/\y.k3=J.length/\r.toNat<J.length/\y.k3=J.length/\e<=r/\r<(↑J.length:Int)/\y.k3=J.length/\r.toNat<J.length/\y.k4=P/\e<=c/\c<(↑P:Int)/\y.k4=P/\c.toNat<P/\(SV.bH []).same (SV.bH [])/\(h (aF::aG::aH::aI::f sF (fL (kj (vL Y) c.toNat (vL U)))::j aA.fst::f z aA.snd.fst::f z aA.snd.snd::aJ) 267 10 false).same (h [a E.n,a E.m,g 1 E.k0 1,g 2 E.k1 3,f sF E.cost,j E.v.fst,f z E.v.snd.fst,f z E.v.snd.snd,g 3 E.k3 1,g 4 E.k4 1] 267 10 false)/\(d sF.bJ (a1.set r.toNat U) 91 false).same (d sF.bJ E.ca 91 false)/\(d sF (a2.set r.toNat W) 157 false).same (d sF E.bound 157 false)/\(d C (J.set r.toNat (bj y.free c.toNat e)) 3 false).same (d C E.basic 3 false)/\(d C (y.free.set c.toNat (bj J r.toNat e)) 3 false).same (d C E.free 3 false)/\True))) (by kernel_rfl) ?_;conv=>zeta
 try simp only[s6]
 try simp only[bG]
 try simp only[vcs]
 obtain⟨⟨⟨n0,n1⟩,m0,m1⟩,hw,hz⟩:=id hok;have hkl:=hw.ca;have hbl:=hw.bound;have hbb:=hw.basic;have hfl:=hw.free;have hcl:=hw.cost;have hfm:=@Ks t.ca;have Kx:=@fQ t.bound;have hrl:=hw.row r.toNat (by omega);have hcast:∀k:Nat,((k:Nat):Int).toNat=k:=λk=>γk k;have h1:(Ω 1:Rat)=1:=rfl;have hR:bj (fM t.ca) r.toNat sF.bJ.dflt=fL (bj t.ca r.toNat []):=Kt (by omega);have hA:bj (fL (bj t.ca r.toNat [])) c.toNat sF.dflt=bu (t.cf r.toNat c.toNat):=jv (by omega);have hB:bj (fL t.bound) r.toNat sF.dflt=bu (t.bd r.toNat):=jv (by omega);simp only[hR,hA,hB,kQ,fb,hcast,h1];have hsA:=hok.cf (i:=r.toNat) (j:=c.toNat) (by omega) (by omega);have hsB:=hok.bd (i:=r.toNat) (by omega);have s1:Sz 1 (1:Rat):=by unfold Sz;decide
 have hsI:=J1 s1 hsA ha;have hsP:=AE hsB hsI;have hfr:=@fQ (bj t.ca r.toNat []);have hsl:(pz (bj t.ca r.toNat []) (1 / t.cf r.toNat c.toNat)).length=n.toNat:=by unfold pz;rw[List.length_map];exact hrl
 have hfs:=@fQ (pz (bj t.ca r.toNat []) (1 / t.cf r.toNat c.toNat));have hrow:∀{x y:List bO},x=y->(bq.row sF x 157 true).same (bq.row sF y 157 true):=by rintro _ _ rfl;rfl
 refine⟨by omega,by omega,r0,by omega,by omega,by omega,c0,by omega,by omega,⟨⟨ei s1 (by omega),ei hsA (by omega)⟩,ha⟩,by omega,by omega,by omega,by omega,by omega,r0,by omega,by omega,by omega,⟨⟨⟨by rw[hfl];rfl,trivial,by omega⟩,rfl,hrow (by rw[Bg,hfs,hsl,hfl])⟩,by omega,by omega⟩,?_⟩;rintro j ⟨j0,j1⟩;have qC:=@Bf (fL (pz (bj t.ca r.toNat []) (1 / t.cf r.toNat c.toNat))) j.toNat (false,([],[])) (by omega);refine⟨λhj=>?_,λhj=>?_⟩
 ·have hL:bj (fL (bj t.ca r.toNat [])) j.toNat sF.dflt=bu (t.cf r.toNat j.toNat):=jv (by omega);have hS:bj (fL (pz (bj t.ca r.toNat []) (1 / t.cf r.toNat c.toNat))) j.toNat (false,([],[]))=bu (t.cf r.toNat j.toNat*(1 / t.cf r.toNat c.toNat)):=by
   rw[jv (by omega),cM (by omega)];unfold pz Tb.cf;rw[εr,cM (l:=bj t.ca r.toNat []) (i:=j.toNat) (by omega)]
  simp only[hL,fb];refine⟨j0,by omega,by omega,⟨ei (hok.cf (by omega) (by omega)) (by omega),ei hsI (by omega)⟩,by omega,j0,by omega,by omega,by omega,by omega,hrow ?_,by omega,by omega⟩;rw[Bi (by omega) hS.symm,show(j+1).toNat=j.toNat+1 by omega]
 ·have hset:(fw (fL (pz (bj t.ca r.toNat []) (1 / t.cf r.toNat c.toNat))) j.toNat (false,([],[]))).set c.toNat (bu (1 / t.cf r.toNat c.toNat))=fL (kP (bj t.ca r.toNat []) c.toNat):=by
   rw[show j.toNat=(fL (pz (bj t.ca r.toNat []) (1 / t.cf r.toNat c.toNat))).length by omega,Bh];exact aeD (by omega)
  have hpl:(kP (bj t.ca r.toNat []) c.toNat).length=n.toNat:=by rw[Tf];exact hrl
  have hfp:=@fQ (kP (bj t.ca r.toNat []) c.toNat);simp only[hset,aeE];have U3:∀q∈kP (bj t.ca r.toNat []) c.toNat,Sz 10000000 q:=λq hq=>by
   obtain⟨k,hk,rfl⟩:=γg.1 hq;rw[γH] at hk;split;·exact hsI.mono (by omega)
   ·exact(AE (hok.cf (i:=r.toNat) (j:=k) (by omega) (by omega)) hsI).mono (by omega)
  refine⟨by omega,c0,by omega,by omega,by omega,by omega,r0,by omega,by omega,by omega,⟨ei hsB (by omega),ei hsI (by omega)⟩,by omega,⟨⟨⟨trivial,by omega⟩,rfl,rfl,rfl,rfl,rfl,rfl⟩,by omega,by omega⟩,?_⟩;rintro i ⟨i0,i1⟩;have ekl:(lr t r.toNat c.toNat i.toNat).ca.length=m.toNat:=by show(iR _ _ _ _ _).length=_;rw[wv];exact hkl
  have ebl:(lr t r.toNat c.toNat i.toNat).bound.length=m.toNat:=by show(iR _ _ _ _ _).length=_;rw[wv];exact hbl
  have efm:=@Ks (lr t r.toNat c.toNat i.toNat).ca;have efb:=@fQ (lr t r.toNat c.toNat i.toNat).bound;have hfc:=@fQ t.cost;have aeI:∀{a b:Tb},a.ca.length=b.ca.length->a.bound.length=b.bound.length->a.cost=b.cost->a.value=b.value->a.basic.length=b.basic.length->a.free.length=b.free.length->
    (bq.cells [.si .i64 n,.si .i64 m,.ow 1 a.ca.length 1,.ow 2 a.bound.length 3,.row sF (fL a.cost),.sb (bu a.value).1,.row (.i .u32) (bu a.value).2.1,.row (.i .u32) (bu a.value).2.2,.ow 3 a.basic.length 1,.ow 4 a.free.length 1] 267 10 false).same
    (bq.cells [.si .i64 n,.si .i64 m,.ow 1 b.ca.length 1,.ow 2 b.bound.length 3,.row sF (fL b.cost),.sb (bu b.value).1,.row (.i .u32) (bu b.value).2.1,.row (.i .u32) (bu b.value).2.2,.ow 3 b.basic.length 1,.ow 4 b.free.length 1] 267 10 false):=λh1 h2 h3 h4 h5 h6=>by
   rw[h1,h2,h3,h4,h5,h6];rfl
  have U4:∀{x y:List (List bO)},x=y->(bq.row sF.bJ x 91 false).same (bq.row sF.bJ y 91 false):=by rintro _ _ rfl;rfl
  have U5:∀{x y:List bO},x=y->(bq.row sF x 157 false).same (bq.row sF y 157 false):=by rintro _ _ rfl;rfl
  have U6:∀{x y:List Int},x=y->(bq.row (.i .i64) x 3 false).same (bq.row (.i .i64) y 3 false):=by rintro _ _ rfl;rfl
  refine⟨λhi=>⟨λhir=>?_,λhir=>?_⟩,λhi=>?_⟩
  ·have hRi:bj (fM (lr t r.toNat c.toNat i.toNat).ca) i.toNat sF.bJ.dflt=fL (bj t.ca i.toNat []):=by
    rw[Kt (by omega)];congr 1;exact UY (by omega)
   have hBi:bj (fL (lr t r.toNat c.toNat i.toNat).bound) i.toNat sF.dflt=bu (t.bd i.toNat):=by
    rw[jv (by omega)];congr 1;exact UY (by omega)
   have hli:=hw.row i.toNat (by omega);simp only[hRi,hBi,mA,fb];refine⟨by omega,i0,by omega,by omega,by omega,by omega,i0,by omega,by omega,by omega,⟨bj t.ca i.toNat [],t.bd i.toNat,kP (bj t.ca r.toNat []) c.toNat,t.bd r.toNat*(1 / t.cf r.toNat c.toNat),⟨rfl,rfl,rfl,rfl⟩,⟨by omega,by omega⟩,⟨c0,by omega⟩,λq hq=>?_,U3,(hok.bd (by omega)).mono (by omega),hsP.mono (by omega)⟩,by omega,i0,by omega,by omega,by omega,by omega,i0,by omega,by omega,by omega,by omega,⟨aeI ?_ ?_ rfl rfl rfl rfl,U4 ?_,U5 ?_,rfl,rfl⟩,by omega,by omega⟩;·exact(hz.1 _ (cK (d:=[]) (by omega)) q hq).mono (by omega)
   ·show(iR _ _ _ _ _).length=(iR _ _ _ _ _).length;rw[wv,wv]
   ·show(iR _ _ _ _ _).length=(iR _ _ _ _ _).length;rw[wv,wv]
   ·rw[U2,show(i+1).toNat=i.toNat+1 by omega];congr 1;exact UZ (by omega) (by omega)
   ·rw[yK,show(i+1).toNat=i.toNat+1 by omega];congr 1;exact UZ (f:=t.bd) (g:=λk=>t.bd k - t.cf k c.toNat*(t.bd r.toNat*(1 / t.cf r.toNat c.toNat))) (by omega) (by omega)
  ·have e:lr t r.toNat c.toNat (i+1).toNat=lr t r.toNat c.toNat i.toNat:=by
    rw[show(i+1).toNat=r.toNat+1 by omega,show i.toNat=r.toNat by omega];unfold lr;rw[U0,U0]
   rw[e];refine⟨?_,⟨rfl,rfl,rfl,rfl,rfl⟩,?_,?_⟩<;>omega
  ·have U7:=hok.cs (j:=c.toNat) (by omega);have hC:bj (fL t.cost) c.toNat sF.dflt=bu (t.cs c.toNat):=jv (by omega);have hcc:(lr t r.toNat c.toNat i.toNat).cost=t.cost:=rfl;have hvv:(lr t r.toNat c.toNat i.toNat).value=t.value:=rfl;have hff:(lr t r.toNat c.toNat i.toNat).free=t.free:=rfl;have hbs:(lr t r.toNat c.toNat i.toNat).basic=t.basic:=rfl;simp only[hC,hcc,hvv,hff,hbs,mA,fb];refine⟨c0,by omega,by omega,⟨t.cost,t.value,kP (bj t.ca r.toNat []) c.toNat,t.bd r.toNat*(1 / t.cf r.toNat c.toNat),⟨rfl,rfl,rfl,rfl⟩,⟨by omega,by omega⟩,⟨c0,by omega⟩,λq hq=>(hz.2.2.1 q hq).mono (by omega),U3,hz.2.2.2.mono (by omega),hsP.mono (by omega)⟩,⟨ei U7 (by omega),ei hsP (by omega)⟩,⟨ei hz.2.2.2 (by omega),ei (AE U7 hsP) (by omega)⟩,
    by omega,r0,by omega,by omega,by omega,by omega,r0,by omega,by omega,by omega,c0,by omega,by omega,r0,by omega,by omega,r0,by omega,by omega,c0,by omega,by omega,?_,U4 ?_,U5 ?_,U6 rfl,U6 rfl⟩
   ·have hpw:=Ti (r:=r.toNat) (c:=c.toNat) hw;rw[ekl,ebl,hbb,hfl,hpw.ca,hpw.bound,hpw.basic,hpw.free];rfl
   ·rw[U2,show i.toNat=t.ca.length by omega];congr 1;exact U1 (by omega)
   ·rw[yK,show i.toNat=t.bound.length by omega];congr 1;exact U1 (by omega)
def okO (n m:Nat) (t:Tb):Prop:=∃a M G,Small n m M G a/\Run n m a t/\km m t
theorem aeM {n m:Nat} {t:Tb} (h:okO n m t):fc n m (uM n m t) t=true:=by
 obtain⟨e,M,G,c,b,a⟩:=h;have d:=Kr b a;unfold uM;grind
noncomputable def Lt:cZ:=uG 187 Unit .nil (λn m t _=>okO n.toNat m.toNat t) (λn m t _=> .bH [.si .i64 (if eh (lastT n.toNat m.toNat t) n.toNat<0 then 0 else eh (lastT n.toNat m.toNat t) n.toNat),.sb (decide (eh (lastT n.toNat m.toNat t) n.toNat<0))]) (λn m t _=>lastT n.toNat m.toNat t)
def tS (t:Tb) (s:cq):Tb:=match EH s.o with
 |some x=>x.t
 |none=>t
noncomputable def aeN (n m:Int) (t:Tb):Nat->cB
 |1=> .inv Tb (λx=>⟨[(0,.ptr 0 0 10)],(bG n m x).gG⟩) (tS t) (λx=>okO n.toNat m.toNat x/\lastT n.toNat m.toNat x=lastT n.toNat m.toNat t/\fc n.toNat m.toNat (uM n.toNat m.toNat t) x=true) (λx=>yu n.toNat m.toNat (uM n.toNat m.toNat t) x) λ_ _=> .look
 |_=> .look
theorem aeO {n m:Int} {t:Tb} (h:okO n.toNat m.toNat t) (e:0<=n/\n<=1000) (f:0<=m/\m<=1000):kR n m t:=by
 obtain⟨c,M,G,a,b,d⟩:=h;grind[UK]
theorem h402:dK Tryz.prog Lt:=by
 refine jm (L:=[]) (W:=[Kv,Kw,r408]) Lt (λa=>aeN a.1.n a.1.m a.1.t) (by simpa using⟨h411,h412,h408⟩) (by simp) ?_;rintro⟨x,u⟩ ⟨n,m,t,hx,hok,hd⟩;simp only at hx hd;subst hx;refine bN (let a:=bq.row;let b:=Θ .i64;let c:=γ6;let d:=Φ;let e:=bq.cells;let f:=(0:Int);let g:=γD;let h:=SV.bH;let I:=γS 0 0 10;let D:=(bG n m t).n;let E:=(bG n m t).m;let r:=bk.i .u32;let F:=(bG n m t).t;let l:=bG D E F;let o:=bk.i .i64;let k:=D.toNat;let s:=E.toNat;let B:=lastT k s F;let G:=uM k s F;let K:=h [b (if eh B k<f then f else eh B k),g (decide (eh B k<f))];let p:=bG D E B;let L:=e [b p.n,b p.m,c 1 p.k0 1,c 2 p.k1 3,d sF p.cost,g p.v.fst,d r p.v.snd.fst,d r p.v.snd.snd,c 3 p.k3 1,c 4 p.k4 1] 267 10 false;let M:=a sF.bJ p.ca 91 false;let N:=a sF p.bound 157 false;let O:=a o p.basic 3 false;let P:=a o p.free 3 false;(((I.same I/\True)/\(e [b D,b E,c 1 (bG n m t).k0 1,c 2 (bG n m t).k1 3,d sF (bG n m t).cost,g (bG n m t).v.fst,d r (bG n m t).v.snd.fst,d r (bG n m t).v.snd.snd,c 3 (bG n m t).k3 1,c 4 (bG n m t).k4 1] 267 10 false).same (e [b l.n,b l.m,c 1 l.k0 1,c 2 l.k1 3,d sF l.cost,g l.v.fst,d r l.v.snd.fst,d r l.v.snd.snd,c 3 l.k3 1,c 4 l.k4 1] 267 10 false)/\(a sF.bJ (bG n m t).ca 91 false).same (a sF.bJ l.ca 91 false)/\(a sF (bG n m t).bound 157 false).same (a sF l.bound 157 false)/\(a o (bG n m t).basic 3 false).same (a o l.basic 3 false)/\(a o (bG n m t).free 3 false).same (a o l.free 3 false)/\True)/\okO k s F/\B=B/\fc k s G F=true)/\∀(x:Tb),let y:=bG D E x;let z:=eh y.t y.n.toNat;let Q:=decide (z<f);let j:=bG y.n y.m y.t;let H:=dS j.t z.toNat j.m.toNat;let R:=decide (H<f);let C:=bG j.n j.m j.t;let S:=fN C.t H.toNat z.toNat;let A:=bG C.n C.m S;let q:=bG D E A.t;let T:=λ(u u_1:Int) (u_2 u_3:Tb) (u_4:bq) ↦let J:=bG u u_1 u_2;let U:=bG J.n J.m J.t;let w:=bG U.n U.m u_3;(e [b w.n,b w.m,c 1 w.k0 1,c 2 w.k1 3,d sF w.cost,g w.v.fst,d r w.v.snd.fst,d r w.v.snd.snd,c 3 w.k3 1,c 4 w.k4 1] 267 10 false).same u_4;okO k s x/\lastT k s x=B/\fc k s G x=true->(∃(n:Int),∃(m:Int),∃(t:Tb),y=bG n m t/\kR n m t/\True)/\(Q=true->(h [γp .i64 0,δo true]).same K/\(e [b j.n,b j.m,c 1 j.k0 1,c 2 j.k1 3,d sF j.cost,g j.v.fst,d r j.v.snd.fst,d r j.v.snd.snd,c 3 j.k3 1,c 4 j.k4 1] 267 10 false).same L/\(a sF.bJ j.ca 91 false).same M/\(a sF j.bound 157 false).same N/\(a o j.basic 3 false).same O/\(a o j.free 3 false).same P/\True)/\(Q=false->(∃(n:Int),∃(m:Int),∃(t:Tb),j=bG n m t/\kR n m t/\f<=z/\z<n)/\(R=true->(h [b z,δo false]).same K/\T D E x j.t L/\(a sF.bJ C.ca 91 false).same M/\(a sF C.bound 157 false).same N/\(a o C.basic 3 false).same O/\(a o C.free 3 false).same P/\True)/\(R=false->(∃(n:Int),∃(m:Int),∃(t:Tb),C=bG n m t/\kR n m t/\(f<=H/\H<m)/\(f<=z/\z<n)/\t.cf H.toNat z.toNat≠(0:Rat))/\0=0/\((I.same I/\True)/\T y.n y.m y.t S (e [b q.n,b q.m,c 1 q.k0 1,c 2 q.k1 3,d sF q.cost,g q.v.fst,d r q.v.snd.fst,d r q.v.snd.snd,c 3 q.k3 1,c 4 q.k4 1] 267 10 false)/\(a sF.bJ A.ca 91 false).same (a sF.bJ q.ca 91 false)/\(a sF A.bound 157 false).same (a sF q.bound 157 false)/\(a o A.basic 3 false).same (a o q.basic 3 false)/\(a o A.free 3 false).same (a o q.free 3 false)/\True)/\(okO k s A.t/\lastT k s A.t=B/\fc k s G A.t=true)/\yu k s G A.t<yu k s G x))) (by kernel_rfl) ?_;simp only[ac3,s6,TG,TI];try simp only[vcs]
 obtain⟨⟨hn,hm⟩,hw,hz⟩:=id hok;refine⟨⟨hd,aeM hd⟩,?_⟩;rintro x ⟨hx,hl,he⟩;have Fh:=aeO hx hn hm;have hs:stepT n.toNat m.toNat x=if eh x n.toNat<0 then none else if dS x (eh x n.toNat).toNat m.toNat<0 then none else some (fN x (dS x (eh x n.toNat).toNat m.toNat).toNat (eh x n.toNat).toNat):=rfl;have hwx:=Fh.2.1;have fin:∀{y:Tb},y=lastT n.toNat m.toNat t->bG n m y=bG n m (lastT n.toNat m.toNat t):=by rintro _ rfl;rfl
 refine⟨⟨n,m,x,rfl,Fh⟩,λh0=>?_,λh0=>?_⟩
 ·rw[if_pos h0] at hs;have e:=UP hs;rw[hl] at e;rw[<-e] at h0 ⊢;rw[if_pos h0,decide_eq_true h0];exact⟨⟨rfl,rfl⟩,rfl,rfl,rfl,rfl,rfl⟩
 ·have h0':¬eh x n.toNat<0:=h0;rw[if_neg h0'] at hs;rcases @v7 x n.toNat with⟨e1,e2⟩|⟨c,e1,e2,e3,e4⟩;·omega
  ·refine⟨⟨n,m,x,rfl,Fh,by omega,by omega⟩,λh1=>?_,λh1=>?_⟩
   ·rw[if_pos h1] at hs;have e:=UP hs;rw[hl] at e;rw[e,if_neg h0',decide_eq_false h0'];exact⟨⟨rfl,rfl⟩,rfl,rfl,rfl,rfl,rfl⟩
   ·have h1':¬dS x (eh x n.toNat).toNat m.toNat<0:=h1;rw[if_neg h1'] at hs;rcases @v8 x (eh x n.toNat).toNat m.toNat with⟨l1,l2⟩|⟨r,l1,l2,l3,l4⟩;·omega
    ·refine⟨⟨n,m,x,rfl,Fh,⟨by omega,by omega⟩,⟨by omega,by omega⟩,?_⟩,?_⟩;·rw[l1,γk];grind
     ·obtain⟨t0,M,G,g1,g2,g3⟩:=hx;have hsr:=Kp g2 g3 hs;have aeP:=Kr g2 g3;refine⟨⟨⟨t0,M,G,g1,hsr.1,hsr.2⟩,?_,TF he hs⟩,left_step he hs⟩;rw[aex aeP hs,hl]
def gn (t:Tb) (n:Nat):Nat->List Rat
 |0=>ε n 0
 |k+1=>if t.bv k<n then(gn t n k).set (t.bv k).toNat (t.bd k) else gn t n k
def kU (t:Tb) (n m:Nat):Nat->List Rat
 |0=>ε m 0
 |k+1=>if(n:Int)<=t.fv k/\t.fv k<n+m then(kU t n m k).set (t.fv k - n).toNat (-(t.cs k)) else kU t n m k
theorem Fj {t:Tb} {n:Nat}:∀{k:Nat},(gn t n k).length=n
 |0=>by simp[gn];|k+1=>by
  have:=@Fj t n k;grind[gn]
theorem U8 {t:Tb} {n m:Nat}:∀{k:Nat},(kU t n m k).length=m
 |0=>by simp[kU];|k+1=>by
  have:=@U8 t n m k;grind[kU]
def Fo:cZ:=uG 188 Unit .nil (λ_ _ t _=>∀v∈t.basic,0<=v) (λn m t _=> .row sF (fL (gn t n.toNat m.toNat))) (λ_ _ t _=>t)
def aeQ (n m:Int) (t:Tb):Nat->cB
 |3=> .inv Int (λi=>⟨[(0,.ptr 0 0 10),(3,.ow 5 n.toNat 3),(14,.ow 3 t.basic.length 1),(15,.si .i64 t.basic.length),(16,.si .i64 i)],(bG n m t).gG++[.row sF (fL (gn t n.toNat i.toNat)) 157 false]⟩)
   (λs=>iS s 16) (λi=>0<=i/\i<=m) (λi=>(m - i).toNat) λ_ _=> .look
 |_=> .look
theorem h403:dK Tryz.prog Fo:=by
 refine jm (L:=[]) (W:=[r413]) Fo (λa=>aeQ a.1.n a.1.m a.1.t) (by simpa using h413) (by simp) ?_;rintro⟨x,u⟩ ⟨n,m,t,hx,hok,hd⟩;simp only at hx hd;subst hx;refine bN (let a:=bq.row;let b:=Θ .i64;let c:=(0:Int);let d:=Φ;let e:=γ6;let p:=(bG n m t).n;let B:=γS 0 0 10;let g:=p.toNat;let C:=e 5 g 3;let J:=e 3 (bG n m t).k3 1;let k:=(bG n m t).t;let q:=k.basic.length;let G:=e 3 q 1;let H:=b (↑q:Int);let h:=(bG n m t).m;let D:=bk.i .u32;let f:=bG p h k;let r:=bq.cells [b f.n,b f.m,e 1 f.k0 1,e 2 f.k1 3,d sF f.cost,γD f.v.fst,d D f.v.snd.fst,d D f.v.snd.snd,e 3 f.k3 1,e 4 f.k4 1] 267 10 false;let s:=a sF.bJ f.ca 91 false;let w:=a sF f.bound 157 false;let E:=bk.i .i64;let l:=f.basic;let y:=a E l 3 false;let z:=a E f.free 3 false;let F:=f.bound.length;(c<=p/\p<=(1000:Int))/\(((B.same B/\C.same C/\J.same G/\(b (↑(bG n m t).k3:Int)).same H/\(γp .i64 0).same (b 0)/\True)/\(bq.cells [b p,b h,e 1 (bG n m t).k0 1,e 2 (bG n m t).k1 3,d sF (bG n m t).cost,γD (bG n m t).v.fst,d D (bG n m t).v.snd.fst,d D (bG n m t).v.snd.snd,J,e 4 (bG n m t).k4 1] 267 10 false).same r/\(a sF.bJ (bG n m t).ca 91 false).same s/\(a sF (bG n m t).bound 157 false).same w/\(a E (bG n m t).basic 3 false).same y/\(a E (bG n m t).free 3 false).same z/\(a sF (fL (ε g (0:Rat))) 157 false).same (a sF (fL (gn k g 0)) 157 false)/\True)/\c<=c/\c<=h)/\∀(x:Int),let o:=x+(1:Int);let K:=b o;let L:=decide (x<(↑q:Int));let A:=bj l x.toNat c;let M:=decide (A<f.n);let j:=fL (gn k g x.toNat);let I:=bj f.bound x.toNat sF.dflt;let N:=λ(u:bq) ↦bV .i64 o/\((B.same B/\C.same C/\G.same G/\H.same H/\K.same K/\True)/\r.same r/\s.same s/\w.same w/\y.same y/\z.same z/\u.same (a sF (fL (gn k g o.toNat)) 157 false)/\True)/\(c<=o/\o<=h)/\(h - o).toNat<(h - x).toNat;c<=x/\x<=h->(L=true->q=l.length/\c<=x/\x<(↑l.length:Int)/\q=l.length/\x.toNat<l.length/\(M=true->f.k1=F/\c<=x/\x<(↑F:Int)/\f.k1=F/\x.toNat<F/\g=j.length/\c<=A/\A<(↑j.length:Int)/\g=j.length/\A.toNat<j.length/\N (a sF (j.set A.toNat (I.fst,I.snd.fst,I.snd.snd)) 157 false))/\(M=false->N (a sF j 157 false)))/\(L=false->g=j.length/\(d sF j).same (d sF (fL (gn k g h.toNat)))/\r.same r/\s.same s/\w.same w/\y.same y/\z.same z/\True)) (by kernel_rfl) ?_;simp only[s6];try simp only[bG]
 simp only[vcs];obtain⟨⟨⟨n0,n1⟩,m0,m1⟩,hw,hz⟩:=id hok;have hbb:=hw.basic;have hbl:=hw.bound;have Kx:=@fQ t.bound;have hbv:∀k:Nat,bj t.basic k 0=t.bv k:=λk=>rfl;have hrow:∀{x y:List bO},x=y->(bq.row sF x 157 false).same (bq.row sF y 157 false):=by rintro _ _ rfl;rfl
 refine⟨⟨n0,n1⟩,⟨hrow rfl,by omega,by omega⟩,?_⟩;rintro i ⟨i0,i1⟩;have hpl:=@Fj t n.toNat i.toNat;have hfp:=@fQ (gn t n.toNat i.toNat);refine⟨λhi=>?_,λhi=>⟨by omega,by rw[show i.toNat=m.toNat by omega]⟩⟩;have hv:=hd _ (AO hw (show i.toNat<m.toNat by omega));have hB:bj (fL t.bound) i.toNat sF.dflt=bu (t.bd i.toNat):=jv (by omega);have hs:gn t n.toNat (i+1).toNat=if t.bv i.toNat<n.toNat then(gn t n.toNat i.toNat).set (t.bv i.toNat).toNat (t.bd i.toNat) else gn t n.toNat i.toNat:=by
  rw[show(i+1).toNat=i.toNat+1 by omega];rfl
 simp only[hbv,hB,kQ,hs];refine⟨i0,hi,by omega,λhlt=>⟨by omega,i0,by omega,by omega,by omega,by omega,hv,by omega,by omega,by omega,by omega,hrow ?_,by omega,by omega⟩,λhlt=>⟨by omega,hrow ?_,by omega,by omega⟩⟩;·rw[yK,if_pos (by omega)]
 ·rw[if_neg (by omega)]
def Fp:cZ:=uG 190 Unit .nil (λ_ _ t _=>True) (λn m t _=> .row sF (fL (kU t n.toNat m.toNat n.toNat))) (λ_ _ t _=>t)
def aeR (n m:Int) (t:Tb):Nat->cB
 |3=> .inv Int (λi=>⟨[(0,.ptr 0 0 10),(3,.ow 5 m.toNat 3),(14,.ow 4 t.free.length 1),(15,.si .i64 t.free.length),(16,.si .i64 i)],(bG n m t).gG++[.row sF (fL (kU t n.toNat m.toNat i.toNat)) 157 false]⟩)
   (λs=>iS s 16) (λi=>0<=i/\i<=n) (λi=>(n - i).toNat) λ_ _=> .look
 |_=> .look
theorem h405:dK Tryz.prog Fp:=by
 refine jm (L:=[yk]) (W:=[r413]) Fp (λa=>aeR a.1.n a.1.m a.1.t) (by simpa using h413) (by simpa using h130) ?_;rintro⟨x,u⟩ ⟨n,m,t,hx,hok,hd⟩;simp only at hx hd;subst hx;refine bN (let a:=bq.row;let b:=Θ .i64;let c:=(0:Int);let d:=Φ;let e:=γ6;let f:=bV .i64;let A:=(bG n m t).m;let u:=γS 0 0 10;let k:=A.toNat;let w:=e 5 k 3;let M:=e 4 (bG n m t).k4 1;let y:=(bG n m t).t;let B:=y.free.length;let C:=e 4 B 1;let D:=b (↑B:Int);let h:=(bG n m t).n;let G:=bk.i .u32;let g:=bG h A y;let o:=bq.cells [b g.n,b g.m,e 1 g.k0 1,e 2 g.k1 3,d sF g.cost,γD g.v.fst,d G g.v.snd.fst,d G g.v.snd.snd,e 3 g.k3 1,e 4 g.k4 1] 267 10 false;let p:=a sF.bJ g.ca 91 false;let q:=a sF g.bound 157 false;let H:=bk.i .i64;let r:=a H g.basic 3 false;let z:=g.free;let s:=a H z 3 false;let E:=h.toNat;(c<=A/\A<=(1000:Int))/\(((u.same u/\w.same w/\M.same C/\(b (↑(bG n m t).k4:Int)).same D/\(γp .i64 0).same (b 0)/\True)/\(bq.cells [b h,b A,e 1 (bG n m t).k0 1,e 2 (bG n m t).k1 3,d sF (bG n m t).cost,γD (bG n m t).v.fst,d G (bG n m t).v.snd.fst,d G (bG n m t).v.snd.snd,e 3 (bG n m t).k3 1,M] 267 10 false).same o/\(a sF.bJ (bG n m t).ca 91 false).same p/\(a sF (bG n m t).bound 157 false).same q/\(a H (bG n m t).basic 3 false).same r/\(a H (bG n m t).free 3 false).same s/\(a sF (fL (ε k (0:Rat))) 157 false).same (a sF (fL (kU y E k 0)) 157 false)/\True)/\c<=c/\c<=h)/\∀(x:Int),let j:=x+(1:Int);let I:=b j;let l:=fL (kU y E k x.toNat);let N:=a sF (fL (kU y E k j.toNat)) 157 false;let O:=decide (x<(↑B:Int));let J:=bj z x.toNat c;let P:=decide (g.n<=J);let Q:=decide (J<g.n+g.m);let F:=J - g.n;let K:=bj g.cost x.toNat sF.dflt;let L:=(K.fst,K.snd.fst,K.snd.snd);let R:=(bu (-ck L)).snd;let S:=f j/\((u.same u/\w.same w/\C.same C/\D.same D/\I.same I/\True)/\o.same o/\p.same p/\q.same q/\r.same r/\s.same s/\(a sF l 157 false).same N/\True)/\(c<=j/\j<=h)/\(h - j).toNat<(h - x).toNat;c<=x/\x<=h->(O=true->B=z.length/\c<=x/\x<(↑z.length:Int)/\B=z.length/\x.toNat<z.length/\(P=true->f (g.n+g.m)/\(Q=true->f F/\c<=x/\x<(↑g.cost.length:Int)/\x.toNat<g.cost.length/\de L/\k=l.length/\c<=F/\F<(↑l.length:Int)/\k=l.length/\F.toNat<l.length/\f j/\((u.same u/\w.same w/\C.same C/\D.same D/\I.same I/\True)/\o.same o/\p.same p/\q.same q/\r.same r/\s.same s/\(a sF (l.set F.toNat ((bu (-ck L)).fst,R.fst,R.snd)) 157 false).same N/\True)/\(c<=j/\j<=h)/\(h - j).toNat<(h - x).toNat)/\(Q=false->S))/\(P=false->S))/\(O=false->k=l.length/\(d sF l).same (d sF (fL (kU y E k E)))/\o.same o/\p.same p/\q.same q/\r.same r/\s.same s/\True)) (by kernel_rfl) ?_;simp only[s6];try simp only[bG]
 simp only[vcs];obtain⟨⟨⟨n0,n1⟩,m0,m1⟩,hw,hz⟩:=id hok;have hfl:=hw.free;have hcl:=hw.cost;have hfc:=@fQ t.cost;have EI:∀k:Nat,bj t.free k 0=t.fv k:=λk=>rfl;have hrow:∀{x y:List bO},x=y->(bq.row sF x 157 false).same (bq.row sF y 157 false):=by rintro _ _ rfl;rfl
 refine⟨⟨m0,m1⟩,⟨hrow rfl,by omega,by omega⟩,?_⟩;rintro i ⟨i0,i1⟩;have hpl:=@U8 t n.toNat m.toNat i.toNat;have hfp:=@fQ (kU t n.toNat m.toNat i.toNat);refine⟨λhi=>?_,λhi=>⟨by omega,by rw[show i.toNat=n.toNat by omega]⟩⟩;have hC:bj (fL t.cost) i.toNat sF.dflt=bu (t.cs i.toNat):=jv (by omega);have hs:kU t n.toNat m.toNat (i+1).toNat=if(n.toNat:Int)<=t.fv i.toNat/\t.fv i.toNat<n.toNat+m.toNat then(kU t n.toNat m.toNat i.toNat).set (t.fv i.toNat - n.toNat).toNat (-(t.cs i.toNat)) else kU t n.toNat m.toNat i.toNat:=by
  rw[show(i+1).toNat=i.toNat+1 by omega];rfl
 simp only[EI,hC,kQ,hs,fb];refine⟨i0,hi,by omega,λh1=>⟨by omega,λh2=>⟨by omega,i0,by omega,by omega,ei (hok.cs (by omega)) (by omega),by omega,by omega,by omega,by omega,by omega,by omega,hrow ?_,by omega,by omega⟩,λh2=>⟨by omega,hrow ?_,by omega,by omega⟩⟩,λh1=>⟨by omega,hrow ?_,by omega,by omega⟩⟩;·rw[yK,if_pos (by omega),show(n.toNat:Int)=n by omega]
 ·rw[if_neg (by omega)]
 ·rw[if_neg (by omega)]
@[reducible] def sR:bk:=.pair (.bJ sF) sF
abbrev td:=List bO×List (List bO×bO)
def yL:oV td where
 put a:=.agg [.row sF a.1,.row sR a.2];dec
  | .agg [r,v]=>match gj sF r,gj sR v with
   |some c,some v=>some (c,v)
   |_,_=>none
  |_=>none;ok v a h:=by
  grind[SV.g,gL,jK]
 inj a b h:=by
  obtain⟨c,v⟩:=a;obtain⟨f,i⟩:=b;simp only[SV.g,gL,AV.agg.injEq,ξ,and_true,δ6] at h;have e:=l8 sF h.1.1 h.1.2;have d:=l8 sR h.2.1 h.2.2;rw[e,d]
def nc (x:bO):Prop:=(bA x.2.1/\bA x.2.2)/\x.2.1.length<=1000000/\x.2.2.length<=1000000
def Lu:bL:=⟨216,List bO,.one (dW sF),λl=>(show List bO from l).length<=1000/\∀x∈(show List bO from l),nc x,λl=> .sb ((show List bO from l).all okF)⟩
def aeS (l:List bO):Nat->cB
 |2=> .inv Int (λi=>⟨[(5,.row sF l),(6,.si .i64 l.length),(7,.si .i64 i)],[]⟩)
   (λs=>iS s 7) (λi=>(0<=i/\i<=l.length)/\(l.take i.toNat).all okF=true) (λi=>(l.length - i).toNat) λ_ _=> .look
 |_=> .look
theorem h406:Holds Tryz.prog Lu:=by
 refine cF (L:=[yl]) Lu aeS (by grind[h407]) ?_;rintro(l:List bO) ⟨(q:l.length<=1000),(n:∀x∈l,nc x)⟩;refine bN (let d:=(0:Int);let e:=Θ .i64;let g:=Φ;let a:=(↑l.length:Int);let f:=e a;((((g sF l).same (g sF l)/\(e (↑l.length:Int)).same f/\(γp .i64 0).same (e 0)/\True)/\True)/\(d<=d/\d<=a)/\true=true)/\∀(x:Int),let b:=bj l x.toNat sF.dflt;let c:=x+(1:Int);let k:=e c;let m:=λ(u:Bool) ↦(!okF (b.fst,b.snd.fst,b.snd.snd))=u;(d<=x/\x<=a)/\(γa x.toNat l).all okF=true->(decide (x<a)=true->d<=x/\x<(↑l.length:Int)/\x.toNat<l.length/\((bA b.snd.fst/\bA b.snd.snd)/\γn b.snd.fst<=1000000/\γn b.snd.snd<=1000000)/\(m true->(δo false).same (γD (l.all okF)))/\(m false->bV .i64 c/\(((g sF l).same (g sF l)/\f.same f/\k.same k/\True)/\True)/\((d<=c/\c<=a)/\(γa c.toNat l).all okF=true)/\(a - c).toNat<(a - x).toNat))/\(decide (x<a)=false->(δo true).same (γD (l.all okF)))) (by kernel_rfl) ?_;simp only[vcs];refine⟨⟨by omega,by omega⟩,?_⟩;rintro i ⟨⟨j,t⟩,e⟩;refine⟨λh=>?_,λh=>?_⟩
 ·have p:=cK (d:=sF.dflt) (show i.toNat<l.length by omega);have r:=jo (d:=sF.dflt) j h;have g:=n _ p;have o:okF ((bj l i.toNat sF.dflt).1,(bj l i.toNat sF.dflt).2.1,(bj l i.toNat sF.dflt).2.2)=okF (bj l i.toNat sF.dflt):=rfl;rw[o];refine⟨j,h,by omega,⟨g.1,g.2.1,g.2.2⟩,λs=>?_,λv=>⟨by omega,⟨⟨by omega,by omega⟩,?_⟩,by omega⟩⟩;all_goals grind
 ·rw[show i.toNat=l.length by omega,ψ] at e;simp_all
def Lx:bL:=⟨183,td,.one yL,λa=>(a.1.length<=160/\a.2.length<=40)/\(∀x∈a.1,nc x/\okF x=true)/\∀r∈a.2,r.1.length=a.1.length/\(∀x∈r.1,nc x/\okF x=true)/\nc r.2/\okF r.2=true,λ_=> .si .i64 0⟩
def aeT (a:td):Nat->cB
 |6=> .inv Int (λi=>⟨[(1,.ptr 0 0 2),(20,.row sR a.2),(21,.si .i64 a.2.length),(22,.si .i64 i)],[.cells [.row sF a.1,.row sR a.2] 220 2 false]⟩)
   (λs=>iS s 22) (λi=>0<=i/\i<=a.2.length) (λi=>(a.2.length - i).toNat) λ_ _=> .look
 |_=> .look
theorem h398:Holds Tryz.prog Lx:=by
 refine cF (L:=[Lu,yl]) Lx aeT (by simpa using⟨h406,h407⟩) ?_;rintro⟨g,rs⟩ ⟨⟨hl1,hl2⟩,hg,hr⟩;simp only at hl1 hl2 hg hr;refine bN (let a:=γp .i64;let b:=(0:Int);let c:=Θ .i64;let d:=γp .i64 0;let q:=decide ((160:Int)<(↑g.length:Int));let e:=c 0;let m:=(↑rs.length:Int);let r:=decide ((40:Int)<m);let k:=γS 0 0 2;let i:=Φ sR rs;let f:=(↑rs.length:Int);let n:=c f;let l:=bq.cells [Φ sF g,i] 220 2 false;(q=true->(a 3).same e)/\(q=false->(r=true->(a 3).same e)/\(r=false->(g.length<=1000/\∀(x:bO),x∈g->nc x)/\((!g.all okF)=true->(a 2).same e)/\((!g.all okF)=false->(((k.same k/\i.same i/\(c m).same n/\(a 0).same e/\True)/\l.same l/\True)/\b<=b/\b<=f)/\∀(x:Int),let h:=bj rs x.toNat sR.dflt;let o:=h.snd.snd.fst;let p:=h.snd.snd.snd;let s:=!List.all h.fst okF;let j:=x+(1:Int);let t:=c j;let v:=λ(u:Bool) ↦(!okF (h.snd.fst,o,p))=u;let w:=λ(u:Bool) ↦decide ((↑(γn h.fst):Int)≠(↑g.length:Int))=u;b<=x/\x<=f->(decide (x<f)=true->b<=x/\x<m/\x.toNat<rs.length/\(w true->(a 2).same e)/\(w false->(γn h.fst<=1000/\∀(x:bO),x∈h.fst->nc x)/\(s=true->(a 2).same e)/\(s=false->((bA o/\bA p)/\γn o<=1000000/\γn p<=1000000)/\(v true->(a 2).same e)/\(v false->bV .i64 j/\((k.same k/\i.same i/\n.same n/\t.same t/\True)/\l.same l/\True)/\(b<=j/\j<=f)/\(f - j).toNat<(f - x).toNat))))/\(decide (x<f)=false->(a 0).same e))))) (by kernel_rfl) ?_;simp only[vcs];have hall:∀{l:List bO},(∀x∈l,nc x/\okF x=true)->l.all okF=true:=λh=>Ξ.2 λx hx=>(h x hx).2;refine⟨λh=>by omega,λ_=>⟨λh=>by omega,λ_=>⟨⟨by omega,λx hx=>(hg x hx).1⟩,λh=>(by rw[hall hg] at h;cases h),λ_=>⟨⟨by omega,by omega⟩,?_⟩⟩⟩⟩;rintro i ⟨i0,i1⟩;refine⟨λhi=>?_,λ_=>trivial⟩;have hm:=hr _ (cK (d:=sR.dflt) (show i.toNat<rs.length by omega));have h2:okF ((bj rs i.toNat sR.dflt).2.1,(bj rs i.toNat sR.dflt).2.2.1,(bj rs i.toNat sR.dflt).2.2.2)=okF (bj rs i.toNat sR.dflt).2:=rfl;rw[h2];refine⟨i0,hi,by omega,λh=>absurd (by rw[hm.1]) h,λ_=>⟨⟨by have:=hm.1;omega,λx hx=>(hm.2.1 x hx).1⟩,λh=>?_,λ_=>⟨⟨hm.2.2.1.1,hm.2.2.1.2.1,hm.2.2.1.2.2⟩,λh=>?_,λ_=>⟨by omega,⟨by omega,by omega⟩,by omega⟩⟩⟩⟩
 ·have:=hall hm.2.1;rw[show List.all (bj rs i.toNat sR.dflt).1 okF=true from this] at h;cases h
 ·rw[hm.2.2.2] at h;cases h
end Go.Vi
