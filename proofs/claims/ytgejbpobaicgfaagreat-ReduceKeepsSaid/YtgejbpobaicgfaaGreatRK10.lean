/-
  Contracts: the greedy method's own small functions, and its start.
  Conditions: none.
-/
import Derived.Test.YtgejbpobaicgfaaGreatRK06
import Derived.Test.YtgejbpobaicgfaaGreatRK07
import Derived.Test.YtgejbpobaicgfaaGreatRK08
import Derived.Test.YtgejbpobaicgfaaGreatRK09
import Derived.Test.YtgejbpobaicgfaaGreatRK04
set_option maxRecDepth 100000
set_option maxHeartbeats 4000000
set_option linter.all false
namespace Go.Vi
open Go.Proofs.YtgejbpobaicgfaaGreat.Ir
open Go.Proofs
def al6:fN:=⟨81,List Int×List Int,.cons (qX (.i .i64)) (.one (qX (.i .i64))),fun a=>a.1.length<=1000/\1<=a.2.length/\a.2.length<=1000,fun a=> .row (.i .i64) (uv (a.1++a.2))⟩
theorem h326:Holds Tryz.prog al6:=by
 refine con (L:=[]) (W:=A2 [agb,ajm]) al6 lk (Xy (by simpa using⟨h330o,h337⟩)) (by simp) ?_
 rintro⟨s,x⟩ ⟨h1,h2,h3⟩
 simp only at h1 h2 h3
 refine gw (let z0:Nat:=(s++x).length;s.length<=1000000/\s.length=s.length/\(s.length+x.length)*8<=140737488355328/\s.length+x.length<=1000000000000/\((s++x).length=z0/\1<=z0/\z0<=1000000)/\(s++x).length=(uv (s++x)).length/\(SV.row (bD.i .i64) (uv (s++x))).same (SV.row (bD.i .i64) (uv (s++x)))) (by kernel_rfl) ?_
 conv=>zeta
 try simp only[vcs]
 have:=@aga (s++x)
 rw[List.length_append] at this ⊢;omega
def apS:fN:=⟨118,List Int×Int,.cons (qX (.i .i64)) (.one (sj .i64)),fun a=>a.1.length<=1000/\0<=a.2/\a.2<a.1.length,fun a=> .row (.i .i64) (a.1.take a.2.toNat++a.1.drop (a.2+1).toNat)⟩
theorem h339:Holds Tryz.prog apS:=by
 refine con (L:=[]) (W:=A2 [agb,agc]) apS lk (Xy (by grind[h330o,h347])) (by simp) ?_
 rintro⟨s,i⟩ ⟨d,e,f⟩
 simp only at d e f
 refine gw (let a:=i+(1:Int);let c:=XB s i.toNat a.toNat;let b:=s.length - (a - i).toNat;s.length<=1000000/\iR .i64 a/\((s.length=s.length/\1<=s.length/\s.length<=1000000)/\(0:Int)<=i/\i<=a/\a<=(↑s.length:Int))/\s.length=c.length/\0+b<=s.length/\(SV.row (bD.i .i64) (List.take b c)).same (SV.row (bD.i .i64) (List.take i.toNat s++List.drop a.toNat s))) (by kernel_rfl) ?_
 conv=>zeta
 try simp only[vcs]
 have g:=@awc s i.toNat (i+1).toNat (by omega) (by omega)
 refine⟨by omega,by omega,by omega,g.symm,by omega,?_⟩
 unfold XB
 rw[List.take_append_of_le_length (by grind),List.take_of_length_le (by grind)]
def ael (c:List Int) (x:Int):Int:=if x∈c then(c.idxOf x:Int) else -1
theorem aEz {c:List Int} {x:Int} {k:Nat} (h:k<c.length) (b:∀j:Nat,j<k->bo c j 0≠x) (a:bo c k 0=x):ael c x=k:=by
 unfold ael;rw[if_pos (a▸nA h)]
 congr 1
 rw[jV h] at a;rw[List.idxOf,List.findIdx_eq h]
 grind[jV]
theorem aEA {c:List Int} {x:Int} (a:∀j:Nat,j<c.length->bo c j 0≠x):ael c x= -1:=by
 unfold ael;rw[if_neg];intro h
 obtain⟨k,b,rfl⟩:=List.getElem_of_mem h
 grind[jV]
theorem aEB {c:List Int} {x:Int}:0<=ael c x↔x∈c:=by
 grind[ael]
def apT:fN:=⟨156,List Int×Int,.cons (qX (.i .i64)) (.one (sj .i64)),fun a=>a.1.length<=1000,fun a=> .si .i64 (ael a.1 a.2)⟩
def aEC (c:List Int) (x:Int):Nat->jW
 |2=> .inv Int (fun i=>⟨[(0,.row (.i .i64) c),(1,.si .i64 x),(7,.si .i64 c.length),(8,.si .i64 i)],[]⟩)
   (fun s=>iS s 8) (fun i=>(0<=i/\i<=c.length)/\∀k:Nat,(k:Int)<i->bo c k 0≠x) (fun i=>(c.length - i).toNat) fun _ _=> .look
 |_=> .look
theorem h348:Holds Tryz.prog apT:=by
 refine lj (L:=[]) apT (fun a=>aEC a.1 a.2) (by simp) ?_
 rintro⟨c,x⟩ o
 replace o:c.length<=1000:=o
 refine gw (let a:=SV.si .i64;let h:=(0:Int);let f:=SV.row (bD.i .i64) c;let d:=(↑c.length:Int);let g:=a d;let n:=a (ael c x);(((f.same f/\(a x).same (a x)/\(a (↑c.length:Int)).same g/\(SV.il .i64 0).same (a 0)/\True)/\True)/\(h<=h/\h<=d)/\∀(k:Nat),(↑k:Int)<h->bo c k h≠x)/\∀(b:Int),let l:=decide (x=bo c b.toNat h);let e:=b+(1:Int);let j:=a x;let m:=a e;((h<=b/\b<=d)/\∀(k:Nat),(↑k:Int)<b->bo c k h≠x)->(decide (b<d)=true->h<=b/\b<(↑c.length:Int)/\b.toNat<c.length/\(l=true->(a b).same n)/\(l=false->iR .i64 e/\((f.same f/\j.same j/\g.same g/\m.same m/\True)/\True)/\((h<=e/\e<=d)/\∀(k:Nat),(↑k:Int)<e->bo c k h≠x)/\(d - e).toNat<(d - b).toNat))/\(decide (b<d)=false->(SV.il .i64 (-1:Int)).same n)) (by kernel_rfl) ?_
 conv=>zeta
 try simp only[vcs]
 refine⟨⟨by omega,fun k h=>by omega⟩,?_⟩
 grind[aEz,aEA]
def apU:fN:=⟨119,List Int×Int,.cons (qX (.i .i64)) (.one (sj .i64)),fun a=>a.1.length<=1000,fun a=> .sb (decide (a.2∈a.1))⟩
theorem h340:Holds Tryz.prog apU:=by
 refine lj (L:=[apT]) apU lk (by grind[h348]) ?_
 rintro⟨c,x⟩ a
 replace a:c.length<=1000:=a
 refine gw (c.length<=1000/\(SV.sb (decide ((0:Int)<=ael c x))).same (SV.sb (decide (x∈c)))) (by kernel_rfl) ?_
 simp_all[aEB]
theorem ajp {p:cn} (a:dV p=0) {r:Int}:0<=pg p r/\pg p r<=4:=by
 obtain⟨_,_,b,c,_⟩:=pz a
 unfold pg;split
 ·omega
 ·split
  all_goals simp_all[aov]
theorem awf {p:cn} (h:p.offers.length<=1000):aaV (kz p):=by
 have j:nR p<=20:=by
  unfold nR;split
  ·rename_i a
   have:=(pz a).1
   omega
  ·omega
 have d:0<nR p->dV p=0:=by
  grind[nR]
 refine⟨⟨?_,?_,h⟩,fun r f=>?_,fun b g=>?_⟩
 ·show(Y0 p (nR p)).length=(Q0 p (nR p)).length
  rw[awd,al3]
 ·show(Q0 p (nR p)).length<=1000
  grind[al3]
 ·obtain⟨k,c,rfl⟩:=List.mem_map.1 (show r∈Y0 p (nR p) from f)
  rw[List.mem_range] at c
  have a:=d (by omega)
  refine⟨by simp[N2,kz],fun x i=>?_⟩
  obtain⟨o,e,rfl⟩:=List.mem_map.1 (show x∈N2 p k p.offers.length from i)
  have:=adt (p:=p) (r:=k) ((pz a).2.2.2.2 o (List.mem_of_mem_take e)).2.2.1
  omega
 ·obtain⟨k,c,rfl⟩:=List.mem_map.1 (show b∈Q0 p (nR p) from g)
  rw[List.mem_range] at c
  have:=ajp (d (by omega)) (r:=k)
  omega
def stepG (g:Game) (c:List Int) (x:Int):List Int:=if Uk g (uv (c++[x]))=true then uv (c++[x]) else c
def abr (g:Game) (l:List Int):List Int:=l.foldl (stepG g) []
def BD (p:cn):List Int:=if dV p=0 then af9 p else[]
def PU (p:cn):List Int:=abr (kz p) (BD p)
theorem al7 {l:List Int} {x:Int}:x∈uv l↔x∈l:=(List.mergeSort_perm _ _).mem_iff
theorem awg {g:Game} {c:List Int} {x y:Int} (h:y∈stepG g c x):y∈c\/y=x:=by
 grind[stepG,al7]
theorem aED {g:Game} {c:List Int} {x:Int}:(stepG g c x).length<=c.length+1:=by
 grind[stepG,aga]
theorem awh {g:Game} {l:List Int}:∀{c:List Int} {y:Int},y∈l.foldl (stepG g) c->y∈c\/y∈l:=by
 induction l<;>grind[awg]
theorem aEE {g:Game} {l:List Int}:∀{c:List Int},(l.foldl (stepG g) c).length<=c.length+l.length:=by
 induction l<;>grind[stepG,aED]
theorem aEF {g:Game} {l:List Int}:(abr g l).length<=l.length:=by
 grind[aEE,abr]
theorem aEG {g:Game} {l:List Int} {i:Int} (a:0<=i) (h:i<l.length):abr g (l.take (i+1).toNat)=stepG g (abr g (l.take i.toNat)) (bo l i.toNat 0):=by
 grind[abr,aal]
theorem apV {p:cn} {x:Int} (h:x∈BD p):dV p=0/\GG p x:=by
 unfold BD at h;split at h
 ·rename_i a
  rw[af9,ahx,QZ] at h
  exact⟨a,h⟩
 ·simp at h
theorem awi {p:cn}:(BD p).length<=p.offers.length:=by
 grind[BD,af9,abp,FC]
theorem aEH {p:cn} (d:p.offers.length<=40) {k:Nat}:(abr (kz p) ((BD p).take k)).length<=40/\∀x∈abr (kz p) ((BD p).take k),dV p=0/\GG p x:=by
 have b:=@aEF (kz p) ((BD p).take k)
 have c:=@awi p
 rw[List.length_take] at b
 refine⟨by omega,fun x a=>?_⟩
 rcases awh a with h|h<;>grind[awh,apV]
def ajq:fN:=⟨48,cn,.one ql,fun p=>p.offers.length<=40,fun p=>Yo.put ⟨PU p,pq (kz p) (PU p)⟩⟩
def aEI (p:cn):Nat->jW
 |4=> .inv Int (fun i=>⟨[(2,.ptr 1 0 2),(3,.ptr 2 0 3),(4,.row (.i .i64) (abr (kz p) ((BD p).take i.toNat))),(11,.row (.i .i64) (BD p)),(12,.si .i64 (BD p).length),(13,.si .i64 i)],[.cells p.ss 27 20 false,.cells [.sc (.slice none 0 0),.il .i64 0] 37 2 false,.cells [.row (.fa (.i .i64)) (kz p).rows,.row (.i .i64) (kz p).bounds,.row .off (kz p).offers] 130 3 false,.dead]⟩)
   (fun s=>iS s 13) (fun i=>0<=i/\i<=(BD p).length) (fun i=>((BD p).length - i).toNat) fun _ _=> .look
 |_=> .look
theorem h312:Holds Tryz.prog ajq:=by
 refine lj (L:=[al4,apP,al6,al5,ahE]) ajq aEI (by grind[h325,h308,h326,h327,h328]) ?_
 intro(p:cn) (D:p.offers.length<=40)
 refine gw (let c:=SV.si .i64;let d:=SV.row;let e:=(0:Int);let h:=cC.cells;let q:=SV.ptr 1 0 2;let o:=SV.ptr 2 0 3;let f:=bD.i .i64;let C:=if dV p=e then af9 p else[];let y:=d f (BD p);let k:=(↑(BD p).length:Int);let t:=c k;let B:=SV.il .i64 0;let r:=h [c p.supply.a0,c p.supply.a1,c p.supply.a2,c p.supply.a3,c p.supply.a4,c p.supply.a5,c p.opn.a0,c p.opn.a1,c p.opn.a2,c p.opn.a3,c p.opn.a4,c p.opn.a5,c p.cls.a0,c p.cls.a1,c p.cls.a2,c p.cls.a3,c p.cls.a4,c p.cls.a5,d f p.classes,d bD.off p.offers] 27 20 false;let s:=h [SV.sc (Value.slice none 0 0),B] 37 2 false;let g:=h [d f.fa (kz p).rows,d f (kz p).bounds,d bD.off (kz p).offers] 130 3 false;True/\0=0/\p.offers.length<=40/\(((q.same q/\o.same o/\(d f []).same (d f (abr (kz p) []))/\(d f C).same y/\(c (↑C.length:Int)).same t/\B.same (c 0)/\True)/\r.same r/\s.same s/\g.same g/\cC.dead.same cC.dead/\True)/\e<=e/\e<=k)/\∀(x:Int),let a:=abr (kz p) (List.take x.toNat (BD p));let l:=uv (a++[bo (BD p) x.toNat e]);let b:=x+(1:Int);let m:=c b;let n:=fun(u:Bool) (w:List Int) ↦Uk (kz p) l=u->iR .i64 b/\((q.same q/\o.same o/\(d f w).same (d f (abr (kz p) (List.take b.toNat (BD p))))/\y.same y/\t.same t/\m.same m/\True)/\r.same r/\s.same s/\g.same g/\cC.dead.same cC.dead/\True)/\(e<=b/\b<=k)/\(k - b).toNat<(k - x).toNat;e<=x/\x<=k->(decide (x<k)=true->e<=x/\x<(↑(BD p).length:Int)/\x.toNat<(BD p).length/\(a.length<=1000/\1<=1/\1<=1000)/\(aaV (kz p)/\abP (kz p) l)/\n true l/\n false a)/\(decide (x<k)=false->(aaV (kz p)/\abP (kz p) a/\aco (kz p) a)/\(SV.agg [d f a,c (pq (kz p) a)]).same (SV.agg [d f (PU p),c (pq (kz p) (PU p))]))) (by kernel_rfl) ?_
 conv=>zeta
 try simp only[vcs]
 have F:=@awf p (by omega)
 have K:=@awi p
 have H:(if dV p=0 then af9 p else[])=BD p:=rfl
 rw[H]
 refine⟨D,⟨⟨rfl,rfl,rfl⟩,by omega,by omega⟩,?_⟩
 ·rintro i ⟨E,M⟩
  obtain⟨v,j⟩:=@aEH p D i.toNat
  refine⟨fun z=>?_,fun z=>?_⟩
  ·have G:=@aEG (kz p) (BD p) i E z
   have A:=apV (nA (d:=0) (show i.toNat<(BD p).length by omega))
   rw[G]
   generalize abr (kz p) ((BD p).take i.toNat)=c at*
   refine⟨E,z,by omega,⟨by omega,by omega,by omega⟩,⟨F,by grind[aga],fun x h=>?_⟩,fun h=>⟨by omega,by simp_all[stepG],by omega,by omega⟩,fun h=>⟨by omega,by simp_all[stepG],by omega,by omega⟩⟩
   rw[al7,List.mem_append] at h
   rcases h with h|h
   ·exact(j x h).2
   ·rw[List.mem_singleton] at h
    rw[h];exact A.2
  ·have J:(BD p).take i.toNat=BD p:=List.take_of_length_le (by omega)
   rw[J] at v j ⊢
   refine⟨⟨F,⟨by omega,fun x h=>(j x h).2⟩,fun x h=>?_⟩,rfl⟩
   obtain⟨I,A⟩:=j x h
   have:=(aje I A).1
   have e:(bo (kz p).offers x.toNat bD.off.dflt).value=adB p x:=rfl
   omega
def gSS (g:Game):List SV:=[.row (.fa (.i .i64)) g.rows,.row (.i .i64) g.bounds,.row .off g.offers]
def apW:List SV->Option Game
 |[r,v,x]=>match J6 (.fa (.i .i64)) r,J6 (.i .i64) v,J6 .off x with
  |some c,some v,some x=>some ⟨c,v,x⟩
  |_,_,_=>none
 |_=>none
theorem aEJ {cs:List SV} {g:Game} (h:apW cs=some g):gL cs=gL (gSS g):=by
 unfold apW at h
 grind[gSS,gL,abH]
theorem aEK {g a:Game} (h:gL (gSS g)=gL (gSS a)):g=a:=ajo.inj g a (by
 show AV.agg (gL (gSS g))=AV.agg (gL (gSS a))
 rw[h])
def aaW (g:Game) (v:Int) (c:List Int):Bool:=decide (v<pq g c)&&Uk g c
def apX:ob where
 f:=117
 α:=List Int×Game×Int
 put a:=[.row (.i .i64) a.1,.ptr 0 0 3,.ptr 1 0 1]
 st a:=[.cells (gSS a.2.1) 130 3 false,.cells [.si .i64 a.2.2] 2 1 false]
 dec v o:=match v,o with
  |[x,.ptr 0 0 3,.ptr 1 0 1],[.cells j 130 3 false,.cells [y] 2 1 false]=>match J6 (.i .i64) x,apW j,y.int .i64 with
   |some x,some g,some y=>some (x,g,y)
   |_,_,_=>none
  |_,_=>none
 ok v o a h:=by
  split at h
  ·split at h
   ·rename_i d c e
    simp only[Option.some.injEq] at h;subst h
    refine⟨by grind[gL,abH],?_⟩
    simp only[gO,List.map_cons,List.map_nil,cC.g,aEJ c,gL,EG e];rfl
   ·cases h
  ·cases h
 inj a b d c:=by
  simp only[gL,List.cons.injEq,and_true,SV.g,AV.sl.injEq] at d;simp only[gO,List.map_cons,List.map_nil,cC.g,List.cons.injEq,fZ.cells.injEq,and_true,gL,SV.g,AV.sc.injEq,Value.int.injEq,true_and] at c
  have e:=aEK c.1
  have k:=Yg (.i .i64) d.1 d.2
  grind
 dom a:=aaV a.2.1/\abP a.2.1 a.1/\aco a.2.1 a.1
 res a:=.sb (aaW a.2.1 a.2.2 a.1)
 out a:=[.cells (gSS a.2.1) 130 3 false,.cells [.si .i64 a.2.2] 2 1 false]
theorem h338:qH Tryz.prog apX:=by
 refine SD (L:=[al5,ahE]) (W:=[]) apX lk (by simp) (by grind[h327,h328]) ?_
 rintro⟨c,g,v⟩ ⟨j,f,h⟩
 simp only at j f h
 refine gw (let f:=SV.row;let e:=cC.cells [f (bD.i .i64).fa g.rows,f (bD.i .i64) g.bounds,f bD.off g.offers] 130 3 false;let a:=cC.cells [SV.si .i64 v] 2 1 false;let b:=decide (v<pq g c);let d:=e.same e/\a.same a/\True;(aaV g/\abP g c/\aco g c)/\(b=true->(aaV g/\abP g c)/\(SV.sb (Uk g c)).same (SV.sb (aaW g v c))/\d)/\(b=false->(SV.bl false).same (SV.sb (aaW g v c))/\d)) (by kernel_rfl) ?_
 simp_all[vcs,aaW,decide_eq_false]
def ex3 (g:Game) (c:List Int) (v:Int) (a:List Int) (o k:Int):Option (List Int):=if k<=o\/k∈c then none else if aaW g v (uv (a++[o,k]))=true then some (uv (a++[o,k])) else none
def ex2 (g:Game) (c:List Int) (v:Int) (a:List Int) (o:Int):Option (List Int):=if o∈c then none else if aaW g v (uv (a++[o]))=true then some (uv (a++[o])) else(List.range g.offers.length).findSome? fun k:Nat=>ex3 g c v a o k
def HE (c:List Int) (i:Nat):List Int:=c.take i++c.drop (i+1)
def ex1 (g:Game) (c:List Int) (v:Int) (i:Nat):Option (List Int):=(List.range g.offers.length).findSome? fun o:Nat=>ex2 g c v (HE c i) o
def Kq (g:Game) (c:List Int):Option (List Int):=(List.range c.length).findSome? fun i=>ex1 g c (pq g c) i
theorem awj {n:Nat} {f:Nat->Option (List Int)} (h:∀i,i<n->f i=none):(List.range n).findSome? f=none:=by
 simp_all
theorem al8 {n i:Nat} {f:Nat->Option (List Int)} {t:List Int} (c:i<n) (h:∀j,j<i->f j=none) (b:f i=some t):(List.range n).findSome? f=some t:=by
 have e:List.range n=List.range i++(i::(List.range (n - (i+1))).map fun k=>i+1+k):=by
  have a:=@List.range_add i (n - i)
  rw[show i+(n - i)=n by omega] at a
  rw[a,show n - i=(n - (i+1))+1 by omega,List.range_succ_eq_map]
  simp only[List.map_cons,List.map_map,Nat.add_zero]
  congr 2
  apply List.map_congr_left
  grind
 simp_all[awj]
def ae8 (g:Game):Prop:=aaV g/\∀o∈g.offers,0<=o.value/\o.value<=1000000
def apY:fN:=⟨78,Game×List Int,.cons ajo (.one (qX (.i .i64))),fun a=>ae8 a.1/\(a.2.length<=900/\∀x∈a.2,0<=x/\x<a.1.offers.length),fun a=> .eW [.row (.i .i64) ((Kq a.1 a.2).getD []),.sb (Kq a.1 a.2).isSome]⟩
def apZ (g:Game) (c:List Int):ie:=[.cells (gSS g) 130 3 false,.cells [.si .i64 (pq g c)] 2 1 false]
def aEL (g:Game) (c:List Int):Nat->jW
 |4=> .inv Int (fun i=>⟨[(1,.row (.i .i64) c),(2,.ptr 0 0 3),(7,.fn (.func 117) [] [.ptr 0 0 3,.ptr 1 0 1]),(19,.si .i64 c.length),(20,.si .i64 i)],apZ g c⟩)
   (fun s=>iS s 20) (fun i=>(0<=i/\i<=c.length)/\∀k:Nat,(k:Int)<i->ex1 g c (pq g c) k=none) (fun i=>(c.length - i).toNat) fun i k=>match k with
   |8=> .inv Int (fun o=>⟨[(1,.row (.i .i64) c),(2,.ptr 0 0 3),(7,.fn (.func 117) [] [.ptr 0 0 3,.ptr 1 0 1]),(9,.row (.i .i64) (HE c i.toNat)),(19,.si .i64 c.length),(20,.si .i64 i),(28,.si .i64 g.offers.length),(29,.si .i64 o)],apZ g c⟩)
     (fun s=>iS s 29) (fun o=>(0<=o/\o<=g.offers.length)/\∀k:Nat,(k:Int)<o->ex2 g c (pq g c) (HE c i.toNat) k=none) (fun o=>(g.offers.length - o).toNat) fun o k=>match k with
     |15=> .inv Int (fun z=>⟨[(1,.row (.i .i64) c),(2,.ptr 0 0 3),(7,.fn (.func 117) [] [.ptr 0 0 3,.ptr 1 0 1]),(9,.row (.i .i64) (HE c i.toNat)),(10,.si .i64 o),(12,.si .i64 z),(19,.si .i64 c.length),(20,.si .i64 i),(28,.si .i64 g.offers.length),(29,.si .i64 o)],apZ g c⟩)
       (fun s=>iS s 12) (fun z=>(o<z/\z<=g.offers.length)/\∀k:Nat,(k:Int)<z->ex3 g c (pq g c) (HE c i.toNat) o k=none) (fun z=>(g.offers.length - z).toNat) fun _ _=> .look
     |_=> .look
   |_=> .look
 |_=> .look
theorem h331:Holds Tryz.prog apY:=by
 refine con (L:=[al6,ahE,apS,apU]) (W:=A2 [apX]) apY (fun a=>aEL a.1 a.2) (Xy (by grind[h338])) (by grind[h326,h328,h339,h340]) ?_
 rintro⟨g,c⟩ ⟨⟨Z,hv⟩,a1,M⟩
 simp only at Z hv a1 M
 refine gw (let a:=SV.si .i64;let d:=SV.row;let f:=(0:Int);let h:=iR .i64;let j:=SV.il .i64 0;let o:=SV.eW;let t:=(1:Int);let m:=bD.i .i64;let q:=SV.ptr 0 0 3;let w:=SV.fn (Fn.func 117) [] [q,SV.ptr 1 0 1];let H:=(↑c.length:Int);let A:=a H;let v:=cC.cells [d m.fa g.rows,d m g.bounds,d bD.off g.offers] 130 3 false;let y:=cC.cells [a (pq g c)] 2 1 false;let u:=(↑g.offers.length:Int);let r:=(↑g.offers.length:Int);let E:=a r;let N:=o [d m ((Kq g c).getD []),SV.sb (Kq g c).isSome];(aaV g/\abP g c/\aco g c)/\((((d m c).same (d m c)/\q.same q/\w.same w/\(a (↑c.length:Int)).same A/\(j).same (a 0)/\True)/\v.same v/\y.same y/\True)/\(f<=f/\f<=H)/\∀(k:Nat),(↑k:Int)<f->ex1 g c (pq g c) k=none)/\∀(x:Int),let s:=x+t;let l:=HE c x.toNat;let n:=d m l;let P:=a s;((f<=x/\x<=H)/\∀(k:Nat),(↑k:Int)<x->ex1 g c (pq g c) k=none)->(decide (x<H)=true->(c.length<=1000/\f<=x/\x<H)/\((((d m c).same (d m c)/\q.same q/\w.same w/\(d m (List.take x.toNat c++List.drop s.toNat c)).same n/\A.same A/\(a x).same (a x)/\(a u).same E/\(j).same (a 0)/\True)/\v.same v/\y.same y/\True)/\(f<=f/\f<=r)/\∀(k:Nat),(↑k:Int)<f->ex2 g c (pq g c) l (↑k:Int)=none)/\∀(b:Int),let e:=b+t;let p:=a x;let C:=a e;let G:=uv (l++[b]);let V:=aaW g (pq g c) G;((f<=b/\b<=r)/\∀(k:Nat),(↑k:Int)<b->ex2 g c (pq g c) l (↑k:Int)=none)->(decide (b<r)=true->c.length<=1000/\(decide (b∈c)=true->h e/\(((d m c).same (d m c)/\q.same q/\w.same w/\n.same n/\A.same A/\p.same p/\E.same E/\C.same C/\True)/\v.same v/\y.same y/\True)/\((f<=e/\e<=r)/\∀(k:Nat),(↑k:Int)<e->ex2 g c (pq g c) l (↑k:Int)=none)/\(r - e).toNat<(r - b).toNat)/\(decide (b∈c)=false->(l.length<=1000/\1<=1/\1<=1000)/\(aaV g/\abP g G/\aco g G)/\(V=true->(o [d m G,SV.bl true]).same N)/\(V=false->h e/\((((d m c).same (d m c)/\q.same q/\w.same w/\n.same n/\(a b).same (a b)/\C.same C/\A.same A/\p.same p/\E.same E/\(a b).same (a b)/\True)/\v.same v/\y.same y/\True)/\(b<e/\e<=r)/\∀(k:Nat),(↑k:Int)<e->ex3 g c (pq g c) l b (↑k:Int)=none)/\∀(x:Int),let B:=x+t;let I:=a b;let T:=a B;let F:=uv (l++[b,x]);let R:=aaW g (pq g c) F;let U:=h B/\(((d m c).same (d m c)/\q.same q/\w.same w/\n.same n/\I.same I/\T.same T/\A.same A/\p.same p/\E.same E/\I.same I/\True)/\v.same v/\y.same y/\True)/\((b<B/\B<=r)/\∀(k:Nat),(↑k:Int)<B->ex3 g c (pq g c) l b (↑k:Int)=none)/\(r - B).toNat<(r - x).toNat;((b<x/\x<=r)/\∀(k:Nat),(↑k:Int)<x->ex3 g c (pq g c) l b (↑k:Int)=none)->(decide (x<u)=true->c.length<=1000/\(decide (x∈c)=true->U)/\(decide (x∈c)=false->(l.length<=1000/\1<=2/\2<=1000)/\(aaV g/\abP g F/\aco g F)/\(R=true->(o [d m F,SV.bl true]).same N)/\(R=false->U)))/\(decide (x<u)=false->h e/\(((d m c).same (d m c)/\q.same q/\w.same w/\n.same n/\A.same A/\p.same p/\E.same E/\C.same C/\True)/\v.same v/\y.same y/\True)/\((f<=e/\e<=r)/\∀(k:Nat),(↑k:Int)<e->ex2 g c (pq g c) l (↑k:Int)=none)/\(r - e).toNat<(r - b).toNat))))/\(decide (b<r)=false->h s/\(((d m c).same (d m c)/\q.same q/\w.same w/\A.same A/\P.same P/\True)/\v.same v/\y.same y/\True)/\((f<=s/\s<=H)/\∀(k:Nat),(↑k:Int)<s->ex1 g c (pq g c) k=none)/\(H - s).toNat<(H - x).toNat))/\(decide (x<H)=false->(o [d m [],SV.bl false]).same N)) (by kernel_rfl) ?_
 conv=>zeta
 try simp only[vcs]
 have S:∀d:List Int,(∀x∈d,0<=x/\x<g.offers.length)->aco g d:=fun d hd x hx=>hv _ (nA (by simp_all))
 have J:∀i:Nat,(HE c i).length<=900/\∀x∈HE c i,x∈c:=fun i=>by
  grind[HE]
 have K:∀(i:Nat) (d:List Int),d.length<=2->(∀x∈d,0<=x/\x<g.offers.length)->aaV g/\abP g (uv (HE c i++d))/\aco g (uv (HE c i++d)):=fun i d hd hx=>by
  have u:∀x∈uv (HE c i++d),0<=x/\x<g.offers.length:=fun x h=>by
   grind[al7]
  have:=(J i).1
  exact⟨Z,⟨by grind[aga],u⟩,S _ u⟩
 have a4:=Z.1
 refine⟨⟨Z,⟨by omega,M⟩,S c M⟩,⟨by omega,fun k h=>by omega⟩,?_⟩
 rintro i ⟨⟨i0,i1⟩,hi⟩
 refine⟨fun Y=>⟨⟨by omega,i0,Y⟩,⟨by grind[HE],by omega,fun k h=>by omega⟩,?_⟩,fun Y=>?_⟩
 ·have ho:=J i.toNat
  have D:∀t,ex1 g c (pq g c) i.toNat=some t->Kq g c=some t:=fun t ht=>al8 (i:=i.toNat) (by omega) (fun j hj=>hi j (by omega)) ht
  rintro o ⟨⟨o0,o1⟩,Q⟩
  refine⟨fun a3=>⟨by omega,fun X=>⟨by omega,⟨by omega,fun k h=>?_⟩,by omega⟩,fun X=>⟨by omega,K _ _ (by simp) (by simp;omega),fun hb=>?_,fun hb=>⟨by omega,⟨by omega,fun k h=>?_⟩,?_⟩⟩⟩,fun a3=>⟨by omega,⟨by omega,fun k h=>?_⟩,by omega⟩⟩
  ·by_cases u:(k:Int)<o
   ·exact Q k u
   ·rw[show(k:Int)=o by omega]
    simp_all[ex2]
  ·have u:ex2 g c (pq g c) (HE c i.toNat) o=some (uv (HE c i.toNat++[o])):=by
    simp_all[ex2]
   have h3:=D _ (al8 (f:=fun o:Nat=>ex2 g c (pq g c) (HE c i.toNat) o) (i:=o.toNat) (by omega) (fun j hj=>Q j (by omega)) (by simp only[show((o.toNat:Nat):Int)=o by omega];exact u))
   simp_all
  ·unfold ex3
   grind
  ·rintro z ⟨⟨m,q⟩,hz⟩
   refine⟨fun a0=>⟨by omega,fun O=>⟨by omega,⟨by omega,fun k h=>?_⟩,by omega⟩,fun O=>⟨by omega,K _ _ (by simp) (by simp;omega),fun a2=>?_,fun a2=>⟨by omega,⟨by omega,fun k h=>?_⟩,by omega⟩⟩⟩,fun a0=>⟨by omega,⟨by omega,fun k h=>?_⟩,by omega⟩⟩
   ·by_cases u:(k:Int)<z
    ·exact hz k u
    ·rw[show(k:Int)=z by omega]
     simp_all[ex3]
   ·have h4:¬z<=o:=by omega
    have h5:ex3 g c (pq g c) (HE c i.toNat) o z=some (uv (HE c i.toNat++[o,z])):=by
     simp_all[ex3]
    have u:ex2 g c (pq g c) (HE c i.toNat) o=some (uv (HE c i.toNat++[o,z])):=by
     unfold ex2
     rw[if_neg X,if_neg (by rw[hb];simp)]
     exact al8 (f:=fun k:Nat=>ex3 g c (pq g c) (HE c i.toNat) o k) (i:=z.toNat) (by omega) (fun j hj=>hz j (by omega)) (by grind)
    have h3:=D _ (al8 (f:=fun o:Nat=>ex2 g c (pq g c) (HE c i.toNat) o) (i:=o.toNat) (by omega) (fun j hj=>Q j (by omega)) (by simp only[show((o.toNat:Nat):Int)=o by omega];exact u))
    simp_all
   ·grind[ex3]
   ·by_cases u:(k:Int)<o
    ·exact Q k u
    ·rw[show(k:Int)=o by omega]
     unfold ex2
     grind
  ·by_cases u:(k:Int)<i
   ·exact hi k u
   ·rw[show k=i.toNat by omega]
    exact awj fun j hj=>Q j (by omega)
 grind[Kq]
def vd (n:Nat) (c:List Int):Prop:=c.Pairwise (·<·)/\∀x∈c,0<=x/\x<n
theorem awk {n:Nat}:∀{c:List Int} {a:Int},a<=n->c.Pairwise (·<·)->(∀x∈c,a<=x/\x<n)->(c.length:Int)<=n - a
 |[],a,e,_,_=>by simp;omega
 |x::c,a,e,h,b=>by
  have f:=b x (by simp)
  rw[List.pairwise_cons] at h
  have:=@awk n c (x+1) (by omega) h.2 fun y d=>⟨by grind,(b y (by simp[d])).2⟩
  grind
theorem agd {n:Nat} {c:List Int} (h:vd n c):c.length<=n:=by
 have:=awk (n:=n) (a:=0) (by omega) h.1 h.2
 omega
theorem ap0 {n:Nat} {c:List Int} (f:c.Nodup) (e:∀x∈c,0<=x/\x<n):vd n (uv c):=by
 refine⟨?_,fun x i=>e x (al7.1 i)⟩
 have g:(uv c).Pairwise (·<=·):=by
  have:=List.pairwise_mergeSort (le:=fun x y:Int=>decide (x<=y)) (fun a b d f e=>by grind) (fun a b=>by simp;omega) c
  exact this.imp fun h=>of_decide_eq_true h
 have j:(uv c).Pairwise (·≠·):=(List.mergeSort_perm _ _).symm.nodup f
 exact(g.and j).imp fun h=>by omega
theorem al9 {n:Nat} {c:List Int} (h:vd n c):c.Nodup:=h.1.imp fun h=>by omega
theorem awl {c:List Int} {i:Nat}:(HE c i).Sublist c:=by
 unfold HE;rw[List.drop_add_one_eq_tail_drop]
 have:=(List.Sublist.refl (c.take i)).append (List.tail_sublist (c.drop i))
 simp_all
theorem ahG {g:Game} {c t:List Int} (h:Kq g c=some t) (d:vd g.offers.length c):aaW g (pq g c) t=true/\vd g.offers.length t:=by
 obtain⟨i,l,h⟩:=List.exists_of_findSome?_eq_some h
 obtain⟨o,m,h⟩:=List.exists_of_findSome?_eq_some h
 rw[List.mem_range] at l m
 have f:(HE c i).Nodup:=(al9 d).sublist awl
 have b:∀x∈HE c i,x∈c:=fun x a=>awl.subset a
 unfold ex2 at h;split at h
 ·cases h
 ·rename_i p
  split at h
  ·rename_i e
   injection h with h;subst h
   refine⟨e,ap0 ?_ fun x a=>?_⟩
   ·grind
   ·rw[List.mem_append] at a
    rcases a with a|a
    ·exact d.2 x (b x a)
    simp_all
  ·obtain⟨k,j,h⟩:=List.exists_of_findSome?_eq_some h
   rw[List.mem_range] at j;unfold ex3 at h;split at h
   ·cases h
   ·rename_i n
    split at h
    ·rename_i e
     injection h with h;subst h
     refine⟨e,ap0 ?_ fun x a=>?_⟩
     ·grind
     ·rw[List.mem_append] at a
      rcases a with a|a
      ·exact d.2 x (b x a)
      grind
    ·cases h
def Za (g:Game):Nat->List Int->List Int
 |0,c=>c
 |n+1,c=>match Kq g c with
  |some t=>Za g n t
  |none=>c
def SJ (g:Game) (c:List Int):List Int:=Za g (1000000000 - pq g c).toNat c
theorem adF {g:Game} (a:ae8 g) {c:List Int} (h:vd g.offers.length c):0<=pq g c/\pq g c<=1000000000:=by
 have d:=apR (f:=fun x=>(bo g.offers x.toNat bD.off.dflt).value) (c:=c) (k:=c.length) (m:=1000000) (by omega) fun x b=>a.2 _ (nA (by have:=h.2 x b;omega))
 rw[List.take_length] at d
 have e:=agd h
 have i:=a.1.1.2.2
 grind[pq]
theorem aEM {g:Game} (d:ae8 g):∀{n m:Nat} {c:List Int},vd g.offers.length c->(1000000000 - pq g c).toNat<=n->(1000000000 - pq g c).toNat<=m->Za g n c=Za g m c:=by
 intro n
 induction n with
 |zero=>
  intro m c a k j
  have h:=adF d a
  cases m with
  |zero=>rfl
  |succ m=>
   unfold Za
   cases f:Kq g c with
   |none=>rfl
   |some t=>
    obtain⟨b,e⟩:=ahG f a
    have i:=adF d e
    unfold aaW at b
    grind
 |succ n l=>
  intro m c a k j
  have h:=adF d a
  cases f:Kq g c with
  |none=>
   cases m<;>grind[Za]
  |some t=>
   obtain⟨b,e⟩:=ahG f a
   have i:=adF d e
   unfold aaW at b;simp only[Bool.and_eq_true,decide_eq_true_eq] at b
   cases m<;>grind[Za]
theorem aEN {g:Game} (d:ae8 g) {c t:List Int} (b:vd g.offers.length c) (h:Kq g c=some t):SJ g c=SJ g t:=by
 obtain⟨a,e⟩:=ahG h b
 have f:=adF d b
 have i:=adF d e
 unfold aaW at a;simp only[Bool.and_eq_true,decide_eq_true_eq] at a;unfold SJ
 rw[show(1000000000 - pq g c).toNat=((1000000000 - pq g c).toNat - 1)+1 by omega]
 grind[Za,aEM]
theorem awm {g:Game} {c:List Int} (h:Kq g c=none):SJ g c=c:=by
 unfold SJ
 generalize (1000000000 - pq g c).toNat=n
 cases n<;>grind[Za]
def aEO (p:cn) (c:List Int):Prop:=dV p=0/\vd p.offers.length c
theorem awn {p:cn} (c:dV p=0):ae8 (kz p):=by
 have a:=pz c
 refine⟨awf (by have:=a.2.1;omega),fun o b=>?_⟩
 have:=a.2.2.2.2 o b
 omega
theorem awo {l:List Off}:∀{c:List Int} {a:Int}, -1<=a->(rf l a c).isSome=true->c.Pairwise (·<·)/\∀x∈c,a<x/\x<l.length
 |[],a,_,_=>⟨List.Pairwise.nil,by simp⟩
 |i::c,a,f,h=>by
  simp only[rf] at h;split at h
  ·simp at h
  ·rename_i g
   rw[Option.isSome_map] at h
   obtain⟨d,e⟩:=@awo l c i (by omega) h
   refine⟨List.pairwise_cons.2 ⟨fun x b=>(e x b).1,d⟩,fun x b=>?_⟩
   grind
theorem adG {p:cn} {c:List Int} (h:lF p c=0):aEO p c:=by
 unfold lF at h;split at h
 ·omega
 ·rename_i b
  split at h
  ·cases h
  ·rename_i d
   have a:=@awo p.offers c (-1) (by omega) (by grind[y5])
   exact⟨Classical.not_not.1 b,a.1,fun x e=>by grind⟩
def A5 (p:cn) (c:List Int):Alloc:=if lF p c=0 then⟨SJ (kz p) c,pq (kz p) (SJ (kz p) c)⟩ else⟨[],0⟩
def ajr:fN:=⟨47,cn×Alloc,.cons ql (.one Yo),fun a=>a.2.chosen.length<=9223372036854775807,fun a=>Yo.put (A5 a.1 a.2.chosen)⟩
def aEP (p:cn) (a:Alloc):Nat->jW
 |6=> .inv (List Int×List Int×Bool) (fun x=>⟨[(4,.ptr 2 0 2),(5,.ptr 3 0 3),(6,.row (.i .i64) x.1),(7,.row (.i .i64) x.2.1),(8,.sb x.2.2)],[.cells p.ss 27 20 false,.cells [.row (.i .i64) a.chosen,.si .i64 a.value] 37 2 false,.cells [.sc (.slice none 0 0),.il .i64 0] 37 2 false,.cells (gSS (kz p)) 130 3 false]⟩)
   (fun s=>(rS (.i .i64) s 6,rS (.i .i64) s 7,bS s 8)) (fun x=>vd p.offers.length x.1/\(x.2.1=(Kq (kz p) x.1).getD []/\x.2.2=(Kq (kz p) x.1).isSome)/\SJ (kz p) x.1=SJ (kz p) a.chosen) (fun x=>(1000000000 - pq (kz p) x.1).toNat) fun _ _=> .look
 |_=> .look
theorem h315:Holds Tryz.prog ajr:=by
 refine lj (L:=[alk,al4,ajn,apY,ahE]) ajr (fun a=>aEP a.1 a.2) (by grind[h100,h325,h330,h331,h328]) ?_
 rintro⟨p,⟨c,v⟩⟩ N
 replace N:c.length<=9223372036854775807:=N
 refine gw (let a:=SV.si .i64;let b:=SV.row;let d:=cC.cells;let g:=(1000000000:Int);let h:=(0:Int);let m:=SV.sb;let r:=SV.agg;let O:=decide (lF p c≠h);let f:=bD.i .i64;let P:=[SV.il .i64 0];let R:=r [b f (A5 p c).chosen,a (A5 p c).value];let B:=SV.ptr 2 0 2;let C:=SV.ptr 3 0 3;let D:=(Kq (kz p) c).getD [];let E:=(Kq (kz p) c).isSome;let w:=d [a p.supply.a0,a p.supply.a1,a p.supply.a2,a p.supply.a3,a p.supply.a4,a p.supply.a5,a p.opn.a0,a p.opn.a1,a p.opn.a2,a p.opn.a3,a p.opn.a4,a p.opn.a5,a p.cls.a0,a p.cls.a1,a p.cls.a2,a p.cls.a3,a p.cls.a4,a p.cls.a5,b f p.classes,b bD.off p.offers] 27 20 false;let F:=d [b f c,a v] 37 2 false;let j:=d (SV.sc (Value.slice none 0 0)::P) 37 2 false;let k:=d [b f.fa (kz p).rows,b f (kz p).bounds,b bD.off (kz p).offers] 130 3 false;let o:=p.offers.length;let l:=SJ (kz p) c;c.length<=9223372036854775807/\(O=true->(r (b f []::P)).same R)/\(O=false->True/\c.length<=1000000/\(ae8 (kz p)/\c.length<=900/\∀(x:Int),x∈c->h<=x/\x<(↑(kz p).offers.length:Int))/\(((B.same B/\C.same C/\(b f c).same (b f c)/\(b f D).same (b f D)/\(m E).same (m E)/\True)/\w.same w/\F.same F/\j.same j/\k.same k/\True)/\vd o c/\(D=D/\E=E)/\l=l)/\∀(x:List Int×List Int×Bool),let e:=Kq (kz p) x.snd.fst;let u:=b f (e.getD []);let q:=pq (kz p) x.fst;vd o x.fst/\(x.snd.fst=(Kq (kz p) x.fst).getD []/\x.snd.snd=(Kq (kz p) x.fst).isSome)/\SJ (kz p) x.fst=l->(x.snd.snd=true->(ae8 (kz p)/\x.snd.fst.length<=900/\∀(n:Int),n∈x.snd.fst->h<=n/\n<(↑(kz p).offers.length:Int))/\((B.same B/\C.same C/\(b f x.snd.fst).same (b f x.snd.fst)/\u.same u/\(m e.isSome).same (m e.isSome)/\True)/\w.same w/\F.same F/\j.same j/\k.same k/\True)/\(vd o x.snd.fst/\(e.getD []=e.getD []/\e.isSome=e.isSome)/\SJ (kz p) x.snd.fst=l)/\(g - pq (kz p) x.snd.fst).toNat<(g - q).toNat)/\(x.snd.snd=false->(aaV (kz p)/\abP (kz p) x.fst/\aco (kz p) x.fst)/\(r [b f x.fst,a q]).same R))) (by kernel_rfl) ?_
 conv=>zeta
 try simp only[vcs]
 refine⟨by omega,fun h=>by simp only[A5,if_neg h];rfl,fun h=>?_⟩
 have M:lF p c=0:=Classical.not_not.1 h
 obtain⟨S,H⟩:=adG M
 have m:=awn S
 have T:=(pz S).2.1
 have s:∀d,vd p.offers.length d->aaV (kz p)/\abP (kz p) d/\aco (kz p) d:=fun d g=>by
  have r:=agd g
  exact⟨m.1,⟨by omega,g.2⟩,fun x U=>m.2 _ (nA (by have:=g.2 x U;show x.toNat<p.offers.length;omega))⟩
 have Q:=agd H
 refine⟨by omega,⟨m,by omega,H.2⟩,H,?_⟩
 rintro⟨d,t,b⟩ ⟨g,⟨A,G⟩,K⟩
 simp only at g A G K ⊢
 have Z:=agd g
 refine⟨fun J=>?_,fun I=>?_⟩
 ·rw[J] at G
  obtain⟨t',z⟩:=Option.isSome_iff_exists.1 G.symm
  rw[z] at A;simp only[Option.getD_some] at A;subst A
  obtain⟨r,y⟩:=ahG z g
  have Y:=agd y
  have V:t.length<=p.offers.length:=Y
  have X:=adF m y
  have W:=adF m (c:=d) g
  unfold aaW at r;simp only[Bool.and_eq_true,decide_eq_true_eq] at r
  exact⟨⟨m,by omega,y.2⟩,⟨y,by rw[<-aEN m g z];exact K⟩,by omega⟩
 ·rw[I] at G
  have z:Kq (kz p) d=none:=by
   simp_all
  refine⟨s d g,?_⟩
  have r:SJ (kz p) c=d:=by grind[awm]
  simp only[A5,if_pos M,r];rfl
theorem awp {l:List Off}:∀{c:List Int} {a:Int}, -1<=a->c.Pairwise (·<·)->(∀x∈c,a<x/\x<l.length)->rf l a c=some (c.map fun x=>bo l x.toNat bD.off.dflt)
 |[],_,_,_,_=>rfl
 |i::c,a,f,h,d=>by
  rw[List.pairwise_cons] at h
  have e:=d i (by simp)
  simp only[rf]
  rw[if_neg (by omega),@awp l c i (by omega) h.2 fun x b=>⟨h.1 x b,(d x (by simp[b])).2⟩]
  rfl
theorem ahH {p:cn} {c:List Int} (h:vd p.offers.length c):rf p.offers (-1) c=some (c.map (oI p)):=awp (by omega) h.1 fun x a=>by have:=h.2 x a;omega
theorem ap1 {p:cn} (l:dV p=0) {c:List Int} (h:vd p.offers.length c):lF p c=0↔Uk (kz p) c=true:=by
 have k:=ahH h
 have n:y5 p c=true:=by grind[y5]
 have i:nn p c=c.map (oI p):=by grind[nn]
 have m:yx p (c.map (oI p))=Uk (kz p) c:=by
  have f:nR p=p.classes.length+12:=by simp_all[nR]
  have g:(kz p).bounds.length=p.classes.length+12:=by show(Q0 p (nR p)).length=_;rw[al3,f]
  unfold yx Uk;rw[g]
  have d:∀r:Nat,r<p.classes.length+12->bo (kz p).bounds r 0=pg p r/\Y9 (kz p) c r=lT p (c.map (oI p)) r:=fun r j=>by
   refine⟨?_,?_⟩
   ·show bo (Q0 p (nR p)) r 0=_
    grind[jV,Q0]
   ·have a:bo (kz p).rows r []=N2 p r p.offers.length:=by
     show bo (Y0 p (nR p)) r []=_
     grind[jV,Y0]
    unfold Y9 lT;rw[a,List.map_map]
    congr 1
    refine List.map_congr_left fun x b=>?_
    have:=h.2 x b
    have e:x.toNat<p.offers.length:=by omega
    show bo (N2 p r p.offers.length) x.toNat 0=uu p r (bo p.offers x.toNat bD.off.dflt)
    grind[jV,N2]
  grind
 simp_all[lF]
theorem aEQ {p:cn} (d:dV p=0) {c:List Int} (h:vd p.offers.length c):nD p c=pq (kz p) c:=by
 have a:nn p c=c.map (oI p):=by grind[nn,ahH]
 unfold nD;rw[if_pos d,a]
 clear h a
 induction c with
 |nil=>rfl
 |cons x c b=>
  have e:pq (kz p) (x::c)=(oI p x).value+pq (kz p) c:=by simp[pq];rfl
  rw[e,<-b];rfl
theorem awq {g:Game} {n:Nat}:∀{l c:List Int},vd n c->l.Nodup->(∀x∈l,x∉c/\0<=x/\x<n)->vd n (l.foldl (stepG g) c)
 |[],c,b,_,_=>b
 |x::l,c,b,e,d=>by
  rw[List.nodup_cons] at e
  have i:=d x (by simp)
  have f:vd n (stepG g c x):=by
   unfold stepG;split
   ·refine ap0 ?_ fun y a=>?_
    ·grind[al9]
    ·rw[List.mem_append] at a
     rcases a with a|a
     ·exact b.2 y a
     simp_all
   ·exact b
  show vd n (l.foldl (stepG g) (stepG g c x))
  refine awq f e.2 fun y a=>⟨fun h=>?_,(d y (by simp[a])).2⟩
  grind[awg]
theorem aER {p:cn}:(BD p).Nodup:=by
 unfold BD;split
 ·exact(adA (D:=fK p) (l:=pA p.offers.length)).symm.nodup (af8.imp fun h=>by omega)
 simp_all
theorem aES {p:cn} {k:Nat}:vd p.offers.length (abr (kz p) ((BD p).take k)):=
 awq ⟨List.Pairwise.nil,by simp⟩ (aER.sublist (List.take_sublist _ _)) fun x a=>⟨by simp,(apV (List.mem_of_mem_take a)).2⟩
theorem awr {l m:List Int} (h:l.Perm m):l.sum=m.sum:=by
 induction h<;>grind
theorem aws {g:Game}:∀{l c:List Int},Uk g c=true->Uk g (l.foldl (stepG g) c)=true
 |[],c,h=>h
 |x::l,c,h=>by
  show Uk g (l.foldl (stepG g) (stepG g c x))=true
  refine aws ?_
  grind[stepG]
theorem aET {p:cn} (d:dV p=0):Uk (kz p) []=true:=by
 unfold Uk;rw[List.all_eq_true];intro r b
 have a:r<(kz p).bounds.length:=List.mem_range.1 b
 have c:bo (kz p).bounds r 0=pg p r:=by
  show bo (Q0 p (nR p)) r 0=_
  rw[jV (by exact a)]
  simp[Q0]
 simp_all[ajp,Y9]
theorem aEU {p:cn}:vd p.offers.length (PU p):=by
 have h:=@aES p (BD p).length
 rw[List.take_length] at h;exact h
theorem awt {p:cn} (a:dV p=0):lF p (PU p)=0:=(ap1 a aEU).2 (aws (aET a))
theorem aEV {g:Game} (i:ae8 g):∀{n:Nat} {c:List Int},vd g.offers.length c->Uk g c=true->vd g.offers.length (Za g n c)/\Uk g (Za g n c)=true/\pq g c<=pq g (Za g n c)/\((1000000000 - pq g c).toNat<=n->Kq g (Za g n c)=none):=by
 intro n
 induction n with
 |zero=>
  intro c a j
  refine⟨a,j,Int.le_refl _,fun h=>?_⟩
  show Kq g c=none
  cases f:Kq g c with
  |none=>rfl
  |some t=>
   obtain⟨d,b⟩:=ahG f a
   have k:=adF i b
   unfold aaW at d
   grind
 |succ n l=>
  intro c a j
  cases f:Kq g c with
  |none=>
   grind[Za]
  |some t=>
   have e:Za g (n+1) c=Za g n t:=by grind[Za]
   rw[e]
   obtain⟨d,b⟩:=ahG f a
   have k:=adF i b
   unfold aaW at d
   grind
theorem ap2 {p:cn} (a:dV p=0) {c:List Int} (b:lF p c=0):vd p.offers.length (A5 p c).chosen/\lF p (A5 p c).chosen=0/\nD p (A5 p c).chosen=(A5 p c).value/\nD p c<=(A5 p c).value/\A5 p (A5 p c).chosen=A5 p c:=by
 obtain⟨_,d⟩:=adG b
 have h:=awn a
 obtain⟨i,j,l,g⟩:=aEV h (n:=(1000000000 - pq (kz p) c).toNat) (c:=c) d ((ap1 a d).1 b)
 have e:A5 p c=⟨SJ (kz p) c,pq (kz p) (SJ (kz p) c)⟩:=by simp_all[A5]
 have f:lF p (SJ (kz p) c)=0:=(ap1 a i).2 j
 have k:SJ (kz p) (SJ (kz p) c)=SJ (kz p) c:=awm (g (Nat.le_refl _))
 simp_all[aEQ,A5,SJ,kz]
def wed (c:Nat->Rat):(List Nat->Rat)->List Nat->Rat
 |_,[]=>0
 |f,i::R=>c i*f R - wed c (fun l=>f (i::l)) R
theorem ap3 {c:Nat->Rat}:∀{R:List Nat},wed c (fun _=>0) R=0
 |[]=>rfl
 |i::R=>by simp only[wed,ap3];grind
theorem ap4 {c:Nat->Rat} {p q:Rat}:∀{R:List Nat} {f g:List Nat->Rat},wed c (fun l=>p*f l+q*g l) R=p*wed c f R+q*wed c g R
 |[],_,_=>by grind[wed]
 |i::R,f,g=>by
  simp only[wed,@ap4 c p q R]
  grind
theorem awu {c d:Nat->Rat} {p q:Rat}:∀{R:List Nat} {f:List Nat->Rat},wed (fun i=>p*c i+q*d i) f R=p*wed c f R+q*wed d f R
 |[],_=>by grind[wed]
 |i::R,f=>by
  simp only[wed,@awu c d p q R]
  grind
theorem awv {c:Nat->Rat} {p:Rat} {R:List Nat} {f g:List Nat->Rat}:wed c (fun l=>p*f l - g l) R=p*wed c f R - wed c g R:=by
 have:=@ap4 c p (-1) R f g
 grind
theorem ap5 {a b:Nat->Rat}:∀{R:List Nat} {f:List Nat->Rat},wed a (wed b f) R= - wed b (wed a f) R
 |[],_=>by grind[wed]
 |i::R,f=>by
  have d:wed a (fun l=>wed b f (i::l)) R=b i*wed a f R - wed a (wed b fun l=>f (i::l)) R:=awv
  have c:wed b (fun l=>wed a f (i::l)) R=a i*wed b f R - wed b (wed a fun l=>f (i::l)) R:=awv
  have h:=@ap5 a b R fun l=>f (i::l)
  grind[wed]
theorem aEW {a:Nat->Rat} {f:List Nat->Rat}:wed a (wed a f)=fun _=>0:=by
 grind[ap5]
def ahI (R:List Nat):Rat:=if R=[] then 1 else 0
def Qi (cs:List (Nat->Rat)):List Nat->Rat:=cs.foldr wed ahI
theorem aww {c:Nat->Rat} {cs:List (Nat->Rat)}:Qi (c::cs)=wed c (Qi cs):=rfl
theorem awx {a:Nat->Rat}:∀{cs:List (Nat->Rat)} {f:List Nat->Rat},wed a (cs.foldr wed (wed a f))=fun _=>0
 |[],f=>aEW
 |c::cs,f=>by
  funext R
  simp only[List.foldr_cons];rw[ap5,@awx a cs f,ap3];rfl
theorem fold_zero:∀{cs:List (Nat->Rat)},cs.foldr wed (fun _=>0)=fun _=>0
 |[]=>rfl
 |c::cs=>by
  rw[List.foldr_cons,fold_zero]
  grind[ap3]
theorem awy {a:Nat->Rat} {p m q:List (Nat->Rat)}:Qi (p++a::(m++a::q))=fun _=>0:=by
 grind[Qi,awx,fold_zero]
theorem awz {p q:Rat}:∀{cs:List (Nat->Rat)} {f g:List Nat->Rat} {R:List Nat},cs.foldr wed (fun l=>p*f l+q*g l) R=p*cs.foldr wed f R+q*cs.foldr wed g R
 |[],_,_,_=>rfl
 |c::cs,f,g,R=>by
  simp only[List.foldr_cons];rw[<-ap4]
  congr 1
  funext l
  exact awz
theorem awC {c d:Nat->Rat} {p q:Rat} {a b:List (Nat->Rat)} {R:List Nat}:Qi (a++(fun i=>p*c i+q*d i)::b) R=p*Qi (a++c::b) R+q*Qi (a++d::b) R:=by
 unfold Qi;simp only[List.foldr_append,List.foldr_cons];rw[<-awz]
 have e:wed (fun i=>p*c i+q*d i) (List.foldr wed ahI b)=fun l=>p*wed c (List.foldr wed ahI b) l+q*wed d (List.foldr wed ahI b) l:=by
  grind[awu]
 rw[e]
def uw (M:Nat) (q:Rat):Prop:=∃z:Int,q=(z:Rat)/\z.natAbs<=M
theorem awD {c:Nat->Rat} {M K:Nat}:∀{R:List Nat} {f:List Nat->Rat},(∀i∈R,uw M (c i))->(∀l,l.length+1=R.length->(∀i∈l,i∈R)->uw K (f l))->uw (R.length*(M*K)) (wed c f R)
 |[],_,_,_=>⟨0,by simp[wed],by simp⟩
 |i::R,f,e,g=>by
  simp only[wed,List.length_cons]
  obtain⟨y,q,h⟩:=@awD c M K R (fun l=>f (i::l)) (fun j a=>e j (by simp[a])) fun l n p=>g _ (by simp_all) fun j a=>by
   grind
  obtain⟨u,o,b⟩:=e i (by simp)
  obtain⟨v,k,d⟩:=g R (by simp) fun j a=>by simp[a]
  refine⟨u*v - y,?_,?_⟩
  ·simp_all
  ·have m:(u*v).natAbs<=M*K:=by
    rw[Int.natAbs_mul]
    exact Nat.mul_le_mul b d
   grind
def aaY (M:Nat):Nat->Nat
 |0=>1
 |n+1=>(n+1)*(M*aaY M n)
theorem ama {M:Nat}:∀{cs:List (Nat->Rat)} {R:List Nat},cs.length=R.length->(∀c∈cs,∀i∈R,uw M (c i))->uw (aaY M R.length) (Qi cs R)
 |[],R,b,_=>by
  have:R=[]:=List.eq_nil_of_length_eq_zero (by simp_all)
  subst this
  exact⟨1,by simp[Qi,ahI],by simp[aaY]⟩
 |c::cs,R,b,e=>by
  rw[aww]
  cases R with
  |nil=>simp at b
  |cons i R=>
   simp only[List.length_cons,aaY]
   refine awD (e c (by simp)) fun l a g=>?_
   simp only[List.length_cons] at b a
   rw[show R.length=l.length by omega]
   exact ama (by omega) fun d f j h=>e d (by simp[f]) j (g j h)
def ahJ (k:Nat):Nat->Rat:=fun i=>if i=k then 1 else 0
theorem awE {c:Nat->Rat}:∀{R:List Nat} {f:List Nat->Rat},(∀i∈R,c i=0)->wed c f R=0
 |[],_,_=>rfl
 |i::R,f,h=>by
  simp only[wed]
  rw[h i (by simp),awE fun j a=>h j (by simp[a])]
  grind
theorem awF:∀{R:List Nat},R.Nodup->Qi (R.map ahJ) R=1
 |[],_=>by simp[Qi,ahI]
 |i::R,h=>by
  rw[List.nodup_cons] at h;rw[List.map_cons,aww];simp only[wed]
  rw[awE (c:=ahJ i) (R:=R) fun j a=>by
   unfold ahJ
   grind]
  rw[awF h.2];unfold ahJ
  grind
def ju (n:Nat) (f:Nat->Rat):Rat:=match n with
 |0=>0
 |n+1=>ju n f+f n
theorem sd:∀{n:Nat} {f g:Nat->Rat},(∀i,i<n->f i=g i)->ju n f=ju n g
 |0,_,_,_=>rfl
 |n+1,f,g,h=>by simp only[ju];rw[sd fun i a=>h i (by omega),h n (by omega)]
theorem ajs:∀{n:Nat} {f g:Nat->Rat},ju n (fun i=>f i+g i)=ju n f+ju n g
 |0,_,_=>by grind[ju]
 |n+1,f,g=>by simp only[ju];rw[ajs];grind
theorem ajt {c:Rat}:∀{n:Nat} {f:Nat->Rat},ju n (fun i=>c*f i)=c*ju n f
 |0,_=>by grind[ju]
 |n+1,f=>by simp only[ju];rw[ajt];grind
theorem SK:∀{n:Nat},ju n (fun _=>0)=0
 |0=>rfl
 |n+1=>by simp only[ju];rw[SK];grind
theorem agf {k:Nat} {x:Rat}:∀{n:Nat},ju n (fun i=>if i=k then x else 0)=if k<n then x else 0
 |0=>by simp[ju]
 |n+1=>by
  simp only[ju];rw[agf]
  grind
theorem amb {n k:Nat} {f:Nat->Rat} (h:k<n):ju n f=f k+ju n fun i=>if i=k then 0 else f i:=by
 have a:=@agf k (f k) n
 rw[if_pos h] at a;rw[<-a,<-ajs]
 grind[sd]
theorem awG {a b:List (Nat->Rat)} {R:List Nat} {y:Nat->Rat} {T:Nat->Nat->Rat}:∀{n:Nat},Qi (a++(fun i=>ju n fun k=>y k*T k i)::b) R=ju n fun k=>y k*Qi (a++T k::b) R
 |0=>by
  have e:(fun i:Nat=>ju 0 fun k=>y k*T k i)=fun i=>(0:Rat)*(fun _=>0) i+0*(fun _=>0) i:=by grind[ju]
  rw[e,awC]
  grind[ju]
 |n+1=>by
  have e:(fun i:Nat=>ju (n+1) fun k=>y k*T k i)=fun i=>(1:Rat)*(fun i=>ju n fun k=>y k*T k i) i+y n*T n i:=by
   grind[ju]
  rw[e,awC,awG]
  grind[ju]
theorem aEX {C:List (Nat->Rat)} {R:List Nat} {y:Nat->Rat} {r:Nat} (f:r<C.length):Qi (C.set r (fun i=>ju C.length fun k=>y k*(C.getD k (fun _=>0)) i)) R=y r*Qi C R:=by
 have a:∀c:Nat->Rat,C.set r c=C.take r++c::C.drop (r+1):=fun c=>by rw[List.set_eq_take_append_cons_drop,if_pos f]
 rw[a,awG,amb f]
 have m:∀k,k<C.length->(if k=r then(0:Rat) else y k*Qi (C.take r++C.getD k (fun _=>0)::C.drop (r+1)) R)=0:=by
  intro k g;split
  ·rfl
  ·rename_i e
   have o:Qi (C.take r++C.getD k (fun _=>0)::C.drop (r+1)) R=0:=by
    have n:C.getD k (fun _=>0)=C[k]:=by simp_all
    rw[n]
    rcases Nat.lt_or_gt_of_ne e with h|h
    ·have j:C.take r=C.take k++C[k]::(C.drop (k+1)).take (r - (k+1)):=by
      have b:C[k]::C.drop (k+1)=C.drop k:=List.getElem_cons_drop g
      obtain⟨d,rfl⟩:∃d,r=k+(d+1):=⟨r - (k+1),by omega⟩
      rw[List.take_add,<-b,List.take_succ_cons,show k+(d+1) - (k+1)=d by omega]
     grind[awy]
    ·have j:C.drop (r+1)=(C.drop (r+1)).take (k - (r+1))++C[k]::C.drop (k+1):=by
      have b:C[k]::C.drop (k+1)=C.drop k:=List.getElem_cons_drop g
      rw[b]
      have l:=List.take_append_drop (k - (r+1)) (C.drop (r+1))
      rw[List.drop_drop,show r+1+(k - (r+1))=k by omega] at l
      exact l.symm
     rw[j,awy]
   simp_all
 rw[sd m,SK]
 have b:C.take r++C.getD r (fun _=>0)::C.drop (r+1)=C:=by
  simp_all
 rw[b]
 grind
structure Tb where
 iP:List (List Rat)
 bound:List Rat
 cost:List Rat
 value:Rat
 basic:List Int
 free:List Int
namespace Tb
def cf (t:Tb) (i j:Nat):Rat:=bo (bo t.iP i []) j 0
def bd (t:Tb) (i:Nat):Rat:=bo t.bound i 0
def cs (t:Tb) (j:Nat):Rat:=bo t.cost j 0
def bv (t:Tb) (i:Nat):Int:=bo t.basic i 0
def fv (t:Tb) (j:Nat):Int:=bo t.free j 0
structure WF (n m:Nat) (t:Tb):Prop where
 iP:t.iP.length=m
 row:∀i,i<m->(bo t.iP i []).length=n
 bound:t.bound.length=m
 cost:t.cost.length=n
 basic:t.basic.length=m
 free:t.free.length=n
def holds (n m:Nat) (t:Tb) (x:Int->Rat) (z:Rat):Prop:=
 (∀i,i<m->x (t.bv i)+ju n (fun j=>t.cf i j*x (t.fv j))=t.bd i)/\z=t.value+ju n fun j=>t.cs j*x (t.fv j)
end Tb
def RB (l:List Rat) (c:Nat) (p:List Rat):List Rat:=(List.range l.length).map fun j=>if j=c then -(bo l c 0*bo p j 0) else bo l j 0 - bo l c 0*bo p j 0
def SL (l:List Rat) (c:Nat):List Rat:=(List.range l.length).map fun j=>if j=c then 1 / bo l c 0 else bo l j 0*(1 / bo l c 0)
def zr (t:Tb) (r c:Nat):Tb where
 iP:=(List.range t.iP.length).map fun i=>if i=r then SL (bo t.iP r []) c else RB (bo t.iP i []) c (SL (bo t.iP r []) c)
 bound:=(List.range t.bound.length).map fun i=>if i=r then t.bd r*(1 / t.cf r c) else t.bd i - t.cf i c*(t.bd r*(1 / t.cf r c))
 cost:=RB t.cost c (SL (bo t.iP r []) c)
 value:=t.value+t.cs c*(t.bd r*(1 / t.cf r c))
 basic:=t.basic.set r (t.fv c)
 free:=t.free.set c (t.bv r)
theorem acZ {a:Type} {f:Nat->a} {n i:Nat} {d:a} (h:i<n):bo ((List.range n).map f) i d=f i:=by
 grind[jV]
theorem adH {a:Type} {l:List a} {r i:Nat} {x d:a} (h:r<l.length):bo (l.set r x) i d=if i=r then x else bo l i d:=by
 unfold bo
 grind
section
variable {n m:Nat} {t:Tb} {r c:Nat}
theorem awH {l:List Rat}:(SL l c).length=l.length:=by simp[SL]
theorem amc {l p:List Rat}:(RB l c p).length=l.length:=by simp[RB]
theorem ap6 {l:List Rat} {j:Nat} (h:j<l.length):bo (SL l c) j 0=if j=c then 1 / bo l c 0 else bo l j 0*(1 / bo l c 0):=acZ h
theorem amd {l p:List Rat} {j:Nat} (h:j<l.length):bo (RB l c p) j 0=if j=c then -(bo l c 0*bo p j 0) else bo l j 0 - bo l c 0*bo p j 0:=acZ h
theorem awI (h:t.WF n m):(zr t r c).WF n m where
 iP:=by simp[zr,h.iP]
 row i a:=by
  simp only[zr]
  rw[acZ (by rw[h.iP];exact a)]
  split
  ·rename_i e;subst e;rw[awH,h.row _ a]
  ·rw[amc,h.row _ a]
 bound:=by simp[zr,h.bound]
 cost:=by simp only[zr];rw[amc,h.cost]
 basic:=by simp[zr,h.basic]
 free:=by simp[zr,h.free]
theorem aju (h:t.WF n m) (b:r<m) (e:c<n) {i j:Nat} (d:i<m) (a:j<n):(zr t r c).cf i j=
  if i=r then(if j=c then 1 / t.cf r c else t.cf r j*(1 / t.cf r c)) else if j=c then -(t.cf i c*(1 / t.cf r c)) else t.cf i j - t.cf i c*(t.cf r j*(1 / t.cf r c)):=by
 unfold Tb.cf;simp only[zr]
 rw[acZ (by rw[h.iP];exact d)]
 split
 ·rw[ap6 (by rw[h.row _ b];exact a)]
 ·rw[amd (by rw[h.row _ d];exact a)]
  rw[ap6 (by rw[h.row _ b];exact a)]
  simp_all
theorem ame (h:t.WF n m) {i:Nat} (a:i<m):(zr t r c).bd i=if i=r then t.bd r*(1 / t.cf r c) else t.bd i - t.cf i c*(t.bd r*(1 / t.cf r c)):=by
 show bo _ i 0=_
 simp only[zr]
 rw[acZ (by rw[h.bound];exact a)]
theorem awJ (h:t.WF n m) (b:r<m) {j:Nat} (a:j<n):(zr t r c).cs j=if j=c then -(t.cs c*(1 / t.cf r c)) else t.cs j - t.cs c*(t.cf r j*(1 / t.cf r c)):=by
 show bo _ j 0=_
 simp only[zr]
 rw[amd (by rw[h.cost];exact a),ap6 (by rw[h.row _ b];exact a)]
 split
 ·rfl
 ·rfl
theorem ap7 (h:t.WF n m) (a:r<m) {i:Nat}:(zr t r c).bv i=if i=r then t.fv c else t.bv i:=adH (by rw[h.basic];exact a)
theorem ap8 (h:t.WF n m) (a:c<n) {j:Nat}:(zr t r c).fv j=if j=c then t.bv r else t.fv j:=adH (by rw[h.free];exact a)
theorem piv_holds (h:t.WF n m) (b:r<m) (k:c<n) (K:t.cf r c≠0) {x:Int->Rat} {z:Rat}:(zr t r c).holds n m x z↔t.holds n m x z:=by
 have d:∀f:Nat->Rat,ju n (fun j=>f j*x (t.fv j))=f c*x (t.fv c)+ju n (fun j=>if j=c then 0 else f j*x (t.fv j)):=fun f=>amb k
 have e:∀f:Nat->Rat,ju n (fun j=>f j*x ((zr t r c).fv j))=f c*x (t.bv r)+ju n (fun j=>if j=c then 0 else f j*x (t.fv j)):=fun f=>by
  rw[amb k,ap8 h k,if_pos rfl]
  congr 1
  refine sd fun j _=>?_
  split
  ·rfl
  ·rename_i p;rw[ap8 h k,if_neg p]
 have I:ju n (fun j=>if j=c then 0 else(zr t r c).cf r j*x (t.fv j))=(1 / t.cf r c)*ju n (fun j=>if j=c then 0 else t.cf r j*x (t.fv j)):=by
  rw[<-ajt]
  refine sd fun j p=>?_
  split
  ·grind
  ·rename_i l
   rw[aju h b k b p,if_pos rfl,if_neg l]
   grind
 have E:∀f g:Nat->Rat,∀q:Rat,(∀j,j<n->j≠c->g j=f j - q*(t.cf r j*(1 / t.cf r c)))->ju n (fun j=>if j=c then 0 else g j*x (t.fv j))=ju n (fun j=>if j=c then 0 else f j*x (t.fv j))+(-(q*(1 / t.cf r c)))*ju n (fun j=>if j=c then 0 else t.cf r j*x (t.fv j)):=fun f g q L=>by
  rw[<-ajt,<-ajs]
  refine sd fun j p=>?_
  grind
 have J:∀j,j<n->j≠c->(zr t r c).cs j=t.cs j - t.cs c*(t.cf r j*(1 / t.cf r c)):=fun j p l=>by rw[awJ h b p,if_neg l]
 have B:∀i,i<m->i≠r->∀j,j<n->j≠c->(zr t r c).cf i j=t.cf i j - t.cf i c*(t.cf r j*(1 / t.cf r c)):=fun i o a j p l=>by rw[aju h b k o p,if_neg a,if_neg l]
 have G:=E t.cs _ _ J
 have v:=awJ (c:=c) h b k
 rw[if_pos rfl] at v
 have s:=aju h b k b k
 rw[if_pos rfl,if_pos rfl] at s
 have w:=ame (r:=r) (c:=c) h b
 rw[if_pos rfl] at w
 have u:=ap7 (c:=c) (i:=r) h b
 rw[if_pos rfl] at u
 have H:(zr t r c).value=t.value+t.cs c*(t.bd r*(1 / t.cf r c)):=rfl
 unfold Tb.holds
 constructor
 ·rintro⟨A,F⟩
  have C:=A r b
  rw[e,I,s,u,w] at C
  refine⟨fun i o=>?_,?_⟩
  ·by_cases a:i=r
   ·subst a
    rw[d]
    grind
   ·have D:=A i o
    have y:=aju h b k o k
    rw[if_neg a,if_pos rfl] at y;rw[e,E _ _ _ (B i o a),ap7 h b,if_neg a,ame h o,if_neg a,y] at D;rw[d]
    grind
  ·rw[e,G,v,H] at F
   rw[d]
   grind
 ·rintro⟨A,F⟩
  have C:=A r b
  rw[d] at C
  refine⟨fun i o=>?_,?_⟩
  ·by_cases a:i=r
   ·subst a
    rw[e,I,s,u,w]
    grind
   ·have D:=A i o
    have y:=aju h b k o k
    rw[if_neg a,if_pos rfl] at y;rw[e,E _ _ _ (B i o a),ap7 h b,if_neg a,ame h o,if_neg a,y];rw[d] at D
    grind
  ·rw[e,G,v,H]
   rw[d] at F
   grind
end
def aaZ (f:Int->Rat):List Int->Rat
 |[]=>0
 |x::l=>f x+aaZ f l
theorem ap9 {f:Int->Rat}:∀{l k:List Int},aaZ f (l++k)=aaZ f l+aaZ f k
 |[],k=>by grind[aaZ]
 |x::l,k=>by simp only[List.cons_append,aaZ,@ap9 f l k];grind
theorem awK {f:Int->Rat} {l k:List Int} (h:l.Perm k):aaZ f l=aaZ f k:=by
 induction h<;>grind[aaZ,swap,trans]
theorem awL:∀{n:Nat} {f:Nat->Rat},ju (n+1) f=f 0+ju n fun i=>f (i+1)
 |0,f=>by grind[ju]
 |n+1,f=>by
  rw[ju,awL]
  grind[ju]
theorem agh {f:Int->Rat}:∀{l:List Int},aaZ f l=ju l.length fun k=>f (bo l k 0)
 |[]=>rfl
 |x::l=>by
  rw[List.length_cons,awL,aaZ,agh];rfl
def Qk (n:Nat) (t:Tb) (y:Nat->Rat) (v:Int):Rat:=if v∈t.free then y (t.free.idxOf v) else t.bd (t.basic.idxOf v) - ju n fun j=>t.cf (t.basic.idxOf v) j*y j
section
variable {n m:Nat} {t t0:Tb} {r c:Nat}
theorem acr {l:List Int} {i:Nat} (h:l.Nodup) (a:i<l.length):l.idxOf (bo l i 0)=i:=by
 grind[jV]
theorem abt (h:t.WF n m) (c:(t.basic++t.free).Nodup) {y:Nat->Rat} {j:Nat} (a:j<n):Qk n t y (t.fv j)=y j:=by
 have b:j<t.free.length:=by rw[h.free];exact a
 unfold Qk Tb.fv
 rw[if_pos (by grind[jV]),acr (List.nodup_append.1 c).2.1 b]
theorem awM (h:t.WF n m) (b:(t.basic++t.free).Nodup) {i:Nat} (a:i<m):t.bv i∉t.free:=fun c=>by
 have d:i<t.basic.length:=by rw[h.basic];exact a
 grind[Tb.bv,jV]
theorem abQ (h:t.WF n m) (a:(t.basic++t.free).Nodup) {y:Nat->Rat} {i:Nat} (c:i<m):Qk n t y (t.bv i)=t.bd i - ju n fun j=>t.cf i j*y j:=by
 have b:i<t.basic.length:=by rw[h.basic];exact c
 have e:t.basic.idxOf (t.bv i)=i:=acr (List.nodup_append.1 a).1 b
 unfold Qk
 grind
theorem asg_holds (h:t.WF n m) (a:(t.basic++t.free).Nodup) {y:Nat->Rat}:t.holds n m (Qk n t y) (t.value+ju n fun j=>t.cs j*y j):=by
 have e:∀f:Nat->Rat,ju n (fun j=>f j*Qk n t y (t.fv j))=ju n fun j=>f j*y j:=fun f=>sd fun j c=>by grind[abt]
 refine⟨fun i b=>?_,?_⟩
 ·rw[abQ h a b,e]
  grind
 ·rw[e]
def zt (m:Nat) (t0:Tb) (v:Int) (i:Nat):Rat:=if i<m then(if v∈t0.free then t0.cf i (t0.free.idxOf v) else if t0.basic.idxOf v=i then 1 else 0) else 0
def ahK (m:Nat) (t0:Tb) (i:Nat):Rat:=if i<m then t0.bd i else 0
def Kr (m:Nat) (t0 t:Tb):Rat:=Qi (t.basic.map (zt m t0)) (List.range m)
structure Run (n m:Nat) (t0 t:Tb):Prop where
 wf0:t0.WF n m
 wf:t.WF n m
 nd:(t0.basic++t0.free).Nodup
 perm:(t.basic++t.free).Perm (t0.basic++t0.free)
 sol:∀x z,t.holds n m x z↔t0.holds n m x z
 dt:Kr m t0 t≠0
theorem Run.DT (h:Run n m t0 t):(t.basic++t.free).Nodup:=h.perm.symm.nodup h.nd
theorem Run.refl (h:t0.WF n m) (a:(t0.basic++t0.free).Nodup):Run n m t0 t0:=by
 refine⟨h,h,a,List.Perm.refl _,fun _ _=>Iff.rfl,?_⟩
 have e:t0.basic.map (zt m t0)=(List.range m).map ahJ:=by
  refine List.ext_getElem (by simp[h.basic]) fun i g d=>?_
  simp only[List.getElem_map,List.getElem_range]
  have f:i<m:=by simp_all
  have b:t0.basic[i]'(by simp_all)=t0.bv i:=by grind[Tb.bv,jV]
  rw[b]
  funext k
  have c:t0.basic.idxOf (t0.bv i)=i:=acr (List.nodup_append.1 a).1 (by grind)
  unfold zt ahJ
  grind
 grind[Kr,awF]
theorem Run.rows (h:Run n m t0 t) {x:Int->Rat} {z:Rat} (l:t.holds n m x z) {i:Nat}:ju m (fun k=>zt m t0 (t.bv k) i*x (t.bv k))+ju n (fun j=>zt m t0 (t.fv j) i*x (t.fv j))=ahK m t0 i:=by
 have b:∀t:Tb,t.WF n m->aaZ (fun v=>zt m t0 v i*x v) (t.basic++t.free)=ju m (fun k=>zt m t0 (t.bv k) i*x (t.bv k))+ju n (fun j=>zt m t0 (t.fv j) i*x (t.fv j)):=fun t f=>by
  rw[ap9,agh,agh,f.basic,f.free];rfl
 rw[<-b t h.wf,awK h.perm,b t0 h.wf0]
 have p:=(h.sol x z).1 l
 unfold ahK
 by_cases a:i<m
 ·rw[if_pos a,<-p.1 i a]
  congr 1
  ·have e:ju m (fun k=>zt m t0 (t0.bv k) i*x (t0.bv k))=ju m fun k=>if k=i then x (t0.bv i) else 0:=sd fun k d=>by
    have c:t0.basic.idxOf (t0.bv k)=k:=acr (List.nodup_append.1 h.nd).1 (by rw[h.wf0.basic];exact d)
    unfold zt;rw[if_pos a,if_neg (awM h.wf0 h.nd d),c]
    grind
   rw[e,agf,if_pos a]
  ·refine sd fun j g=>?_
   have o:j<t0.free.length:=by rw[h.wf0.free];exact g
   unfold zt
   rw[if_pos a,if_pos (by grind[Tb.fv,jV])]
   have c:t0.free.idxOf (t0.fv j)=j:=acr (List.nodup_append.1 h.nd).2.1 o
   rw[c]
 ·rw[if_neg a]
  have e:∀v,zt m t0 v i=0:=fun v=>by simp_all[zt,if_neg]
  simp only[e]
  grind[SK]
theorem Run.awN (h:Run n m t0 t):ahK m t0=fun i=>ju m fun k=>t.bd k*zt m t0 (t.bv k) i:=by
 funext i
 have a:=h.rows (i:=i) (asg_holds h.wf h.DT (y:=fun _=>0))
 rw[<-a,sd (n:=n) (g:=fun _=>0) fun j c=>by rw[abt h.wf h.DT c];grind,SK,sd (n:=m) (g:=fun k=>t.bd k*zt m t0 (t.bv k) i) fun k b=>by
  rw[abQ h.wf h.DT b,sd (g:=fun _=>0) fun j _=>by grind,SK]
  grind]
 grind
theorem Run.aEY (h:Run n m t0 t) {c:Nat} (a:c<n):zt m t0 (t.fv c)=fun i=>ju m fun k=>t.cf k c*zt m t0 (t.bv k) i:=by
 funext i
 have f:=congrFun h.awN i
 have b:=h.rows (i:=i) (asg_holds h.wf h.DT (y:=fun j=>if j=c then 1 else 0))
 rw[sd (n:=n) (g:=fun j=>if j=c then zt m t0 (t.fv c) i else 0) fun j e=>by
  rw[abt h.wf h.DT e]
  grind,agf,if_pos a,sd (n:=m) (g:=fun k=>t.bd k*zt m t0 (t.bv k) i+(-1)*(t.cf k c*zt m t0 (t.bv k) i)) fun k d=>by
   rw[abQ h.wf h.DT d,sd (g:=fun j=>if j=c then t.cf k c else 0) fun j _=>by
    grind,agf,if_pos a]
   grind,ajs,ajt] at b
 grind
theorem getD_map {l:List Int} {f:Int->Nat->Rat} {k:Nat} (h:k<l.length):(l.map f).getD k (fun _=>0)=f (bo l k 0):=by
 grind[jV]
theorem Run.awO (h:Run n m t0 t) {y:Nat->Rat} {r:Nat} (d:r<m):Qi ((t.basic.map (zt m t0)).set r fun i=>ju m fun k=>y k*zt m t0 (t.bv k) i) (List.range m)=y r*Kr m t0 t:=by
 have b:(t.basic.map (zt m t0)).length=m:=by rw[List.length_map,h.wf.basic]
 have a:=@aEX (t.basic.map (zt m t0)) (List.range m) y r (by omega)
 unfold Kr;rw[<-a,b]
 congr 2
 funext i
 refine sd fun k c=>?_
 rw[getD_map (by simp_all)]
 rfl
theorem Run.awP (h:Run n m t0 t) {r c:Nat} (a:r<m) (b:c<n):Qi ((t.basic.map (zt m t0)).set r (zt m t0 (t.fv c))) (List.range m)=t.cf r c*Kr m t0 t:=by
 rw[h.aEY b]
 exact h.awO (y:=fun k=>t.cf k c) a
theorem Run.aEZ (h:Run n m t0 t) {r:Nat} (a:r<m):Qi ((t.basic.map (zt m t0)).set r (ahK m t0)) (List.range m)=t.bd r*Kr m t0 t:=by
 rw[h.awN]
 exact h.awO (y:=t.bd) a
theorem set_perm {l:List Int} {r:Nat} {x:Int} (a:r<l.length):(l.set r x).Perm (x::(l.take r++l.drop (r+1))):=by
 rw[List.set_eq_take_append_cons_drop,if_pos a]
 simp_all
theorem aE0 {l:List Int} {r:Nat} (a:r<l.length):(l[r]::(l.take r++l.drop (r+1))).Perm l:=by
 have h:=@set_perm l r l[r] a
 grind
theorem swap_perm {l k:List Int} {r c:Nat} (a:r<l.length) (b:c<k.length):(l.set r (bo k c 0)++k.set c (bo l r 0)).Perm (l++k):=by
 grind[jV]
theorem Run.piv (h:Run n m t0 t) {r c:Nat} (a:r<m) (b:c<n) (d:t.cf r c≠0):Run n m t0 (zr t r c) where
 wf0:=h.wf0
 wf:=awI h.wf
 nd:=h.nd
 perm:=(swap_perm (by rw[h.wf.basic];exact a) (by rw[h.wf.free];exact b)).trans h.perm
 sol x z:=(piv_holds h.wf a b d).trans (h.sol x z)
 dt:=by
  have e:Kr m t0 (zr t r c)=t.cf r c*Kr m t0 t:=by
   rw[<-h.awP a b];unfold Kr
   congr 1
   show(t.basic.set r (t.fv c)).map (zt m t0)=_
   simp_all
  rw[e]
  have:=h.dt
  grind
theorem amf {M:Nat} (d:1<=M) (c:∀i j,i<m->j<n->uw M (t0.cf i j)) (a:t0.WF n m) {v:Int} {i:Nat}:uw M (zt m t0 v i):=by
 unfold zt;split
 ·split
  ·rename_i b e
   exact c _ _ b (by rw[<-a.free];grind)
  ·split
   ·exact⟨1,by simp,by omega⟩
   ·exact⟨0,by simp,by simp⟩
 ·exact⟨0,by simp,by simp⟩
theorem mem_set {C:List (Nat->Rat)} {r:Nat} {c d:Nat->Rat} (h:d∈C.set r c):d∈C\/d=c:=List.mem_or_eq_of_mem_set h
theorem Run.aE1 (h:Run n m t0 t) {M:Nat} (a:1<=M) (c:∀i j,i<m->j<n->uw M (t0.cf i j)):uw (aaY M m) (Kr m t0 t):=by
 have:=@ama M (t.basic.map (zt m t0)) (List.range m) (by simp[h.wf.basic]) fun d b i _=>by
  obtain⟨v,_,rfl⟩:=List.mem_map.1 b
  exact amf a c h.wf0
 rwa [List.length_range] at this
theorem Run.cfZ (h:Run n m t0 t) {M:Nat} (e:1<=M) (b:∀i j,i<m->j<n->uw M (t0.cf i j)) {r c:Nat} (f:r<m) (g:c<n):uw (aaY M m) (t.cf r c*Kr m t0 t):=by
 rw[<-h.awP f g]
 have:=@ama M ((t.basic.map (zt m t0)).set r (zt m t0 (t.fv c))) (List.range m) (by simp[h.wf.basic]) fun d a i _=>by
  rcases mem_set a with a|rfl
  ·obtain⟨v,_,rfl⟩:=List.mem_map.1 a
   exact amf e b h.wf0
  ·exact amf e b h.wf0
 simp_all
theorem Run.bdZ (h:Run n m t0 t) {M:Nat} (b:1<=M) (c:∀i j,i<m->j<n->uw M (t0.cf i j)) (f:∀i,i<m->uw M (t0.bd i)) {r:Nat} (e:r<m):uw (aaY M m) (t.bd r*Kr m t0 t):=by
 rw[<-h.aEZ e]
 have:=@ama M ((t.basic.map (zt m t0)).set r (ahK m t0)) (List.range m) (by simp[h.wf.basic]) fun d a i g=>by
  rcases mem_set a with a|rfl
  ·obtain⟨v,_,rfl⟩:=List.mem_map.1 a
   exact amf b c h.wf0
  simp_all[ahK]
 simp_all
end
structure Piv (n m:Nat) (t:Tb) (r c:Nat):Prop where
 hr:r<m
 hc:c<n
 cost:0<t.cs c
 least:∀j,j<n->0<t.cs j->t.fv c<=t.fv j
 pos:0<t.cf r c
 ratio:∀i,i<m->0<t.cf i c->t.bd r / t.cf r c<t.bd i / t.cf i c\/(t.bd r / t.cf r c=t.bd i / t.cf i c/\t.bv r<=t.bv i)
def RN (m:Nat) (t:Tb):Prop:=∀i,i<m->0<=t.bd i
section
variable {n m:Nat} {t t0:Tb} {r c:Nat}
theorem ajv (a b:Rat):a<=b\/b<a:=(Classical.em (a<=b)).imp id Rat.not_le.1
theorem div_mul {a b:Rat} (h:0<b):a / b*b=a:=by
 grind
theorem inv_pos {b:Rat} (h:0<b):0<1 / b:=by
 have c:(1 / b)*b=1:=div_mul h
 rcases ajv (1 / b) 0 with a|a
 ·exfalso
  have d:0<=(-(1 / b))*b:=Rat.mul_nonneg (by grind) (by grind)
  grind
 ·exact a
theorem awQ {a b:Rat} (c:0<=a) (h:0<b):0<=a / b:=by
 grind[Rat.mul_nonneg,inv_pos]
theorem Piv.ge (h:Piv n m t r c) (a:RN m t):0<=t.bd r / t.cf r c:=awQ (a r h.hr) h.pos
theorem Piv.ahL (h:Piv n m t r c) (k:t.WF n m) (d:RN m t):RN m (zr t r c):=by
 intro i a
 have f:=h.ge d
 have e:t.bd r*(1 / t.cf r c)=t.bd r / t.cf r c:=by grind
 rw[ame k a,e];split
 ·exact f
 ·rcases ajv (t.cf i c) 0 with b|b
  ·have j:0<=(-(t.cf i c))*(t.bd r / t.cf r c):=Rat.mul_nonneg (by grind) f
   have:=d i a
   grind
  ·have j:t.bd r / t.cf r c<=t.bd i / t.cf i c:=by
    rcases h.ratio i a b with g|g<;>grind
   have g:0<=t.cf i c*(t.bd i / t.cf i c - t.bd r / t.cf r c):=Rat.mul_nonneg (by grind) (by grind)
   grind[div_mul]
theorem Piv.value:(zr t r c).value=t.value+t.cs c*(t.bd r / t.cf r c):=by
 show t.value+t.cs c*(t.bd r*(1 / t.cf r c))=_
 grind
theorem aqa {b:Type}:∀(L:List b) (f:Nat->b),(∀k,f k∈L)->∃i j,i<j/\f i=f j
 |[],f,h=>by simp_all
 |a::L,f,h=>by
  by_cases c:∃i,f i=a
  ·obtain⟨i,g⟩:=c
   by_cases e:∃j,i<j/\f j=a
   ·grind
   ·obtain⟨x,y,d,l⟩:=aqa L (fun k=>f (k+i+1)) fun k=>by
     grind
    grind
  ·exact aqa L f fun k=>by
    simp_all
def ajw (V:List Int):Nat->List (List Int)
 |0=>[[]]
 |k+1=>(ajw V k).flatMap fun l=>V.map fun v=>v::l
theorem awR {V:List Int}:∀{l:List Int},(∀v∈l,v∈V)->l∈ajw V l.length
 |[],_=>by simp[ajw]
 |x::l,h=>by
  simp only[List.length_cons,ajw,List.mem_flatMap,List.mem_map]
  exact⟨l,awR fun v a=>h v (by simp[a]),x,h x (by simp),rfl⟩
theorem aE4 {l:List Int} {r:Nat} {x v:Int} (a:r<l.length) (b:l.Nodup):v∈l.set r x↔v=x\/(v∈l/\v≠bo l r 0):=by
 grind[set_perm,jV,aE0]
theorem awS {f:Nat->Int} {i:Nat}:∀{d:Nat},∃k,(i<=k/\k<=i+d)/\∀x,i<=x->x<=i+d->f x<=f k
 |0=>⟨i,by omega,fun x a b=>by grind⟩
 |d+1=>by
  obtain⟨k,a,b⟩:=@awS f i d
  by_cases h:f k<=f (i+(d+1))
  ·refine⟨i+(d+1),by omega,fun x c e=>?_⟩
   grind
  ·refine⟨k,by omega,fun x c e=>?_⟩
   grind
theorem awT:∀{n:Nat} {f:Nat->Rat},0<ju n f->∃j,j<n/\0<f j
 |0,f,h=>by grind[ju]
 |n+1,f,h=>by
  rcases ajv (f n) 0 with a|a
  ·obtain⟨j,c,b⟩:=@awT n f (by grind[ju])
   grind
  grind
theorem ahM (h:t.WF n m) {j:Nat} (a:j<n):t.fv j∈t.free:=by
 have b:j<t.free.length:=by rw[h.free];exact a
 grind[Tb.fv,jV]
theorem ajx (h:t.WF n m) {j:Nat} (a:j<m):t.bv j∈t.basic:=by
 have b:j<t.basic.length:=by rw[h.basic];exact a
 grind[Tb.bv,jV]
theorem ahN (h:t.WF n m) {v:Int} (b:v∈t.free):∃j,j<n/\t.fv j=v:=by
 obtain⟨j,a,rfl⟩:=List.getElem_of_mem b
 exact⟨j,by rw[<-h.free];exact a,by grind[Tb.fv,jV]⟩
theorem ahO (h:t.WF n m) {v:Int} (b:v∈t.basic):∃j,j<m/\t.bv j=v:=by
 obtain⟨j,a,rfl⟩:=List.getElem_of_mem b
 exact⟨j,by rw[<-h.basic];exact a,by grind[Tb.bv,jV]⟩
theorem aqb (c:(t.basic++t.free).Nodup) {v:Int} (a:v∈t.basic) (b:v∈t.free):False:=(List.nodup_append.1 c).2.2 _ a _ b rfl
theorem aE5 (h:t.WF n m) (c:(t.basic++t.free).Nodup) {i j:Nat} (f:i<m) (d:j<m) (e:t.bv i=t.bv j):i=j:=by
 have a:=acr (List.nodup_append.1 c).1 (show i<t.basic.length by rw[h.basic];exact f)
 have b:=acr (List.nodup_append.1 c).1 (show j<t.basic.length by rw[h.basic];exact d)
 grind[Tb.bv]
theorem aE6 (h:t.WF n m) (c:(t.basic++t.free).Nodup) {i j:Nat} (f:i<n) (d:j<n) (e:t.fv i=t.fv j):i=j:=by
 have a:=acr (List.nodup_append.1 c).2.1 (show i<t.free.length by rw[h.free];exact f)
 have b:=acr (List.nodup_append.1 c).2.1 (show j<t.free.length by rw[h.free];exact d)
 grind[Tb.fv]
theorem aE7 {T:Nat->Tb} {r c:Nat->Nat} (p:∀k,Run n m t0 (T k)) (hF:∀k,RN m (T k)) (B:∀k,Piv n m (T k) (r k) (c k)) (hT:∀k,T (k+1)=zr (T k) (r k) (c k)) {i j:Nat} (b8:i<j) (hb:(T i).basic=(T j).basic) (hf:(T i).free=(T j).free):False:=by
 have b7:(T i).value=(T j).value:=by
  have t:=((p j).sol _ _).2 (((p i).sol _ _).1 (asg_holds (p i).wf (p i).DT (y:=fun _=>0)))
  have e1:ju n (fun k=>(T i).cs k*(fun _=>(0:Rat)) k)=0:=by grind[SK]
  have e2:ju n (fun k=>(T j).cs k*Qk n (T i) (fun _=>0) ((T j).fv k))=0:=by
   rw[sd (g:=fun _=>0) fun k hk=>by
    have:(T j).fv k=(T i).fv k:=by grind[Tb.fv]
    rw[this,abt (p i).wf (p i).DT hk]
    grind,SK]
  have K:=t.2
  grind
 have L:∀k,(T k).value<=(T (k+1)).value:=fun k=>by
  rw[hT k,Piv.value]
  have:=Rat.mul_nonneg (a:=(T k).cs (c k)) (by have:=(B k).cost;grind) ((B k).ge (hF k))
  grind
 have S:∀d a,(T a).value<=(T (a+d)).value:=fun d=>by
  induction d<;>grind
 have H:∀k,i<=k->k<j->(T k).bd (r k)=0:=fun k t K=>by
  have a1:=S (k - i) i
  have a2:=S (j - (k+1)) (k+1)
  rw[show i+(k - i)=k by omega] at a1
  rw[show k+1+(j - (k+1))=j by omega] at a2
  have a3:=L k
  rw[hT k] at a2 a3;rw[Piv.value] at a2 a3
  have h3:=(B k).ge (hF k)
  have hc:=(B k).cost
  have h4:=@div_mul ((T k).bd (r k)) _ (B k).pos
  grind[Rat.mul_eq_zero]
 have b6:∀k,i<=k->k<j->∀v,v∈(T k).basic++(T k).free->Qk n (T (k+1)) (fun _=>0) v=Qk n (T k) (fun _=>0) v:=fun k t K v O=>by
  have hw:=(p k).wf
  have G:=(p (k+1)).wf
  have hx:=((p (k+1)).sol _ _).2 (((p k).sol _ _).1 (asg_holds hw (p k).DT (y:=fun _=>0)))
  have hz:∀q,q<n->Qk n (T k) (fun _=>0) ((T (k+1)).fv q)=0:=fun q s=>by
   rw[hT k,ap8 hw (B k).hc];split
   ·rw[abQ hw (p k).DT (B k).hr,H k t K,sd (g:=fun _=>0) fun j _=>by grind,SK]
    grind
   ·rw[abt hw (p k).DT s]
  have A:v∈(T (k+1)).basic++(T (k+1)).free:=((p (k+1)).perm.trans (p k).perm.symm).mem_iff.2 O
  rcases List.mem_append.1 A with A|A
  ·obtain⟨q,s,rfl⟩:=ahO G A
   have:=hx.1 q s
   rw[sd (g:=fun _=>0) fun j hj=>by simp_all,SK] at this
   rw[abQ G (p (k+1)).DT s,sd (g:=fun _=>0) fun j _=>by grind,SK]
   grind
  ·obtain⟨q,s,rfl⟩:=ahN G A
   rw[hz q s,abt G (p (k+1)).DT s]
 have w:∀a b v,v∈(T a).basic++(T a).free->v∈(T b).basic++(T b).free:=fun a b v O=>((p b).perm.trans (p a).perm.symm).mem_iff.2 O
 have W:∀d a,i<=a->a+d<=j->∀v,v∈(T a).basic++(T a).free->Qk n (T (a+d)) (fun _=>0) v=Qk n (T a) (fun _=>0) v:=fun d=>by
  induction d<;>grind
 have hA:∀a b,i<=a->a<=j->i<=b->b<=j->∀v,v∈(T a).basic++(T a).free->Qk n (T a) (fun _=>0) v=Qk n (T b) (fun _=>0) v:=fun a b t K h3 h4 v O=>by
  have e1:=W (a - i) i (by omega) (by omega) v (w _ _ v O)
  have e2:=W (b - i) i (by omega) (by omega) v (w _ _ v O)
  simp_all
 have P:∀k v,v∈(T (k+1)).basic↔v=(T k).fv (c k)\/(v∈(T k).basic/\v≠(T k).bv (r k)):=fun k v=>by
  rw[hT k]
  exact aE4 (by rw[(p k).wf.basic];exact(B k).hr) (List.nodup_append.1 (p k).DT).1
 have U:∀v a b,i<=a->a<=j->i<=b->b<=j->v∈(T a).basic->v∉(T b).basic->∃k,i<=k/\k<j/\(T k).fv (c k)=v:=fun v a b a1 a2 b1 b2 ha a9=>by
  apply Classical.byContradiction
  intro Y
  have I:∀d x,i<=x->x+d<=j->v∈(T (x+d)).basic->v∈(T x).basic:=fun d=>by
   induction d<;>grind
  have t:=I (a - i) i (by omega) (by omega) (by simp_all)
  rw[hb] at t
  exact a9 (I (j - b) b (by omega) (by omega) (by simp_all))
 obtain⟨l,⟨a6,b9⟩,a0⟩:=@awS (fun k=>(T k).fv (c k)) i (j - 1 - i)
 have J:∀x,i<=x->x<j->(T x).fv (c x)<=(T l).fv (c l):=fun x t K=>a0 x t (by omega)
 have c2:l<j:=by omega
 have a7:(T l).fv (c l)∈(T l).free:=ahM (p l).wf (B l).hc
 have c0:(T l).fv (c l)∉(T l).basic:=fun h=>aqb (p l).DT h a7
 obtain⟨o,F,Q,hl⟩:∃o,i<=o/\o<j/\(T o).bv (r o)=(T l).fv (c l):=by
  apply Classical.byContradiction
  intro Y
  have up:∀d x,i<=x->x+d<=j->(T l).fv (c l)∈(T x).basic->(T l).fv (c l)∈(T (x+d)).basic:=fun d=>by
   induction d with
   |zero=>intro x _ _ h;exact h
   |succ d ih=>
    intro x t K h
    exact(P (x+d) _).2 (.inr ⟨ih x t (by omega) h,fun e=>Y ⟨x+d,by omega,by omega,e.symm⟩⟩)
  have t:=up (j - (l+1)) (l+1) (by omega) (by omega) ((P l _).2 (.inl rfl))
  rw[show l+1+(j - (l+1))=j by omega,<-hb] at t
  have K:=up (l - i) i (by omega) (by omega) t
  simp_all
 have w1:=(p l).wf
 have C:=(p o).wf
 have n1:=(p l).DT
 have E:=(p o).DT
 have p1:=B l
 have N:=B o
 have x1:=(((p l).sol _ _).2 (((p o).sol _ _).1 (asg_holds C E (y:=fun q=>if q=c o then 1 else 0)))).2
 have x0:=(((p l).sol _ _).2 (((p o).sol _ _).1 (asg_holds C E (y:=fun _=>0)))).2
 rw[sd (f:=fun q=>(T o).cs q*(fun q=>if q=c o then(1:Rat) else 0) q) (g:=fun q=>if q=c o then(T o).cs (c o) else 0) fun q _=>by
  by_cases s:q=c o<;>grind,agf,if_pos N.hc] at x1
 rw[sd (f:=fun q=>(T o).cs q*(fun _=>(0:Rat)) q) (g:=fun _=>0) fun q _=>by grind,SK] at x0
 have hd:0<ju n fun q=>(T l).cs q*(Qk n (T o) (fun q=>if q=c o then 1 else 0) ((T l).fv q) - Qk n (T o) (fun _=>0) ((T l).fv q)):=by
  rw[sd (g:=fun q=>(T l).cs q*Qk n (T o) (fun q=>if q=c o then 1 else 0) ((T l).fv q)+(-1)*((T l).cs q*Qk n (T o) (fun _=>0) ((T l).fv q))) fun q _=>by grind,ajs,ajt]
  have:=N.cost
  grind
 obtain⟨q,s,u⟩:=awT hd
 have a5:(T l).fv q∈(T l).free:=ahM w1 s
 have Z:=w l o _ (List.mem_append_right _ a5)
 rcases List.mem_append.1 Z with a4|X
 ·obtain⟨D,z,e⟩:=ahO C a4
  rw[<-e,abQ C E z,abQ C E z,sd (f:=fun j=>(T o).cf D j*(fun q=>if q=c o then(1:Rat) else 0) j) (g:=fun j=>if j=c o then(T o).cf D (c o) else 0) (fun j _=>by
   by_cases hj:j=c o<;>grind),agf,if_pos N.hc,sd (f:=fun j=>(T o).cf D j*(fun _=>(0:Rat)) j) (g:=fun _=>0) (fun j _=>by grind),SK] at u
  have M:0<(T l).cs q*(-(T o).cf D (c o)):=by grind
  obtain⟨k3,b3,b5,h3⟩:=U _ o l F (by omega) a6 (by omega) a4 (fun h=>aqb n1 h a5)
  have b0:(T l).fv q<=(T l).fv (c l):=by grind
  rcases ajv ((T l).cs q) 0 with hs|hs
  ·have a8:0<(T o).cf D (c o):=by
    rcases ajv ((T o).cf D (c o)) 0 with h4|h4
    ·exfalso
     have:=Rat.mul_nonneg (a:= -(T l).cs q) (b:= -(T o).cf D (c o)) (by grind) (by grind)
     grind
    ·exact h4
   have b4:(T o).bd D=0:=by
    have V:=hA o l F (by omega) a6 (by omega) ((T l).fv q) Z
    rw[abt w1 n1 s,<-e,abQ C E z,sd (g:=fun _=>0) fun j _=>by grind,SK] at V
    grind
   have c1:=H o F Q
   have hz:∀b:Rat,(0:Rat) / b=0:=fun b=>by grind
   rcases N.ratio D z a8 with h6|h6
   ·simp_all
   ·have h7:(T l).fv (c l)<=(T l).fv q:=by omega
    have h8:=aE6 w1 n1 s p1.hc (by omega)
    rw[h8] at hs
    have:=p1.cost
    grind
  ·have h7:=p1.least q s hs
   have h8:D=r o:=aE5 C E z N.hr (by omega)
   rw[h8] at M
   have:=Rat.mul_nonneg (a:=(T l).cs q) (b:=(T o).cf (r o) (c o)) (by grind) (by have:=N.pos;grind)
   grind
 ·obtain⟨q2,R,e⟩:=ahN C X
  rw[<-e,abt C E R,abt C E R] at u
  by_cases V:q2=c o
  ·rw[if_pos V] at u
   have h6:=p1.least q s (by grind)
   have h7:=J o F Q
   rw[V] at e
   have h8:(T l).fv (c l)=(T o).fv (c o):=by omega
   exact aqb E (ajx C N.hr) (by grind)
  ·rw[if_neg V] at u
   grind
end
def sx (t:Tb):Nat->Int
 |0=> -1
 |k+1=>if 0<t.cs k/\(sx t k<0\/t.fv k<t.fv (sx t k).toNat) then(k:Int) else sx t k
def q9 (t:Tb) (c:Nat):Nat->Int
 |0=> -1
 |k+1=>if t.cf k c<=0 then q9 t c k
  else if 0<=q9 t c k/\(t.bd (q9 t c k).toNat / t.cf (q9 t c k).toNat c<t.bd k / t.cf k c\/(t.bd k / t.cf k c=t.bd (q9 t c k).toNat / t.cf (q9 t c k).toNat c/\t.bv (q9 t c k).toNat<t.bv k)) then q9 t c k
  else(k:Int)
section
variable {n m:Nat} {t t0:Tb} {r c:Nat}
theorem agi:∀{k:Nat},(sx t k= -1/\∀j,j<k->¬0<t.cs j)\/(∃b:Nat,sx t k=b/\b<k/\0<t.cs b/\∀j,j<k->0<t.cs j->t.fv b<=t.fv j)
 |0=> .inl ⟨rfl,fun j h=>by omega⟩
 |k+1=>by
  unfold sx
  rcases @agi k with⟨a,c⟩|⟨b,a,c,d,e⟩
  ·grind
  ·have f:(sx t k).toNat=b:=by omega
   grind
theorem agj {c:Nat}:∀{k:Nat},(q9 t c k= -1/\∀j,j<k->t.cf j c<=0)\/(∃b:Nat,q9 t c k=b/\b<k/\0<t.cf b c/\∀j,j<k->0<t.cf j c->t.bd b / t.cf b c<t.bd j / t.cf j c\/(t.bd b / t.cf b c=t.bd j / t.cf j c/\t.bv b<=t.bv j))
 |0=> .inl ⟨rfl,fun j h=>by omega⟩
 |k+1=>by
  unfold q9
  by_cases e:t.cf k c<=0
  ·rw[if_pos e]
   rcases @agj c k with⟨f,a⟩|⟨b,f,a,o,n⟩<;>grind
  ·rw[if_neg e]
   have g:0<t.cf k c:=Rat.not_le.1 e
   rcases @agj c k with⟨f,a⟩|⟨b,f,a,o,n⟩
   ·grind
   ·have i:(q9 t c k).toNat=b:=by omega
    rw[i]
    by_cases d:0<=q9 t c k/\(t.bd b / t.cf b c<t.bd k / t.cf k c\/(t.bd k / t.cf k c=t.bd b / t.cf b c/\t.bv b<t.bv k))
    ·grind
    ·rw[if_neg d]
     have l:¬t.bd b / t.cf b c<t.bd k / t.cf k c:=fun h=>d ⟨by omega,.inl h⟩
     have m:t.bd k / t.cf k c=t.bd b / t.cf b c->¬t.bv b<t.bv k:=fun h a=>d ⟨by omega,.inr ⟨h,a⟩⟩
     refine .inr ⟨k,rfl,by omega,g,fun j p q=>?_⟩
     grind
end
def stepT (n m:Nat) (t:Tb):Option Tb:=
 if sx t n<0 then none
 else if q9 t (sx t n).toNat m<0 then none
 else some (zr t (q9 t (sx t n).toNat m).toNat (sx t n).toNat)
def uy (n m:Nat):Nat->Tb->Bool
 |0,t=>(stepT n m t).isNone
 |k+1,t=>match stepT n m t with
  |none=>true
  |some a=>uy n m k a
def runT (n m:Nat):Nat->Tb->Tb
 |0,t=>t
 |k+1,t=>match stepT n m t with
  |none=>t
  |some a=>runT n m k a
def ahP (n m N:Nat) (t:Tb):Nat:=((List.range N).filter fun k=>!uy n m k t).length
section
variable {n m:Nat} {t t0 t':Tb}
theorem awU (h:stepT n m t=some t'):∃r c,Piv n m t r c/\t'=zr t r c/\sx t n=(c:Int)/\q9 t c m=(r:Int):=by
 unfold stepT at h;split at h
 ·cases h
 ·rename_i p
  split at h
  ·cases h
  ·rename_i o
   injection h with h
   rcases @agi t n with⟨b,_⟩|⟨c,b,d,e,k⟩
   ·omega
   ·have f:(sx t n).toNat=c:=by omega
    rw[f] at h o
    rcases @agj t c m with⟨a,_⟩|⟨r,a,i,j,l⟩
    ·omega
    ·have g:(q9 t c m).toNat=r:=by omega
     rw[g] at h
     exact⟨r,c,⟨i,d,e,k,j,l⟩,h.symm,b,a⟩
theorem aqc (b:Run n m t0 t) (d:RN m t) (h:stepT n m t=some t'):Run n m t0 t'/\RN m t':=by
 obtain⟨r,c,a,rfl,_⟩:=awU h
 exact⟨b.piv a.hr a.hc (by have:=a.pos;grind),a.ahL b.wf d⟩
theorem aqd:∀{k:Nat} {t:Tb},uy n m k t=true->uy n m (k+1) t=true
 |0,t,h=>by
  grind[uy]
 |k+1,t,h=>by
  unfold uy at h ⊢;split
  ·rfl
  ·rename_i b a
   rw[a] at h
   exact aqd h
theorem left_step {N:Nat} (b:uy n m N t=true) (h:stepT n m t=some t'):ahP n m N t'<ahP n m N t:=by
 unfold ahP
 have e:∀k,uy n m k t'=uy n m (k+1) t:=fun k=>by grind[uy]
 have c:uy n m 0 t=false:=by simp[uy,h]
 simp only[e]
 cases N with
 |zero=>simp_all
 |succ N=>
  have a:∀f:Nat->Bool,((List.range (N+1)).filter f).length=(if f 0 then 1 else 0)+((List.range N).filter fun k=>f (k+1)).length:=fun f=>by
   rw[List.range_succ_eq_map,List.filter_cons,List.filter_map,]
   grind[Function.comp_def]
  rw[a (fun k=>!uy n m k t),c];rw[List.range_succ,List.filter_append,List.length_append]
  simp[b]
theorem awV {N:Nat} (a:uy n m N t=true) (h:stepT n m t=some t'):uy n m N t'=true:=by
 cases N<;>grind[uy,aqd]
theorem aqe (D:Run n m t0 t) (o:RN m t):∃N,uy n m N t=true:=by
 apply Classical.byContradiction
 intro u
 have e:∀N,uy n m N t=false:=fun N=>by
  simp_all
 let T:Nat->Tb:=fun k=>Nat.rec t (fun _ s=>(stepT n m s).getD s) k
 have d:∀k,T (k+1)=(stepT n m (T k)).getD (T k):=fun k=>rfl
 have A:∀k N,uy n m N (T k)=false:=by
  intro k
  induction k with
  |zero=>exact e
  |succ k l=>
   intro N;rw[d]
   cases z:stepT n m (T k) with
   |none=>simp_all
   |some q=>
    have:=l (N+1)
    grind[uy]
 have w:∀k,stepT n m (T k)=some (T (k+1)):=fun k=>by
  rw[d]
  cases z:stepT n m (T k) with
  |none=>have:=A k 0;grind[uy]
  |some q=>rfl
 have a:∀k,Run n m t0 (T k)/\RN m (T k):=by
  intro k
  induction k with
  |zero=>exact⟨D,o⟩
  |succ k l=>grind[aqc]
 have b:∀k,∃p:Nat×Nat,Piv n m (T k) p.1 p.2/\T (k+1)=zr (T k) p.1 p.2:=fun k=>by
  obtain⟨r,c,f,E,_⟩:=awU (w k)
  exact⟨(r,c),f,E⟩
 let p:Nat->Nat×Nat:=fun k=>Classical.choose (b k)
 have h:∀k,Piv n m (T k) (p k).1 (p k).2/\T (k+1)=zr (T k) (p k).1 (p k).2:=fun k=>Classical.choose_spec (b k)
 obtain⟨i,j,g,B⟩:=aqa (ajw (t0.basic++t0.free) (m+n)) (fun k=>(T k).basic++(T k).free) fun k=>by
  have f:=@awR (t0.basic++t0.free) ((T k).basic++(T k).free) fun v C=>(a k).1.perm.mem_iff.1 C
  rwa [List.length_append,(a k).1.wf.basic,(a k).1.wf.free] at f
 obtain⟨y,x⟩:=List.append_inj B (by rw[(a i).1.wf.basic,(a j).1.wf.basic])
 exact aE7 (fun k=>(a k).1) (fun k=>(a k).2) (fun k=>(h k).1) (fun k=>(h k).2) g y x
end
open Go.Proofs.YtgejbpobaicgfaaGreat.Ir
open Go.Proofs
theorem awW (p q:Rat):(if(!(decide (p<0)==decide (q<0)))=true then -((p.num.natAbs:Int)*(q.num.natAbs:Int)) else(p.num.natAbs:Int)*(q.num.natAbs:Int))=p.num*q.num:=by
 have a:=af2 p
 have b:=af2 q
 grind
theorem awX (p q:Rat):zq (!(decide (p<0)==decide (q<0))) ((p.num.natAbs:Int)*(q.num.natAbs:Int)) ((p.den:Int)*(q.den:Int))=p*q:=by
 unfold zq
 rw[awW,show((p.den:Int)*(q.den:Int)).toNat=p.den*q.den by omega,Rat.mkRat_eq_div]
 have a:(p.num:Rat) / (p.den:Rat)=p:=by rw[<-Rat.mkRat_eq_div,Rat.mkRat_self]
 have b:(q.num:Rat) / (q.den:Rat)=q:=by rw[<-Rat.mkRat_eq_div,Rat.mkRat_self]
 grind
theorem awY {p q:Rat} (a:q≠0):zq (!(decide (p<0)==decide (q<0))) ((p.num.natAbs:Int)*(q.den:Int)) ((p.den:Int)*(q.num.natAbs:Int))=p / q:=by
 unfold zq
 rw[show((p.den:Int)*(q.num.natAbs:Int)).toNat=p.den*q.num.natAbs by omega,Rat.mkRat_eq_div]
 have k:(p.num:Rat) / (p.den:Rat)=p:=by rw[<-Rat.mkRat_eq_div,Rat.mkRat_self]
 have d:(q.num:Rat) / (q.den:Rat)=q:=by rw[<-Rat.mkRat_eq_div,Rat.mkRat_self]
 have m:(p.den:Rat)≠0:=by have:=p.den_nz;simp_all
 have o:(q.den:Rat)≠0:=by grind
 have e:=af2 p
 have g:=af2 q
 have n:(q.num:Rat)≠0:=fun h=>a (by grind)
 rw[Rat.natCast_mul]
 conv=>rhs;rw[<-k,<-d]
 have f:((p.num.natAbs:Int):Rat)=(p.num.natAbs:Rat):=Rat.intCast_natCast _
 have c:((q.num.natAbs:Int):Rat)=(q.num.natAbs:Rat):=Rat.intCast_natCast _
 have i:((q.den:Int):Rat)=(q.den:Rat):=Rat.intCast_natCast _
 have j:(p.num:Rat)=if decide (p<0)=true then -(p.num.natAbs:Rat) else(p.num.natAbs:Rat):=by
  rw[<-f];conv=>lhs;rw[e]
  split<;>grind
 have b:(q.num:Rat)=if decide (q<0)=true then -(q.num.natAbs:Rat) else(q.num.natAbs:Rat):=by
  rw[<-c];conv=>lhs;rw[g]
  split<;>grind
 have l:((if(!(decide (p<0)==decide (q<0)))=true then -((p.num.natAbs:Int)*(q.den:Int)) else(p.num.natAbs:Int)*(q.den:Int):Int):Rat)=if(!(decide (p<0)==decide (q<0)))=true then -((p.num.natAbs:Rat)*(q.den:Rat)) else(p.num.natAbs:Rat)*(q.den:Rat):=by
  split<;>grind
 grind
def amg:fN:=⟨145,fO×fO,.cons (yl sF) (.one (yl sF)),fun a=>lH a.1/\lH a.2,fun a=>frS (ja a.1*ja a.2)⟩
theorem h410:Holds Tryz.prog amg:=by
 refine lj (L:=[ahs,ahu]) amg lk (by grind[h153,h126]) ?_
 rintro⟨x,y⟩ ⟨⟨p,i,n,f,M⟩,⟨q,j,o,l,G⟩⟩
 simp only at n o
 subst n o
 refine gw (let f:=SV.row;let c:=(cJ p).snd.fst;let k:=(cJ q).snd.fst;let g:=(cJ p).snd.snd;let h:=(cJ q).snd.snd;let m:=ki (bC c*bC k);let b:=ki (bC g*bC h);let d:=cJ (zq (!(cJ p).fst==(cJ q).fst) (bC m) (bC b));let a:=bD.i .u32;let e:=cJ (ja (cJ p)*ja (cJ q));((df c/\df k)/\List.length c<=100000000000/\List.length k<=100000000000)/\((df g/\df h)/\List.length g<=100000000000/\List.length h<=100000000000)/\((df m/\df b)/\(m.length<=1000000000/\b.length<=1000000000)/\(0:Int)<bC b)/\(SV.agg [SV.sb d.fst,f a d.snd.fst,f a d.snd.snd]).same (SV.agg [SV.sb e.fst,f a e.snd.fst,f a e.snd.snd])) (by kernel_rfl) ?_
 conv=>zeta
 obtain⟨t,⟨P,_,s⟩,⟨E,_,v⟩⟩:=aaU p
 obtain⟨u,⟨J,_,z⟩,⟨I,_,A⟩⟩:=aaU q
 obtain⟨D,F⟩:=acW f
 obtain⟨O,N⟩:=acW l
 have C:=p.den_pos
 have K:=q.den_pos
 rw[s,v,z,A,t,u,tc,tc]
 have r:0<=(p.num.natAbs:Int)*(q.num.natAbs:Int):=Int.mul_nonneg (by omega) (by omega)
 have w:0<(p.den:Int)*(q.den:Int):=Int.mul_pos (by omega) (by omega)
 have H:=aam r (acX (by omega) f.1 l.1)
 have B:=aam (Int.le_of_lt w) (acX (by omega) f.2 l.2)
 grind[AO,alR,awX]
def amh:fN:=⟨169,fO×fO,.cons (yl sF) (.one (yl sF)),fun a=>(lH a.1/\lH a.2)/\ja a.2≠0,fun a=> .eW [frS (ja a.1 / ja a.2),.si .i64 0]⟩
theorem h416:Holds Tryz.prog amh:=by
 refine lj (L:=[ahs,aja]) amh lk (by grind[h153,h151]) ?_
 rintro⟨x,y⟩ ⟨⟨⟨p,i,v,f,X⟩,⟨q,j,u,m,Q⟩⟩,a⟩
 simp only at v u a
 subst v u
 refine gw (let a:=SV.row;let g:=(cJ p).snd.fst;let d:=(cJ q).snd.snd;let r:=(cJ p).snd.snd;let e:=(cJ q).snd.fst;let k:=ki (bC g*bC d);let c:=ki (bC r*bC e);let l:=cJ (zq (!(cJ p).fst==(cJ q).fst) (bC k) (bC c));let b:=bD.i .u32;let t:=[SV.si .i64 0];let o:=cJ (ja (cJ p) / ja (cJ q));((df g/\df d)/\List.length g<=100000000000/\List.length d<=100000000000)/\((df r/\df e)/\List.length r<=100000000000/\List.length e<=100000000000)/\((df k/\df c)/\(k.length<=1000000000/\c.length<=1000000000)/\(0:Int)<bC c)/\(SV.eW (SV.agg [SV.sb l.fst,a b l.snd.fst,a b l.snd.snd]::t)).same (SV.eW (SV.agg [SV.sb o.fst,a b o.snd.fst,a b o.snd.snd]::t))) (by kernel_rfl) ?_
 conv=>zeta
 rw[tc] at a
 obtain⟨E,⟨C,_,M⟩,⟨K,_,I⟩⟩:=aaU p
 obtain⟨B,⟨z,_,J⟩,⟨F,_,A⟩⟩:=aaU q
 obtain⟨V,O⟩:=acW f
 obtain⟨S,W⟩:=acW m
 have T:=p.den_pos
 have Z:=q.den_pos
 have R:q.num≠0:=fun h=>a (Rat.num_eq_zero.1 h)
 rw[M,I,J,A,E,B,tc,tc]
 have s:0<=(p.num.natAbs:Int)*(q.den:Int):=Int.mul_nonneg (by omega) (by omega)
 have n:0<(p.den:Int)*(q.num.natAbs:Int):=Int.mul_pos (by omega) (by omega)
 have Y:=aam s (acX (by omega) f.1 m.2)
 have N:=aam (Int.le_of_lt n) (acX (by omega) f.2 m.1)
 obtain⟨G,H,P⟩:=AO s
 obtain⟨w,D,U⟩:=AO (Int.le_of_lt n)
 rw[G,w,awY a]
 exact⟨⟨⟨C,F⟩,by omega,by omega⟩,⟨⟨K,z⟩,by omega,by omega⟩,⟨⟨H,D⟩,⟨by omega,by omega⟩,n⟩,rfl⟩
def aqf:fN:=⟨161,List Int,.one (qX (.i .u32)),fun a=>df (show List Int from a)/\(show List Int from a).length<=1000000000,fun a=> .sb (aeg a)⟩
theorem h414:Holds Tryz.prog aqf:=by
 refine lj (L:=[adx]) aqf lk (by grind[h152]) ?_
 rintro(a:List Int) h
 refine gw (a.length<=1000000000000/\(SV.sb (decide ((↑(eZ a).length:Int)=(↑a.length:Int)))).same (SV.sb (aeg a))) (by kernel_rfl) ?_
 simp only[vcs]
 obtain⟨f,d⟩:df a/\a.length<=1000000000:=h
 refine⟨by omega,?_⟩
 cases c:aeg a with
 |true=>
  grind[acU,ai1,ae4]
 |false=>
  refine decide_eq_false fun b=>?_
  have e:eZ a=a:=by
   unfold eZ at b ⊢;rw[List.length_take] at b
   exact List.take_of_length_le (by omega)
  grind[ady,ae4]
def aqg:fN:=⟨162,fO,.one (yl sF),fun x=>x.2.1.length<=1000000000,fun x=> .agg [.sb x.1,.sb (decide (x.2.1=[]))]⟩
theorem h415:Holds Tryz.prog aqg:=by
 refine lj (L:=[]) aqg lk (by simp) ?_
 rintro⟨s,n,d⟩ h
 refine gw (let a:=SV.sb;(SV.agg [a s,a (decide ((↑n.length:Int)=(0:Int)))]).same (SV.agg [a s,a (decide (n=[]))])) (by kernel_rfl) ?_
 have e:decide ((n.length:Int)=0)=decide (n=[]):=by
  simp_all
 rw[e];rfl
def ahQ:fN:=⟨125,fO,.one (yl sF),fun x=>(df x.2.1/\df x.2.2)/\x.2.1.length<=1000000/\x.2.2.length<=1000000,fun x=> .sb (okF x)⟩
theorem h407:Holds Tryz.prog ahQ:=by
 refine lj (L:=[aqf,aqg,alN,ahq,ahp]) ahQ lk (by grind[h414,h415,h165g,h128,h132]) ?_
 rintro⟨s,n,d⟩ ⟨⟨m,f⟩,j,k⟩
 refine gw (let a:=SV.bl false;let b:=(0:Int);let c:=(1:Int);let l:=SV.sb (okF (s,n,d));let w:=decide ((↑d.length:Int)=b);let x:=s==true&&(decide (n=[])==true&&true);let p:=ki (sr (bC n) (bC d));let t:=ki c;(df n/\n.length<=1000000000)/\((!aeg n)=true->(a).same l)/\((!aeg n)=false->(df d/\d.length<=1000000000)/\((!aeg d)=true->(a).same l)/\((!aeg d)=false->(w=true->(a).same l)/\(w=false->n.length<=1000000000/\(x=true->(a).same l)/\(x=false->((df n/\df d)/\n.length<=1000000000/\d.length<=1000000000)/\(b<=c/\c<(18446744073709551616:Int))/\((df p/\df t)/\p.length<=1000000000000/\t.length<=1000000000000)/\(SV.sb (decide (YC (bC p) (bC t)=b))).same l))))) (by kernel_rfl) ?_
 simp only[vcs]
 have m:df n:=m
 have f:df d:=f
 have j:n.length<=1000000:=j
 have k:d.length<=1000000:=k
 have c:¬(zp n/\zp d/\d≠[])->false=okF (s,n,d):=fun h=>by
  grind[aDI]
 have e:∀{a:List Int},((a.length:Nat):Int)=0->a=[]:=fun h=>List.eq_nil_of_length_eq_zero (by omega)
 have b:∀{a:List Int},¬((a.length:Nat):Int)=0->a≠[]:=fun h i=>h (by rw[i];rfl)
 refine⟨⟨m,by omega⟩,fun u=>c fun h=>?_,fun u=>⟨⟨f,by omega⟩,fun i=>c fun h=>?_,fun i=>⟨fun o=>c fun h=>h.2.2 (e o),fun o=>⟨by omega,fun C=>?_,fun C=>?_⟩⟩⟩⟩
 ·grind[ae4]
 ·grind[ae4]
 all_goals
  have E:=okF_eq (s:=s) m f (ae4.1 u) (ae4.1 i) (b o)
  have D:=apr f (ae4.1 i) (b o)
  have J:=@avH (bC n) (bC d) D
  obtain⟨H,v,A⟩:=AO (show 0<=sr (bC n) (bC d) by omega)
  obtain⟨B,G,I⟩:=AO (show(0:Int)<=1 by omega)
  have y:sr (bC n) (bC d)<=bC d:=by
   unfold sr
   have:=Nat.gcd_le_right (bC n).toNat (show 0<(bC d).toNat by omega)
   omega
  rw[E]
 ·simp_all
 ·have F:=apq v f A (by omega)
  refine⟨⟨⟨m,f⟩,by omega,by omega⟩,by omega,⟨⟨v,G⟩,by omega,by decide⟩,?_⟩
  rw[H,B]
  have r:(YC (sr (bC n) (bC d)) 1=0)=(sr (bC n) (bC d)=1):=by
   grind[YC]
  simp only[r]
  by_cases g:n=[]
  ·rw[if_pos g]
   have z:s=false:=by
    simp_all
   have q:sr (bC n) (bC d)=bC d:=by
    rw[g];unfold sr;simp[bC];omega
   rw[q,z,Bool.not_false,Bool.true_and,decide_eq_decide]
   constructor
   ·intro h
    rw[<-ai1 f (ae4.1 i),h];rfl
   ·intro h
    rw[h];rfl
  ·rw[if_neg g]
theorem ajy {p q:Rat} {i j:Nat} (b:Sz i p) (a:Sz j q):Sz (i+j) (p*q):=by
 rw[<-awX];unfold zq;rw[awW]
 have c:=p.den_pos
 have d:=q.den_pos
 have e:0<(p.den:Int)*(q.den:Int):=Int.mul_pos (by omega) (by omega)
 refine ai9 (by omega) ?_ ?_
 ·rw[Int.natAbs_mul,Int.natCast_mul]
  exact acX (by omega) b.1 a.1
 ·rw[Int.toNat_of_nonneg (by omega)]
  exact acX (by omega) b.2 a.2
theorem aqh {p q:Rat} {i j:Nat} (c:Sz i p) (b:Sz j q) (d:q≠0):Sz (i+j) (p / q):=by
 rw[<-awY d];unfold zq
 have e:=p.den_pos
 have f:=q.den_pos
 have l:q.num≠0:=fun h=>d (Rat.num_eq_zero.1 h)
 have k:0<(p.den:Int)*(q.num.natAbs:Int):=Int.mul_pos (by omega) (by omega)
 have g:=acX (a:=(p.num.natAbs:Int)) (by omega) c.1 b.2
 refine ai9 (by omega) ?_ ?_
 ·grind
 ·rw[Int.toNat_of_nonneg (by omega)]
  exact acX (by omega) c.2 b.1
theorem aE8 {p q:Rat}:0<Kp p q↔q<p:=by
 grind[Kp]
theorem aE9 {p q:Rat}:Kp p q=0↔p=q:=by
 grind[Kp]
theorem aFa {p q:Rat}:Kp p q<0↔p<q:=by
 unfold Kp;split
 ·rename_i h;exact⟨fun _=>h,fun _=>by omega⟩
 ·rename_i h
  split
  ·exact⟨fun h2=>by omega,fun h2=>absurd h2 h⟩
  ·exact⟨fun h2=>by omega,fun h2=>absurd h2 h⟩
def fL (l:List Rat):List fO:=l.map cJ
def fM (l:List (List Rat)):List (List fO):=l.map fL
def vL (l:List fO):List Rat:=l.map ja
theorem Zb (l:List Rat):vL (fL l)=l:=by
 unfold vL fL;rw[List.map_map]
 conv=>rhs;rw[<-List.map_id l]
 exact List.map_congr_left fun q _=>tc q
theorem RP (x:fO):(x.1,x.2.1,x.2.2)=x:=rfl
theorem zx {l:List Rat}:(fL l).length=l.length:=List.length_map _
theorem aqi {l:List (List Rat)}:(fM l).length=l.length:=List.length_map _
theorem KE {l:List Rat} {i:Nat} (h:i<l.length) {d:fO}:bo (fL l) i d=cJ (bo l i 0):=by
 grind[jV,fL]
theorem aqj {l:List (List Rat)} {i:Nat} (h:i<l.length) {d:List fO}:bo (fM l) i d=fL (bo l i []):=by
 grind[jV,fM]
structure aa1 where
 n:Int
 m:Int
 k0:Nat
 k1:Nat
 k3:Nat
 k4:Nat
 iP:List (List fO)
 bound:List fO
 cost:List fO
 v:fO
 basic:List Int
 free:List Int
def aa1.BE (x:aa1):ie:=
 [.cells [.si .i64 x.n,.si .i64 x.m,.ow 1 x.k0 1,.ow 2 x.k1 3,.row sF x.cost,.sb x.v.1,.row (.i .u32) x.v.2.1,.row (.i .u32) x.v.2.2,.ow 3 x.k3 1,.ow 4 x.k4 1] 179 10 false,
  .row (.fa sF) x.iP 72 false,.row sF x.bound 70 false,.row (.i .i64) x.basic 3 false,.row (.i .i64) x.free 3 false]
def ami:ie->Option aa1
 |[.cells [a,b,.ow 1 k 1,.ow 2 r 3,c,m,h,p,.ow 3 s 1,.ow 4 n 1] 179 10 false,.row q g 72 false,.row j e 70 false,.row o d 3 false,.row l f 3 false]=>
  match a.int .i64,b.int .i64,J6 sF c,Kx sF [m,h,p] with
  |some a,some b,some c,some v=>match Hj q (.fa sF) g,Hj j sF e,Hj o (.i .i64) d,Hj l (.i .i64) f with
   |some g,some e,some d,some f=>some ⟨a,b,k,r,s,n,g,e,c,v,d,f⟩
   |_,_,_,_=>none
  |_,_,_,_=>none
 |_=>none
theorem aFb {o:ie} {x:aa1} (h:ami o=some x):gO o=gO x.BE:=by
 unfold ami at h;split at h
 ·split at h
  ·rename_i p l c e
   split at h
   ·rename_i n j k m
    simp only[Option.some.injEq] at h;subst h
    obtain⟨rfl,f⟩:=aaJ n
    obtain⟨rfl,b⟩:=aaJ j
    obtain⟨rfl,d⟩:=aaJ k
    obtain⟨rfl,i⟩:=aaJ m
    cases f;cases b;cases d;cases i
    have a:=aaK e
    simp only[List.map_cons,List.map_nil,qd,qb,List.cons.injEq,and_true,List.nil_append,List.cons_append] at a;simp only[aa1.BE,gO,List.map_cons,List.map_nil,cC.g,gL,EG p,EG l,abH c,SV.g];simp only[a];rfl
   ·cases h
  ·cases h
 ·cases h
theorem abR {s:bD} {a b:List s.T} (h:jY s a=jY s b):a=b:=by
 by_cases d:s.sz=0
 ·exact absurd d (by
   have:∀s:bD,0<s.sz:=fun s=>by
    induction s<;>simp only[bD.sz]<;>omega
   grind)
 ·have c:=congrArg List.length h
  rw[xl,xl] at c
  exact Yg s (Nat.eq_of_mul_eq_mul_right (by omega) c) h
theorem aFc {x y:aa1} (h:gO x.BE=gO y.BE):x=y:=by
 obtain⟨n,m,B,M,G,J,c,b,g,⟨I,K,F⟩,D,C⟩:=x
 obtain⟨H,L,a,p,r,l,N,E,A,⟨k,w,q⟩,j,u⟩:=y
 simp only[aa1.BE,gO,List.map_cons,List.map_nil,cC.g,gL,SV.g,List.cons.injEq,fZ.cells.injEq,and_true,true_and,AV.sc.injEq,Value.int.injEq,Value.bool.injEq,AV.os.injEq,AV.sl.injEq] at h
 obtain⟨⟨rfl,rfl,⟨rfl,_⟩,⟨rfl,_⟩,⟨_,d⟩,rfl,⟨_,v⟩,⟨_,e⟩,⟨rfl,_⟩,⟨rfl,_⟩⟩,f,t,o,z⟩:=h
 rw[abR (s:=sF) d,abR (s:=.i .u32) v,abR (s:=.i .u32) e,abR (s:=.fa sF) f,abR (s:=sF) t,abR (s:=.i .i64) o,abR (s:=.i .i64) z]
abbrev eK (n m:Int) (t:Tb):aa1:=⟨n,m,t.iP.length,t.bound.length,t.basic.length,t.free.length,fM t.iP,fL t.bound,fL t.cost,cJ t.value,t.basic,t.free⟩
def aa1.t (x:aa1):Tb:=⟨x.iP.map vL,vL x.bound,vL x.cost,ja x.v,x.basic,x.free⟩
theorem aem {n m:Int} {t:Tb}:(eK n m t).t=t:=by
 have e:(fM t.iP).map vL=t.iP:=by
  unfold fM;rw[List.map_map]
  conv=>rhs;rw[<-List.map_id t.iP]
  exact List.map_congr_left fun q _=>Zb q
 simp_all[aa1.t,Zb,tc]
theorem aFd (x:aa1):(⟨x.n,x.m,x.k0,x.k1,x.k3,x.k4,x.iP,x.bound,x.cost,(x.v.1,x.v.2.1,x.v.2.2),x.basic,x.free⟩:aa1)=x:=rfl
theorem awZ {n m:Int} {t:Tb}:(eK n m t).n=n:=rfl
theorem aw0 {n m:Int} {t:Tb}:(eK n m t).m=m:=rfl
def szT (k:Nat) (t:Tb):Prop:=(∀l∈t.iP,∀q∈l,Sz k q)/\(∀q∈t.bound,Sz k q)/\(∀q∈t.cost,Sz k q)/\Sz k t.value
def SQ (n m:Int) (t:Tb):Prop:=((0<=n/\n<=1000)/\(0<=m/\m<=1000))/\t.WF n.toNat m.toNat/\szT 1000000 t
def ae9 (f:FuncId) (c:Type) (A:adq c) (i:Int->Int->Tb->c->Prop) (e:Int->Int->Tb->c->SV) (out:Int->Int->Tb->c->Tb):ob where
 f:=f
 α:=aa1×c
 put a:=.ptr 0 0 10::A.put a.2
 st a:=a.1.BE
 dec v o:=match v with
  | .ptr 0 0 10::r=>match ami o,A.dec r with
   |some s,some b=>some (s,b)
   |_,_=>none
  |_=>none
 ok v o a h:=by
  split at h
  ·split at h
   ·rename_i d g
    simp only[Option.some.injEq] at h;subst h
    exact⟨by simp only[gL,A.ok _ _ g],aFb d⟩
   ·cases h
  ·cases h
 inj a b d g:=by
  simp only[gL,List.cons.injEq,true_and] at d
  exact Prod.ext (aFc g) (A.inj _ _ d)
 dom a:=∃n m t,a.1=eK n m t/\SQ n m t/\i n m t a.2
 res a:=e a.1.n a.1.m a.1.t a.2
 out a:=(eK a.1.n a.1.m (out a.1.n a.1.m a.1.t a.2)).BE
theorem se {q:Rat} {k:Nat} (h:Sz k q) (a:k<=100000000):lH (cJ q):=⟨q,k,rfl,h,a⟩
section
variable {n m:Int} {t:Tb}
theorem SQ.cf (h:SQ n m t) {i j:Nat} (a:i<m.toNat) (c:j<n.toNat):Sz 1000000 (t.cf i j):=by
 have b:=nA (l:=t.iP) (d:=[]) (show i<t.iP.length by rw[h.2.1.iP];exact a)
 exact h.2.2.1 _ b _ (nA (by rw[h.2.1.row i a];exact c))
theorem SQ.bd (h:SQ n m t) {i:Nat} (a:i<m.toNat):Sz 1000000 (t.bd i):=h.2.2.2.1 _ (nA (by rw[h.2.1.bound];exact a))
theorem SQ.cs (h:SQ n m t) {j:Nat} (a:j<n.toNat):Sz 1000000 (t.cs j):=h.2.2.2.2.1 _ (nA (by rw[h.2.1.cost];exact a))
end
theorem ahR {q:Rat}:0<SH q↔0<q:=by
 grind[SH]
theorem aw1 {q:Rat}:SH q=0↔q=0:=by
 grind[SH]
theorem aqk {q:Rat}:SH q<0↔q<0:=by
 grind[SH]
def aql:ob:=ae9 146 Unit .nil (fun _ _ _ _=>True) (fun n _ t _=> .si .i64 (sx t n.toNat)) (fun _ _ t _=>t)
def aFe (n m:Int) (t:Tb):Nat->jW
 |3=> .inv Int (fun j=>⟨[(0,.ptr 0 0 10),(3,.si .i64 (sx t j.toNat)),(9,.ow 4 t.free.length 1),(10,.si .i64 t.free.length),(11,.si .i64 j)],(eK n m t).BE⟩)
   (fun s=>iS s 11) (fun j=>0<=j/\j<=n) (fun j=>(n - j).toNat) fun _ _=> .look
 |_=> .look
theorem h411:qH Tryz.prog aql:=by
 refine SD (L:=[r99]) (W:=[]) aql (fun a=>aFe a.1.n a.1.m a.1.t) (by simp) (by grind[h99]) ?_
 rintro⟨x,u⟩ ⟨n,m,t,T,B, -⟩
 simp only at T
 subst T
 refine gw (let a:=SV.si .i64;let j:=(0:Int);let k:=cC.row;let B:=SV.ow;let K:=SV.row;let w:=SV.ptr 0 0 10;let y:=(eK n m t).t;let S:=B 4 (eK n m t).k4 1;let D:=y.free.length;let F:=B 4 D 1;let z:=a (↑D:Int);let o:=(eK n m t).n;let O:=bD.i .u32;let b:=eK o (eK n m t).m y;let s:=cC.cells [a b.n,a b.m,B 1 b.k0 1,B 2 b.k1 3,K sF b.cost,SV.sb b.v.fst,K O b.v.snd.fst,K O b.v.snd.snd,B 3 b.k3 1,B 4 b.k4 1] 179 10 false;let g:=k sF.fa b.iP 72 false;let h:=k sF b.bound 70 false;let q:=bD.i .i64;let f:=k q b.basic 3 false;let e:=k q b.free 3 false;let d:=b.free.length;(((w.same w/\(SV.il .i64 (-1:Int)).same (a (sx y 0))/\S.same F/\(a (↑(eK n m t).k4:Int)).same z/\(SV.il .i64 0).same (a 0)/\True)/\(cC.cells [a o,a (eK n m t).m,B 1 (eK n m t).k0 1,B 2 (eK n m t).k1 3,K sF (eK n m t).cost,SV.sb (eK n m t).v.fst,K O (eK n m t).v.snd.fst,K O (eK n m t).v.snd.snd,B 3 (eK n m t).k3 1,S] 179 10 false).same s/\(k sF.fa (eK n m t).iP 72 false).same g/\(k sF (eK n m t).bound 70 false).same h/\(k q (eK n m t).basic 3 false).same f/\(k q (eK n m t).free 3 false).same e/\True)/\j<=j/\j<=o)/\∀(x:Int),let c:=x+(1:Int);let l:=sx y x.toNat;let M:=a l;let N:=a (sx y c.toNat);let p:=a c;let r:=bo b.cost x.toNat sF.dflt;let I:=(r.fst,r.snd.fst,r.snd.snd);let G:=decide (x<(↑D:Int));let E:=decide (l<j);let H:=decide (bo b.free x.toNat j<bo b.free l.toNat j);let A:=iR .i64 c/\((w.same w/\M.same N/\F.same F/\z.same z/\p.same p/\True)/\s.same s/\g.same g/\h.same h/\f.same f/\e.same e/\True)/\(j<=c/\c<=o)/\(o - c).toNat<(o - x).toNat;let C:=iR .i64 c/\((w.same w/\(a x).same N/\F.same F/\z.same z/\p.same p/\True)/\s.same s/\g.same g/\h.same h/\f.same f/\e.same e/\True)/\(j<=c/\c<=o)/\(o - c).toNat<(o - x).toNat;let J:=fun(u:Bool) ↦decide (j<SH (ja I))=u;j<=x/\x<=o->(G=true->D=d/\j<=x/\x<(↑d:Int)/\D=d/\x.toNat<d/\j<=x/\x<(↑b.cost.length:Int)/\x.toNat<b.cost.length/\lH I/\(J true->(E=true->C)/\(E=false->b.k4=d/\j<=l/\l<(↑d:Int)/\b.k4=d/\l.toNat<d/\(H=true->C)/\(H=false->A)))/\(J false->A))/\(G=false->M.same (a (sx y o.toNat))/\s.same s/\g.same g/\h.same h/\f.same f/\e.same e/\True)) (by kernel_rfl) ?_
 simp only[aem]
 try simp only[eK]
 simp only[vcs]
 obtain⟨⟨⟨n0,n1⟩,m0,m1⟩,P,hz⟩:=id B
 have Z:=P.free
 have a0:=P.cost
 have V:=@zx t.cost
 refine⟨⟨rfl,by omega,by omega⟩,?_⟩
 rintro j ⟨Q,j1⟩
 have U:sx t (j+1).toNat=if 0<t.cs j.toNat/\(sx t j.toNat<0\/t.fv j.toNat<t.fv (sx t j.toNat).toNat) then(j.toNat:Int) else sx t j.toNat:=by
  rw[show(j+1).toNat=j.toNat+1 by omega]
  rfl
 have hb:sx t j.toNat<j.toNat:=by
  grind[agi]
 refine⟨fun R=>?_,fun R=>by grind⟩
 have hc:bo (fL t.cost) j.toNat sF.dflt=cJ (t.cs j.toNat):=KE (by omega)
 simp only[hc,RP,tc,decide_eq_true_eq,decide_eq_false_iff_not,ahR]
 have K:∀k:Nat,bo t.free k 0=t.fv k:=fun k=>rfl
 rw[K,K,U]
 refine⟨Q,R,by omega,Q,by omega,by omega,se (B.cs (by omega)) (by omega),fun hp=>⟨fun Y=>?_,fun Y=>⟨by omega,by omega,by omega,fun X=>?_,fun X=>?_⟩⟩,fun hp=>?_⟩
 all_goals grind
def aa2 (t:Tb) (c k:Nat):fO:=if q9 t c k<0 then(false,([],[])) else cJ (t.bd (q9 t c k).toNat / t.cf (q9 t c k).toNat c)
def aqm:ob:=ae9 147 Int (.one (sj .i64)) (fun n _ _ c=>0<=c/\c<n) (fun _ m t c=> .si .i64 (q9 t c.toNat m.toNat)) (fun _ _ t _=>t)
def aFf (n m:Int) (t:Tb) (c:Int):Nat->jW
 |4=> .inv Int (fun i=>⟨[(0,.ptr 0 0 10),(1,.si .i64 c),(5,.si .i64 (q9 t c.toNat i.toNat)),(6,.ptr 5 0 3),(15,.ow 1 t.iP.length 1),(16,.si .i64 t.iP.length),(17,.si .i64 i)],(eK n m t).BE++[.cells [.sb (aa2 t c.toNat i.toNat).1,.row (.i .u32) (aa2 t c.toNat i.toNat).2.1,.row (.i .u32) (aa2 t c.toNat i.toNat).2.2] 70 3 false,.dead,.dead]⟩)
   (fun s=>iS s 17) (fun i=>0<=i/\i<=m) (fun i=>(m - i).toNat) fun _ _=> .look
 |_=> .look
theorem h412:qH Tryz.prog aqm:=by
 refine SD (L:=[r99,r97,amh]) (W:=[]) aqm (fun a=>aFf a.1.n a.1.m a.1.t a.2) (by simp) (by grind[h99,h97,h416]) ?_
 rintro⟨x,c⟩ ⟨n,m,t,hx,D,hd⟩
 simp only at hx hd
 subst hx
 refine gw (let a:=SV.si .i64;let b:=(0:Int);let h:=SV.row;let j:=cC.cells;let k:=cC.row;let q:=SV.ow;let y:=SV.sb;let V:=SV.ptr 0 0 10;let G:=(eK n m t).t;let X:=SV.ptr 5 0 3;let M:=q 1 (eK n m t).k0 1;let D:=G.iP.length;let J:=q 1 D 1;let L:=a (↑D:Int);let E:=(eK n m t).m;let s:=bD.i .u32;let d:=eK (eK n m t).n E G;let o:=j [a d.n,a d.m,q 1 d.k0 1,q 2 d.k1 3,h sF d.cost,y d.v.fst,h s d.v.snd.fst,h s d.v.snd.snd,q 3 d.k3 1,q 4 d.k4 1] 179 10 false;let B:=d.iP;let g:=k sF.fa B 72 false;let C:=d.bound;let r:=k sF C 70 false;let H:=bD.i .i64;let l:=k H d.basic 3 false;let p:=k H d.free 3 false;let N:=aa2 G c.toNat 0;let c4:=sF.fa.dflt;let f:=d.basic.length;0=0/\0=0/\(((V.same V/\(a c).same (a c)/\(SV.il .i64 (-1:Int)).same (a (q9 G c.toNat 0))/\X.same X/\M.same J/\(a (↑(eK n m t).k0:Int)).same L/\(SV.il .i64 0).same (a 0)/\True)/\(j [a (eK n m t).n,a E,M,q 2 (eK n m t).k1 3,h sF (eK n m t).cost,y (eK n m t).v.fst,h s (eK n m t).v.snd.fst,h s (eK n m t).v.snd.snd,q 3 (eK n m t).k3 1,q 4 (eK n m t).k4 1] 179 10 false).same o/\(k sF.fa (eK n m t).iP 72 false).same g/\(k sF (eK n m t).bound 70 false).same r/\(k H (eK n m t).basic 3 false).same l/\(k H (eK n m t).free 3 false).same p/\(j [SV.bl false,h s [],h s []] 70 3 false).same (j [y N.fst,h s N.snd.fst,h s N.snd.snd] 70 3 false)/\cC.dead.same cC.dead/\cC.dead.same cC.dead/\True)/\b<=b/\b<=E)/\∀(x:Int),let e:=x+(1:Int);let b6:=a (q9 G c.toNat e.toNat);let I:=a e;let O:=bo C x.toNat sF.dflt;let b5:=(O.fst,O.snd.fst,O.snd.snd);let F:=bo B x.toNat c4;let U:=bo F c.toNat sF.dflt;let K:=(U.fst,U.snd.fst,U.snd.snd);let w:=cJ (ja b5 / ja K);let T:=aa2 G c.toNat e.toNat;let Z:=j [y T.fst,h s T.snd.fst,h s T.snd.snd] 70 3 false;let z:=q9 G c.toNat x.toNat;let a3:=a z;let A:=aa2 G c.toNat x.toNat;let a5:=(w.fst,w.snd.fst,w.snd.snd);let b1:=(A.fst,A.snd.fst,A.snd.snd);let b2:=Kp (ja a5) (ja b1);let a2:=decide (x<(↑D:Int));let a7:=decide (b<=z);let b8:=decide (bo d.basic z.toNat b<bo d.basic x.toNat b);let P:=iR .i64 e/\((V.same V/\(a c).same (a c)/\(a x).same b6/\X.same X/\J.same J/\L.same L/\I.same I/\True)/\o.same o/\g.same g/\r.same r/\l.same l/\p.same p/\(j [y w.fst,h s w.snd.fst,h s w.snd.snd] 70 3 false).same Z/\cC.dead.same cC.dead/\cC.dead.same cC.dead/\True)/\(b<=e/\e<=E)/\(E - e).toNat<(E - x).toNat;let S:=iR .i64 e/\((V.same V/\(a c).same (a c)/\a3.same b6/\X.same X/\J.same J/\L.same L/\I.same I/\True)/\o.same o/\g.same g/\r.same r/\l.same l/\p.same p/\(j [y A.fst,h s A.snd.fst,h s A.snd.snd] 70 3 false).same Z/\cC.dead.same cC.dead/\cC.dead.same cC.dead/\True)/\(b<=e/\e<=E)/\(E - e).toNat<(E - x).toNat;let a4:=lH K;let b4:=fun(u:Bool) ↦decide (b<b2)=u;let b0:=fun(u:Bool) ↦decide (b2=b)=u;let Y:=fun(u:Bool) ↦decide (SH (ja K)<=b)=u;b<=x/\x<=E->(a2=true->D=B.length/\b<=x/\x<(↑B.length:Int)/\D=B.length/\x.toNat<B.length/\b<=c/\c<(↑F.length:Int)/\c.toNat<F.length/\a4/\(Y true->S)/\(Y false->d.k1=C.length/\b<=x/\x<(↑C.length:Int)/\d.k1=C.length/\x.toNat<C.length/\b<=c/\c<(↑F.length:Int)/\c.toNat<F.length/\((lH b5/\a4)/\ja K≠(0:Rat))/\(a7=true->(lH a5/\lH b1)/\(b4 true->S)/\(b4 false->(b0 true->d.k3=f/\b<=x/\x<(↑f:Int)/\d.k3=f/\x.toNat<f/\d.k3=f/\b<=z/\z<(↑f:Int)/\d.k3=f/\z.toNat<f/\(b8=true->S)/\(b8=false->P))/\(b0 false->P)))/\(a7=false->P)))/\(a2=false->a3.same (a (q9 G c.toNat E.toNat))/\o.same o/\g.same g/\r.same r/\l.same l/\p.same p/\True)) (by kernel_rfl) ?_
 simp only[aem]
 try simp only[eK]
 simp only[vcs]
 obtain⟨⟨⟨n0,n1⟩,m0,m1⟩,hw,hz⟩:=id D
 have c9:=hw.iP
 have a0:=hw.bound
 have d2:=hw.basic
 have c8:=@aqi t.iP
 have d7:=@zx t.bound
 have c0:∀{x y:fO},x=y->(cC.cells [SV.sb x.1,SV.row (bD.i IntKind.u32) x.2.1,SV.row (bD.i IntKind.u32) x.2.2] 70 3 false).same (cC.cells [SV.sb y.1,SV.row (bD.i IntKind.u32) y.2.1,SV.row (bD.i IntKind.u32) y.2.2] 70 3 false):=by rintro _ _ rfl;rfl
 have c1:aa2 t c.toNat 0=(false,([],[])):=rfl
 refine⟨⟨⟨rfl,by rw[c1];rfl⟩,by omega,by omega⟩,?_⟩
 rintro i ⟨i0,i1⟩
 refine⟨fun hi=>?_,fun hi=>by grind⟩
 have R:i.toNat<m.toNat:=by omega
 have a8:bo (fM t.iP) i.toNat sF.fa.dflt=fL (bo t.iP i.toNat []):=aqj (by omega)
 have d6:=hw.row i.toNat R
 have d1:=@zx (bo t.iP i.toNat [])
 have hA:bo (fL (bo t.iP i.toNat [])) c.toNat sF.dflt=cJ (t.cf i.toNat c.toNat):=KE (by omega)
 have hB:bo (fL t.bound) i.toNat sF.dflt=cJ (t.bd i.toNat):=KE (by omega)
 have c3:∀k:Nat,bo t.basic k 0=t.bv k:=fun k=>rfl
 have Q:=D.cf (i:=i.toNat) (j:=c.toNat) R (by omega)
 have b3:=D.bd (i:=i.toNat) R
 have hs:q9 t c.toNat (i+1).toNat=if t.cf i.toNat c.toNat<=0 then q9 t c.toNat i.toNat
  else if 0<=q9 t c.toNat i.toNat/\(t.bd (q9 t c.toNat i.toNat).toNat / t.cf (q9 t c.toNat i.toNat).toNat c.toNat<t.bd i.toNat / t.cf i.toNat c.toNat\/(t.bd i.toNat / t.cf i.toNat c.toNat=t.bd (q9 t c.toNat i.toNat).toNat / t.cf (q9 t c.toNat i.toNat).toNat c.toNat/\t.bv (q9 t c.toNat i.toNat).toNat<t.bv i.toNat)) then q9 t c.toNat i.toNat
  else(i.toNat:Int):=by
  rw[show(i+1).toNat=i.toNat+1 by omega]
  rfl
 have d5:q9 t c.toNat i.toNat<i.toNat:=by
  grind[agj]
 have d4:0<=q9 t c.toNat i.toNat->0<t.cf (q9 t c.toNat i.toNat).toNat c.toNat:=fun h=>by
  rcases @agj t c.toNat i.toNat with⟨h2,_⟩|⟨b,h2,a1,hp,_⟩<;>simp_all
 have M:∀q:Rat,SH q<=0↔q<=0:=fun q=>by
  have:=@ahR q
  grind
 simp only[a8,hA,hB,RP,tc,c3,M,aE8,aE9]
 have a6:0<=q9 t c.toNat i.toNat->aa2 t c.toNat i.toNat=cJ (t.bd (q9 t c.toNat i.toNat).toNat / t.cf (q9 t c.toNat i.toNat).toNat c.toNat):=fun h=>by
  simp_all[aa2,if_neg]
 have c6:(0<=i+1/\i+1<=m)/\(m - (i+1)).toNat<(m - i).toNat:=by omega
 have c5:q9 t c.toNat (i+1).toNat=q9 t c.toNat i.toNat->aa2 t c.toNat i.toNat=aa2 t c.toNat (i+1).toNat:=fun h=>by
  unfold aa2;rw[h]
 have c7:q9 t c.toNat (i+1).toNat=(i.toNat:Int)->cJ (t.bd i.toNat / t.cf i.toNat c.toNat)=aa2 t c.toNat (i+1).toNat:=fun h=>by
  unfold aa2
  grind
 have a9:0<t.cf i.toNat c.toNat->t.cf i.toNat c.toNat≠0:=fun h=>by grind
 refine⟨by omega,i0,by omega,by omega,by omega,hd.1,by omega,by omega,se Q (by omega),fun d0=>?_,fun b7=>?_⟩
 ·grind
 ·have hp:0<t.cf i.toNat c.toNat:=Rat.not_le.1 b7
  rw[if_neg b7] at hs
  have J:=aqh b3 Q (a9 hp)
  refine⟨by omega,i0,by omega,by omega,by omega,hd.1,by omega,by omega,⟨⟨se b3 (by omega),se Q (by omega)⟩,a9 hp⟩,fun h0=>?_,fun h0=>?_⟩
  ·have hl:=a6 h0
   have d3:=aqh (D.bd (i:=(q9 t c.toNat i.toNat).toNat) (by omega)) (D.cf (i:=(q9 t c.toNat i.toNat).toNat) (j:=c.toNat) (by omega) (by omega)) (by grind)
   have b9:ja (aa2 t c.toNat i.toNat)=t.bd (q9 t c.toNat i.toNat).toNat / t.cf (q9 t c.toNat i.toNat).toNat c.toNat:=by rw[hl,tc]
   simp only[b9]
   refine⟨⟨se J (by omega),by grind[se]⟩,fun a1=>?_,fun a1=>⟨fun c2=>⟨i0,by omega,by omega,h0,by omega,by omega,fun a0=>?_,fun a0=>?_⟩,fun c2=>?_⟩⟩
   ·grind
   all_goals grind
  grind
def HZ (t0:Tb) (v:Int):Rat:=if v∈t0.free then t0.cs (t0.free.idxOf v) else 0
section
variable {n m:Nat} {t t0:Tb}
theorem Run.goal (h:Run n m t0 t) {x:Int->Rat} {z:Rat} (d:t.holds n m x z):z=t0.value+(ju m (fun k=>HZ t0 (t.bv k)*x (t.bv k))+ju n (fun j=>HZ t0 (t.fv j)*x (t.fv j))):=by
 have a:∀t:Tb,t.WF n m->aaZ (fun v=>HZ t0 v*x v) (t.basic++t.free)=ju m (fun k=>HZ t0 (t.bv k)*x (t.bv k))+ju n (fun j=>HZ t0 (t.fv j)*x (t.fv j)):=fun t c=>by
  rw[ap9,agh,agh,c.basic,c.free];rfl
 rw[<-a t h.wf,awK h.perm,a t0 h.wf0]
 rw[sd (n:=m) (g:=fun _=>0) fun k e=>by
  unfold HZ;rw[if_neg (awM h.wf0 h.nd e)]
  grind,SK]
 rw[sd (n:=n) (g:=fun j=>t0.cs j*x (t0.fv j)) fun j b=>by
  have i:j<t0.free.length:=by rw[h.wf0.free];exact b
  unfold HZ;rw[if_pos (ahM h.wf0 b),show t0.free.idxOf (t0.fv j)=j from acr (List.nodup_append.1 h.nd).2.1 i]]
 have f:=(((h.sol _ _).1 d).2)
 rw[f]
 grind
theorem Run.val (h:Run n m t0 t):t.value=t0.value+ju m fun k=>HZ t0 (t.bv k)*t.bd k:=by
 have a:=h.goal (asg_holds h.wf h.DT (y:=fun _=>0))
 rw[sd (n:=n) (f:=fun j=>t.cs j*(fun _=>(0:Rat)) j) (g:=fun _=>0) fun j _=>by grind,SK] at a
 rw[sd (n:=n) (f:=fun j=>HZ t0 (t.fv j)*Qk n t (fun _=>0) (t.fv j)) (g:=fun _=>0) fun j c=>by rw[abt h.wf h.DT c];grind,SK] at a
 rw[sd (n:=m) (g:=fun k=>HZ t0 (t.bv k)*t.bd k) fun k b=>by
  rw[abQ h.wf h.DT b,sd (g:=fun _=>0) fun j _=>by grind,SK]
  grind] at a
 grind
theorem ajz {n c:Nat} {q:Rat} (d:c<n):ju n (fun j=>if j=c then q else 0)=q:=by
 induction n with
 |zero=>omega
 |succ n b=>
  unfold ju
  by_cases h:c=n
  ·subst h
   rw[if_pos rfl,sd (g:=fun _=>0) fun j a=>by grind,SK]
   grind
  grind
theorem aw2 {f g:Nat->Rat}:∀{n:Nat},ju n (fun j=>f j - g j)=ju n f - ju n g
 |0=>by grind[ju]
 |n+1=>by simp only[ju,@aw2 f g n];grind
theorem Run.aFg (h:Run n m t0 t) {c:Nat} (b:c<n):t.cs c=HZ t0 (t.fv c) - ju m fun k=>HZ t0 (t.bv k)*t.cf k c:=by
 have a:=h.goal (asg_holds h.wf h.DT (y:=fun j=>if j=c then 1 else 0))
 rw[sd (n:=n) (f:=fun j=>t.cs j*(if j=c then(1:Rat) else 0)) (g:=fun j=>if j=c then t.cs c else 0) fun j _=>by
  grind,ajz b] at a
 rw[sd (n:=n) (f:=fun j=>HZ t0 (t.fv j)*Qk n t (fun j=>if j=c then 1 else 0) (t.fv j)) (g:=fun j=>if j=c then HZ t0 (t.fv c) else 0) fun j e=>by
  rw[abt h.wf h.DT e]
  grind,ajz b] at a
 rw[sd (n:=m) (g:=fun k=>HZ t0 (t.bv k)*t.bd k - HZ t0 (t.bv k)*t.cf k c) fun k d=>by
  rw[abQ h.wf h.DT d,sd (g:=fun j=>if j=c then t.cf k c else 0) fun j _=>by
   grind,ajz b]
  grind,aw2,h.val] at a
 grind
end
theorem aqn {M K:Nat} {p q:Rat} (e:uw M p) (f:uw K q):uw (M*K) (p*q):=by
 obtain⟨a,rfl,d⟩:=e
 obtain⟨b,rfl,c⟩:=f
 exact⟨a*b,by simp_all,by rw[Int.natAbs_mul];exact Nat.mul_le_mul d c⟩
theorem aw3 {M K:Nat} {p q:Rat} (d:uw M p) (c:uw K q):uw (M+K) (p+q):=by
 obtain⟨a,rfl,f⟩:=d
 obtain⟨b,rfl,e⟩:=c
 exact⟨a+b,by simp_all,by omega⟩
theorem aFh {M:Nat} {p:Rat} (b:uw M p):uw M (-p):=by
 obtain⟨a,rfl,c⟩:=b
 exact⟨-a,by simp_all,by omega⟩
theorem aw4 {M:Nat}:uw M 0:=⟨0,rfl,by simp⟩
theorem uw.le {M K:Nat} {p:Rat} (b:uw M p) (h:M<=K):uw K p:=by
 obtain⟨a,rfl,c⟩:=b
 exact⟨a,rfl,by omega⟩
theorem aqo {M:Nat} {f:Nat->Rat}:∀{n:Nat},(∀k,k<n->uw M (f k))->uw (n*M) (ju n f)
 |0,_=>by grind[ju,aw4]
 |n+1,h=>by
  have a:=aw3 (@aqo M f n fun k b=>h k (by omega)) (h n (by omega))
  grind[ju]
theorem aqp {f:Nat->Rat} {d:Rat}:∀{n:Nat},ju n f*d=ju n fun k=>f k*d
 |0=>by grind[ju]
 |n+1=>by
  have:=@aqp f d n
  grind[ju]
theorem aFi {X k:Nat} {q D:Rat} (f:uw X (q*D)) (c:uw X D) (g:D≠0) (o:X<4294967296^k):Sz k q:=by
 obtain⟨a,p,l⟩:=f
 obtain⟨d,rfl,m⟩:=c
 have b:d≠0:=fun h=>g (by subst h;rfl)
 have n:((4294967296^k:Nat):Int)=(4294967296:Int)^k:=by
  simp_all
 have i:(X:Int)<4294967296^k:=by
  omega
 have e:q=mkRat (a*d.sign) d.natAbs:=by
  have f:mkRat (a*d.sign) d.natAbs=((a*d.sign:Int):Rat) / ((d.natAbs:Int):Rat):=by
   rw[Rat.mkRat_eq_div];rfl
  have c:((d.natAbs:Int):Rat)=(d:Rat)*(d.sign:Rat):=by
   rw[<-Rat.intCast_mul]
   simp_all
  have j:(d.sign:Rat)*(d.sign:Rat)=1:=by
   rw[<-Rat.intCast_mul]
   rcases Int.lt_or_lt_of_ne b with h|h
   ·rw[Int.sign_eq_neg_one_of_neg h];rfl
   grind
  grind
 rw[e]
 refine ai9 (by omega) ?_ (by omega)
 grind
structure Small (n m M G:Nat) (t0:Tb):Prop where
 wf:t0.WF n m
 nd:(t0.basic++t0.free).Nodup
 cf:∀i j,i<m->j<n->uw M (t0.cf i j)
 bd:∀i,i<m->uw M (t0.bd i)
 cs:∀j,j<n->uw G (t0.cs j)
 v:t0.value=0
 M1:1<=M
 G1:M<=G
 X:(m+2)*(G*aaY M m)<4294967296^1000
theorem aFj {a b c:Nat} (h:1<=a) (d:1<=b):c<=a*(b*c):=by
 have e:1*(1*c)<=a*(b*c):=Nat.mul_le_mul h (Nat.mul_le_mul d (Nat.le_refl _))
 omega
theorem Small.goal {n m M G:Nat} {t0:Tb} (h:Small n m M G t0) {v:Int}:uw G (HZ t0 v):=by
 unfold HZ;split
 ·rename_i a
  exact h.cs _ (by rw[<-h.wf.free];grind)
 ·exact aw4
theorem Small.sz1 {n m M G:Nat} {t0 t:Tb} (h:Small n m M G t0) (a:Run n m t0 t):(∀i,i<m->Sz 1000 (t.bd i))/\(∀j,j<n->Sz 1000 (t.cs j))/\Sz 1000 t.value/\∀i j,i<m->j<n->Sz 1000 (t.cf i j):=by
 have y:=a.aE1 h.M1 h.cf
 have A:=h.X
 have B:1<=G:=Nat.le_trans h.M1 h.G1
 have u:aaY M m<=(m+2)*(G*aaY M m):=aFj (by omega) B
 have l:∀{q:Rat},uw ((m+2)*(G*aaY M m)) (q*Kr m t0 t)->Sz 1000 q:=fun z=>aFi z (y.le u) a.dt A
 have d:∀r c,r<m->c<n->uw (aaY M m) (t.cf r c*Kr m t0 t):=fun r c o d=>a.cfZ h.M1 h.cf o d
 have x:∀r,r<m->uw (aaY M m) (t.bd r*Kr m t0 t):=fun r o=>a.bdZ h.M1 h.cf h.bd o
 refine⟨fun i w=>l ((x i w).le u),fun j b=>l ?_,l ?_,fun i j w b=>l ((d i j w b).le u)⟩
 ·have e:=a.aFg b
  have p:t.cs j*Kr m t0 t=HZ t0 (t.fv j)*Kr m t0 t+ -(ju m fun k=>HZ t0 (t.bv k)*(t.cf k j*Kr m t0 t)):=by
   rw[e,sd (f:=fun k=>HZ t0 (t.bv k)*(t.cf k j*Kr m t0 t)) (g:=fun k=>(HZ t0 (t.bv k)*t.cf k j)*Kr m t0 t) fun k _=>by grind,<-aqp]
   grind
  rw[p]
  refine(aw3 (aqn h.goal y) (aFh (aqo fun k s=>aqn h.goal (d k j s b)))).le ?_
  grind
 ·have p:t.value*Kr m t0 t=ju m fun k=>HZ t0 (t.bv k)*(t.bd k*Kr m t0 t):=by
   rw[a.val,h.v,sd (f:=fun k=>HZ t0 (t.bv k)*(t.bd k*Kr m t0 t)) (g:=fun k=>(HZ t0 (t.bv k)*t.bd k)*Kr m t0 t) fun k _=>by grind,<-aqp]
   grind
  rw[p]
  refine(aqo fun k s=>aqn h.goal (x k s)).le ?_
  grind
theorem Small.szT {n m M G:Nat} {t0 t:Tb} (h:Small n m M G t0) (b:Run n m t0 t):szT 1000000 t:=by
 obtain⟨g,r,k,o⟩:=h.sz1 b
 have e:∀{f:Type} {l:List f} {P:f->Prop} {d:f},(∀i,i<l.length->P (bo l i d))->∀q∈l,P q:=fun h q p=>by
  obtain⟨i,a,rfl⟩:=List.getElem_of_mem p
  grind[jV]
 refine⟨e (d:=[]) fun i a=>?_,e (d:=0) fun i a=>?_,e (d:=0) fun j c=>?_,k.mono (by omega)⟩
 ·rw[b.wf.iP] at a
  refine e (d:=0) fun j c=>?_
  rw[b.wf.row i a] at c
  exact(o i j a c).mono (by omega)
 ·rw[b.wf.bound] at a
  exact(g i a).mono (by omega)
 ·rw[b.wf.cost] at c
  exact(r j c).mono (by omega)
theorem aw6 {n m:Int} {M G:Nat} {t0 t:Tb} (h:Small n.toNat m.toNat M G t0) (a:Run n.toNat m.toNat t0 t) (c:0<=n/\n<=1000) (b:0<=m/\m<=1000):SQ n m t:=⟨⟨c,b⟩,a.wf,h.szT a⟩
section
variable {n m:Nat} {t t0:Tb}
theorem aw7:∀{N:Nat} {t:Tb},Run n m t0 t->RN m t->Run n m t0 (runT n m N t)/\RN m (runT n m N t)
 |0,t,b,a=>⟨b,a⟩
 |N+1,t,b,a=>by
  unfold runT;split
  ·simp_all
  ·rename_i d c
   have:=aqc b a c
   exact aw7 this.1 this.2
theorem run_end:∀{N:Nat} {t:Tb},uy n m N t=true->stepT n m (runT n m N t)=none
 |0,t,h=>Option.isNone_iff_eq_none.1 h
 |N+1,t,h=>by
  unfold uy at h;unfold runT;split
  ·assumption
  ·rename_i b a
   rw[a] at h
   exact run_end h
theorem aw8:∀{N K:Nat} {t:Tb},uy n m N t=true->N<=K->runT n m K t=runT n m N t
 |0,K,t,h,b=>by
  have d:=Option.isNone_iff_eq_none.1 h
  cases K<;>grind[runT]
 |N+1,K,t,h,b=>by
  obtain⟨K,rfl⟩:∃k,K=k+1:=⟨K - 1,by omega⟩
  unfold uy at h;unfold runT;split
  ·rfl
  ·rename_i c a
   rw[a] at h
   exact aw8 h (by omega)
theorem aw9 {f:Nat->Rat}:∀{n:Nat},(∀k,k<n->f k<=0)->ju n f<=0
 |0,_=>by grind[ju]
 |n+1,h=>by
  have a:=@aw9 f n fun k b=>h k (by omega)
  grind[ju]
theorem axa {a b:Rat} (d:a<=0) (c:0<=b):a*b<=0:=by
 have:=Rat.mul_nonneg (a:= -a) (b:=b) (by grind) c
 grind
theorem Run.best (h:Run n m t0 t) (d:sx t n<0) {x:Int->Rat} {z:Rat} (a:t0.holds n m x z) (b:∀j,j<n->0<=x (t.fv j)):z<=t.value:=by
 have c:=(((h.sol _ _).2 a).2)
 grind[agi,aw9,axa]
theorem Run.bnd (h:Run n m t0 t) (q:RN m t) {B:Rat} (F:∀x z,t0.holds n m x z->(∀v∈t0.basic++t0.free,0<=x v)->z<=B) {c:Nat} (I:sx t n=(c:Int)) (H:q9 t c m<0):False:=by
 rcases @agi t n with⟨C,d⟩|⟨a,C,d,f,G⟩
 ·omega
 ·have A:a=c:=by omega
  subst A
  rcases @agj t a m with⟨D,w⟩|⟨r,D,_⟩
  ·
   have k:∀s:Rat,0<=s->t.value+s*t.cs a<=B:=fun s o=>by
    have p:=asg_holds h.wf h.DT (y:=fun j=>if j=a then s else 0)
    have e:ju n (fun j=>t.cs j*(fun j=>if j=a then s else 0) j)=s*t.cs a:=by
     rw[sd (g:=fun j=>if j=a then s*t.cs a else 0) fun j _=>by
      grind,ajz d]
    rw[e] at p
    refine F _ _ ((h.sol _ _).1 p) fun v b=>?_
    rw[<-h.perm.mem_iff,List.mem_append] at b
    rcases b with b|b
    ·obtain⟨i,l,rfl⟩:=ahO h.wf b
     rw[abQ h.wf h.DT l]
     have f:ju n (fun j=>t.cf i j*(if j=a then s else 0))=t.cf i a*s:=by
      rw[sd (g:=fun j=>if j=a then t.cf i a*s else 0) fun j _=>by
       grind,ajz d]
     rw[f]
     have:=axa (w i l) o
     have:=q i l
     grind
    ·obtain⟨j,E,rfl⟩:=ahN h.wf b
     rw[abt h.wf h.DT E]
     grind
   have u:=k 0 (by grind)
   have o:0<=(B - t.value+1) / t.cs a:=awQ (by grind) f
   grind[div_mul]
  ·omega
end
end Go.Vi
