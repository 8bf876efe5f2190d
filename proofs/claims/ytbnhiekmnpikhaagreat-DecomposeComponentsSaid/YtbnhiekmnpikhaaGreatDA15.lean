/-
  Contracts: joining the parts, equality of rows.
  Conditions: none.
-/
import Derived.Test.YtbnhiekmnpikhaaGreatDA06
import Derived.Test.YtbnhiekmnpikhaaGreatDA08
import Derived.Test.YtbnhiekmnpikhaaGreatDA11
import Derived.Test.YtbnhiekmnpikhaaGreatDA14
import Derived.Test.YtbnhiekmnpikhaaGreatDA07
import Derived.Test.YtbnhiekmnpikhaaGreatDA09
import Derived.Test.YtbnhiekmnpikhaaGreatDA12
import Derived.Test.YtbnhiekmnpikhaaGreatDA13
set_option maxRecDepth 100000
set_option maxHeartbeats 4000000
set_option linter.all false
open Classical renaming not_not->γf
open Go.Vi.SV renaming si->γg,bl->δf,sb->γx,row->Ω,il->γA,ow->γZ,ptr->γP,agg->γQ
open List renaming length->γc,length_map->Ξ,map_append->γa,append_assoc->γO,take_length->ψ,map_take->ζA,mem_cons_self->γX,mem_cons_of_mem->γy,take->Δ,replicate->δ
open Nat renaming le_refl->ν,le_trans->δS
namespace Go.Vi
open Go.Proofs.YtbnhiekmnpikhaaGreat.Ir
open Go.Proofs
def MQ:bM:=⟨36,List Int×List Int,.cons (dL (.i .i64)) (.one (dL (.i .i64))),λa=>a.1.length<=1000000/\a.2.length<=1000000,λa=> .sb (decide (a.1=a.2))⟩
def ahM (x y:List Int):Nat->cC
 |4=> .inv Int (λi=>⟨[(0,.row (.i .i64) x),(1,.row (.i .i64) y),(12,.si .i64 x.length),(13,.si .i64 i)],[]⟩)
   (λs=>iS s 13) (λi=>(0<=i/\i<=x.length)/\∀k:Nat,(k:Int)<i->bj x k 0=bj y k 0) (λi=>(x.length - i).toNat) λ_ _=> .look
 |_=> .look
theorem h564:Holds Tryz.prog MQ:=by
 refine cH (L:=[]) MQ (λa=>ahM a.1 a.2) (by simp) ?_;rintro⟨x,y⟩ ⟨t,z⟩;simp only at t z;refine bQ (let a:=(0:Int);let e:=γg .i64;let h:=δf false;let o:=(↑x.length:Int);let q:=decide (o≠(↑y.length:Int));let j:=γx (decide (x=y));let f:=Ω (bp.i .i64) x;let g:=Ω (bp.i .i64) y;let c:=(↑x.length:Int);let l:=e c;(q=true->(h).same j)/\(q=false->(((f.same f/\g.same g/\(e o).same l/\(γA .i64 0).same (e 0)/\True)/\True)/\(a<=a/\a<=c)/\∀(k:Nat),(↑k:Int)<a->bj x k a=bj y k a)/\∀(b:Int),let p:=decide (bj x b.toNat a≠bj y b.toNat a);let d:=b+(1:Int);let s:=e d;((a<=b/\b<=c)/\∀(k:Nat),(↑k:Int)<b->bj x k a=bj y k a)->(decide (b<c)=true->a<=b/\b<o/\b.toNat<x.length/\a<=b/\b<(↑y.length:Int)/\b.toNat<y.length/\(p=true->(h).same j)/\(p=false->cq .i64 d/\((f.same f/\g.same g/\l.same l/\s.same s/\True)/\True)/\((a<=d/\d<=c)/\∀(k:Nat),(↑k:Int)<d->bj x k a=bj y k a)/\(c - d).toNat<(c - b).toNat))/\(decide (b<c)=false->(δf true).same j))) (by kernel_rfl) ?_;simp only[vcs];refine⟨λh=>(decide_eq_false λe=>h (by rw[e])).symm,λh=>⟨⟨by omega,λk w=>by omega⟩,?_⟩⟩;rintro i ⟨⟨r,D⟩,w⟩;refine⟨λn=>⟨r,n,by omega,r,by omega,by omega,λm=>(decide_eq_false λe=>m (by rw[e])).symm,λB=>⟨by omega,⟨by omega,λk u=>?_⟩,by omega⟩⟩,λv=>?_⟩;·grind
 ·refine(decide_eq_true (List.ext_getElem (by omega) λk A C=>?_)).symm;grind[cV]
@[reducible] def dA:bp:=.pair (.bD (.i .i64)) (.pair (.i .i64) (.bD (.pair (.i .i64) (.pair (.i .i64) (.pair (.i .i64) (.pair (.i .i64) (.bD (.pair .b (.pair (.bD (.i .u32)) (.bD (.i .u32)))))))))))
def gd (l:List (List Int)) (r:List dA.T) (n:Nat):List Int:=(cG n).flatMap λi=>qX (bj l i.toNat []) (bj r i.toNat dA.dflt).1
def iG (r:List dA.T) (n:Nat):Int:=((r.take n).map λx=>x.2.1).sum
def lL (l:List (List Int)) (r:List dA.T) (i j:Int):List Int:=gd l r i.toNat++qX (bj l i.toNat []) ((bj r i.toNat dA.dflt).1.take j.toNat)
def FG:bM:=⟨34,List (List Int)×List dA.T,.cons (dL (.bD (.i .i64))) (.one (dL dA)),λa=>(a.2.length<=a.1.length/\a.1.length<=1000)/\(∀n:Nat,n<=a.2.length->(gd a.1 a.2 n).length<=100000/\ -9000000000000000000<=iG a.2 n/\iG a.2 n<=9000000000000000000)/\∀i:Nat,i<a.2.length->∀k∈(bj a.2 i dA.dflt).1,0<=k/\k<(bj a.1 i []).length,
 λa=>nA.put ⟨dZ (gd a.1 a.2 a.2.length),iG a.2 a.2.length⟩⟩
def ahN (l:List (List Int)) (r:List dA.T):Nat->cC
 |3=> .inv Int (λi=>⟨[(0,.row (.bD (.i .i64)) l),(4,.ptr 0 0 2),(5,.ptr 1 0 2),(10,.row dA r),(11,.si .i64 r.length),(12,.si .i64 i)],[.cells [.sc (.slice none 0 0),.il .i64 0] 40 2 false,.cells [.ow 2 (gd l r i.toNat).length 1,.si .i64 (iG r i.toNat)] 40 2 false,.row (.i .i64) (gd l r i.toNat) 3 true]⟩)
   (λs=>iS s 12) (λi=>0<=i/\i<=r.length) (λi=>(r.length - i).toNat) λi=>λ
   |7=> .inv Int (λj=>⟨[(0,.row (.bD (.i .i64)) l),(4,.ptr 0 0 2),(5,.ptr 1 0 2),(6,.si .i64 i),(10,.row dA r),(11,.si .i64 r.length),(12,.si .i64 i),(26,.row (.i .i64) (bj r i.toNat dA.dflt).1),(27,.si .i64 (bj r i.toNat dA.dflt).1.length),(28,.si .i64 j)],
      [.cells [.sc (.slice none 0 0),.il .i64 0] 40 2 false,.cells [.ow 2 (lL l r i j).length 1,.si .i64 (iG r (i+1).toNat)] 40 2 false,.row (.i .i64) (lL l r i j) 3 true,.cells [.row (.i .i64) (bj r i.toNat dA.dflt).1,.si .i64 (bj r i.toNat dA.dflt).2.1,.row (.pair (.i .i64) (.pair (.i .i64) (.pair (.i .i64) (.pair (.i .i64) (.bD (.pair .b (.pair (.bD (.i .u32)) (.bD (.i .u32))))))))) (bj r i.toNat dA.dflt).2.2] 51 3 false]⟩)
     (λs=>iS s 28) (λj=>0<=j/\j<=(bj r i.toNat dA.dflt).1.length) (λj=>((bj r i.toNat dA.dflt).1.length - j).toNat) λ_ _=> .look
   |_=> .look
 |_=> .look
theorem h563:Holds Tryz.prog FG:=by
 refine con (L:=[]) (W:=gP [VM]) FG (λa=>ahN a.1 a.2) (lg (by grind[h337e])) (by simp) ?_;rintro⟨l,r⟩ ⟨⟨h1,h2⟩,Y,h4⟩;simp only at h1 h2 Y h4;refine bQ (let a:=γg .i64;let d:=(0:Int);let j:=Ω;let k:=bq.cells;let s:=bq.row;let u:=γZ;let v:=cq .i64;let c:=bp.i .i64;let F:=γP 0 0 2;let D:=γP 1 0 2;let t:=(↑r.length:Int);let E:=a t;let X:=γA .i64 0;let C:=k [SV.sc (Value.slice none 0 0),X] 40 2 false;let y:=(bp.i .u32).bD;let G:=c.pair (c.pair (c.pair (c.pair (bp.b.pair (y.pair y)).bD)));((((j c.bD l).same (j c.bD l)/\F.same F/\D.same D/\(j dA r).same (j dA r)/\E.same E/\X.same (a 0)/\True)/\C.same C/\(k [u 2 0 1,X] 40 2 false).same (k [u 2 (gd l r 0).length 1,a (iG r 0)] 40 2 false)/\(s c [] 3 true).same (s c (gd l r 0) 3 true)/\True)/\d<=d/\d<=t)/\∀(x:Int),let J:=bj r x.toNat dA.dflt;let M:=iG r x.toNat+J.snd.fst;let o:=j c J.fst;let f:=(↑(γc J.fst):Int);let z:=a f;let q:=gd l r x.toNat;let p:=q.length;let O:=lL l r x d;let g:=x+(1:Int);let n:=[a (iG r g.toNat)];let A:=k [o,a J.snd.fst,j G J.snd.snd] 51 3 false;let H:=bj l x.toNat c.bD.dflt;let P:=a g;d<=x/\x<=t->(decide (x<t)=true->d<=x/\x<t/\x.toNat<r.length/\v M/\((((j c.bD l).same (j c.bD l)/\F.same F/\D.same D/\(a x).same (a x)/\(j dA r).same (j dA r)/\E.same E/\(a x).same (a x)/\o.same o/\z.same z/\X.same (a 0)/\True)/\C.same C/\(k [u 2 p 1,a M] 40 2 false).same (k (u 2 O.length 1::n) 40 2 false)/\(s c q 3 true).same (s c O 3 true)/\A.same A/\True)/\d<=d/\d<=f)/\∀(e:Int),let w:=bj J.fst e.toNat d;let m:=lL l r x e;let V:=m.length+1;let h:=e+(1:Int);let B:=a x;let Q:=a h;let S:=m++[bj H w.toNat d];d<=e/\e<=f->(decide (e<f)=true->d<=e/\e<f/\e.toNat<γc J.fst/\d<=x/\x<(↑l.length:Int)/\x.toNat<l.length/\d<=w/\w<(↑H.length:Int)/\w.toNat<H.length/\1=1/\m.length=m.length/\V*8<=140737488355328/\V<=1000000000000/\v h/\(((j c.bD l).same (j c.bD l)/\F.same F/\D.same D/\B.same B/\(j dA r).same (j dA r)/\E.same E/\B.same B/\o.same o/\z.same z/\Q.same Q/\True)/\C.same C/\(k (u 2 S.length 1::n) 40 2 false).same (k (u 2 (lL l r x h).length 1::n) 40 2 false)/\(s c S 3 true).same (s c (lL l r x h) 3 true)/\A.same A/\True)/\(d<=h/\h<=f)/\(f - h).toNat<(f - e).toNat)/\(decide (e<f)=false->v g/\(((j c.bD l).same (j c.bD l)/\F.same F/\D.same D/\(j dA r).same (j dA r)/\E.same E/\P.same P/\True)/\C.same C/\(k (u 2 m.length 1::n) 40 2 false).same (k (u 2 (gd l r g.toNat).length 1::n) 40 2 false)/\(s c m 3 true).same (s c (gd l r g.toNat) 3 true)/\True)/\(d<=g/\g<=t)/\(t - g).toNat<(t - x).toNat))/\(decide (x<t)=false->(p=p/\p<=1000000)/\p=(dZ q).length/\(γQ [j c (dZ q),a (iG r x.toNat)]).same (γQ [j c (dZ (gd l r r.length)),a (iG r r.length)]))) (by kernel_rfl) ?_;simp only[vcs];have k:∀{a b:Nat} {v u:Int},a=b->v=u->(bq.cells [γZ 2 a 1,γg .i64 v] 40 2 false).same (bq.cells [γZ 2 b 1,γg .i64 u] 40 2 false):=by rintro _ _ _ _ rfl rfl;rfl
 have I:∀{x y:List Int},x=y->(bq.row (.i .i64) x 3 true).same (bq.row (.i .i64) y 3 true):=by rintro _ _ rfl;rfl
 refine⟨⟨⟨rfl,rfl⟩,by omega⟩,?_⟩;rintro i ⟨i0,i1⟩;refine⟨λa0=>?_,λa3=>?_⟩
 ·have hc:=Y i.toNat (by omega);have a5:=Y (i+1).toNat (by omega);have hv:iG r (i+1).toNat=iG r i.toNat+(bj r i.toNat dA.dflt).2.1:=by
   grind[iG,jZ]
  have K:gd l r (i+1).toNat=gd l r i.toNat++qX (bj l i.toNat []) (bj r i.toNat dA.dflt).1:=by
   grind[gd,pX]
  have U:lL l r i 0=gd l r i.toNat:=by simp[lL,qX]
  have hk:=h4 i.toNat (by omega);have a4:γc (bj r i.toNat dA.dflt).1<=100000:=by
   grind[qX]
  have a1:∀j:Int,(lL l r i j).length<=100000:=λj=>by
   have h5:(lL l r i j).length<=(gd l r (i+1).toNat).length:=by
    rw[K];unfold lL qX;simp only[List.length_append,Ξ,List.length_take];omega
   omega
  refine⟨i0,a0,by omega,by omega,⟨⟨k (by rw[U]) hv.symm,I U.symm⟩,by omega,by omega⟩,?_⟩;rintro j ⟨j0,j1⟩;refine⟨λG=>?_,λa2=>?_⟩
  ·have s:=hk (bj (bj r i.toNat dA.dflt).1 j.toNat 0) (dq (by omega));have Z:lL l r i j++[bj (bj l i.toNat []) (bj (bj r i.toNat dA.dflt).1 j.toNat 0).toNat 0]=lL l r i (j+1):=by
    unfold lL qX;rw[jZ (d:=(0:Int)) j0 G,γa,γO];rfl
   have a6:=a1 j;have T:(bj (bj r i.toNat dA.dflt).1 j.toNat 0).toNat<(bj l i.toNat []).length:=by
    exact(Int.toNat_lt s.1).2 s.2
   have N:lL l r i j++[bj (bj l i.toNat (bp.i IntKind.i64).bD.dflt) (bj (bj r i.toNat dA.dflt).1 j.toNat 0).toNat 0]=lL l r i (j+1):=Z;rw[N];refine⟨j0,G,?_,i0,?_,?_,s.1,s.2,T,?_,?_,?_,⟨k rfl rfl,I rfl⟩,?_,?_⟩<;>omega
  ·have R:lL l r i j=gd l r (i+1).toNat:=by
    rw[K];unfold lL;rw[show j.toNat=(bj r i.toNat dA.dflt).1.length by omega,ψ]
   exact⟨by omega,⟨k (by rw[R]) rfl,I R⟩,by omega,by omega⟩
 ·rw[show i.toNat=r.length by omega];have:=(Y r.length (ν _)).1;exact⟨by omega,(rN).symm,rfl⟩
def zi:bM:=⟨12,bn,.one dO,λp=>bz p≠0\/p.offers.length<=60,λp=> .bI [.row (.bD (.i .i64)) (if bz p=0 then cz p else[]),.si .i64 (bz p)]⟩
theorem h552:Holds Tryz.prog zi:=by
 refine cH (L:=[po,MP]) zi lk (by grind[h79,h560]) ?_;rintro(p:bn) (e:bz p≠0\/p.offers.length<=60);refine bQ (let e:=(0:Int);let f:=Ω;let g:=SV.bI;let b:=decide (bz p≠e);let d:=[γg .i64 (bz p)];let c:=(bp.i .i64).bD;let a:=g (f c (if bz p=e then cz p else[])::d);True/\(b=true->(g (f (bp.i .i64) []::d)).same a)/\(b=false->(bz p=e/\p.offers.length<=60)/\(g [f c (cz p),γA .i64 0]).same a)) (by kernel_rfl) ?_;simp only[vcs];refine⟨λh=>?_,λh=>?_⟩
 ·rw[if_neg h];rfl
 simp_all
noncomputable def zj (p:bn) (c:List Int):dA.T:=((cB (fK p c)).chosen,(cB (fK p c)).value,qU (fK p c))
noncomputable def eF (p:bn):List dA.T:=(cz p).map (zj p)
noncomputable def jC (p:bn):List Int:=dZ (gd (cz p) (eF p) (eF p).length)
noncomputable def jV (p:bn):Int:=iG (eF p) (eF p).length
def MR (p:bn):Prop:=bz p≠0\/(p.offers.length<=60/\∀c∈cz p,c.length<=15)
noncomputable def MS:bM:=⟨19,bn,.one dO,MR,
 λp=> .bI [.agg [.row (.i .i64) (if bz p=0 then jC p else[]),.si .i64 (if bz p=0 then jV p else 0),.row dA (if bz p=0 then eF p else[])],.si .i64 (bz p)]⟩
theorem V9 {p:bn}:∀{n:Nat},n<=(cz p).length->gd (cz p) (eF p) n=((cz p).take n).flatMap λc=>qX c (cB (fK p c)).chosen
 |0,_=>by simp[gd,cG];|n+1,h=>by
  have b:=V9 (p:=p) (n:=n) (by omega);have a:gd (cz p) (eF p) (n+1)=gd (cz p) (eF p) n++qX (bj (cz p) n []) (bj (eF p) n dA.dflt).1:=by
   grind[gd,pX]
  have d:bj (eF p) n dA.dflt=zj p (bj (cz p) n []):=by
   grind[cV,eF]
  rw[a,b,d,List.take_succ_eq_append_getElem (show n<(cz p).length by omega),List.flatMap_append,cV (by omega)];simp[zj]
theorem ahO {p:bn} {n:Nat}:iG (eF p) n=(((cz p).take n).map λc=>(cB (fK p c)).value).sum:=by
 unfold iG eF;rw[<-ζA,List.map_map];rfl
theorem Wa {f:List Int->List Int}:∀{L:List (List Int)},(∀c∈L,(f c).length<=160)->(L.flatMap f).length<=160*L.length
 |[],_=>by simp;|c::L,h=>by
  have b:=h c (γX ..);have e:=Wa (L:=L) λd a=>h d (γy _ a);grind
theorem Wb {f:List Int->Int}:∀{L:List (List Int)},(∀c∈L,0<=f c/\f c<=160000000)->0<=(L.map f).sum/\(L.map f).sum<=160000000*L.length
 |[],_=>by simp;|c::L,h=>by
  have b:=h c (γX ..);have e:=Wb (L:=L) λd a=>h d (γy _ a);grind
theorem MU {p:bn} {i:Nat} (a:i<(cz p).length):bj (eF p) i dA.dflt=zj p (bj (cz p) i []):=by
 grind[cV,eF]
theorem Wc {p:bn} (b:bz p=0):(∀n:Nat,n<=(eF p).length->(gd (cz p) (eF p) n).length<=2000/\ -9000000000000000<=iG (eF p) n/\iG (eF p) n<=9000000000000000)/\
  ∀i:Nat,i<(eF p).length->∀k∈(bj (eF p) i dA.dflt).1,0<=k/\k<(bj (cz p) i []).length:=by
 have l:(eF p).length=(cz p).length:=Ξ _;have g:=Fz b;have m:=(dQ b).1;have a:∀c∈cz p,bz (fK p c)=0:=λc h=>MF b (BK h);refine⟨λn r=>?_,λi q k d=>?_⟩
 ·rw[V9 (by omega),ahO];have s:=Wa (f:=λc=>qX c (cB (fK p c)).chosen) (L:=(cz p).take n) λc h=>by
   grind[qX,Fo]
  have e:=Wb (f:=λc=>(cB (fK p c)).value) (L:=(cz p).take n) λc h=>(Fo (a c (List.mem_of_mem_take h))).2.2.1;grind
 ·have e:=MU (p:=p) (i:=i) (by omega);have j:bj (cz p) i []∈cz p:=dq (by omega);rw[e] at d;have o:=(agL.1 (BH (a _ j)).1.1).2 k d;grind[ME]
noncomputable def ahP (p:bn):Nat->cC
 |6=> .inv Int (λi=>⟨[(1,.ptr 0 0 20),(2,.ptr 1 0 3),(4,.row (.bD (.i .i64)) (if bz p=0 then cz p else[])),(6,.ow 2 ((eF p).take i.toNat).length 3),(20,.row (.bD (.i .i64)) (if bz p=0 then cz p else[])),(21,.si .i64 (if bz p=0 then cz p else[]).length),(22,.si .i64 i)],
    [.cells p.ss 27 20 false,.cells [.sc (.slice none 0 0),.il .i64 0,.sc (.slice none 0 0)] 43 3 false,.row dA ((eF p).take i.toNat) 51 false]⟩)
   (λs=>iS s 22) (λi=>0<=i/\i<=(if bz p=0 then cz p else[]).length) (λi=>((if bz p=0 then cz p else[]).length - i).toNat) λ_ _=> .look
 |_=> .look
theorem h557:Holds Tryz.prog MS:=by
 refine cH (L:=[zi,BL,Mc,FG]) MS (λp=>ahP p) (by grind[h552,h562,h427,h563]) ?_;rintro(p:bn) K;refine bQ (let c:=γg .i64;let d:=(0:Int);let e:=Ω;let h:=bq.row;let u:=SV.bI;let v:=γQ;let U:=decide (bz p≠d);let g:=bp.i .i64;let H:=γA .i64 0;let R:=v [e g [],H,e g []];let S:=[c (bz p)];let M:=u (v [e g (if bz p=d then jC p else[]),c (if bz p=d then jV p else d),e dA (if bz p=d then eF p else[])]::S);let J:=γP 0 0 20;let I:=γP 1 0 3;let m:=if bz p=d then cz p else[];let X:=γZ 2 0 3;let l:=(↑(if bz p=d then cz p else[]).length:Int);let t:=c l;let r:=bq.cells [c p.supply.a0,c p.supply.a1,c p.supply.a2,c p.supply.a3,c p.supply.a4,c p.supply.a5,c p.opn.a0,c p.opn.a1,c p.opn.a2,c p.opn.a3,c p.opn.a4,c p.opn.a5,c p.cls.a0,c p.cls.a1,c p.cls.a2,c p.cls.a3,c p.cls.a4,c p.cls.a5,e g p.classes,e bp.off p.offers] 27 20 false;let A:=SV.sc (Value.slice none 0 0);let q:=bq.cells [A,H,A] 43 3 false;let w:=(bp.i .u32).bD;let z:=g.bD.pair (g.pair (g.pair (g.pair (g.pair (g.pair (bp.b.pair (w.pair w)).bD)))).bD);(bz p≠d\/p.offers.length<=60)/\(U=true->(u (R::S)).same M)/\(U=false->(((J.same J/\I.same I/\(e g.bD m).same (e g.bD m)/\X.same X/\(e g.bD m).same (e g.bD m)/\(c (↑m.length:Int)).same t/\H.same (c 0)/\True)/\r.same r/\q.same q/\(h z [] 51 false).same (h dA [] 51 false)/\True)/\d<=d/\d<=l)/\∀(x:Int),let s:=bj m x.toNat g.bD.dflt;let f:=fK p s;let F:=decide (bz f≠d);let j:=Δ x.toNat (eF p);let a:=j.length;let o:=x+(1:Int);let D:=j++[(if bz f=d then(cB f).chosen else[],if bz f=d then(cB f).value else d,if bz f=d then qU f else[])];let C:=Δ o.toNat (eF p);let y:=c o;d<=x/\x<=l->(decide (x<l)=true->d<=x/\x<(↑m.length:Int)/\x.toNat<m.length/\((∀(i:Int),i∈s->d<=i/\i<(↑p.offers.length:Int))/\s.length<=1000/\p.classes.length<=1000)/\(bz f≠d\/f.offers.length<=15)/\(F=true->(u [R,c (bz f)]).same M)/\(F=false->a=a/\(a+1)*56<=140737488355328/\a+1<=1000000000000/\cq .i64 o/\((J.same J/\I.same I/\(e g.bD m).same (e g.bD m)/\(γZ 2 D.length 3).same (γZ 2 C.length 3)/\(e g.bD m).same (e g.bD m)/\t.same t/\y.same y/\True)/\r.same r/\q.same q/\(h z D 51 false).same (h dA C 51 false)/\True)/\(d<=o/\o<=l)/\(l - o).toNat<(l - x).toNat))/\(decide (x<l)=false->a=a/\((a<=m.length/\m.length<=1000)/\(∀(n:Nat),n<=a->(gd m j n).length<=100000/\(-9000000000000000000:Int)<=iG j n/\iG j n<=(9000000000000000000:Int))/\∀(i:Nat),i<a->∀(k:Int),k∈(bj j i dA.dflt).fst->d<=k/\k<(↑(bj m i []).length:Int))/\(u [v [e g (dZ (gd m j a)),c (iG j a),e dA j],H]).same M))) (by kernel_rfl) ?_;simp only[vcs];replace K:MR p:=K;refine⟨K.imp id (·.1),λh=>?_,λh=>?_⟩
 ·rw[if_neg h,if_neg h,if_neg h];rfl
 ·have v:=γf.1 h;obtain⟨a6,P⟩:=K.resolve_left h;simp only[if_pos v];have a8:=Fz v;have a7:=(dQ v).1;refine⟨by omega,?_⟩;rintro i ⟨V,i1⟩;refine⟨λE=>?_,λZ=>?_⟩
  ·have Q:Δ i.toNat (eF p)++[zj p (bj (cz p) i.toNat [])]=Δ (i+1).toNat (eF p):=by
    unfold eF;rw[<-ζA,<-ζA,jZ (d:=[]) V E,γa];rfl
   have u:bj (cz p) i.toNat []∈cz p:=dq (by omega);have N:bj (cz p) i.toNat (bp.i IntKind.i64).bD.dflt=bj (cz p) i.toNat []:=rfl;rw[N];generalize bj (cz p) i.toNat []=c at Q u ⊢;have W:=BK u;have G:=MF v W;have B:=P c u;have e:(((cB (fK p c)).chosen,(cB (fK p c)).value,qU (fK p c)):dA.T)=zj p c:=rfl;simp only[if_pos G];rw[e,Q];have Y:=List.length_take_le i.toNat (eF p);have O:(eF p).length=(cz p).length:=Ξ _;refine⟨V,E,by omega,⟨W.2,by omega,by omega⟩,.inr (by rw[ME];exact B),λh=>absurd G h,λ_=>⟨by omega,by omega,by omega,⟨rfl,rfl⟩,by omega,by omega⟩⟩
  ·have O:(eF p).length=(cz p).length:=Ξ _;obtain⟨j1,j2⟩:=Wc v;rw[show i.toNat=(eF p).length by omega,ψ];exact⟨⟨⟨by omega,by omega⟩,λn hn=>by have:=j1 n hn;omega,j2⟩,rfl,v.symm⟩
@[reducible] def sDR:bp:=.pair (.bD (.i .i64)) (.pair (.i .i64) (.bD dA))
def jT (p:bn) (r:List dA.T):Nat->Int
 |0=>0
 |n+1=>if jT p r n≠0 then jT p r n else uV (fK p (bj (cz p) n [])) (bj r n dA.dflt)
def tG (p:bn) (x:List Int×Int×List dA.T):Int:=if bz p≠0 then bz p else if x.2.2.length≠(cz p).length then 2 else if jT p x.2.2 x.2.2.length≠0 then jT p x.2.2 x.2.2.length else
 if iG x.2.2 x.2.2.length≠x.2.1\/dZ (gd (cz p) x.2.2 x.2.2.length)≠x.1 then 13 else 0
def FH (p:bn) (x:List Int×Int×List dA.T):Prop:=(bz p≠0\/p.offers.length<=60)/\x.1.length<=1000000/\(bz p=0->x.2.2.length=(cz p).length->(∀i:Nat,i<x.2.2.length->(bj x.2.2 i dA.dflt).1.length<=1000000000000/\(di (fK p (bj (cz p) i [])) (bj x.2.2 i dA.dflt).1=0->ef (fK p (bj (cz p) i [])) (bj x.2.2 i dA.dflt).1=(bj x.2.2 i dA.dflt).2.1->wR (fK p (bj (cz p) i [])) (bj x.2.2 i dA.dflt).2.1 (bj x.2.2 i dA.dflt).2.2))/\
 (jT p x.2.2 x.2.2.length=0->(∀n:Nat,n<=x.2.2.length->(gd (cz p) x.2.2 n).length<=100000/\ -9000000000000000000<=iG x.2.2 n/\iG x.2.2 n<=9000000000000000000)/\∀i:Nat,i<x.2.2.length->∀k∈(bj x.2.2 i dA.dflt).1,0<=k/\k<(bj (cz p) i []).length))
theorem Wg {p:bn} {r:List dA.T} {n:Nat} (h:jT p r n≠0):∀{m:Nat},n<=m->jT p r m=jT p r n
 |0,a=>by simp_all;|m+1,a=>by
  by_cases e:n=m+1;·rw[e]
  ·have b:=Wg h (m:=m) (by omega);simp_all[jT]
def MV:bM:=⟨21,bn×List Int×Int×List dA.T,.cons dO (.one (dY sDR)),λa=>FH a.1 a.2,λa=> .si .i64 (tG a.1 a.2)⟩
def ahR (p:bn) (x:List Int×Int×List dA.T):Nat->cC
 |7=> .inv Int (λi=>⟨[(2,.ptr 0 0 20),(3,.ptr 1 0 3),(5,.row (.bD (.i .i64)) (if bz p=0 then cz p else[])),(25,.row (.bD (.i .i64)) (if bz p=0 then cz p else[])),(26,.si .i64 (if bz p=0 then cz p else[]).length),(27,.si .i64 i)],
    [.cells p.ss 27 20 false,.cells [.row (.i .i64) x.1,.si .i64 x.2.1,.row dA x.2.2] 43 3 false]⟩)
   (λs=>iS s 27) (λi=>(0<=i/\i<=(if bz p=0 then cz p else[]).length)/\jT p x.2.2 i.toNat=0) (λi=>((if bz p=0 then cz p else[]).length - i).toNat) λ_ _=> .look
 |_=> .look
theorem h558:Holds Tryz.prog MV:=by
 refine cH (L:=[zi,BL,LV,FG,MQ]) MV (λa=>ahR a.1 a.2) (by grind[h552,h562,h474,h563,h564]) ?_;rintro⟨p,c,v,r⟩ hd;refine bQ (let a:=γg .i64;let h:=(0:Int);let m:=Ω;let q:=γA .i64;let d:=if bz p=h then cz p else[];let P:=(↑d.length:Int);let Z:=decide (bz p≠h);let z:=a (tG p (c,v,r));let K:=γP 0 0 20;let J:=γP 1 0 3;let f:=bp.i .i64;let o:=(↑(if bz p=h then cz p else[]).length:Int);let O:=a o;let C:=q 0;let l:=bq.cells [a p.supply.a0,a p.supply.a1,a p.supply.a2,a p.supply.a3,a p.supply.a4,a p.supply.a5,a p.opn.a0,a p.opn.a1,a p.opn.a2,a p.opn.a3,a p.opn.a4,a p.opn.a5,a p.cls.a0,a p.cls.a1,a p.cls.a2,a p.cls.a3,a p.cls.a4,a p.cls.a5,m f p.classes,m bp.off p.offers] 27 20 false;let j:=bq.cells [m f c,a v,m dA r] 43 3 false;let F:=decide (iG r r.length≠v);let t:=dZ (gd d r r.length);let w:=λ(u:Bool) ↦decide ((↑r.length:Int)≠P)=u;(bz p≠h\/p.offers.length<=60)/\(Z=true->(a (bz p)).same z)/\(Z=false->(w true->(q 2).same z)/\(w false->(((K.same K/\J.same J/\(m f.bD d).same (m f.bD d)/\(m f.bD d).same (m f.bD d)/\(a P).same O/\C.same (a 0)/\True)/\l.same l/\j.same j/\True)/\(h<=h/\h<=o)/\jT p r 0=h)/\∀(x:Int),let s:=bj d x.toNat f.bD.dflt;let g:=fK p s;let b:=bj r x.toNat dA.dflt;let D:=uV g (b.fst,b.snd.fst,b.snd.snd);let e:=x+(1:Int);let E:=a e;let I:=λ(u:Bool) ↦decide (D≠h)=u;(h<=x/\x<=o)/\jT p r x.toNat=h->(decide (x<o)=true->h<=x/\x<P/\x.toNat<d.length/\((∀(i:Int),i∈s->h<=i/\i<(↑p.offers.length:Int))/\s.length<=1000/\p.classes.length<=1000)/\h<=x/\x<(↑r.length:Int)/\x.toNat<r.length/\(γc b.fst<=1000000000000/\(di g b.fst=h->ef g b.fst=b.snd.fst->wR g b.snd.fst b.snd.snd))/\(I true->(a D).same z)/\(I false->cq .i64 e/\((K.same K/\J.same J/\(m f.bD d).same (m f.bD d)/\(m f.bD d).same (m f.bD d)/\O.same O/\E.same E/\True)/\l.same l/\j.same j/\True)/\((h<=e/\e<=o)/\jT p r e.toNat=h)/\(o - e).toNat<(o - x).toNat))/\(decide (x<o)=false->((r.length<=d.length/\d.length<=1000)/\(∀(n:Nat),n<=r.length->(gd d r n).length<=100000/\(-9000000000000000000:Int)<=iG r n/\iG r n<=(9000000000000000000:Int))/\∀(i:Nat),i<r.length->∀(k:Int),k∈(bj r i dA.dflt).fst->h<=k/\k<(↑(bj d i []).length:Int))/\(F=true->(q 13).same z)/\(F=false->(t.length<=1000000/\c.length<=1000000)/\((!decide (t=c))=true->(q 13).same z)/\((!decide (t=c))=false->C.same z)))))) (by kernel_rfl) ?_;simp only[vcs];obtain⟨y,H,G⟩:=(hd:FH p (c,v,r));simp only at y H G;refine⟨y,λh=>by simp_all[tG],λh=>?_⟩;have M:bz p=0:=γf.1 h;simp only[if_pos M];refine⟨λhl=>?_,λhl=>⟨⟨by omega,rfl⟩,?_⟩⟩
 ·have q:r.length≠(cz p).length:=by omega
  simp_all[tG]
 have R:r.length=(cz p).length:=by omega
 obtain⟨hw,hj⟩:=G M R;have w:tG p (c,v,r)=if jT p r r.length≠0 then jT p r r.length else if iG r r.length≠v\/dZ (gd (cz p) r r.length)≠c then 13 else 0:=by
  simp_all[tG]
 have X:=Fz M;have a9:=(dQ M).1;have a6:=y.resolve_left h;rintro i ⟨⟨Y,i1⟩,N⟩;refine⟨λS=>?_,λa7=>?_⟩
 ·have hs:jT p r (i+1).toNat=uV (fK p (bj (cz p) i.toNat [])) (bj r i.toNat dA.dflt):=by
   rw[show(i+1).toNat=i.toNat+1 by omega];show(if jT p r i.toNat≠0 then jT p r i.toNat else _)=_;rw[if_neg (by rw[N];exact λh=>h rfl)]
  have T:=hw i.toNat (by omega);have U:bj (cz p) i.toNat []∈cz p:=dq (by omega);have V:bj (cz p) i.toNat (bp.i IntKind.i64).bD.dflt=bj (cz p) i.toNat []:=rfl;rw[V];have W:=BK U;have a8:=s7 W;refine⟨Y,S,by omega,⟨W.2,by omega,by omega⟩,Y,by omega,by omega,T,λB=>?_,λB=>⟨by omega,⟨by omega,?_⟩,by omega⟩⟩
  ·have q:jT p r (i+1).toNat≠0:=by rw[hs];exact B
   have A:=Wg q (m:=r.length) (by omega);rw[w,if_pos (by rw[A];exact q),A,hs]
  simp_all
 ·have Q:i.toNat=r.length:=by omega
  rw[Q] at N;obtain⟨j1,j2⟩:=hj N;have b0:(gd (cz p) r r.length).length<=100000:=(j1 r.length (ν _)).1;rw[if_neg (by rw[N];exact λh=>h rfl)] at w;rw[w];refine⟨⟨⟨by omega,by omega⟩,j1,j2⟩,λB=>(if_pos (.inl B)).symm,λB=>⟨⟨by rw[rN];omega,H⟩,λq=>(if_pos (.inr q)).symm,λq=>(if_neg ?_).symm⟩⟩;rintro(A|A);·exact B A
  ·exact A q
def MW:bM:=⟨30,Off×Off,.cons (dY .off) (.one (dY .off)),λ_=>True,λa=> .sb (gu a.1 a.2)⟩
theorem Wh {a b:Off}:gu a b=true↔a.bT=b.bT\/∃k,k<6/\0<a.want.at k/\0<b.want.at k:=by
 unfold gu;rw[Bool.or_eq_true,List.any_eq_true,decide_eq_true_eq];refine or_congr Iff.rfl ⟨?_,?_⟩;·grind
 ·rintro⟨k,d,c,e⟩;refine⟨k,?_,by simp_all⟩;simp only[List.mem_cons,List.not_mem_nil,or_false];omega
def ahS (a b:Off):Nat->cC
 |4=> .inv Int (λk=>⟨[(2,.ptr 0 0 8),(3,.ptr 1 0 8),(5,.si .i64 k)],[.cells (encS .off a) 65 8 false,.cells (encS .off b) 65 8 false]⟩)
   (λs=>iS s 5) (λk=>(0<=k/\k<=6)/\a.bT≠b.bT/\∀j:Nat,(j:Int)<k->¬(0<a.want.at j/\0<b.want.at j)) (λk=>(6 - k).toNat) λ_ _=> .look
 |_=> .look
theorem h561:Holds Tryz.prog MW:=by
 refine cH (L:=[]) MW (λa=>ahS a.1 a.2) (by simp) ?_;rintro⟨a,b⟩ _;refine bQ (let h:=(0:Int);let k:=γg .i64;let q:=(6:Int);let i:=decide (a.bT=b.bT);let g:=γP 0 0 8;let f:=γP 1 0 8;let e:=λ(u:Off) ↦let l:=bq.cells [k u.bT,k u.want.a0,k u.want.a1,k u.want.a2,k u.want.a3,k u.want.a4,k u.want.a5,k u.value] 65 8 false;l.same l;(i=true->(δf true).same (γx (gu a b)))/\(i=false->(((g.same g/\f.same f/\(γA .i64 0).same (k 0)/\True)/\e a/\e b/\True)/\(h<=h/\h<=q)/\a.bT≠b.bT/\∀(j:Nat),(↑j:Int)<h->h<a.want.at j/\h<b.want.at j->False)/\∀(x:Int),let c:=x+(1:Int);let n:=k c;let d:=decide (x<q);let m:=cq .i64 c/\((g.same g/\f.same f/\n.same n/\True)/\e a/\e b/\True)/\((h<=c/\c<=q)/\a.bT≠b.bT/\∀(j:Nat),(↑j:Int)<c->h<a.want.at j/\h<b.want.at j->False)/\(q - c).toNat<(q - x).toNat;let p:=λ(u:Bool) ↦decide (h<bj [a.want.a0,a.want.a1,a.want.a2,a.want.a3,a.want.a4,a.want.a5] x.toNat h)=u;let o:=λ(u:Bool) ↦decide (h<bj [b.want.a0,b.want.a1,b.want.a2,b.want.a3,b.want.a4,b.want.a5] x.toNat h)=u;((h<=x/\x<=q)/\a.bT≠b.bT/\∀(j:Nat),(↑j:Int)<x->h<a.want.at j/\h<b.want.at j->False)->(d=true->h<=x/\x<q/\x.toNat<6/\(p true->h<=x/\x<q/\x.toNat<6/\(o true->(δf true).same (γx (gu a b)))/\(o false->m))/\(p false->m))/\(d=false->(δf false).same (γx (gu a b))))) (by kernel_rfl) ?_;simp only[vcs];refine⟨λh=>(Wh.2 (.inl h)).symm,λh=>⟨⟨by omega,h,λj q=>by omega⟩,?_⟩⟩;rintro k ⟨⟨t,w⟩,_,s⟩;have r:bj [a.want.a0,a.want.a1,a.want.a2,a.want.a3,a.want.a4,a.want.a5] k.toNat 0=a.want.at k.toNat:=rfl;have v:bj [b.want.a0,b.want.a1,b.want.a2,b.want.a3,b.want.a4,b.want.a5] k.toNat 0=b.want.at k.toNat:=rfl;grind[Wh]
def q9 (N i:Nat):List Int:=cG i++δ (N - i) 0
def mC (p:bn) (n:Nat):List (List Int):=((cG n).map (tC p)).filter λc=>decide (c≠[])
def nU (p:bn) (f:Int) (i:Nat):List Int:=(cG i).filter λj=>decide (bj (sr p) j.toNat 0=f)
theorem ahT {N i:Nat} (h:i<=N):(q9 N i).length=N:=by
 grind[q9,fU]
theorem ahU {N i:Nat} (h:i<N):(q9 N i).set i (i:Int)=q9 N (i+1):=by
 unfold q9;rw[pX,List.set_append_right _ _ (by grind[fU]),fU,Nat.sub_self,show N - i=(N - (i+1))+1 by omega,List.replicate_succ,List.set_cons_zero,γO];rfl
theorem FI {p:bn} {l:List Int} {i:Nat}:∀{k:Nat},(iZ p l i k).length=l.length
 |0=>rfl
 |k+1=>by
  unfold iZ;split;·rw[List.length_set];exact FI
  ·exact FI
theorem MX {p:bn} {l:List Int}:∀{i:Nat},(kA p l i).length=l.length
 |0=>rfl
 |i+1=>by
  show(iZ p (kA p l i) i p.offers.length).length=_;rw[FI];exact MX
theorem MY {p:bn}:∀{r:Nat},(ft p r).length=p.offers.length
 |0=>fU
 |r+1=>by
  show(kA p (ft p r) p.offers.length).length=_;rw[MX];exact MY
theorem ahV {p:bn} {n:Nat}:mC p (n+1)=mC p n++if tC p (n:Int)≠[] then[tC p (n:Int)] else[]:=by
 grind[mC,pX]
theorem ahW {p:bn} {f:Int} {i:Nat}:nU p f (i+1)=nU p f i++if bj (sr p) i 0=f then[(i:Int)] else[]:=by
 grind[nU,pX]
theorem ahX {p:bn} {f:Int}:nU p f p.offers.length=tC p f:=rfl
theorem ahY {p:bn}:mC p p.offers.length=cz p:=agE
def MZ:bM:=⟨13,bn,.one dO,λp=>bz p≠0\/p.offers.length<=60,λp=> .bI [.row (.bD (.i .i64)) (if bz p=0 then cz p else[]),.si .i64 (bz p)]⟩
def ahZ (p:bn):Nat->cC
 |7=> .inv Int (λi=>⟨[(1,.ptr 0 0 20),(5,.si .i64 p.offers.length),(6,.ow 1 p.offers.length 1),(7,.si .i64 i)],[.cells p.ss 27 20 false,.row (.i .i64) (q9 p.offers.length i.toNat) 3 true]⟩)
   (λs=>iS s 7) (λi=>0<=i/\i<=p.offers.length) (λi=>(p.offers.length - i).toNat) λ_ _=> .look
 |11=> .inv Int (λr=>⟨[(1,.ptr 0 0 20),(5,.si .i64 p.offers.length),(6,.ow 1 p.offers.length 1),(8,.si .i64 r)],[.cells p.ss 27 20 false,.row (.i .i64) (ft p r.toNat) 3 true]⟩)
   (λs=>iS s 8) (λi=>0<=i/\i<=p.offers.length) (λi=>(p.offers.length - i).toNat) λr=>λ
   |14=> .inv Int (λi=>⟨[(1,.ptr 0 0 20),(5,.si .i64 p.offers.length),(6,.ow 1 p.offers.length 1),(8,.si .i64 r),(9,.si .i64 i)],[.cells p.ss 27 20 false,.row (.i .i64) (kA p (ft p r.toNat) i.toNat) 3 true]⟩)
     (λs=>iS s 9) (λi=>0<=i/\i<=p.offers.length) (λi=>(p.offers.length - i).toNat) λi=>λ
     |17=> .inv Int (λk=>⟨[(1,.ptr 0 0 20),(5,.si .i64 p.offers.length),(6,.ow 1 p.offers.length 1),(8,.si .i64 r),(9,.si .i64 i),(10,.si .i64 k)],[.cells p.ss 27 20 false,.row (.i .i64) (iZ p (kA p (ft p r.toNat) i.toNat) i.toNat k.toNat) 3 true]⟩)
       (λs=>iS s 10) (λi=>0<=i/\i<=p.offers.length) (λi=>(p.offers.length - i).toNat) λ_ _=> .look
     |_=> .look
   |_=> .look
 |23=> .inv Int (λf=>⟨[(5,.si .i64 p.offers.length),(6,.ow 1 p.offers.length 1),(11,.ow 2 (mC p f.toNat).length 1),(12,.si .i64 f)],[.cells p.ss 27 20 false,.row (.i .i64) (sr p) 3 true,.row (.bD (.i .i64)) (mC p f.toNat) 24 false]⟩)
   (λs=>iS s 12) (λi=>0<=i/\i<=p.offers.length) (λi=>(p.offers.length - i).toNat) λf=>λ
   |27=> .inv Int (λi=>⟨[(5,.si .i64 p.offers.length),(6,.ow 1 p.offers.length 1),(11,.ow 2 (mC p f.toNat).length 1),(12,.si .i64 f),(13,.ow 3 (nU p f i.toNat).length 1),(14,.si .i64 i)],[.cells p.ss 27 20 false,.row (.i .i64) (sr p) 3 true,.row (.bD (.i .i64)) (mC p f.toNat) 24 false,.row (.i .i64) (nU p f i.toNat) 3 true]⟩)
     (λs=>iS s 14) (λi=>0<=i/\i<=p.offers.length) (λi=>(p.offers.length - i).toNat) λ_ _=> .look
   |_=> .look
 |_=> .look
theorem h553:Holds Tryz.prog MZ:=by
 refine cH (L:=[Ie,MW]) MZ (λp=>ahZ p) (by grind[h24,h561]) ?_;rintro(p:bn) (hd:bz p≠0\/p.offers.length<=60);refine bQ (let a:=γg .i64;let b:=(0:Int);let e:=bq.row;let f:=cq .i64;let h:=γZ;let k:=(1:Int);let n:=Ω;let r:=bp.off.dflt;let y:=SV.bI;let L:=decide (bz p≠b);let q:=bp.i .i64;let U:=[a (bz p)];let W:=q.bD;let V:=y (n W (if bz p=b then cz p else[])::U);let B:=p.offers.length;let N:=(↑B:Int);let z:=γP 0 0 20;let C:=p.offers.length;let l:=(↑C:Int);let j:=a l;let g:=h 1 C 1;let D:=γA .i64 0;let d:=bq.cells [a p.supply.a0,a p.supply.a1,a p.supply.a2,a p.supply.a3,a p.supply.a4,a p.supply.a5,a p.opn.a0,a p.opn.a1,a p.opn.a2,a p.opn.a3,a p.opn.a4,a p.opn.a5,a p.cls.a0,a p.cls.a1,a p.cls.a2,a p.cls.a3,a p.cls.a4,a p.cls.a5,n q p.classes,n bp.off p.offers] 27 20 false;let w:=e q (sr p) 3 true;let P:Nat:=(sr p).length;True/\(L=true->(y (n q []::U)).same V)/\(L=false->b<=N/\N<=N/\N*(8:Int)<=(140737488355328:Int)/\N<=(1000000000000:Int)/\(((z.same z/\(a N).same j/\(h 1 N.toNat 1).same g/\D.same (a 0)/\True)/\d.same d/\(e q (δ N.toNat b) 3 true).same (e q (q9 C 0) 3 true)/\True)/\b<=b/\b<=l)/\∀(x:Int),let I:=q9 C x.toNat;let H:=x+k;let c0:=a H;b<=x/\x<=l->(decide (x<l)=true->C=I.length/\b<=x/\x<(↑I.length:Int)/\C=I.length/\x.toNat<I.length/\f H/\((z.same z/\j.same j/\g.same g/\c0.same c0/\True)/\d.same d/\(e q (I.set x.toNat x) 3 true).same (e q (q9 C H.toNat) 3 true)/\True)/\(b<=H/\H<=l)/\(l - H).toNat<(l - x).toNat)/\(decide (x<l)=false->(((z.same z/\j.same j/\g.same g/\D.same (a 0)/\True)/\d.same d/\(e q I 3 true).same (e q (ft p 0) 3 true)/\True)/\b<=b/\b<=l)/\∀(x:Int),let R:=ft p x.toNat;let b7:=e q R 3 true;let G:=x+k;let c2:=a G;b<=x/\x<=l->(decide (x<l)=true->(((z.same z/\j.same j/\g.same g/\(a x).same (a x)/\D.same (a 0)/\True)/\d.same d/\b7.same (e q (kA p R 0) 3 true)/\True)/\b<=b/\b<=l)/\∀(c:Int),let A:=a x;let Q:=kA p R c.toNat;let b9:=e q Q 3 true;let F:=c+k;let b8:=a F;b<=c/\c<=l->(decide (c<l)=true->(((z.same z/\j.same j/\g.same g/\A.same A/\(a c).same (a c)/\D.same (a 0)/\True)/\d.same d/\b9.same (e q (iZ p Q c.toNat 0) 3 true)/\True)/\b<=b/\b<=l)/\∀(x:Int),let v:=x+k;let S:=a c;let T:=a v;let J:=iZ p Q c.toNat x.toNat;let b3:=e q J 3 true;let Z:=e q (iZ p Q c.toNat v.toNat) 3 true;let a7:=gu (bj p.offers c.toNat r) (bj p.offers x.toNat r);let m:=J.length;let b0:=bj J x.toNat b;let b6:=decide (b0<bj J c.toNat b);let c1:=f v/\((z.same z/\j.same j/\g.same g/\A.same A/\S.same S/\T.same T/\True)/\d.same d/\b3.same Z/\True)/\(b<=v/\v<=l)/\(l - v).toNat<(l - x).toNat;b<=x/\x<=l->(decide (x<l)=true->b<=c/\c<N/\c.toNat<B/\b<=x/\x<N/\x.toNat<B/\True/\(a7=true->C=m/\b<=x/\x<(↑m:Int)/\C=m/\x.toNat<m/\C=m/\b<=c/\c<(↑m:Int)/\C=m/\c.toNat<m/\(b6=true->C=m/\b<=x/\x<(↑m:Int)/\C=m/\x.toNat<m/\C=m/\b<=c/\c<(↑m:Int)/\C=m/\c.toNat<m/\f v/\((z.same z/\j.same j/\g.same g/\A.same A/\S.same S/\T.same T/\True)/\d.same d/\(e q (J.set c.toNat b0) 3 true).same Z/\True)/\(b<=v/\v<=l)/\(l - v).toNat<(l - x).toNat)/\(b6=false->c1))/\(a7=false->c1))/\(decide (x<l)=false->f F/\((z.same z/\j.same j/\g.same g/\A.same A/\b8.same b8/\True)/\d.same d/\b3.same (e q (kA p R F.toNat) 3 true)/\True)/\(b<=F/\F<=l)/\(l - F).toNat<(l - c).toNat))/\(decide (c<l)=false->f G/\((z.same z/\j.same j/\g.same g/\c2.same c2/\True)/\d.same d/\b9.same (e q (ft p G.toNat) 3 true)/\True)/\(b<=G/\G<=l)/\(l - G).toNat<(l - x).toNat))/\(decide (x<l)=false->(((j.same j/\g.same g/\(h 2 0 1).same (h 2 (mC p 0).length 1)/\D.same (a 0)/\True)/\d.same d/\b7.same w/\(e W [] 24 false).same (e W (mC p 0) 24 false)/\True)/\b<=b/\b<=l)/\∀(x:Int),let t:=mC p x.toNat;let K:=h 2 t.length 1;let M:=e W t 24 false;let b5:=t.length+1;let s:=x+k;let a8:=h 2 (mC p s.toNat).length 1;let O:=a s;let a6:=e W (mC p s.toNat) 24 false;b<=x/\x<=l->(decide (x<l)=true->(((j.same j/\g.same g/\K.same K/\(a x).same (a x)/\(h 3 0 1).same (h 3 (nU p x 0).length 1)/\D.same (a 0)/\True)/\d.same d/\w.same w/\M.same M/\(e q [] 3 true).same (e q (nU p x 0) 3 true)/\True)/\b<=b/\b<=l)/\∀(c:Int),let E:=c+k;let Y:=a x;let a9:=a E;let b1:=decide (bj (sr p) c.toNat b=x);let o:=nU p x c.toNat;let b2:=o.length+1;let b4:=decide (b<(↑o.length:Int));let X:=λ(u:Nat) (c6:bq) ↦f E/\((j.same j/\g.same g/\K.same K/\Y.same Y/\(h 3 u 1).same (h 3 (nU p x E.toNat).length 1)/\a9.same a9/\True)/\d.same d/\w.same w/\M.same M/\c6.same (e q (nU p x E.toNat) 3 true)/\True)/\(b<=E/\E<=l)/\(l - E).toNat<(l - c).toNat;b<=c/\c<=l->(decide (c<l)=true->C=P/\b<=c/\c<(↑P:Int)/\C=P/\c.toNat<P/\(b1=true->o.length=o.length/\b2*8<=140737488355328/\b2<=1000000000000/\X (o++[c]).length (e q (o++[c]) 3 true))/\(b1=false->X o.length (e q o 3 true)))/\(decide (c<l)=false->(b4=true->o.length=o.length/\t.length=t.length/\b5*24<=140737488355328/\b5<=1000000000000/\f s/\((j.same j/\g.same g/\(h 2 (t++[o]).length 1).same a8/\O.same O/\True)/\d.same d/\w.same w/\(e W (t++[o]) 24 false).same a6/\True)/\(b<=s/\s<=l)/\(l - s).toNat<(l - x).toNat)/\(b4=false->f s/\((j.same j/\g.same g/\K.same a8/\O.same O/\True)/\d.same d/\w.same w/\M.same a6/\True)/\(b<=s/\s<=l)/\(l - s).toNat<(l - x).toNat)))/\(decide (x<l)=false->t.length=t.length/\(y [n W t,D]).same V))))) (by kernel_rfl) ?_;simp only[vcs];have c8:(bq.cells p.ss 27 20 false).same (bq.cells p.ss 27 20 false):=rfl;have B:∀{x y:List Int},x=y->(bq.row (.i .i64) x 3 true).same (bq.row (.i .i64) y 3 true):=by rintro _ _ rfl;rfl
 have U:∀{x y:List (List Int)},x=y->(bq.row (.bD (.i .i64)) x 24 false).same (bq.row (.bD (.i .i64)) y 24 false):=by rintro _ _ rfl;rfl
 have hw:∀{k a b:Nat},a=b->(γZ k a 1).same (γZ k b 1):=by rintro _ _ _ rfl;rfl
 refine⟨λh=>by rw[if_neg h];rfl,λh=>?_⟩;have hc:bz p=0:=γf.1 h;have hN:=hd.resolve_left h;refine⟨by omega,by omega,by omega,by omega,⟨⟨hw (by omega),B (by simp[q9,cG])⟩,by omega,by omega⟩,?_⟩;rintro i ⟨i0,i1⟩;refine⟨λc5=>?_,λV=>?_⟩;·grind[ahT,ahU]
 refine⟨⟨B (by rw[show i.toNat=p.offers.length by omega];simp[q9,ft]),by omega,by omega⟩,?_⟩;clear i0 i1 V i;rintro r ⟨r0,r1⟩;refine⟨λc5=>?_,λV=>?_⟩
 ·refine⟨⟨B rfl,by omega,by omega⟩,?_⟩;rintro i ⟨i0,i1⟩;refine⟨λc3=>?_,λc4=>?_⟩
  ·refine⟨⟨B rfl,by omega,by omega⟩,?_⟩;rintro k ⟨k0,k1⟩;have d5:(iZ p (kA p (ft p r.toNat) i.toNat) i.toNat k.toNat).length=p.offers.length:=by rw[FI,MX,MY]
   have d2:iZ p (kA p (ft p r.toNat) i.toNat) i.toNat (k+1).toNat=if gu (bj p.offers i.toNat bp.off.dflt) (bj p.offers k.toNat bp.off.dflt)=true/\bj (iZ p (kA p (ft p r.toNat) i.toNat) i.toNat k.toNat) k.toNat 0<bj (iZ p (kA p (ft p r.toNat) i.toNat) i.toNat k.toNat) i.toNat 0 then(iZ p (kA p (ft p r.toNat) i.toNat) i.toNat k.toNat).set i.toNat (bj (iZ p (kA p (ft p r.toNat) i.toNat) i.toNat k.toNat) k.toNat 0) else iZ p (kA p (ft p r.toNat) i.toNat) i.toNat k.toNat:=by
    rw[show(k+1).toNat=k.toNat+1 by omega];rfl
   refine⟨λd0=>?_,λd4=>?_⟩;·grind
   ·refine⟨by omega,B ?_,by omega,by omega⟩;rw[show k.toNat=p.offers.length by omega,show(i+1).toNat=i.toNat+1 by omega];rfl
  ·refine⟨by omega,B ?_,by omega,by omega⟩;rw[show i.toNat=p.offers.length by omega,show(r+1).toNat=r.toNat+1 by omega];rfl
 refine⟨⟨⟨hw (by simp[mC,cG]),B (by rw[show r.toNat=p.offers.length by omega];rfl),U (by simp[mC,cG])⟩,by omega,by omega⟩,?_⟩;have c7:(sr p).length=p.offers.length:=MY;clear r0 r1 V r;rintro f ⟨f0,f1⟩;have d3:(mC p f.toNat).length<=f.toNat:=by
  grind[mC,fU]
 refine⟨λc9=>?_,λd6=>⟨?_,hc.symm⟩⟩
 ·have e0:([]:List Int)=nU p f 0:=by simp[nU,cG]
  refine⟨⟨⟨hw (by simp_all),B e0⟩,by omega,by omega⟩,?_⟩;rintro i ⟨i0,i1⟩;have hs:=ahW (p:=p) (f:=f) (i:=i.toNat);rw[show((i.toNat:Nat):Int)=i by omega,show i.toNat+1=(i+1).toNat by omega] at hs;have d1:(nU p f i.toNat).length<=i.toNat:=by
   grind[nU,fU]
  refine⟨λc3=>?_,λc4=>?_⟩
  ·rw[c7];grind
  ·rw[show i.toNat=p.offers.length by omega,ahX];have hS:=ahV (p:=p) (n:=f.toNat);rw[show((f.toNat:Nat):Int)=f by omega,show f.toNat+1=(f+1).toNat by omega] at hS;refine⟨λhv=>?_,λhv=>?_⟩
   ·rw[if_pos (by intro e;rw[e] at hv;simp at hv)] at hS;rw[hS];refine⟨?_,?_,?_,⟨hw rfl,U rfl⟩,?_,?_⟩<;>omega
   ·have e:tC p f=[]:=List.eq_nil_of_length_eq_zero (by omega);rw[if_neg (by simp[e]),List.append_nil] at hS;rw[hS];refine⟨?_,⟨hw rfl,U rfl⟩,?_,?_⟩<;>omega
 ·rw[if_pos hc,show f.toNat=p.offers.length by omega];exact ahY
def M4:bM:=⟨10,bn,.one dO,λ_=>True,λp=> .sb (decide (20<p.classes.length)||decide (60<p.offers.length))⟩
theorem h550:Holds Tryz.prog M4:=by
 refine cH (L:=[]) M4 lk (by simp) ?_;intro(p:bn) _;refine bQ (let b:=decide ((20:Int)<(↑p.classes.length:Int));let a:=γx (decide (20<p.classes.length)||decide (60<p.offers.length));(b=true->(δf true).same a)/\(b=false->(γx (decide ((60:Int)<(↑p.offers.length:Int)))).same a)) (by kernel_rfl) ?_;simp only[vcs];grind
def fu:bn:=⟨⟨1,1,0,0,0,0⟩,⟨1,1,0,0,0,0⟩,.zero,[0,0],[⟨0,⟨1,0,0,0,0,0⟩,5⟩,⟨1,⟨0,1,0,0,0,0⟩,7⟩]⟩
def M5:bM:=⟨27,Unit,.nil,λ_=>True,λ_=>dO.put fu⟩
theorem h559:Holds Tryz.prog M5:=by
 refine cH (L:=[]) M5 lk (by simp) ?_;intro _ _;refine bQ (let d:=γg .i64;let e:=(0:Int);let f:=Ω;let g:=(1:Int);let c:=γA .i64 1;let a:=γA .i64 0;let b:=fu.supply;(γQ [c,c,a,a,a,a,c,c,a,a,a,a,a,a,a,a,a,a,f (bp.i .i64) [e,e],f bp.off [Off.mk e (bC.mk g e e e e e) (5:Int),Off.mk g (bC.mk e g e e e e) (7:Int)]]).same (γQ [d b.a0,d b.a1,d b.a2,d b.a3,d b.a4,d b.a5,d fu.opn.a0,d fu.opn.a1,d fu.opn.a2,d fu.opn.a3,d fu.opn.a4,d fu.opn.a5,d fu.cls.a0,d fu.cls.a1,d fu.cls.a2,d fu.cls.a3,d fu.cls.a4,d fu.cls.a5,f (bp.i .i64) fu.classes,f bp.off fu.offers])) (by kernel_rfl) ?_;conv=>zeta
 try simp only[vcs]
 try rfl
theorem ah0 {p:bn} (hc:bz p=0) (h60:p.offers.length<=60) (h15:∀c∈cz p,c.length<=15):
  FH p (jC p,jV p,eF p)/\tG p (jC p,jV p,eF p)=0/\∀n:Nat,n<=(cz p).length->jT p (eF p) n=0:=by
 have hpl:(eF p).length=(cz p).length:=Ξ _;have hpc:∀i,i<(cz p).length->bz (fK p (bj (cz p) i []))=0/\(fK p (bj (cz p) i [])).offers.length<=15:=λi hi=>by
  have hm:bj (cz p) i []∈cz p:=dq hi;exact⟨MF hc (BK hm),by rw[ME];exact h15 _ hm⟩
 have hk:∀n:Nat,n<=(cz p).length->jT p (eF p) n=0:=by
  intro n;induction n with
  |zero=>exact λ_=>rfl;|succ n ih=>
   intro hn;show(if jT p (eF p) n≠0 then jT p (eF p) n else _)=0;rw[if_neg (by rw[ih (by omega)];exact λh=>h rfl),MU (by omega)];obtain⟨a,b⟩:=hpc n (by omega);exact agu a b
 obtain⟨j1,j2⟩:=Wc hc;have hjl:(jC p).length<=2000:=by unfold jC;rw[rN];exact(j1 _ (ν _)).1
 refine⟨⟨.inr h60,by simp only;omega,λ_ _=>⟨λi hi=>?_,λ_=>⟨λn hn=>by have:=j1 n hn;simp only;omega,j2⟩⟩⟩,?_,hk⟩
 ·simp only at hi ⊢;obtain⟨a,b⟩:=hpc i (by omega);have hbi:=Fo a;rw[MU (by omega)];exact⟨by have:=hbi.2.2.2;show(cB _).chosen.length<=_;omega,λ_ _=>(VC a b).1 _ (by have:=hbi.2.2.1;show _<=(cB _).value/\(cB _).value<=_;omega)⟩
 ·unfold tG;rw[if_neg (by simp[hc]),if_neg (by simp[hpl]),if_neg (by simp[hpl,hk _ (ν _)]),if_neg (by simp[jC,jV])]
theorem ah1:bz fu=0:=by kernel_rfl
theorem Wi:cz fu=[[0],[1]]:=by kernel_rfl
theorem ah2:gd (cz fu) (eF fu) (eF fu).length=[0,1]:=by kernel_rfl
theorem Wj:jC fu=[0,1]:=by
 unfold jC;rw[ah2];exact List.mergeSort_of_pairwise (by simp)
theorem ah3:cmpL (jC fu) [0,1]=0:=by
 rw[Wj];rfl
theorem ah4:qY fu [1]=0:=by kernel_rfl
def M7:bM:=⟨11,Unit,.nil,λ_=>True,λ_=> .sb true⟩
theorem h551:Holds Tryz.prog M7:=by
 refine cH (L:=[M5,zi,MS,MI,r32,MV]) M7 lk (by grind[h559,h552,h557,h554,h32,h558]) ?_;intro _ _;refine bQ (let a:=δf false;let e:=γx;let f:=(0:Int);let g:=(1:Int);let b:=(jC fu,jV fu,eF fu);let d:=decide (cmpL (jC fu) [f,g]=f);let c:=λ(u:Bool) ↦decide (tG fu b=f)=u;True/\(bz fu≠f\/fu.offers.length<=60)/\True/\MR fu/\True/\1<=1000000000000/\(true=true->(true=true->(true=true->(true=true->((jC fu).length<=1000000000000/\2<=1000000000000)/\(d=true->(true=true->True/\FH fu b/\(c true->(true=true->(true=true->f<=f/\f<g/\0<(oR fu [g]).offers.length/\(e true).same (e true))/\(true=false->(a).same (e true)))/\(true=false->(a).same (e true)))/\(c false->(a).same (e true)))/\(true=false->(a).same (e true)))/\(d=false->(a).same (e true)))/\(true=false->(a).same (e true)))/\(true=false->(a).same (e true)))/\(true=false->(a).same (e true)))/\(true=false->(a).same (e true))) (by kernel_rfl) ?_;simp only[vcs];have e:=ah0 ah1 (by decide) (by grind[Wi]);have g:(jC fu).length=2:=by grind[Wj]
 have a:true=false->false=true:=λh=>by cases h
 have f:(oR fu [1]).offers.length=1:=by
  unfold oR;rw[if_pos ah4];rfl
 exact⟨.inr (by decide),.inr ⟨by decide,by grind[Wi]⟩,by omega,λ_=>⟨λ_=>⟨λ_=>⟨λ_=>⟨⟨by omega,by omega⟩,λ_=>⟨λ_=>⟨e.1,λ_=>⟨λ_=>⟨λ_=>⟨by omega,by omega,by omega⟩,a⟩,a⟩,λh=>absurd e.2.1 h⟩,a⟩,λh=>absurd ah3 h⟩,a⟩,a⟩,a⟩,a⟩
def ah5 (p:bn):Nat->cC
 |8=> .inv Int (λi=>⟨[(3,.row (.bD (.i .i64)) (if bz p=0 then cz p else[])),(5,.row (.bD (.i .i64)) (if bz p=0 then cz p else[])),(7,.si .i64 i)],[.cells p.ss 27 20 false]⟩)
   (λs=>iS s 7) (λi=>0<=i/\i<=(if bz p=0 then cz p else[]).length) (λi=>((if bz p=0 then cz p else[]).length - i).toNat) λ_ _=> .look
 |_=> .look
def M8:bM:=⟨3,bn,.one dO,λ_=>True,λ_=> .sb true⟩
theorem h543:Holds Tryz.prog M8:=by
 refine cH (L:=[M4,M7,zi,MZ,r32]) M8 (λp=>ah5 p) (by grind[h550,h551,h552,h553,h32]) ?_;intro(p:bn) _;refine bQ (let c:=(0:Int);let e:=Ω;let h:=δf false;let n:=γx;let a:=if bz p=c then cz p else[];let f:=(↑a.length:Int);let o:=decide (20<p.classes.length)||decide (60<p.offers.length);let q:=decide (bz p≠bz p);let d:=(bp.i .i64).bD;let k:=bq.cells (bn.ss p) 27 20 false;let g:=(↑(if bz p=c then cz p else[]).length:Int);let m:=λ(u:Bool) ↦decide (f≠f)=u;True/\(o=true->True/\(n true).same (n true))/\(o=false->(bz p≠c\/p.offers.length<=60)/\(bz p≠c\/p.offers.length<=60)/\(q=true->(h).same (n true))/\(q=false->(m true->(h).same (n true))/\(m false->((((e d a).same (e d a)/\(e d a).same (e d a)/\(γA .i64 0).same (γg .i64 0)/\True)/\k.same k/\True)/\c<=c/\c<=g)/\∀(x:Int),let l:=bj a x.toNat d.dflt;let r:=decide (cmpL l l≠c);let b:=x+(1:Int);let j:=γg .i64 b;c<=x/\x<=g->(decide (x<f)=true->c<=x/\x<f/\x.toNat<a.length/\c<=x/\x<f/\x.toNat<a.length/\(l.length<=1000000000000/\l.length<=1000000000000)/\(r=true->(h).same (n true))/\(r=false->cq .i64 b/\(((e d a).same (e d a)/\(e d a).same (e d a)/\j.same j/\True)/\k.same k/\True)/\(c<=b/\b<=g)/\(g - b).toNat<(g - x).toNat))/\(decide (x<f)=false->True/\(n true).same (n true)))))) (by kernel_rfl) ?_;simp only[vcs];refine⟨λ_=>trivial,λh=>?_⟩;rw[Bool.or_eq_false_iff,decide_eq_false_iff_not,decide_eq_false_iff_not] at h;have e:p.offers.length<=60:=by omega
 refine⟨.inr e,.inr e,λh=>absurd rfl h,λ_=>⟨λh=>absurd rfl h,λ_=>⟨⟨by omega,by omega⟩,?_⟩⟩⟩;have v:(if bz p=0 then cz p else[]).length<=8/\∀c∈(if bz p=0 then cz p else[]),c.length<=60:=by
  split
  ·rename_i n;exact⟨δS (Fz n) (dQ n).1,λc h=>δS (s7 (BK h)) e⟩
  simp_all
 generalize (if bz p=0 then cz p else[])=L at*;rintro i ⟨t,w⟩;refine⟨λs=>?_,λ_=>trivial⟩;grind[dq,Iy]
end Go.Vi
