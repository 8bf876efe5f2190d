/-
  Contracts: a row of the problem; the game of the greedy method.
  Conditions: none.
-/
import Derived.Test.YtbnhiekmnpikhaaGreatDF06
import Derived.Test.YtbnhiekmnpikhaaGreatDF07
import Derived.Test.YtbnhiekmnpikhaaGreatDF09
import Derived.Test.YtbnhiekmnpikhaaGreatDF08
set_option maxRecDepth 100000
set_option maxHeartbeats 4000000
set_option linter.all false
open Bool renaming and_eq_true->θ
open Classical renaming not_not->γf
open Go.Vi.AV.sl renaming injEq->δ5
open Go.Vi.SV renaming si->γd,il->γB,row->Ω,ow->γZ,ptr->γQ,agg->γR,bl->δh,sb->γA
open Int renaming toNat_natCast->γn
open IntCast renaming intCast->κ
open List renaming length_map->Φ,length_take->γy,map_append->γa,range->ω,range_succ->εe,map_cons->ξ,take->Δ,take_length->φ,all_eq_true->τ,mem_range->γC,take_of_length_le->γq,getElem_of_mem->γH,mem_map->Θ,mem_of_mem_take->γo,mergeSort_perm->δu,length_append->γh,mem_append->γm,map_nil->γv,map_map->γO,map_congr_left->γU,pairwise_cons->γu,exists_of_findSome?_eq_some->δX,nodup_append->γw,replicate->δ,ext_getElem->γ9,length_replicate->γE,getElem_set->εU,getElem_map->δD,getElem_range->εG
open List.Pairwise renaming nil->δH
open List.cons renaming injEq->Γ
open Nat renaming le_refl->π,mul_le_mul->ζj
open Option renaming isNone_iff_eq_none->γP
open Option.some renaming injEq->γ
open Rat renaming mul_nonneg->δv
namespace Go.Vi
open Go.Proofs.YtbnhiekmnpikhaaGreat.Ir
open Go.Proofs
structure Game where
 rows:List (List Int)
 bounds:List Int
 offers:List Off
def Be:qB Game where
 put a:=.agg [.row (.bB (.i .i64)) a.rows,.row (.i .i64) a.bounds,.row .off a.offers];dec
  | .agg [r,v,x]=>match jH (.bB (.i .i64)) r,jH (.i .i64) v,jH .off x with
   |some c,some v,some x=>some ⟨c,v,x⟩
   |_,_,_=>none
  |_=>none;ok v a h:=by
  grind[SV.g,gL,o8]
 inj a b h:=by
  obtain⟨c,v,x⟩:=a;obtain⟨l,k,j⟩:=b;simp only[SV.g,gL,AV.agg.injEq,Γ,and_true,true_and,δ5] at h;have e:=ly (.bB (.i .i64)) h.1.1 h.1.2;have d:=ly (.i .i64) h.2.1.1 h.2.1.2;have f:=ly .off h.2.2.1 h.2.2.2;rw[e,d,f]
def yv:bM:=⟨61,bn,.one dO,λ_=>True,λp=> .si .i64 (if bz p=0 then dh p else 0)⟩
theorem h335:Holds Tryz.prog yv:=by
 refine cH (L:=[pe,xR]) yv lk (by grind[h79,h157]) ?_;rintro(p:bn) -;refine bQ (let c:=(0:Int);let b:=decide (bz p≠c);let a:=γd .i64 (if bz p=c then dh p else c);True/\(b=true->(γB .i64 0).same a)/\(b=false->p.classes.length<=8/\(γd .i64 (dh p)).same a)) (by kernel_rfl) ?_;simp only[vcs];refine⟨λh=>by rw[if_neg h],λh=>?_⟩;have c:bz p=0:=γf.1 h;rw[if_pos c];have:=(dQ c).1;omega
def iC (p:bn) (r:Int) (n:Nat):List Int:=(p.offers.take n).map (dY p r)
def Et:bM:=⟨107,bn×Int,.cons dO (.one (eU .i64)),λa=>bz a.1=0/\0<=a.2/\a.2<dh a.1,λa=> .bI [.row (.i .i64) (iC a.1 a.2 a.1.offers.length),.si .i64 (dm a.1 a.2)]⟩
def adk (a:bn×Int):Nat->cG
 |5=> .inv Int (λi=>⟨[(1,.si .i64 a.2),(4,.ow 1 (iC a.1 a.2 i.toNat).length 1),(6,.ptr 2 0 20),(20,.row .off a.1.offers),(21,.si .i64 a.1.offers.length),(22,.si .i64 i)],[.cells a.1.ss 27 20 false,.row (.i .i64) (iC a.1 a.2 i.toNat) 3 true,.cells a.1.ss 87 20 false]⟩)
   (λs=>iS s 22) (λi=>0<=i/\i<=a.1.offers.length) (λi=>(a.1.offers.length - i).toNat) λ_ _=> .look
 |_=> .look
theorem h336:Holds Tryz.prog Et:=by
 refine cH (L:=[yv,xU,xT]) Et adk (by simpa using⟨h335,h156,h158⟩) ?_;rintro⟨p,r⟩ ⟨hc,r0,r1⟩;simp only at hc r0 r1;refine bQ (let a:=γd .i64;let b:=(0:Int);let c:=Ω;let d:=bq.row;let e:=SV.bI;let f:=γZ;let g:=bp.i .i64;let l:=c bp.off p.offers;let v:=decide (r<b);let o:=γB .i64 0;let w:=[a (dm p r)];let q:=e (c g (iC p r p.offers.length)::w);let y:=decide ((if bz p=b then dh p else b)<=r);let m:=γQ 2 0 20;let z:=(↑p.offers.length:Int);let h:=(↑p.offers.length:Int);let s:=a h;let n:=λ(u:Nat) ↦let A:=bq.cells [a p.supply.a0,a p.supply.a1,a p.supply.a2,a p.supply.a3,a p.supply.a4,a p.supply.a5,a p.opn.a0,a p.opn.a1,a p.opn.a2,a p.opn.a3,a p.opn.a4,a p.opn.a5,a p.cls.a0,a p.cls.a1,a p.cls.a2,a p.cls.a3,a p.cls.a4,a p.cls.a5,c g p.classes,l] u 20 false;A.same A;(v=true->0=0/\(e [c g [],o]).same q)/\(v=false->True/\(y=true->0=0/\(e [c g [],o]).same q)/\(y=false->((((a r).same (a r)/\(f 1 0 1).same (f 1 (iC p r 0).length 1)/\m.same m/\l.same l/\(a z).same s/\o.same (a 0)/\True)/\n 27/\(d g [] 3 true).same (d g (iC p r 0) 3 true)/\n 87/\True)/\b<=b/\b<=h)/\∀(x:Int),let t:=bj p.offers x.toNat bp.off.dflt;let j:=iC p r x.toNat;let B:=j.length+1;let k:=x+(1:Int);let C:=j++[dY p r t];let D:=a k;b<=x/\x<=h->(decide (x<h)=true->b<=x/\x<z/\x.toNat<p.offers.length/\(p.classes.length<=8/\b<=r/\r<dh p/\b<=t.bX/\t.bX<(↑p.classes.length:Int))/\j.length=j.length/\B*8<=140737488355328/\B<=1000000000000/\cu .i64 k/\(((a r).same (a r)/\(f 1 C.length 1).same (f 1 (iC p r k.toNat).length 1)/\m.same m/\l.same l/\s.same s/\D.same D/\True)/\n 27/\(d g C 3 true).same (d g (iC p r k.toNat) 3 true)/\n 87/\True)/\(b<=k/\k<=h)/\(h - k).toNat<(h - x).toNat)/\(decide (x<h)=false->(p.classes.length<=8/\b<=r/\r<dh p)/\j.length=j.length/\(e (c g j::w)).same q)))) (by kernel_rfl) ?_;simp only[vcs];obtain⟨g1,g2,g3,g4,g5⟩:=dQ hc;have how:∀{x y:Nat},x=y->(γZ 1 x 1).same (γZ 1 y 1):=by rintro _ _ rfl;rfl
 have hrow:∀{x y:List Int},x=y->(bq.row (.i .i64) x 3 true).same (bq.row (.i .i64) y 3 true):=by rintro _ _ rfl;rfl
 rw[if_pos hc];refine⟨λh=>by omega,λ_=>⟨λh=>by omega,λ_=>⟨⟨?_,by omega,by omega⟩,?_⟩⟩⟩;·exact⟨how rfl,hrow rfl⟩
 ·rintro i ⟨i0,i1⟩;have hL:(iC p r i.toNat).length<=160:=by unfold iC;rw[Φ,γy];omega
  refine⟨λhi=>?_,λhi=>?_⟩
  ·have hx:=g5 _ (dn (d:=bp.off.dflt) (show i.toNat<p.offers.length by omega));have e:iC p r (i+1).toNat=iC p r i.toNat++[dY p r (bj p.offers i.toNat bp.off.dflt)]:=by
    unfold iC;rw[jq (d:=bp.off.dflt) i0 hi,γa];rfl
   rw[e];refine⟨i0,hi,?_,⟨g1,r0,r1,hx.1,hx.2.1⟩,?_,?_,?_,⟨how rfl,hrow rfl⟩,?_,?_⟩<;>omega
  ·rw[show i.toNat=p.offers.length by omega];exact⟨⟨g1,r0,r1⟩,rfl⟩
def mf (p:bn) (n:Nat):List (List Int):=(ω n).map λr:Nat=>iC p r p.offers.length
def kq (p:bn) (n:Nat):List Int:=(ω n).map λr:Nat=>dm p r
def nR (p:bn):Nat:=if bz p=0 then p.classes.length+12 else 0
def cV (p:bn):Game:=⟨mf p (nR p),kq p (nR p),p.offers⟩
theorem S3 {p:bn} {n:Nat}:(mf p n).length=n:=by simp[mf]
theorem Eu {p:bn} {n:Nat}:(kq p n).length=n:=by simp[kq]
theorem adl {p:bn} {i:Int} (h:0<=i):mf p (i+1).toNat=mf p i.toNat++[iC p i p.offers.length]:=by
 unfold mf;rw[show(i+1).toNat=i.toNat+1 from by omega,εe,γa];grind
theorem adn {p:bn} {i:Int} (h:0<=i):kq p (i+1).toNat=kq p i.toNat++[dm p i]:=by
 unfold kq;rw[show(i+1).toNat=i.toNat+1 from by omega,εe,γa];grind
def Ew:bM:=⟨73,bn,.one dO,λ_=>True,λp=>Be.put (cV p)⟩
def ado (p:bn):Nat->cG
 |3=> .inv Int (λi=>⟨[(1,.ptr 0 0 20),(2,.ptr 1 0 3),(3,.ptr 2 0 3),(11,.si .i64 (nR p)),(12,.si .i64 i)],[.cells p.ss 27 20 false,.cells [.sc (.slice none 0 0),.sc (.slice none 0 0),.sc (.slice none 0 0)] 130 3 false,.cells [.ow 4 (mf p i.toNat).length 1,.ow 3 (kq p i.toNat).length 1,.row .off p.offers] 130 3 false,.row (.i .i64) (kq p i.toNat) 3 true,.row (.bB (.i .i64)) (mf p i.toNat) 24 false]⟩)
   (λs=>iS s 12) (λi=>0<=i/\i<=nR p) (λi=>(nR p - i).toNat) λ_ _=> .look
 |_=> .look
theorem h325:Holds Tryz.prog Ew:=by
 refine cH (L:=[yv,Et]) Ew ado (by grind[h335,h336]) ?_;rintro(p:bn) -;refine bQ (let a:=γd .i64;let b:=bq.row;let h:=(0:Int);let j:=bq.cells;let l:=Ω;let o:=γZ;let y:=γQ;let w:=y 0 0 20;let s:=y 1 0 3;let t:=y 2 0 3;let g:=(↑(nR p):Int);let z:=a g;let f:=bp.i .i64;let k:=[l bp.off p.offers];let u:=j (a p.supply.a0::a p.supply.a1::a p.supply.a2::a p.supply.a3::a p.supply.a4::a p.supply.a5::a p.opn.a0::a p.opn.a1::a p.opn.a2::a p.opn.a3::a p.opn.a4::a p.opn.a5::a p.cls.a0::a p.cls.a1::a p.cls.a2::a p.cls.a3::a p.cls.a4::a p.cls.a5::l f p.classes::k) 27 20 false;let A:=SV.sc (Value.slice none 0 0);let v:=j [A,A,A] 130 3 false;True/\(((w.same w/\s.same s/\t.same t/\(a (if bz p=h then dh p else h)).same z/\(γB .i64 0).same (a 0)/\True)/\u.same u/\v.same v/\(j (o 4 0 1::o 3 0 1::k) 130 3 false).same (j (o 4 (mf p 0).length 1::o 3 (kq p 0).length 1::k) 130 3 false)/\(b f [] 3 true).same (b f (kq p 0) 3 true)/\(b f.bB [] 24 false).same (b f.bB (mf p 0) 24 false)/\True)/\h<=h/\h<=g)/\∀(x:Int),let e:=mf p x.toNat;let n:=e.length+1;let d:=kq p x.toNat;let m:=d.length+1;let c:=x+(1:Int);let r:=a c;let q:=e++[iC p x p.offers.length];h<=x/\x<=g->(decide (x<g)=true->(bz p=h/\h<=x/\x<dh p)/\1=1/\e.length=e.length/\n*24<=140737488355328/\n<=1000000000000/\1=1/\d.length=d.length/\m*8<=140737488355328/\m<=1000000000000/\cu .i64 c/\((w.same w/\s.same s/\t.same t/\z.same z/\r.same r/\True)/\u.same u/\v.same v/\(j (o 4 q.length 1::o 3 (d++[dm p x]).length 1::k) 130 3 false).same (j (o 4 (mf p c.toNat).length 1::o 3 (kq p c.toNat).length 1::k) 130 3 false)/\(b f (d++[dm p x]) 3 true).same (b f (kq p c.toNat) 3 true)/\(b f.bB q 24 false).same (b f.bB (mf p c.toNat) 24 false)/\True)/\(h<=c/\c<=g)/\(g - c).toNat<(g - x).toNat)/\(decide (x<g)=false->e.length=e.length/\d.length=d.length/\(γR (l f.bB e::l f d::k)).same (γR [l f.bB (cV p).rows,l f (cV p).bounds,l bp.off (cV p).offers]))) (by kernel_rfl) ?_;simp only[vcs];have J:∀x:Int,0<=x->x<nR p->bz p=0/\x<dh p/\nR p<=20:=by
  intro x H B;unfold nR at B ⊢;split at B
  ·rename_i G;have:=(dQ G).1;simp_all[dh]
  ·omega
 have E:(if bz p=0 then dh p else 0)=((nR p:Nat):Int):=by
  grind[nR,dh]
 have j:∀{a C b D:Nat} {l:List Off},a=C->b=D->(bq.cells [.ow 4 a 1,.ow 3 b 1,.row .off l] 130 3 false).same (.cells [.ow 4 C 1,.ow 3 D 1,.row .off l] 130 3 false):=by rintro _ _ _ _ _ rfl rfl;rfl
 have o:∀{x y:List Int},x=y->(bq.row (.i .i64) x 3 true).same (bq.row (.i .i64) y 3 true):=by rintro _ _ rfl;rfl
 have h:∀{x y:List (List Int)},x=y->(bq.row (.bB (.i .i64)) x 24 false).same (bq.row (.bB (.i .i64)) y 24 false):=by rintro _ _ rfl;rfl
 refine⟨⟨⟨E,j rfl rfl,o rfl,h rfl⟩,by omega,by omega⟩,?_⟩;rintro i ⟨I,K⟩;refine⟨λF=>?_,λF=>?_⟩;·grind[S3,Eu,adl,adn]
 ·rw[show i.toNat=nR p by omega];rfl
def nL (g:Game):Prop:=(g.rows.length=g.bounds.length/\g.bounds.length<=1000/\g.offers.length<=1000)/\(∀r∈g.rows,r.length=g.offers.length/\∀x∈r,0<=x/\x<=1000)/\∀b∈g.bounds, -1000<=b/\b<=1000
def pW (g:Game) (c:List Int):Prop:=∀x∈c,0<=(bj g.offers x.toNat bp.off.dflt).value/\(bj g.offers x.toNat bp.off.dflt).value<=1000000
def px (g:Game) (c:List Int):Prop:=c.length<=1000/\∀x∈c,0<=x/\x<g.offers.length
def mg (g:Game) (c:List Int) (r:Nat):Int:=(c.map λx=>bj (bj g.rows r []) x.toNat 0).sum
def lh (g:Game) (c:List Int):Bool:=(ω g.bounds.length).all λr=>decide (0<=bj g.bounds r 0 - mg g c r)
def dI (g:Game) (c:List Int):Int:=(c.map λx=>(bj g.offers x.toNat bp.off.dflt).value).sum
theorem S4 {f:Int->Int} {c:List Int} {i:Int} (a:0<=i) (h:i<c.length):((c.take (i+1).toNat).map f).sum=((c.take i.toNat).map f).sum+f (bj c i.toNat 0):=by
 grind[jq]
theorem JJ {f:Int->Int} {c:List Int} {k:Nat} {m:Int} (b:0<=m) (h:∀x∈c,0<=f x/\f x<=m):0<=((c.take k).map f).sum/\((c.take k).map f).sum<=c.length*m:=by
 induction c generalizing k with
 |nil=>simp;|cons x c a=>
  cases k with
  |zero=>simp;exact Int.mul_nonneg (by omega) b;|succ k=>
   have i:=h x (by simp);obtain⟨g,e⟩:=a (k:=k) λy d=>h y (by simp[d]);simp only[List.take_succ_cons,ξ,List.sum_cons,List.length_cons];grind
def Ey:bM:=⟨78,Game×List Int,.cons Be (.one (dG (.i .i64))),λa=>nL a.1/\px a.1 a.2,λa=> .sb (lh a.1 a.2)⟩
def adp (g:Game) (c:List Int):Nat->cG
 |2=> .inv Int (λi=>⟨[(1,.row (.i .i64) c),(2,.ptr 0 0 3),(10,.row (.i .i64) g.bounds),(11,.si .i64 g.bounds.length),(12,.si .i64 i)],[.cells [.row (.bB (.i .i64)) g.rows,.row (.i .i64) g.bounds,.row .off g.offers] 130 3 false]⟩)
   (λs=>iS s 12) (λi=>(0<=i/\i<=g.bounds.length)/\∀r:Nat,r<i->0<=bj g.bounds r 0 - mg g c r) (λi=>(g.bounds.length - i).toNat) λi k=>match k with
   |5=> .inv (Int×Int) (λy=>⟨[(1,.row (.i .i64) c),(2,.ptr 0 0 3),(5,.si .i64 i),(6,.si .i64 y.2),(10,.row (.i .i64) g.bounds),(11,.si .i64 g.bounds.length),(12,.si .i64 i),(17,.row (.i .i64) c),(18,.si .i64 c.length),(19,.si .i64 y.1)],[.cells [.row (.bB (.i .i64)) g.rows,.row (.i .i64) g.bounds,.row .off g.offers] 130 3 false]⟩)
     (λs=>(iS s 19,iS s 6)) (λy=>(0<=y.1/\y.1<=c.length)/\y.2=bj g.bounds i.toNat 0 - mg g (c.take y.1.toNat) i.toNat) (λy=>(c.length - y.1).toNat) λ_ _=> .look
   |_=> .look
 |_=> .look
theorem h327:Holds Tryz.prog Ey:=by
 refine cH (L:=[]) Ey (λa=>adp a.1 a.2) (by simp) ?_;rintro⟨g,c⟩ ⟨⟨⟨Y,q2,q3⟩,hr,U⟩,O,C⟩;simp only at Y q2 q3 hr U O C;refine bQ (let a:=(0:Int);let d:=γd .i64;let f:=Ω;let h:=γB .i64 0;let j:=cu .i64;let e:=bp.i .i64;let t:=γQ 0 0 3;let o:=f e g.bounds;let Q:=(↑g.bounds.length:Int);let q:=(↑g.bounds.length:Int);let z:=d q;let u:=bq.cells [f e.bB g.rows,o,f bp.off g.offers] 130 3 false;let s:=(↑c.length:Int);let I:=d s;((((f e c).same (f e c)/\t.same t/\o.same o/\(d Q).same z/\(h).same (d 0)/\True)/\u.same u/\True)/\(a<=a/\a<=q)/\∀(r:Nat),(↑r:Int)<a->a<=bj g.bounds r a - mg g c r)/\∀(x:Int),let F:=bj g.bounds x.toNat a;let E:=d F;let y:=bj g.rows x.toNat e.bB.dflt;let k:=x+(1:Int);let A:=d k;((a<=x/\x<=q)/\∀(r:Nat),(↑r:Int)<x->a<=bj g.bounds r a - mg g c r)->(decide (x<q)=true->a<=x/\x<Q/\x.toNat<g.bounds.length/\((((f e c).same (f e c)/\t.same t/\(d x).same (d x)/\E.same E/\o.same o/\z.same z/\(d x).same (d x)/\(f e c).same (f e c)/\(d (↑c.length:Int)).same I/\(h).same (d 0)/\True)/\u.same u/\True)/\(a<=a/\a<=s)/\F=F - mg g [] x.toNat)/\∀(b:Int×Int),let p:=bj c b.fst.toNat a;let w:=b.snd - bj y p.toNat a;let l:=b.fst+(1:Int);let n:=d x;let H:=d w;let D:=d l;let G:=decide (b.snd<a);(a<=b.fst/\b.fst<=s)/\b.snd=F - mg g (Δ b.fst.toNat c) x.toNat->(decide (b.fst<s)=true->a<=b.fst/\b.fst<(↑c.length:Int)/\b.fst.toNat<c.length/\a<=x/\x<(↑g.rows.length:Int)/\x.toNat<g.rows.length/\a<=p/\p<(↑y.length:Int)/\p.toNat<y.length/\j w/\j l/\(((f e c).same (f e c)/\t.same t/\n.same n/\H.same H/\o.same o/\z.same z/\n.same n/\(f e c).same (f e c)/\I.same I/\D.same D/\True)/\u.same u/\True)/\((a<=l/\l<=s)/\w=F - mg g (Δ l.toNat c) x.toNat)/\(s - l).toNat<(s - b.fst).toNat)/\(decide (b.fst<s)=false->(G=true->(δh false).same (γA (lh g c)))/\(G=false->j k/\(((f e c).same (f e c)/\t.same t/\o.same o/\z.same z/\A.same A/\True)/\u.same u/\True)/\((a<=k/\k<=q)/\∀(r:Nat),(↑r:Int)<k->a<=bj g.bounds r a - mg g c r)/\(q - k).toNat<(q - x).toNat)))/\(decide (x<q)=false->(δh true).same (γA (lh g c)))) (by kernel_rfl) ?_;simp only[vcs];have hd:(bp.i IntKind.i64).bB.dflt=([]:List Int):=rfl;rw[hd];have M:∀r:Nat,r<g.rows.length->(bj g.rows r []).length=g.offers.length/\∀x∈c,0<=bj (bj g.rows r []) x.toNat 0/\bj (bj g.rows r []) x.toNat 0<=1000:=λr h=>by
  grind[dn]
 refine⟨⟨by omega,λr h=>by omega⟩,?_⟩;rintro i ⟨⟨Z,i1⟩,K⟩;refine⟨λP=>⟨Z,P,by omega,⟨by omega,by simp[mg]⟩,?_⟩,λP=>?_⟩
 ·obtain⟨W,B⟩:=M i.toNat (by omega);have a1:=U _ (dn (d:=0) (show i.toNat<g.bounds.length by omega));rintro⟨j,v⟩ ⟨⟨S,j1⟩,J⟩;simp only at S j1 J ⊢;refine⟨λV=>?_,λV=>?_⟩
  ·have hx:=C _ (dn (d:=0) (show j.toNat<c.length by omega));have hs:mg g (c.take (j+1).toNat) i.toNat=mg g (c.take j.toNat) i.toNat+bj (bj g.rows i.toNat []) (bj c j.toNat 0).toNat 0:=S4 (f:=λx=>bj (bj g.rows i.toNat []) x.toNat 0) S V;have X:0<=mg g (c.take j.toNat) i.toNat/\mg g (c.take j.toNat) i.toNat<=c.length*1000:=JJ (f:=λx=>bj (bj g.rows i.toNat []) x.toNat 0) (m:=1000) (by omega) B;have a0:=B _ (dn (d:=0) (show j.toNat<c.length by omega));omega
  ·have N:j.toNat=c.length:=by omega
   rw[N,φ] at J;refine⟨λR=>?_,λT=>⟨by omega,⟨by omega,λr h=>?_⟩,by omega⟩⟩
   ·symm;rw[<-Bool.not_eq_true,lh,τ];intro h;have:=of_decide_eq_true (h i.toNat (γC.2 (by omega)));omega
   ·by_cases h2:(r:Int)<i;·simp_all
    ·rw[show r=i.toNat by omega,<-J];omega
 grind[lh]
def yw:bM:=⟨75,Game×List Int,.cons Be (.one (dG (.i .i64))),λa=>nL a.1/\px a.1 a.2/\pW a.1 a.2,λa=> .si .i64 (dI a.1 a.2)⟩
def adq (g:Game) (c:List Int):Nat->cG
 |3=> .inv Int (λi=>⟨[(2,.ptr 0 0 3),(5,.si .i64 (dI g (c.take i.toNat))),(8,.row (.i .i64) c),(9,.si .i64 c.length),(10,.si .i64 i)],[.cells [.row (.bB (.i .i64)) g.rows,.row (.i .i64) g.bounds,.row .off g.offers] 130 3 false]⟩)
   (λs=>iS s 10) (λi=>0<=i/\i<=c.length) (λi=>(c.length - i).toNat) λ_ _=> .look
 |_=> .look
theorem h328:Holds Tryz.prog yw:=by
 refine cH (L:=[]) yw (λa=>adq a.1 a.2) (by simp) ?_;rintro⟨g,c⟩ ⟨⟨⟨D,E,C⟩,B,y⟩,⟨q,l⟩,e⟩;simp only[pW] at D E C B y q l e;refine bQ (let a:=γd .i64;let d:=(0:Int);let e:=Ω;let o:=γQ 0 0 3;let v:=γB .i64 0;let j:=bp.i .i64;let b:=(↑c.length:Int);let r:=a b;let n:=bq.cells [e j.bB g.rows,e j g.bounds,e bp.off g.offers] 130 3 false;(((o.same o/\v.same (a (dI g []))/\(e j c).same (e j c)/\(a (↑c.length:Int)).same r/\v.same (a 0)/\True)/\n.same n/\True)/\d<=d/\d<=b)/\∀(x:Int),let p:=bj c x.toNat d;let t:=dI g (Δ x.toNat c);let s:=t+(bj g.offers p.toNat bp.off.dflt).value;let h:=x+(1:Int);let k:=a h;d<=x/\x<=b->(decide (x<b)=true->d<=x/\x<(↑c.length:Int)/\x.toNat<c.length/\d<=p/\p<(↑g.offers.length:Int)/\p.toNat<g.offers.length/\cu .i64 s/\cu .i64 h/\((o.same o/\(a s).same (a (dI g (Δ h.toNat c)))/\(e j c).same (e j c)/\r.same r/\k.same k/\True)/\n.same n/\True)/\(d<=h/\h<=b)/\(b - h).toNat<(b - x).toNat)/\(decide (x<b)=false->(a t).same (a (dI g c)))) (by kernel_rfl) ?_;conv=>zeta
 try simp only[vcs]
 refine⟨⟨by simp[dI],by omega,by omega⟩,?_⟩;rintro i ⟨A,H⟩;refine⟨λu=>?_,λu=>?_⟩
 ·have F:=l _ (dn (d:=0) (show i.toNat<c.length by omega));have G:dI g (c.take (i+1).toNat)=dI g (c.take i.toNat)+(bj g.offers (bj c i.toNat 0).toNat bp.off.dflt).value:=S4 (f:=λx=>(bj g.offers x.toNat bp.off.dflt).value) A u;have w:0<=dI g (c.take i.toNat)/\dI g (c.take i.toNat)<=c.length*1000000:=JJ (f:=λx=>(bj g.offers x.toNat bp.off.dflt).value) (m:=1000000) (by omega) e;have z:=e _ (dn (d:=0) (show i.toNat<c.length by omega));omega
 ·rw[show i.toNat=c.length by omega,φ]
def Ez:bM:=⟨77,List Int×List Int,.cons (dG (.i .i64)) (.one (dG (.i .i64))),λa=>a.1.length<=1000/\1<=a.2.length/\a.2.length<=1000,λa=> .row (.i .i64) (ec (a.1++a.2))⟩
theorem h326:Holds Tryz.prog Ez:=by
 refine con (L:=[]) (W:=gP [wB,Bc]) Ez lk (kY (by grind[h330o,h337])) (by simp) ?_;rintro⟨s,x⟩ ⟨b,c,d⟩;simp only at b c d;refine bQ (let a:Nat:=(s++x).length;s.length<=1000000/\s.length=s.length/\(s.length+x.length)*8<=140737488355328/\s.length+x.length<=1000000000000/\((s++x).length=a/\1<=a/\a<=1000000)/\(s++x).length=(ec (s++x)).length/\(Ω (bp.i .i64) (ec (s++x))).same (Ω (bp.i .i64) (ec (s++x)))) (by kernel_rfl) ?_;conv=>zeta
 try simp only[vcs]
 grind[rL]
def JK:bM:=⟨109,List Int×Int,.cons (dG (.i .i64)) (.one (eU .i64)),λa=>a.1.length<=1000/\0<=a.2/\a.2<a.1.length,λa=> .row (.i .i64) (a.1.take a.2.toNat++a.1.drop (a.2+1).toNat)⟩
theorem h339:Holds Tryz.prog JK:=by
 refine con (L:=[]) (W:=gP [wB,wC]) JK lk (kY (by grind[h330o,h347])) (by simp) ?_;rintro⟨s,i⟩ ⟨d,e,f⟩;simp only at d e f;refine bQ (let a:=i+(1:Int);let c:=lG s i.toNat a.toNat;let b:=s.length - (a - i).toNat;s.length<=1000000/\cu .i64 a/\((s.length=s.length/\1<=s.length/\s.length<=1000000)/\(0:Int)<=i/\i<=a/\a<=(↑s.length:Int))/\s.length=c.length/\0+b<=s.length/\(Ω (bp.i .i64) (Δ b c)).same (Ω (bp.i .i64) (Δ i.toNat s++List.drop a.toNat s))) (by kernel_rfl) ?_;conv=>zeta
 try simp only[vcs]
 have g:=@S1 s i.toNat (i+1).toNat (by omega) (by omega);refine⟨by omega,by omega,by omega,g.symm,by omega,?_⟩;unfold lG;rw[List.take_append_of_le_length (by grind),γq (by grind)]
def s8 (c:List Int) (x:Int):Int:=if x∈c then(c.idxOf x:Int) else -1
theorem adr {c:List Int} {x:Int} {k:Nat} (h:k<c.length) (b:∀j:Nat,j<k->bj c j 0≠x) (a:bj c k 0=x):s8 c x=k:=by
 unfold s8;rw[if_pos (a▸dn h)];congr 1;rw[cT h] at a;rw[List.idxOf,List.findIdx_eq h];grind[cT]
theorem ads {c:List Int} {x:Int} (a:∀j:Nat,j<c.length->bj c j 0≠x):s8 c x= -1:=by
 unfold s8;rw[if_neg];intro h;obtain⟨k,b,rfl⟩:=γH h;grind[cT]
theorem adt {c:List Int} {x:Int}:0<=s8 c x↔x∈c:=by
 grind[s8]
def JL:bM:=⟨148,List Int×Int,.cons (dG (.i .i64)) (.one (eU .i64)),λa=>a.1.length<=1000,λa=> .si .i64 (s8 a.1 a.2)⟩
def adu (c:List Int) (x:Int):Nat->cG
 |2=> .inv Int (λi=>⟨[(0,.row (.i .i64) c),(1,.si .i64 x),(7,.si .i64 c.length),(8,.si .i64 i)],[]⟩)
   (λs=>iS s 8) (λi=>(0<=i/\i<=c.length)/\∀k:Nat,(k:Int)<i->bj c k 0≠x) (λi=>(c.length - i).toNat) λ_ _=> .look
 |_=> .look
theorem h348:Holds Tryz.prog JL:=by
 refine cH (L:=[]) JL (λa=>adu a.1 a.2) (by simp) ?_;rintro⟨c,x⟩ o;replace o:c.length<=1000:=o;refine bQ (let a:=γd .i64;let h:=(0:Int);let f:=Ω (bp.i .i64) c;let d:=(↑c.length:Int);let g:=a d;let n:=a (s8 c x);(((f.same f/\(a x).same (a x)/\(a (↑c.length:Int)).same g/\(γB .i64 0).same (a 0)/\True)/\True)/\(h<=h/\h<=d)/\∀(k:Nat),(↑k:Int)<h->bj c k h≠x)/\∀(b:Int),let l:=decide (x=bj c b.toNat h);let e:=b+(1:Int);let j:=a x;let m:=a e;((h<=b/\b<=d)/\∀(k:Nat),(↑k:Int)<b->bj c k h≠x)->(decide (b<d)=true->h<=b/\b<(↑c.length:Int)/\b.toNat<c.length/\(l=true->(a b).same n)/\(l=false->cu .i64 e/\((f.same f/\j.same j/\g.same g/\m.same m/\True)/\True)/\((h<=e/\e<=d)/\∀(k:Nat),(↑k:Int)<e->bj c k h≠x)/\(d - e).toNat<(d - b).toNat))/\(decide (b<d)=false->(γB .i64 (-1:Int)).same n)) (by kernel_rfl) ?_;conv=>zeta
 try simp only[vcs]
 refine⟨⟨by omega,λk h=>by omega⟩,?_⟩;grind[adr,ads]
def JM:bM:=⟨110,List Int×Int,.cons (dG (.i .i64)) (.one (eU .i64)),λa=>a.1.length<=1000,λa=> .sb (decide (a.2∈a.1))⟩
theorem h340:Holds Tryz.prog JM:=by
 refine cH (L:=[JL]) JM lk (by grind[h348]) ?_;rintro⟨c,x⟩ a;replace a:c.length<=1000:=a;refine bQ (c.length<=1000/\(γA (decide ((0:Int)<=s8 c x))).same (γA (decide (x∈c)))) (by kernel_rfl) ?_;simp_all[adt]
theorem Bf {p:bn} (a:bz p=0) {r:Int}:0<=dm p r/\dm p r<=4:=by
 obtain⟨_,_,b,c,_⟩:=dQ a;unfold dm;split;·omega
 ·split;all_goals simp_all[HZ]
theorem S5 {p:bn} (h:p.offers.length<=1000):nL (cV p):=by
 have j:nR p<=20:=by
  unfold nR;split
  ·rename_i a;have:=(dQ a).1;omega
  ·omega
 have d:0<nR p->bz p=0:=by
  grind[nR]
 refine⟨⟨?_,?_,h⟩,λr f=>?_,λb g=>?_⟩
 ·show(mf p (nR p)).length=(kq p (nR p)).length;rw[S3,Eu]
 ·show(kq p (nR p)).length<=1000;grind[Eu]
 ·obtain⟨k,c,rfl⟩:=Θ.1 (show r∈mf p (nR p) from f);rw[γC] at c;have a:=d (by omega);refine⟨by simp[iC,cV],λx i=>?_⟩;obtain⟨o,e,rfl⟩:=Θ.1 (show x∈iC p k p.offers.length from i);have:=pR (p:=p) (r:=k) ((dQ a).2.2.2.2 o (γo e)).2.2.1;omega
 ·obtain⟨k,c,rfl⟩:=Θ.1 (show b∈kq p (nR p) from g);rw[γC] at c;have:=Bf (d (by omega)) (r:=k);omega
def stepG (g:Game) (c:List Int) (x:Int):List Int:=if lh g (ec (c++[x]))=true then ec (c++[x]) else c
def oG (g:Game) (l:List Int):List Int:=l.foldl (stepG g) []
def gR (p:bn):List Int:=if bz p=0 then wA p else[]
def jY (p:bn):List Int:=oG (cV p) (gR p)
theorem EA {l:List Int} {x:Int}:x∈ec l↔x∈l:=(δu _ _).mem_iff
theorem S7 {g:Game} {c:List Int} {x y:Int} (h:y∈stepG g c x):y∈c\/y=x:=by
 grind[stepG,EA]
theorem adv {g:Game} {c:List Int} {x:Int}:(stepG g c x).length<=c.length+1:=by
 grind[stepG,rL]
theorem S8 {g:Game} {l:List Int}:∀{c:List Int} {y:Int},y∈l.foldl (stepG g) c->y∈c\/y∈l:=by
 induction l<;>grind[S7]
theorem adw {g:Game} {l:List Int}:∀{c:List Int},(l.foldl (stepG g) c).length<=c.length+l.length:=by
 induction l<;>grind[stepG,adv]
theorem adx {g:Game} {l:List Int}:(oG g l).length<=l.length:=by
 grind[adw,oG]
theorem ady {g:Game} {l:List Int} {i:Int} (a:0<=i) (h:i<l.length):oG g (l.take (i+1).toNat)=stepG g (oG g (l.take i.toNat)) (bj l i.toNat 0):=by
 grind[oG,jq]
theorem JO {p:bn} {x:Int} (h:x∈gR p):bz p=0/\mO p x:=by
 unfold gR at h;split at h
 ·rename_i a;rw[wA,Jy,iV] at h;exact⟨a,h⟩
 ·simp at h
theorem S9 {p:bn}:(gR p).length<=p.offers.length:=by
 grind[gR,wA,s7,iz]
theorem adz {p:bn} (d:p.offers.length<=20) {k:Nat}:(oG (cV p) ((gR p).take k)).length<=40/\∀x∈oG (cV p) ((gR p).take k),bz p=0/\mO p x:=by
 have b:=@adx (cV p) ((gR p).take k);have c:=@S9 p;rw[γy] at b;refine⟨by omega,λx a=>?_⟩;rcases S8 a with h|h<;>grind[S8,JO]
def Bg:bM:=⟨55,bn,.one dO,λp=>p.offers.length<=20,λp=>nA.put ⟨jY p,dI (cV p) (jY p)⟩⟩
def adA (p:bn):Nat->cG
 |4=> .inv Int (λi=>⟨[(2,.ptr 1 0 2),(3,.ptr 2 0 3),(4,.row (.i .i64) (oG (cV p) ((gR p).take i.toNat))),(11,.row (.i .i64) (gR p)),(12,.si .i64 (gR p).length),(13,.si .i64 i)],[.cells p.ss 27 20 false,.cells [.sc (.slice none 0 0),.il .i64 0] 40 2 false,.cells [.row (.bB (.i .i64)) (cV p).rows,.row (.i .i64) (cV p).bounds,.row .off (cV p).offers] 130 3 false,.dead]⟩)
   (λs=>iS s 13) (λi=>0<=i/\i<=(gR p).length) (λi=>((gR p).length - i).toNat) λ_ _=> .look
 |_=> .look
theorem h312:Holds Tryz.prog Bg:=by
 refine cH (L:=[Ew,JI,Ez,Ey,yw]) Bg adA (by simpa using⟨h325,h308,h326,h327,h328⟩) ?_;intro(p:bn) (hp:p.offers.length<=20);refine bQ (let a:=γd .i64;let b:=Ω;let c:=(0:Int);let d:=bq.cells;let j:=γQ 1 0 2;let k:=γQ 2 0 3;let e:=bp.i .i64;let s:=if bz p=c then wA p else[];let o:=b e (gR p);let f:=(↑(gR p).length:Int);let q:=a f;let t:=γB .i64 0;let l:=d [a p.supply.a0,a p.supply.a1,a p.supply.a2,a p.supply.a3,a p.supply.a4,a p.supply.a5,a p.opn.a0,a p.opn.a1,a p.opn.a2,a p.opn.a3,a p.opn.a4,a p.opn.a5,a p.cls.a0,a p.cls.a1,a p.cls.a2,a p.cls.a3,a p.cls.a4,a p.cls.a5,b e p.classes,b bp.off p.offers] 27 20 false;let m:=d [SV.sc (Value.slice none 0 0),t] 40 2 false;let n:=d [b e.bB (cV p).rows,b e (cV p).bounds,b bp.off (cV p).offers] 130 3 false;True/\0=0/\p.offers.length<=20/\(((j.same j/\k.same k/\(b e []).same (b e (oG (cV p) []))/\(b e s).same o/\(a (↑s.length:Int)).same q/\t.same (a 0)/\True)/\l.same l/\m.same m/\n.same n/\bq.dead.same bq.dead/\True)/\c<=c/\c<=f)/\∀(x:Int),let g:=oG (cV p) (Δ x.toNat (gR p));let r:=ec (g++[bj (gR p) x.toNat c]);let h:=x+(1:Int);let v:=a h;let w:=λ(u:Bool) (u_1:List Int) ↦lh (cV p) r=u->cu .i64 h/\((j.same j/\k.same k/\(b e u_1).same (b e (oG (cV p) (Δ h.toNat (gR p))))/\o.same o/\q.same q/\v.same v/\True)/\l.same l/\m.same m/\n.same n/\bq.dead.same bq.dead/\True)/\(c<=h/\h<=f)/\(f - h).toNat<(f - x).toNat;c<=x/\x<=f->(decide (x<f)=true->c<=x/\x<(↑(gR p).length:Int)/\x.toNat<(gR p).length/\(g.length<=1000/\1<=1/\1<=1000)/\(nL (cV p)/\px (cV p) r)/\w true r/\w false g)/\(decide (x<f)=false->(nL (cV p)/\px (cV p) g/\pW (cV p) g)/\(γR [b e g,a (dI (cV p) g)]).same (γR [b e (jY p),a (dI (cV p) (jY p))]))) (by kernel_rfl) ?_;conv=>zeta
 try simp only[vcs]
 have hg:=@S5 p (by omega);have hol:=@S9 p;have e0:(if bz p=0 then wA p else[])=gR p:=rfl;rw[e0];refine⟨hp,⟨⟨rfl,rfl,rfl⟩,by omega,by omega⟩,?_⟩
 ·rintro i ⟨i0,i1⟩;obtain⟨hsl,hsm⟩:=@adz p hp i.toNat;refine⟨λhi=>?_,λhi=>?_⟩
  ·have hs:=@ady (cV p) (gR p) i i0 hi;have hx:=JO (dn (d:=0) (show i.toNat<(gR p).length by omega));rw[hs];generalize oG (cV p) ((gR p).take i.toNat)=c at*;refine⟨i0,hi,by omega,⟨by omega,by omega,by omega⟩,⟨hg,by rw[rL,γh];simp;omega,λx h=>?_⟩,λh=>⟨by omega,by unfold stepG;rw[if_pos h],by omega,by omega⟩,λh=>⟨by omega,by unfold stepG;rw[if_neg (by rw[h];simp)],by omega,by omega⟩⟩;rw[EA,γm] at h;rcases h with h|h;·exact(hsm x h).2
   ·rw[List.mem_singleton] at h;rw[h];exact hx.2
  ·have hk:(gR p).take i.toNat=gR p:=γq (by omega);rw[hk] at hsl hsm ⊢;refine⟨⟨hg,⟨by omega,λx h=>(hsm x h).2⟩,λx h=>?_⟩,rfl⟩;obtain⟨hc,hx⟩:=hsm x h;have:=(A2 hc hx).1;have e:(bj (cV p).offers x.toNat bp.off.dflt).value=rK p x:=rfl;rw[e];omega
def rM (g:Game):List SV:=[.row (.bB (.i .i64)) g.rows,.row (.i .i64) g.bounds,.row .off g.offers]
def JP:List SV->Option Game
 |[r,v,x]=>match jH (.bB (.i .i64)) r,jH (.i .i64) v,jH .off x with
  |some c,some v,some x=>some ⟨c,v,x⟩
  |_,_,_=>none
 |_=>none
theorem adB {cs:List SV} {g:Game} (h:JP cs=some g):gL cs=gL (rM g):=by
 unfold JP at h;grind[rM,gL,o8]
theorem adE {g a:Game} (h:gL (rM g)=gL (rM a)):g=a:=Be.inj g a (by
 show AV.agg (gL (rM g))=AV.agg (gL (rM a));rw[h])
def nM (g:Game) (v:Int) (c:List Int):Bool:=decide (v<dI g c)&&lh g c
def JQ:dH where
 f:=108;α:=List Int×Game×Int;put a:=[.row (.i .i64) a.1,.ptr 0 0 3,.ptr 1 0 1];st a:=[.cells (rM a.2.1) 130 3 false,.cells [.si .i64 a.2.2] 2 1 false];dec v o:=match v,o with
  |[x,.ptr 0 0 3,.ptr 1 0 1],[.cells cs 130 3 false,.cells [y] 2 1 false]=>match jH (.i .i64) x,JP cs,y.int .i64 with
   |some x,some g,some y=>some (x,g,y)
   |_,_,_=>none
  |_,_=>none;ok v o a h:=by
  split at h
  ·split at h
   ·rename_i h1 h2 h3;simp only[γ] at h;subst h;refine⟨by simp only[gL,o8 h1],?_⟩;simp only[gO,ξ,γv,bq.g,adB h2,gL,iO h3];rfl
   ·cases h
  ·cases h
 inj a b h1 h2:=by
  simp only[gL,Γ,and_true,SV.g,δ5] at h1;simp only[gO,ξ,γv,bq.g,Γ,bR.cells.injEq,and_true,gL,SV.g,AV.sc.injEq,Value.int.injEq,true_and] at h2;have h3:=adE h2.1;have h4:=ly (.i .i64) h1.1 h1.2;exact Prod.ext h4 (Prod.ext h3 h2.2)
 dom a:=nL a.2.1/\px a.2.1 a.1/\pW a.2.1 a.1;res a:=.sb (nM a.2.1 a.2.2 a.1);out a:=[.cells (rM a.2.1) 130 3 false,.cells [.si .i64 a.2.2] 2 1 false]
theorem h338:ef Tryz.prog JQ:=by
 refine lz (L:=[Ey,yw]) (W:=[]) JQ lk (by simp) (by grind[h327,h328]) ?_;rintro⟨c,g,v⟩ ⟨j,f,h⟩;simp only at j f h;refine bQ (let f:=Ω;let e:=bq.cells [f (bp.i .i64).bB g.rows,f (bp.i .i64) g.bounds,f bp.off g.offers] 130 3 false;let a:=bq.cells [γd .i64 v] 2 1 false;let b:=decide (v<dI g c);let d:=e.same e/\a.same a/\True;(nL g/\px g c/\pW g c)/\(b=true->(nL g/\px g c)/\(γA (lh g c)).same (γA (nM g v c))/\d)/\(b=false->(δh false).same (γA (nM g v c))/\d)) (by kernel_rfl) ?_;simp_all[vcs,nM,decide_eq_false]
def pX (g:Game) (c:List Int) (v:Int) (a:List Int) (o k:Int):Option (List Int):=if k<=o\/k∈c then none else if nM g v (ec (a++[o,k]))=true then some (ec (a++[o,k])) else none
def nN (g:Game) (c:List Int) (v:Int) (a:List Int) (o:Int):Option (List Int):=if o∈c then none else if nM g v (ec (a++[o]))=true then some (ec (a++[o])) else(ω g.offers.length).findSome? λk:Nat=>pX g c v a o k
def iW (c:List Int) (i:Nat):List Int:=c.take i++c.drop (i+1)
def yx (g:Game) (c:List Int) (v:Int) (i:Nat):Option (List Int):=(ω g.offers.length).findSome? λo:Nat=>nN g c v (iW c i) o
def je (g:Game) (c:List Int):Option (List Int):=(ω c.length).findSome? λi=>yx g c (dI g c) i
theorem EB {n:Nat} {f:Nat->Option (List Int)} (h:∀i,i<n->f i=none):(ω n).findSome? f=none:=by
 simp_all
theorem EC {n i:Nat} {f:Nat->Option (List Int)} {t:List Int} (c:i<n) (h:∀j,j<i->f j=none) (b:f i=some t):(ω n).findSome? f=some t:=by
 have e:ω n=ω i++(i::(ω (n - (i+1))).map λk=>i+1+k):=by
  have a:=@List.range_add i (n - i);rw[show i+(n - i)=n by omega] at a;rw[a,show n - i=(n - (i+1))+1 by omega,List.range_succ_eq_map];simp only[ξ,γO,Nat.add_zero];congr 2;apply γU;grind
 simp_all[EB]
def uJ (g:Game):Prop:=nL g/\∀o∈g.offers,0<=o.value/\o.value<=1000000
def JR:bM:=⟨74,Game×List Int,.cons Be (.one (dG (.i .i64))),λa=>uJ a.1/\(a.2.length<=900/\∀x∈a.2,0<=x/\x<a.1.offers.length),λa=> .bI [.row (.i .i64) ((je a.1 a.2).getD []),.sb (je a.1 a.2).isSome]⟩
def JS (g:Game) (c:List Int):cj:=[.cells (rM g) 130 3 false,.cells [.si .i64 (dI g c)] 2 1 false]
def adF (g:Game) (c:List Int):Nat->cG
 |4=> .inv Int (λi=>⟨[(1,.row (.i .i64) c),(2,.ptr 0 0 3),(7,.fn (.func 108) [] [.ptr 0 0 3,.ptr 1 0 1]),(19,.si .i64 c.length),(20,.si .i64 i)],JS g c⟩)
   (λs=>iS s 20) (λi=>(0<=i/\i<=c.length)/\∀k:Nat,(k:Int)<i->yx g c (dI g c) k=none) (λi=>(c.length - i).toNat) λi k=>match k with
   |8=> .inv Int (λo=>⟨[(1,.row (.i .i64) c),(2,.ptr 0 0 3),(7,.fn (.func 108) [] [.ptr 0 0 3,.ptr 1 0 1]),(9,.row (.i .i64) (iW c i.toNat)),(19,.si .i64 c.length),(20,.si .i64 i),(28,.si .i64 g.offers.length),(29,.si .i64 o)],JS g c⟩)
     (λs=>iS s 29) (λo=>(0<=o/\o<=g.offers.length)/\∀k:Nat,(k:Int)<o->nN g c (dI g c) (iW c i.toNat) k=none) (λo=>(g.offers.length - o).toNat) λo k=>match k with
     |15=> .inv Int (λz=>⟨[(1,.row (.i .i64) c),(2,.ptr 0 0 3),(7,.fn (.func 108) [] [.ptr 0 0 3,.ptr 1 0 1]),(9,.row (.i .i64) (iW c i.toNat)),(10,.si .i64 o),(12,.si .i64 z),(19,.si .i64 c.length),(20,.si .i64 i),(28,.si .i64 g.offers.length),(29,.si .i64 o)],JS g c⟩)
       (λs=>iS s 12) (λz=>(o<z/\z<=g.offers.length)/\∀k:Nat,(k:Int)<z->pX g c (dI g c) (iW c i.toNat) o k=none) (λz=>(g.offers.length - z).toNat) λ_ _=> .look
     |_=> .look
   |_=> .look
 |_=> .look
theorem h331:Holds Tryz.prog JR:=by
 refine con (L:=[Ez,yw,JK,JM]) (W:=gP [JQ]) JR (λa=>adF a.1 a.2) (kY (by simpa using h338)) (by simpa using⟨h326,h328,h339,h340⟩) ?_;rintro⟨g,c⟩ ⟨⟨hg,hv⟩,hcl,hci⟩;simp only at hg hv hcl hci;refine bQ (let a:=γd .i64;let b:=Ω;let d:=(0:Int);let e:=cu .i64;let f:=γB .i64 0;let h:=SV.bI;let j:=(1:Int);let l:=bp.i .i64;let n:=γQ 0 0 3;let p:=SV.fn (Fn.func 108) [] [n,γQ 1 0 1];let u:=(↑c.length:Int);let s:=a u;let q:=bq.cells [b l.bB g.rows,b l g.bounds,b bp.off g.offers] 130 3 false;let r:=bq.cells [a (dI g c)] 2 1 false;let F:=(↑g.offers.length:Int);let m:=(↑g.offers.length:Int);let v:=a m;let G:=h [b l ((je g c).getD []),γA (je g c).isSome];(nL g/\px g c/\pW g c)/\((((b l c).same (b l c)/\n.same n/\p.same p/\(a (↑c.length:Int)).same s/\(f).same (a 0)/\True)/\q.same q/\r.same r/\True)/\(d<=d/\d<=u)/\∀(k:Nat),(↑k:Int)<d->yx g c (dI g c) k=none)/\∀(x:Int),let z:=x+j;let t:=iW c x.toNat;let w:=b l t;let H:=a z;((d<=x/\x<=u)/\∀(k:Nat),(↑k:Int)<x->yx g c (dI g c) k=none)->(decide (x<u)=true->(c.length<=1000/\d<=x/\x<u)/\((((b l c).same (b l c)/\n.same n/\p.same p/\(b l (Δ x.toNat c++List.drop z.toNat c)).same w/\s.same s/\(a x).same (a x)/\(a F).same v/\(f).same (a 0)/\True)/\q.same q/\r.same r/\True)/\(d<=d/\d<=m)/\∀(k:Nat),(↑k:Int)<d->nN g c (dI g c) t (↑k:Int)=none)/\∀(x_1:Int),let o:=x_1+j;let y:=a x;let A:=a o;let C:=ec (t++[x_1]);let I:=nM g (dI g c) C;((d<=x_1/\x_1<=m)/\∀(k:Nat),(↑k:Int)<x_1->nN g c (dI g c) t (↑k:Int)=none)->(decide (x_1<m)=true->c.length<=1000/\(decide (x_1∈c)=true->e o/\(((b l c).same (b l c)/\n.same n/\p.same p/\w.same w/\s.same s/\y.same y/\v.same v/\A.same A/\True)/\q.same q/\r.same r/\True)/\((d<=o/\o<=m)/\∀(k:Nat),(↑k:Int)<o->nN g c (dI g c) t (↑k:Int)=none)/\(m - o).toNat<(m - x_1).toNat)/\(decide (x_1∈c)=false->(t.length<=1000/\1<=1/\1<=1000)/\(nL g/\px g C/\pW g C)/\(I=true->(h [b l C,δh true]).same G)/\(I=false->e o/\((((b l c).same (b l c)/\n.same n/\p.same p/\w.same w/\(a x_1).same (a x_1)/\A.same A/\s.same s/\y.same y/\v.same v/\(a x_1).same (a x_1)/\True)/\q.same q/\r.same r/\True)/\(x_1<o/\o<=m)/\∀(k:Nat),(↑k:Int)<o->pX g c (dI g c) t x_1 (↑k:Int)=none)/\∀(x:Int),let B:=x+j;let D:=a x_1;let J:=a B;let E:=ec (t++[x_1,x]);let K:=nM g (dI g c) E;let L:=e B/\(((b l c).same (b l c)/\n.same n/\p.same p/\w.same w/\D.same D/\J.same J/\s.same s/\y.same y/\v.same v/\D.same D/\True)/\q.same q/\r.same r/\True)/\((x_1<B/\B<=m)/\∀(k:Nat),(↑k:Int)<B->pX g c (dI g c) t x_1 (↑k:Int)=none)/\(m - B).toNat<(m - x).toNat;((x_1<x/\x<=m)/\∀(k:Nat),(↑k:Int)<x->pX g c (dI g c) t x_1 (↑k:Int)=none)->(decide (x<F)=true->c.length<=1000/\(decide (x∈c)=true->L)/\(decide (x∈c)=false->(t.length<=1000/\1<=2/\2<=1000)/\(nL g/\px g E/\pW g E)/\(K=true->(h [b l E,δh true]).same G)/\(K=false->L)))/\(decide (x<F)=false->e o/\(((b l c).same (b l c)/\n.same n/\p.same p/\w.same w/\s.same s/\y.same y/\v.same v/\A.same A/\True)/\q.same q/\r.same r/\True)/\((d<=o/\o<=m)/\∀(k:Nat),(↑k:Int)<o->nN g c (dI g c) t (↑k:Int)=none)/\(m - o).toNat<(m - x_1).toNat))))/\(decide (x_1<m)=false->e z/\(((b l c).same (b l c)/\n.same n/\p.same p/\s.same s/\H.same H/\True)/\q.same q/\r.same r/\True)/\((d<=z/\z<=u)/\∀(k:Nat),(↑k:Int)<z->yx g c (dI g c) k=none)/\(u - z).toNat<(u - x).toNat))/\(decide (x<u)=false->(h [b l [],δh false]).same G)) (by kernel_rfl) ?_;conv=>zeta
 try simp only[vcs]
 have Ta:∀d:List Int,(∀x∈d,0<=x/\x<g.offers.length)->pW g d:=λd hd x hx=>hv _ (dn (by have:=hd x hx;omega));have hout:∀i:Nat,(iW c i).length<=900/\∀x∈iW c i,x∈c:=λi=>by
  unfold iW;refine⟨by rw[γh,γy,List.length_drop];omega,λx hx=>?_⟩;rw[γm] at hx;exact hx.elim γo List.mem_of_mem_drop
 have hnew:∀(i:Nat) (d:List Int),d.length<=2->(∀x∈d,0<=x/\x<g.offers.length)->nL g/\px g (ec (iW c i++d))/\pW g (ec (iW c i++d)):=λi d hd hx=>by
  have h2:∀x∈ec (iW c i++d),0<=x/\x<g.offers.length:=λx h=>by
   rw[EA,γm] at h;exact h.elim (λh=>hci x ((hout i).2 x h)) (hx x)
  have:=(hout i).1;exact⟨hg,⟨by rw[rL,γh];omega,h2⟩,Ta _ h2⟩
 have hg1:=hg.1;refine⟨⟨hg,⟨by omega,hci⟩,Ta c hci⟩,⟨by omega,λk h=>by omega⟩,?_⟩;rintro i ⟨⟨i0,i1⟩,hi⟩;refine⟨λhil=>⟨⟨by omega,i0,hil⟩,⟨by unfold iW;rw[show(i+1).toNat=i.toNat+1 by omega],by omega,λk h=>by omega⟩,?_⟩,λhil=>?_⟩
 ·have ho:=hout i.toNat;have found:∀t,yx g c (dI g c) i.toNat=some t->je g c=some t:=λt ht=>EC (i:=i.toNat) (by omega) (λj hj=>hi j (by omega)) ht;rintro o ⟨⟨o0,o1⟩,hk⟩;refine⟨λhol=>⟨by omega,λhin=>⟨by omega,⟨by omega,λk h=>?_⟩,by omega⟩,λhin=>⟨by omega,hnew _ _ (by simp) (by simp;omega),λhb=>?_,λhb=>⟨by omega,⟨by omega,λk h=>?_⟩,?_⟩⟩⟩,λhol=>⟨by omega,⟨by omega,λk h=>?_⟩,by omega⟩⟩
  ·by_cases h2:(k:Int)<o;·exact hk k h2
   ·rw[show(k:Int)=o by omega];unfold nN;rw[if_pos hin]
  ·have h2:nN g c (dI g c) (iW c i.toNat) o=some (ec (iW c i.toNat++[o])):=by
    unfold nN;rw[if_neg hin,if_pos hb]
   have h3:=found _ (EC (f:=λo:Nat=>nN g c (dI g c) (iW c i.toNat) o) (i:=o.toNat) (by omega) (λj hj=>hk j (by omega)) (by simp only[show((o.toNat:Nat):Int)=o by omega];exact h2));rw[h3];exact⟨rfl,rfl⟩
  ·unfold pX;rw[if_pos (.inl (by omega))]
  ·rintro z ⟨⟨z0,z1⟩,hz⟩;refine⟨λhzl=>⟨by omega,λhin2=>⟨by omega,⟨by omega,λk h=>?_⟩,by omega⟩,λhin2=>⟨by omega,hnew _ _ (by simp) (by simp;omega),λhb2=>?_,λhb2=>⟨by omega,⟨by omega,λk h=>?_⟩,by omega⟩⟩⟩,λhzl=>⟨by omega,⟨by omega,λk h=>?_⟩,by omega⟩⟩
   ·by_cases h2:(k:Int)<z;·exact hz k h2
    ·rw[show(k:Int)=z by omega];unfold pX;rw[if_pos (.inr hin2)]
   ·have h4:¬z<=o:=by omega
    have h5:pX g c (dI g c) (iW c i.toNat) o z=some (ec (iW c i.toNat++[o,z])):=by
     unfold pX;rw[if_neg (λh=>h.elim h4 hin2),if_pos hb2]
    have h2:nN g c (dI g c) (iW c i.toNat) o=some (ec (iW c i.toNat++[o,z])):=by
     unfold nN;rw[if_neg hin,if_neg (by rw[hb];simp)];exact EC (f:=λk:Nat=>pX g c (dI g c) (iW c i.toNat) o k) (i:=z.toNat) (by omega) (λj hj=>hz j (by omega)) (by simp only[show((z.toNat:Nat):Int)=z by omega];exact h5)
    have h3:=found _ (EC (f:=λo:Nat=>nN g c (dI g c) (iW c i.toNat) o) (i:=o.toNat) (by omega) (λj hj=>hk j (by omega)) (by simp only[show((o.toNat:Nat):Int)=o by omega];exact h2));rw[h3];exact⟨rfl,rfl⟩
   ·by_cases h2:(k:Int)<z;·exact hz k h2
    ·rw[show(k:Int)=z by omega];unfold pX;rw[hb2];simp
   ·by_cases h2:(k:Int)<o;·exact hk k h2
    ·rw[show(k:Int)=o by omega];unfold nN;rw[if_neg hin,if_neg (by rw[hb];simp)];exact EB λj hj=>hz j (by omega)
  ·by_cases h2:(k:Int)<i;·exact hi k h2
   ·rw[show k=i.toNat by omega];exact EB λj hj=>hk j (by omega)
 ·have:je g c=none:=EB λj hj=>hi j (by omega);rw[this];exact⟨rfl,rfl⟩
def dS (n:Nat) (c:List Int):Prop:=c.Pairwise (·<·)/\∀x∈c,0<=x/\x<n
theorem JU {n:Nat}:∀{c:List Int} {a:Int},a<=n->c.Pairwise (·<·)->(∀x∈c,a<=x/\x<n)->(c.length:Int)<=n - a
 |[],a,e,_,_=>by simp;omega;|x::c,a,e,h,b=>by
  have f:=b x (by simp);rw[γu] at h;have:=@JU n c (x+1) (by omega) h.2 λy d=>⟨by grind,(b y (by simp[d])).2⟩;grind
theorem qR {n:Nat} {c:List Int} (h:dS n c):c.length<=n:=by
 have:=JU (n:=n) (a:=0) (by omega) h.1 h.2;omega
theorem JV {n:Nat} {c:List Int} (f:c.Nodup) (e:∀x∈c,0<=x/\x<n):dS n (ec c):=by
 refine⟨?_,λx i=>e x (EA.1 i)⟩;have g:(ec c).Pairwise (·<=·):=by
  have:=List.pairwise_mergeSort (le:=λx y:Int=>decide (x<=y)) (λa b d f e=>by grind) (λa b=>by simp;omega) c;exact this.imp λh=>of_decide_eq_true h
 have j:(ec c).Pairwise (·≠·):=(δu _ _).symm.nodup f;exact(g.and j).imp λh=>by omega
theorem yz {n:Nat} {c:List Int} (h:dS n c):c.Nodup:=h.1.imp λh=>by omega
theorem Tc {c:List Int} {i:Nat}:(iW c i).Sublist c:=by
 unfold iW;rw[List.drop_add_one_eq_tail_drop];have:=(List.Sublist.refl (c.take i)).append (List.tail_sublist (c.drop i));simp_all
theorem yA {g:Game} {c t:List Int} (h:je g c=some t) (d:dS g.offers.length c):nM g (dI g c) t=true/\dS g.offers.length t:=by
 obtain⟨i,l,h⟩:=δX h;obtain⟨o,m,h⟩:=δX h;rw[γC] at l m;have f:(iW c i).Nodup:=(yz d).sublist Tc;have b:∀x∈iW c i,x∈c:=λx a=>Tc.subset a;unfold nN at h;split at h;·cases h
 ·rename_i p;split at h
  ·rename_i e;injection h with h;subst h;refine⟨e,JV ?_ λx a=>?_⟩;·grind
   ·rw[γm] at a;rcases a with a|a;·exact d.2 x (b x a)
    simp_all
  ·obtain⟨k,j,h⟩:=δX h;rw[γC] at j;unfold pX at h;split at h;·cases h
   ·rename_i n;split at h
    ·rename_i e;injection h with h;subst h;refine⟨e,JV ?_ λx a=>?_⟩;·grind
     ·rw[γm] at a;rcases a with a|a;·exact d.2 x (b x a)
      grind
    ·cases h
def mh (g:Game):Nat->List Int->List Int
 |0,c=>c
 |n+1,c=>match je g c with
  |some t=>mh g n t
  |none=>c
def kO (g:Game) (c:List Int):List Int:=mh g (1000000000 - dI g c).toNat c
theorem rN {g:Game} (a:uJ g) {c:List Int} (h:dS g.offers.length c):0<=dI g c/\dI g c<=1000000000:=by
 have d:=JJ (f:=λx=>(bj g.offers x.toNat bp.off.dflt).value) (c:=c) (k:=c.length) (m:=1000000) (by omega) λx b=>a.2 _ (dn (by have:=h.2 x b;omega));rw[φ] at d;have e:=qR h;have i:=a.1.1.2.2;grind[dI]
theorem adG {g:Game} (d:uJ g):∀{n m:Nat} {c:List Int},dS g.offers.length c->(1000000000 - dI g c).toNat<=n->(1000000000 - dI g c).toNat<=m->mh g n c=mh g m c:=by
 intro n;induction n with
 |zero=>
  intro m c a k j;have h:=rN d a;cases m with
  |zero=>rfl;|succ m=>
   unfold mh;cases f:je g c with
   |none=>rfl;|some t=>
    obtain⟨b,e⟩:=yA f a;have i:=rN d e;unfold nM at b;grind
 |succ n l=>
  intro m c a k j;have h:=rN d a;cases f:je g c with
  |none=>
   cases m<;>grind[mh];|some t=>
   obtain⟨b,e⟩:=yA f a;have i:=rN d e;unfold nM at b;simp only[θ,decide_eq_true_eq] at b;cases m<;>grind[mh]
theorem adH {g:Game} (d:uJ g) {c t:List Int} (b:dS g.offers.length c) (h:je g c=some t):kO g c=kO g t:=by
 obtain⟨a,e⟩:=yA h b;have f:=rN d b;have i:=rN d e;unfold nM at a;simp only[θ,decide_eq_true_eq] at a;unfold kO;rw[show(1000000000 - dI g c).toNat=((1000000000 - dI g c).toNat - 1)+1 by omega];grind[mh,adG]
theorem Td {g:Game} {c:List Int} (h:je g c=none):kO g c=c:=by
 unfold kO;generalize (1000000000 - dI g c).toNat=n;cases n<;>grind[mh]
def adI (p:bn) (c:List Int):Prop:=bz p=0/\dS p.offers.length c
theorem Tf {p:bn} (c:bz p=0):uJ (cV p):=by
 have a:=dQ c;refine⟨S5 (by have:=a.2.1;omega),λo b=>?_⟩;have:=a.2.2.2.2 o b;omega
theorem JW {l:List Off}:∀{c:List Int} {a:Int}, -1<=a->(eh l a c).isSome=true->c.Pairwise (·<·)/\∀x∈c,a<x/\x<l.length
 |[],a,_,_=>⟨δH,by simp⟩
 |i::c,a,f,h=>by
  simp only[eh] at h;split at h;·simp at h
  ·rename_i g;rw[Option.isSome_map] at h;obtain⟨d,e⟩:=@JW l c i (by omega) h;refine⟨γu.2 ⟨λx b=>(e x b).1,d⟩,λx b=>?_⟩;grind
theorem uK {p:bn} {c:List Int} (h:cO p c=0):adI p c:=by
 unfold cO at h;split at h;·omega
 ·rename_i b;split at h;·cases h
  ·rename_i d;have a:=@JW p.offers c (-1) (by omega) (by grind[fE]);exact⟨γf.1 b,a.1,λx e=>by grind⟩
def gB (p:bn) (c:List Int):Alloc:=if cO p c=0 then⟨kO (cV p) c,dI (cV p) (kO (cV p) c)⟩ else⟨[],0⟩
def Bh:bM:=⟨54,bn×Alloc,.cons dO (.one nA),λa=>a.2.chosen.length<=9223372036854775807,λa=>nA.put (gB a.1 a.2.chosen)⟩
def adJ (p:bn) (a:Alloc):Nat->cG
 |6=> .inv (List Int×List Int×Bool) (λx=>⟨[(4,.ptr 2 0 2),(5,.ptr 3 0 3),(6,.row (.i .i64) x.1),(7,.row (.i .i64) x.2.1),(8,.sb x.2.2)],[.cells p.ss 27 20 false,.cells [.row (.i .i64) a.chosen,.si .i64 a.value] 40 2 false,.cells [.sc (.slice none 0 0),.il .i64 0] 40 2 false,.cells (rM (cV p)) 130 3 false]⟩)
   (λs=>(rS (.i .i64) s 6,rS (.i .i64) s 7,bS s 8)) (λx=>dS p.offers.length x.1/\(x.2.1=(je (cV p) x.1).getD []/\x.2.2=(je (cV p) x.1).isSome)/\kO (cV p) x.1=kO (cV p) a.chosen) (λx=>(1000000000 - dI (cV p) x.1).toNat) λ_ _=> .look
 |_=> .look
theorem h315:Holds Tryz.prog Bh:=by
 refine cH (L:=[xW,Ew,Bd,JR,yw]) Bh (λa=>adJ a.1 a.2) (by simpa using⟨h100,h325,h330,h331,h328⟩) ?_;rintro⟨p,⟨c,v⟩⟩ hl;replace hl:c.length<=9223372036854775807:=hl;refine bQ (let a:=γd .i64;let b:=Ω;let d:=bq.cells;let e:=(1000000000:Int);let f:=(0:Int);let g:=γA;let h:=γR;let y:=decide (cO p c≠f);let j:=bp.i .i64;let z:=[γB .i64 0];let A:=h [b j (gB p c).chosen,a (gB p c).value];let l:=γQ 2 0 2;let m:=γQ 3 0 3;let n:=(je (cV p) c).getD [];let o:=(je (cV p) c).isSome;let q:=d [a p.supply.a0,a p.supply.a1,a p.supply.a2,a p.supply.a3,a p.supply.a4,a p.supply.a5,a p.opn.a0,a p.opn.a1,a p.opn.a2,a p.opn.a3,a p.opn.a4,a p.opn.a5,a p.cls.a0,a p.cls.a1,a p.cls.a2,a p.cls.a3,a p.cls.a4,a p.cls.a5,b j p.classes,b bp.off p.offers] 27 20 false;let r:=d [b j c,a v] 40 2 false;let s:=d (SV.sc (Value.slice none 0 0)::z) 40 2 false;let t:=d [b j.bB (cV p).rows,b j (cV p).bounds,b bp.off (cV p).offers] 130 3 false;let w:=p.offers.length;let u:=kO (cV p) c;c.length<=9223372036854775807/\(y=true->(h (b j []::z)).same A)/\(y=false->True/\c.length<=1000000/\(uJ (cV p)/\c.length<=900/\∀(x:Int),x∈c->f<=x/\x<(↑(cV p).offers.length:Int))/\(((l.same l/\m.same m/\(b j c).same (b j c)/\(b j n).same (b j n)/\(g o).same (g o)/\True)/\q.same q/\r.same r/\s.same s/\t.same t/\True)/\dS w c/\(n=n/\o=o)/\u=u)/\∀(x:List Int×List Int×Bool),let k:=je (cV p) x.snd.fst;let B:=b j (k.getD []);let C:=dI (cV p) x.fst;dS w x.fst/\(x.snd.fst=(je (cV p) x.fst).getD []/\x.snd.snd=(je (cV p) x.fst).isSome)/\kO (cV p) x.fst=u->(x.snd.snd=true->(uJ (cV p)/\x.snd.fst.length<=900/\∀(x_1:Int),x_1∈x.snd.fst->f<=x_1/\x_1<(↑(cV p).offers.length:Int))/\((l.same l/\m.same m/\(b j x.snd.fst).same (b j x.snd.fst)/\B.same B/\(g k.isSome).same (g k.isSome)/\True)/\q.same q/\r.same r/\s.same s/\t.same t/\True)/\(dS w x.snd.fst/\(k.getD []=k.getD []/\k.isSome=k.isSome)/\kO (cV p) x.snd.fst=u)/\(e - dI (cV p) x.snd.fst).toNat<(e - C).toNat)/\(x.snd.snd=false->(nL (cV p)/\px (cV p) x.fst/\pW (cV p) x.fst)/\(h [b j x.fst,a C]).same A))) (by kernel_rfl) ?_;conv=>zeta
 try simp only[vcs]
 refine⟨by omega,λh=>by simp only[gB,if_neg h];rfl,λh=>?_⟩;have hf:cO p c=0:=γf.1 h;obtain⟨hc,ha⟩:=uK hf;have hg:=Tf hc;have h160:=(dQ hc).2.1;have hval:∀d,dS p.offers.length d->nL (cV p)/\px (cV p) d/\pW (cV p) d:=λd hd=>by
  have h1:=qR hd;exact⟨hg.1,⟨by omega,hd.2⟩,λx hx=>hg.2 _ (dn (by have:=hd.2 x hx;show x.toNat<p.offers.length;omega))⟩
 have hlen:=qR ha;refine⟨by omega,⟨hg,by omega,ha.2⟩,ha,?_⟩;rintro⟨d,t,b⟩ ⟨hd,⟨ht,hb⟩,hi⟩;simp only at hd ht hb hi ⊢;have hdl:=qR hd;refine⟨λhbt=>?_,λhbf=>?_⟩
 ·rw[hbt] at hb;obtain⟨t',he⟩:=Option.isSome_iff_exists.1 hb.symm;rw[he] at ht;simp only[Option.getD_some] at ht;subst ht;obtain⟨h1,h2⟩:=yA he hd;have h3:=qR h2;have h3':t.length<=p.offers.length:=h3;have hb2:=rN hg h2;have hb1:=rN hg (c:=d) hd;unfold nM at h1;simp only[θ,decide_eq_true_eq] at h1;exact⟨⟨hg,by omega,h2.2⟩,⟨h2,by rw[<-adH hg hd he];exact hi⟩,by omega⟩
 ·rw[hbf] at hb;have he:je (cV p) d=none:=by
   cases hh:je (cV p) d with
   |none=>rfl;|some t=>rw[hh] at hb;cases hb
  refine⟨hval d hd,?_⟩;have h1:kO (cV p) c=d:=by rw[<-hi,Td he]
  simp only[gB,if_pos hf,h1];rfl
theorem Ti {l:List Off}:∀{c:List Int} {a:Int}, -1<=a->c.Pairwise (·<·)->(∀x∈c,a<x/\x<l.length)->eh l a c=some (c.map λx=>bj l x.toNat bp.off.dflt)
 |[],_,_,_,_=>rfl
 |i::c,a,f,h,d=>by
  rw[γu] at h;have e:=d i (by simp);simp only[eh];rw[if_neg (by omega),@Ti l c i (by omega) h.2 λx b=>⟨h.1 x b,(d x (by simp[b])).2⟩];rfl
theorem Bi {p:bn} {c:List Int} (h:dS p.offers.length c):eh p.offers (-1) c=some (c.map (oI p)):=Ti (by omega) h.1 λx a=>by have:=h.2 x a;omega
theorem JX {p:bn} (l:bz p=0) {c:List Int} (h:dS p.offers.length c):cO p c=0↔lh (cV p) c=true:=by
 have k:=Bi h;have n:fE p c=true:=by grind[fE]
 have i:dU p c=c.map (oI p):=by grind[dU]
 have m:fZ p (c.map (oI p))=lh (cV p) c:=by
  have f:nR p=p.classes.length+12:=by simp_all[nR]
  have g:(cV p).bounds.length=p.classes.length+12:=by show(kq p (nR p)).length=_;rw[Eu,f]
  unfold fZ lh;rw[g];have d:∀r:Nat,r<p.classes.length+12->bj (cV p).bounds r 0=dm p r/\mg (cV p) c r=cZ p (c.map (oI p)) r:=λr j=>by
   refine⟨?_,?_⟩
   ·show bj (kq p (nR p)) r 0=_;grind[cT,kq]
   ·have a:bj (cV p).rows r []=iC p r p.offers.length:=by
     show bj (mf p (nR p)) r []=_;grind[cT,mf]
    unfold mg cZ;rw[a,γO];congr 1;refine γU λx b=>?_;have:=h.2 x b;have e:x.toNat<p.offers.length:=by omega
    show bj (iC p r p.offers.length) x.toNat 0=dY p r (bj p.offers x.toNat bp.off.dflt);grind[cT,iC]
  grind
 simp_all[cO]
theorem adK {p:bn} (d:bz p=0) {c:List Int} (h:dS p.offers.length c):ek p c=dI (cV p) c:=by
 have a:dU p c=c.map (oI p):=by grind[dU,Bi]
 unfold ek;rw[if_pos d,a];clear h a;induction c with
 |nil=>rfl;|cons x c b=>
  have e:dI (cV p) (x::c)=(oI p x).value+dI (cV p) c:=by simp[dI];rfl
  rw[e,<-b];rfl
theorem Tj {g:Game} {n:Nat}:∀{l c:List Int},dS n c->l.Nodup->(∀x∈l,x∉c/\0<=x/\x<n)->dS n (l.foldl (stepG g) c)
 |[],c,b,_,_=>b
 |x::l,c,b,e,d=>by
  rw[List.nodup_cons] at e;have i:=d x (by simp);have f:dS n (stepG g c x):=by
   unfold stepG;split
   ·refine JV ?_ λy a=>?_;·grind[yz]
    ·rw[γm] at a;rcases a with a|a;·exact b.2 y a
     simp_all
   ·exact b
  show dS n (l.foldl (stepG g) (stepG g c x));refine Tj f e.2 λy a=>⟨λh=>?_,(d y (by simp[a])).2⟩;grind[S7]
theorem adL {p:bn}:(gR p).Nodup:=by
 unfold gR;split;·exact(A6 (D:=fH p) (l:=df p.offers.length)).symm.nodup (oD.imp λh=>by omega)
 simp_all
theorem adM {p:bn} {k:Nat}:dS p.offers.length (oG (cV p) ((gR p).take k)):=
 Tj ⟨δH,by simp⟩ (adL.sublist (List.take_sublist _ _)) λx a=>⟨by simp,(JO (γo a)).2⟩
theorem Tm {l m:List Int} (h:l.Perm m):l.sum=m.sum:=by
 induction h<;>grind
theorem Tn {g:Game}:∀{l c:List Int},lh g c=true->lh g (l.foldl (stepG g) c)=true
 |[],c,h=>h
 |x::l,c,h=>by
  show lh g (l.foldl (stepG g) (stepG g c x))=true;refine Tn ?_;grind[stepG]
theorem adN {p:bn} (d:bz p=0):lh (cV p) []=true:=by
 unfold lh;rw[τ];intro r b;have a:r<(cV p).bounds.length:=γC.1 b;have c:bj (cV p).bounds r 0=dm p r:=by
  show bj (kq p (nR p)) r 0=_;rw[cT (by exact a)];simp[kq]
 simp_all[Bf,mg]
theorem adO {p:bn}:dS p.offers.length (jY p):=by
 have h:=@adM p (gR p).length;rw[φ] at h;exact h
theorem Tq {p:bn} (a:bz p=0):cO p (jY p)=0:=(JX a adO).2 (Tn (adN a))
theorem adP {g:Game} (i:uJ g):∀{n:Nat} {c:List Int},dS g.offers.length c->lh g c=true->dS g.offers.length (mh g n c)/\lh g (mh g n c)=true/\dI g c<=dI g (mh g n c)/\((1000000000 - dI g c).toNat<=n->je g (mh g n c)=none):=by
 intro n;induction n with
 |zero=>
  intro c a j;refine⟨a,j,Int.le_refl _,λh=>?_⟩;show je g c=none;cases f:je g c with
  |none=>rfl;|some t=>
   obtain⟨d,b⟩:=yA f a;have k:=rN i b;unfold nM at d;grind
 |succ n l=>
  intro c a j;cases f:je g c with
  |none=>
   grind[mh];|some t=>
   have e:mh g (n+1) c=mh g n t:=by grind[mh]
   rw[e];obtain⟨d,b⟩:=yA f a;have k:=rN i b;unfold nM at d;grind
theorem JY {p:bn} (a:bz p=0) {c:List Int} (b:cO p c=0):dS p.offers.length (gB p c).chosen/\cO p (gB p c).chosen=0/\ek p (gB p c).chosen=(gB p c).value/\ek p c<=(gB p c).value/\gB p (gB p c).chosen=gB p c:=by
 obtain⟨_,d⟩:=uK b;have h:=Tf a;obtain⟨i,j,l,g⟩:=adP h (n:=(1000000000 - dI (cV p) c).toNat) (c:=c) d ((JX a d).1 b);have e:gB p c=⟨kO (cV p) c,dI (cV p) (kO (cV p) c)⟩:=by simp_all[gB]
 have f:cO p (kO (cV p) c)=0:=(JX a i).2 j;have k:kO (cV p) (kO (cV p) c)=kO (cV p) c:=Td (g (π _));simp_all[adK,gB,kO,cV]
def ew (a:Tb) (v:Int):Rat:=if v∈a.free then a.cs (a.free.idxOf v) else 0
section
variable {n m:Nat} {t t0:Tb}
theorem Run.goal (h:Run n m t0 t) {x:Int->Rat} {z:Rat} (d:t.holds n m x z):z=t0.value+(bO m (λk=>ew t0 (t.bv k)*x (t.bv k))+bO n (λj=>ew t0 (t.fv j)*x (t.fv j))):=by
 have a:∀t:Tb,t.WF n m->me (λv=>ew t0 v*x v) (t.basic++t.free)=bO m (λk=>ew t0 (t.bv k)*x (t.bv k))+bO n (λj=>ew t0 (t.fv j)*x (t.fv j)):=λt c=>by
  rw[AX,qO,qO,c.basic,c.free];rfl
 rw[<-a t h.wf,Jh h.perm,a t0 h.oC];rw[dK (n:=m) (g:=λ_=>0) λk e=>by
  unfold ew;rw[if_neg (Ji h.oC h.nd e)];grind,iT];rw[dK (n:=n) (g:=λj=>t0.cs j*x (t0.fv j)) λj b=>by
  have i:j<t0.free.length:=by rw[h.oC.free];exact b
  unfold ew;rw[if_pos (wo h.oC b),show t0.free.idxOf (t0.fv j)=j from pr (γw.1 h.nd).2.1 i]];have f:=(((h.mN _ _).1 d).2);rw[f];grind
theorem Run.val (h:Run n m t0 t):t.value=t0.value+bO m λk=>ew t0 (t.bv k)*t.bd k:=by
 have a:=h.goal (asg_holds h.wf h.gp (y:=λ_=>0));rw[dK (n:=n) (f:=λj=>t.cs j*(λ_=>(0:Rat)) j) (g:=λ_=>0) λj _=>by grind,iT] at a;rw[dK (n:=n) (f:=λj=>ew t0 (t.fv j)*ju n t (λ_=>0) (t.fv j)) (g:=λ_=>0) λj c=>by rw[mM h.wf h.gp c];grind,iT] at a;rw[dK (n:=m) (g:=λk=>ew t0 (t.bv k)*t.bd k) λk b=>by
  rw[nI h.wf h.gp b,dK (g:=λ_=>0) λj _=>by grind,iT];grind] at a;grind
theorem uL {n c:Nat} {q:Rat} (d:c<n):bO n (λj=>if j=c then q else 0)=q:=by
 induction n with
 |zero=>omega;|succ n b=>
  unfold bO;by_cases h:c=n
  ·subst h;rw[if_pos rfl,dK (g:=λ_=>0) λj a=>by grind,iT];grind
  grind
theorem JZ {f g:Nat->Rat}:∀{n:Nat},bO n (λj=>f j - g j)=bO n f - bO n g
 |0=>by grind[bO];|n+1=>by simp only[bO,@JZ f g n];grind
theorem Run.adQ (h:Run n m t0 t) {c:Nat} (b:c<n):t.cs c=ew t0 (t.fv c) - bO m λk=>ew t0 (t.bv k)*t.cf k c:=by
 have a:=h.goal (asg_holds h.wf h.gp (y:=λj=>if j=c then 1 else 0));rw[dK (n:=n) (f:=λj=>t.cs j*(if j=c then(1:Rat) else 0)) (g:=λj=>if j=c then t.cs c else 0) λj _=>by
  grind,uL b] at a;rw[dK (n:=n) (f:=λj=>ew t0 (t.fv j)*ju n t (λj=>if j=c then 1 else 0) (t.fv j)) (g:=λj=>if j=c then ew t0 (t.fv c) else 0) λj e=>by
  rw[mM h.wf h.gp e];grind,uL b] at a;rw[dK (n:=m) (g:=λk=>ew t0 (t.bv k)*t.bd k - ew t0 (t.bv k)*t.cf k c) λk d=>by
  rw[nI h.wf h.gp d,dK (g:=λj=>if j=c then t.cf k c else 0) λj _=>by
   grind,uL b];grind,JZ,h.val] at a;grind
end
theorem J0 {M K:Nat} {p q:Rat} (e:ff M p) (f:ff K q):ff (M*K) (p*q):=by
 obtain⟨a,rfl,d⟩:=e;obtain⟨b,rfl,c⟩:=f;exact⟨a*b,by simp_all,by rw[Int.natAbs_mul];exact ζj d c⟩
theorem Tt {M K:Nat} {p q:Rat} (d:ff M p) (c:ff K q):ff (M+K) (p+q):=by
 obtain⟨a,rfl,f⟩:=d;obtain⟨b,rfl,e⟩:=c;exact⟨a+b,by simp_all,by omega⟩
theorem adS {M:Nat} {p:Rat} (b:ff M p):ff M (-p):=by
 obtain⟨a,rfl,c⟩:=b;exact⟨-a,by simp_all,by omega⟩
theorem Tv {M:Nat}:ff M 0:=⟨0,rfl,by simp⟩
theorem ff.le {M K:Nat} {p:Rat} (b:ff M p) (h:M<=K):ff K p:=by
 obtain⟨a,rfl,c⟩:=b;exact⟨a,rfl,by omega⟩
theorem J1 {M:Nat} {f:Nat->Rat}:∀{n:Nat},(∀k,k<n->ff M (f k))->ff (n*M) (bO n f)
 |0,_=>by grind[bO,Tv];|n+1,h=>by
  have a:=Tt (@J1 M f n λk b=>h k (by omega)) (h n (by omega));grind[bO]
theorem J2 {f:Nat->Rat} {d:Rat}:∀{n:Nat},bO n f*d=bO n λk=>f k*d
 |0=>by grind[bO];|n+1=>by
  have:=@J2 f d n;grind[bO]
theorem adT {X k:Nat} {q D:Rat} (f:ff X (q*D)) (c:ff X D) (g:D≠0) (o:X<4294967296^k):Sz k q:=by
 obtain⟨a,p,l⟩:=f;obtain⟨d,rfl,m⟩:=c;have b:d≠0:=λh=>g (by subst h;rfl);have n:((4294967296^k:Nat):Int)=(4294967296:Int)^k:=by
  simp_all
 have i:(X:Int)<4294967296^k:=by
  omega
 have e:q=mkRat (a*d.sign) d.natAbs:=by
  have f:mkRat (a*d.sign) d.natAbs=((a*d.sign:Int):Rat) / ((d.natAbs:Int):Rat):=by
   rw[Rat.mkRat_eq_div];rfl
  have c:((d.natAbs:Int):Rat)=(d:Rat)*(d.sign:Rat):=by
   rw[<-Rat.intCast_mul];simp_all
  have j:(d.sign:Rat)*(d.sign:Rat)=1:=by
   rw[<-Rat.intCast_mul];rcases Int.lt_or_lt_of_ne b with h|h;·rw[Int.sign_eq_neg_one_of_neg h];rfl
   grind
  grind
 rw[e];refine AI (by omega) ?_ (by omega);grind
structure Small (n m M G:Nat) (t0:Tb):Prop where
 wf:t0.WF n m
 nd:(t0.basic++t0.free).Nodup
 cf:∀i j,i<m->j<n->ff M (t0.cf i j)
 bd:∀i,i<m->ff M (t0.bd i)
 cs:∀j,j<n->ff G (t0.cs j)
 v:t0.value=0
 M1:1<=M
 G1:M<=G
 X:(m+2)*(G*nH M m)<4294967296^1000
theorem adU {a b c:Nat} (h:1<=a) (d:1<=b):c<=a*(b*c):=by
 have e:1*(1*c)<=a*(b*c):=ζj h (ζj d (π _));omega
theorem Small.goal {n m M G:Nat} {t0:Tb} (h:Small n m M G t0) {v:Int}:ff G (ew t0 v):=by
 unfold ew;split
 ·rename_i a;exact h.cs _ (by rw[<-h.wf.free];grind)
 ·exact Tv
theorem Small.Tz {n m M G:Nat} {t0 t:Tb} (h:Small n m M G t0) (a:Run n m t0 t):(∀i,i<m->Sz 1000 (t.bd i))/\(∀j,j<n->Sz 1000 (t.cs j))/\Sz 1000 t.value/\∀i j,i<m->j<n->Sz 1000 (t.cf i j):=by
 have y:=a.acn h.M1 h.cf;have A:=h.X;have B:1<=G:=Nat.le_trans h.M1 h.G1;have u:nH M m<=(m+2)*(G*nH M m):=adU (by omega) B;have l:∀{q:Rat},ff ((m+2)*(G*nH M m)) (q*jv m t0 t)->Sz 1000 q:=λz=>adT z (y.le u) a.dt A;have d:∀r c,r<m->c<n->ff (nH M m) (t.cf r c*jv m t0 t):=λr c o d=>a.cfZ h.M1 h.cf o d;have x:∀r,r<m->ff (nH M m) (t.bd r*jv m t0 t):=λr o=>a.bdZ h.M1 h.cf h.bd o;refine⟨λi w=>l ((x i w).le u),λj b=>l ?_,l ?_,λi j w b=>l ((d i j w b).le u)⟩
 ·have e:=a.adQ b;have p:t.cs j*jv m t0 t=ew t0 (t.fv j)*jv m t0 t+ -(bO m λk=>ew t0 (t.bv k)*(t.cf k j*jv m t0 t)):=by
   rw[e,dK (f:=λk=>ew t0 (t.bv k)*(t.cf k j*jv m t0 t)) (g:=λk=>(ew t0 (t.bv k)*t.cf k j)*jv m t0 t) λk _=>by grind,<-J2];grind
  rw[p];refine(Tt (J0 h.goal y) (adS (J1 λk s=>J0 h.goal (d k j s b)))).le ?_;grind
 ·have p:t.value*jv m t0 t=bO m λk=>ew t0 (t.bv k)*(t.bd k*jv m t0 t):=by
   rw[a.val,h.v,dK (f:=λk=>ew t0 (t.bv k)*(t.bd k*jv m t0 t)) (g:=λk=>(ew t0 (t.bv k)*t.bd k)*jv m t0 t) λk _=>by grind,<-J2];grind
  rw[p];refine(J1 λk s=>J0 h.goal (x k s)).le ?_;grind
theorem Small.wu {n m M G:Nat} {t0 t:Tb} (h:Small n m M G t0) (b:Run n m t0 t):wu 1000000 t:=by
 obtain⟨g,r,k,o⟩:=h.Tz b;have e:∀{f:Type} {l:List f} {P:f->Prop} {d:f},(∀i,i<l.length->P (bj l i d))->∀q∈l,P q:=λh q p=>by
  obtain⟨i,a,rfl⟩:=γH p;grind[cT]
 refine⟨e (d:=[]) λi a=>?_,e (d:=0) λi a=>?_,e (d:=0) λj c=>?_,k.mono (by omega)⟩
 ·rw[b.wf.cq] at a;refine e (d:=0) λj c=>?_;rw[b.wf.row i a] at c;exact(o i j a c).mono (by omega)
 ·rw[b.wf.bound] at a;exact(g i a).mono (by omega)
 ·rw[b.wf.cost] at c;exact(r j c).mono (by omega)
theorem TA {n m:Int} {M G:Nat} {t0 t:Tb} (h:Small n.toNat m.toNat M G t0) (a:Run n.toNat m.toNat t0 t) (c:0<=n/\n<=1000) (b:0<=m/\m<=1000):kN n m t:=⟨⟨c,b⟩,a.wf,h.wu a⟩
section
variable {n m:Nat} {t t0:Tb}
theorem TB:∀{N:Nat} {t:Tb},Run n m t0 t->ko m t->Run n m t0 (runT n m N t)/\ko m (runT n m N t)
 |0,t,b,a=>⟨b,a⟩
 |N+1,t,b,a=>by
  unfold runT;split;·simp_all
  ·rename_i d c;have:=Jl b a c;exact TB this.1 this.2
theorem run_end:∀{N:Nat} {t:Tb},fp n m N t=true->stepT n m (runT n m N t)=none
 |0,t,h=>γP.1 h
 |N+1,t,h=>by
  unfold fp at h;unfold runT;split;·assumption
  ·rename_i b a;rw[a] at h;exact run_end h
theorem TC:∀{N K:Nat} {t:Tb},fp n m N t=true->N<=K->runT n m K t=runT n m N t
 |0,K,t,h,b=>by
  have d:=γP.1 h;cases K<;>grind[runT];|N+1,K,t,h,b=>by
  obtain⟨K,rfl⟩:∃k,K=k+1:=⟨K - 1,by omega⟩;unfold fp at h;unfold runT;split;·rfl
  ·rename_i c a;rw[a] at h;exact TC h (by omega)
theorem TD {f:Nat->Rat}:∀{n:Nat},(∀k,k<n->f k<=0)->bO n f<=0
 |0,_=>by grind[bO];|n+1,h=>by
  have a:=@TD f n λk b=>h k (by omega);grind[bO]
theorem TE {a b:Rat} (d:a<=0) (c:0<=b):a*b<=0:=by
 have:=δv (a:= -a) (b:=b) (by grind) c;grind
theorem Run.best (h:Run n m t0 t) (d:eE t n<0) {x:Int->Rat} {z:Rat} (a:t0.holds n m x z) (b:∀j,j<n->0<=x (t.fv j)):z<=t.value:=by
 have c:=(((h.mN _ _).2 a).2);grind[uF,TD,TE]
theorem Run.bnd (h:Run n m t0 t) (q:ko m t) {B:Rat} (F:∀x z,t0.holds n m x z->(∀v∈t0.basic++t0.free,0<=x v)->z<=B) {c:Nat} (I:eE t n=(c:Int)) (H:dT t c m<0):False:=by
 rcases @uF t n with⟨C,d⟩|⟨a,C,d,f,G⟩;·omega
 ·have A:a=c:=by omega
  subst A;rcases @wt t a m with⟨D,w⟩|⟨r,D,_⟩;·
   have k:∀s:Rat,0<=s->t.value+s*t.cs a<=B:=λs o=>by
    have p:=asg_holds h.wf h.gp (y:=λj=>if j=a then s else 0);have e:bO n (λj=>t.cs j*(λj=>if j=a then s else 0) j)=s*t.cs a:=by
     rw[dK (g:=λj=>if j=a then s*t.cs a else 0) λj _=>by
      grind,uL d]
    rw[e] at p;refine F _ _ ((h.mN _ _).1 p) λv b=>?_;rw[<-h.perm.mem_iff,γm] at b;rcases b with b|b
    ·obtain⟨i,l,rfl⟩:=yq h.wf b;rw[nI h.wf h.gp l];have f:bO n (λj=>t.cf i j*(if j=a then s else 0))=t.cf i a*s:=by
      rw[dK (g:=λj=>if j=a then t.cf i a*s else 0) λj _=>by
       grind,uL d]
     rw[f];have:=TE (w i l) o;have:=q i l;grind
    ·obtain⟨j,E,rfl⟩:=wq h.wf b;rw[mM h.wf h.gp E];grind
   have u:=k 0 (by grind);have o:0<=(B - t.value+1) / t.cs a:=Sm (by grind) f;grind[div_mul]
  ·omega
end
open Classical in
noncomputable def uM (n m:Nat) (t:Tb):Nat:=if h:∃N,fp n m N t=true then Classical.choose h else 0
noncomputable def lastT (n m:Nat) (t:Tb):Tb:=runT n m (uM n m t) t
section
variable {n m:Nat} {t t0 t':Tb}
theorem ED {N:Nat} (h:fp n m N t=true):lastT n m t=runT n m N t:=by
 have a:∃N,fp n m N t=true:=⟨N,h⟩;have b:fp n m (uM n m t) t=true:=by
  unfold uM;grind
 grind[lastT,TC]
theorem TF (h:stepT n m t=none):lastT n m t=t:=by
 have a:fp n m 0 t=true:=by simp[fp,h]
 rw[ED a];rfl
theorem adV (a:∃N,fp n m N t=true) (h:stepT n m t=some t'):lastT n m t'=lastT n m t:=by
 obtain⟨N,a⟩:=a;have b:=SB a h;rw[ED b,ED (Jm a)];grind[runT]
theorem J3 (b:Run n m t0 t) (c:ko m t):Run n m t0 (lastT n m t)/\ko m (lastT n m t)/\stepT n m (lastT n m t)=none:=by
 obtain⟨N,a⟩:=Jn b c;rw[ED a];grind[TB,run_end]
theorem TG (i:Run n m t0 t) (e:ko m t) {B:Rat} (h:∀x z,t0.holds n m x z->(∀v∈t0.basic++t0.free,0<=x v)->z<=B):eE (lastT n m t) n<0:=by
 obtain⟨j,g,a⟩:=J3 i e;rcases @uF (lastT n m t) n with⟨b,d⟩|⟨c,b,d,l,k⟩;·omega
 ·exfalso;unfold stepT at a;rw[if_neg (by omega),show(eE (lastT n m t) n).toNat=c by omega] at a;split at a
  ·rename_i f;exact j.bnd g h b f
  ·cases a
end
def bE (f:List Int) (d:Int):List Int:=(df f.length).filter λi=>decide (bj f i.toNat 0=d)
theorem kP {f:List Int} {d x:Int}:x∈bE f d↔(0<=x/\x<f.length)/\bj f x.toNat 0=d:=by
 simp_all[bE,iV]
theorem uN {f:List Int} {d:Int}:(bE f d).Pairwise (·<·):=oD.sublist List.filter_sublist
theorem uO {f:List Int} {d:Int}:(bE f d).length<=f.length:=by
 have:=List.length_filter_le (λi:Int=>decide (bj f i.toNat 0=d)) (df f.length);rw[iz] at this;exact this
theorem J4 {a b:Type} {g:a->b} {l:List a} {i:Nat} {d:b} {e:a} (h:i<l.length):bj (l.map g) i d=g (bj l i e):=by
 grind[cT]
theorem J5 {n j:Nat} {d:Int} (h:j<n):bj (df n) j d=j:=by
 grind[df,qN]
def cK (p:bn) (f:List Int):Tb where
 cq:=(ω (p.classes.length+12)).map λr:Nat=>(bE f 0).map λi=>((dY p r (oI p i):Int):Rat);bound:=(ω (p.classes.length+12)).map λr:Nat=>((dm p r - cZ p ((bE f 1).map (oI p)) r:Int):Rat);cost:=(bE f 0).map λi=>(((oI p i).value:Int):Rat);value:=0;basic:=(ω (p.classes.length+12)).map λi:Nat=>(((bE f 0).length+i:Nat):Int);free:=df (bE f 0).length
def eZ (p:bn) (f:List Int):Prop:=bz p=0/\f.length=p.offers.length/\fZ p ((bE f 1).map (oI p))=true
abbrev nF (f:List Int):Nat:=(bE f 0).length
abbrev mF (p:bn):Nat:=p.classes.length+12
section
variable {p:bn} {f:List Int}
theorem lH:(cK p f).WF (nF f) (mF p) where
 cq:=by simp[cK]
 row i a:=by
  grind[cK,qN]
 bound:=by simp[cK]
 cost:=by simp[cK]
 basic:=by simp[cK]
 free:=by simp[cK,iz]
theorem yB {i j:Nat} (b:i<mF p) (a:j<nF f):(cK p f).cf i j=((dY p i (oI p (bj (bE f 0) j 0)):Int):Rat):=by
 grind[Tb.cf,cK,qN,J4]
theorem yC {i:Nat} (a:i<mF p):(cK p f).bd i=((dm p i - cZ p ((bE f 1).map (oI p)) i:Int):Rat):=by
 grind[Tb.bd,cK,qN]
theorem Bj {j:Nat} (a:j<nF f):(cK p f).cs j=(((oI p (bj (bE f 0) j 0)).value:Int):Rat):=by
 grind[Tb.cs,cK,J4]
theorem EE {i:Nat} (a:i<mF p):(cK p f).bv i=(((nF f)+i:Nat):Int):=by
 grind[Tb.bv,cK,qN]
theorem wE {j:Nat} (a:j<nF f):(cK p f).fv j=j:=by
 grind[Tb.fv,cK,J5]
theorem qS:((cK p f).basic++(cK p f).free).Nodup:=by
 rw[γw];refine⟨?_,oD.imp λh=>by omega,?_⟩
 ·simp only[cK];refine List.Pairwise.map _ (λa b h=>?_) List.nodup_range;omega
 grind[cK,iV]
theorem yD (h:eZ p f) {j:Nat} (a:j<nF f):(0<=bj (bE f 0) j 0/\bj (bE f 0) j 0<p.offers.length)/\bj f (bj (bE f 0) j 0).toNat 0=0:=by
 have:=kP.1 (dn (d:=0) a);rw[h.2.1] at this;exact this
theorem kr (a:bz p=0) {i:Int} (h:0<=i/\i<p.offers.length):0<=(oI p i).bX/\(oI p i).bX<p.classes.length/\(oI p i).want.ok=true/\1<=(oI p i).value/\(oI p i).value<=1000000:=(dQ a).2.2.2.2 _ (dn (show i.toNat<p.offers.length by omega))
theorem EF (h:eZ p f) {d:Int}:∀x∈(bE f d).map (oI p),0<=x.bX/\x.bX<p.classes.length/\x.want.ok=true/\1<=x.value/\x.value<=1000000:=λx a=>by
 obtain⟨i,b,rfl⟩:=Θ.1 a;have:=(kP.1 b).1;rw[h.2.1] at this;exact kr h.1 this
theorem J6 {z:Int} {M:Nat} (h:z.natAbs<=M):ff M (z:Rat):=⟨z,rfl,h⟩
theorem TI (h:eZ p f) {i:Nat} (b:i<mF p):0<=dm p i - cZ p ((bE f 1).map (oI p)) i/\dm p i - cZ p ((bE f 1).map (oI p)) i<=4:=by
 have c:i<p.classes.length+12:=b;have d:=pd.1 h.2.2 i (by grind[dh]);have g:=@Bf p h.1 i;have e:=@sO p i ((bE f 1).map (oI p)) λx a=>(EF h x a).2.2.1;omega
theorem adW:∀m:Nat,m<=20->(m+2)*(1000000*nH 4 m)<4294967296^1000:=by
 have h:((ω 21).all λm=>Nat.blt ((m+2)*(1000000*nH 4 m)) (4294967296^1000))=true:=by decide+kernel
 intro m a;have:=τ.1 h m (γC.2 (by omega));rw[Nat.blt_eq] at this;exact this
theorem EG (h:eZ p f):Small (nF f) (mF p) 4 1000000 (cK p f) where
 wf:=lH;nd:=qS;cf i j b a:=by
  rw[yB b a];have:=(kr h.1 (yD h a).1).2.2.1;grind[pR,J6]
 bd i b:=by
  rw[yC b];have:=TI h b;exact J6 (by omega)
 cs j a:=by
  rw[Bj a];have:=kr h.1 (yD h a).1;grind[J6]
 v:=rfl;M1:=by omega
 G1:=by omega
 X:=adW _ (by have:=(dQ h.1).1;grind)
theorem EH {z:Int} (h:0<=z):(0:Rat)<=(z:Rat):=by exact_mod_cast h
theorem J7 (h:eZ p f):ko (mF p) (cK p f):=λi a=>by
 rw[yC a];exact EH (TI h a).1
theorem TJ {g:Nat->Rat}:∀{n:Nat},(∀k,k<n->0<=g k)->0<=bO n g
 |0,_=>by grind[bO];|n+1,h=>by
  have a:=@TJ g n λk b=>h k (by omega);grind[bO]
theorem TK {g k:Nat->Rat}:∀{n:Nat},(∀i,i<n->g i<=k i)->bO n g<=bO n k
 |0,_=>by grind[bO];|n+1,h=>by
  have a:=@TK g k n λk b=>h k (by omega);grind[bO]
theorem adX {g:Nat->Rat} {n j:Nat} (h:∀k,k<n->0<=g k) (a:j<n):g j<=bO n g:=by
 rw[Ee a];grind[TJ]
theorem TL (h:eZ p f) {x:Int->Rat} {z:Rat} (d:(cK p f).holds (nF f) (mF p) x z) (e:∀v∈(cK p f).basic++(cK p f).free,0<=x v) {j:Nat} (b:j<nF f):x ((cK p f).fv j)<=1:=by
 obtain⟨l,_⟩:=yD h b;have r:=kr h.1 l;have a:(oI p (bj (bE f 0) j 0)).bX.toNat<mF p:=by grind
 have s:=d.1 _ a;have n:=e _ (List.mem_append_left _ (A0 lH a));have i:(cK p f).cf (oI p (bj (bE f 0) j 0)).bX.toNat j=1:=by
  rw[yB a b];unfold dY;rw[if_pos (by omega),if_pos (by omega)];rfl
 have m:=@adX (λk=>(cK p f).cf (oI p (bj (bE f 0) j 0)).bX.toNat k*x ((cK p f).fv k)) (nF f) j (λk c=>by
  refine δv ?_ (e _ (List.mem_append_right _ (wo lH c)));rw[yB a c];exact EH (pR (kr h.1 (yD h c).1).2.2.1).1) b;simp only[i] at m;have t:(cK p f).bd (oI p (bj (bE f 0) j 0)).bX.toNat<=1:=by
  rw[yC a];have o:dm p (oI p (bj (bE f 0) j 0)).bX.toNat=1:=by
   unfold dm;omega
  have q:=@sO p (oI p (bj (bE f 0) j 0)).bX.toNat ((bE f 1).map (oI p)) λx d=>(EF h x d).2.2.1;have g:dm p (oI p (bj (bE f 0) j 0)).bX.toNat - cZ p ((bE f 1).map (oI p)) (oI p (bj (bE f 0) j 0)).bX.toNat<=1:=by omega
  exact_mod_cast g
 grind
theorem TM (h:eZ p f) {x:Int->Rat} {z:Rat} (c:(cK p f).holds (nF f) (mF p) x z) (e:∀v∈(cK p f).basic++(cK p f).free,0<=x v):z<=bO (nF f) (cK p f).cs:=by
 have g:=c.2;have k:(cK p f).value=0:=rfl;have:=@TK (λj=>(cK p f).cs j*x ((cK p f).fv j)) (cK p f).cs (nF f) λj a=>by
  have i:=TL h c e a;have d:0<=(cK p f).cs j:=by
   rw[Bj a];exact EH (by have:=kr h.1 (yD h a).1;omega)
  have:=δv d (b:=1 - x ((cK p f).fv j)) (by grind);grind
 grind
noncomputable def dx (p:bn) (f:List Int):Tb:=lastT (nF f) (mF p) (cK p f)
theorem oH (h:eZ p f):Run (nF f) (mF p) (cK p f) (dx p f)/\ko (mF p) (dx p f)/\eE (dx p f) (nF f)<0:=by
 have a:=Run.refl (n:=nF f) (m:=mF p) (t0:=cK p f) lH qS;have:=J3 a (J7 h);exact⟨this.1,this.2.1,TG a (J7 h) λx z c b=>TM h c b⟩
end
def eX (d:List bL) (j:Nat) (z:bL):List bL:=d.take j++δ (d.length - j) z
theorem yE {d:List bL} {j:Nat} {z:bL} (h:j<=d.length):(eX d j z).length=d.length:=by
 grind[eX]
theorem yF {d:List bL} {z:bL}:eX d 0 z=δ d.length z:=by simp[eX]
theorem yG {d:List bL} {z:bL}:eX d d.length z=d:=by simp[eX]
theorem yH {d:List bL} {j:Nat} {z x:bL} (h:j<d.length) (b:x=bj d j z):(eX d j z).set j x=eX d (j+1) z:=by
 unfold eX;have a:d.length - j=(d.length - (j+1))+1:=by omega
 rw[a,List.replicate_succ,List.set_append_right _ _ (by grind),γy,show j - min j d.length=0 by omega,List.set_cons_zero,List.take_succ_eq_append_getElem h,List.append_assoc,b,cT h];rfl
theorem yI {l:List Rat} {i:Nat} {q:Rat}:(fL l).set i (bu q)=fL (l.set i q):=by
 simp_all[fL]
theorem elim_none {l p:List Rat} {c:Nat} (h:bj l c 0=0) (d:c<l.length):kn l c p=l:=by
 refine γ9 Ef λi b a=>?_;have e:=@Eg c l p i a;grind[cT]
def r413:dH where
 f:=181;α:=Int;put a:=[.si .i64 a];st _:=[];dec v o:=match v,o with
  |[v],[]=>v.int .i64
  |_,_=>none;ok v o a h:=by
  split at h;·exact⟨by simp only[gL,iO h];rfl,rfl⟩
  ·cases h
 inj a b h _:=by simpa[gL,SV.g] using h
 dom n:=0<=n/\n<=1000;res n:=.ow 0 n.toNat 3;out n:=[.row sF (fL (δ n.toNat 0)) 177 false]
def adY (n:Int):Nat->cG
 |3=> .inv Int (λj=>⟨[(3,.ow 0 n.toNat 3),(8,.si .i64 n.toNat),(9,.si .i64 j)],[.row sF (eX (fL (δ n.toNat 0)) j.toNat (false,([],[]))) 177 true]⟩)
   (λs=>iS s 9) (λj=>0<=j/\j<=n) (λj=>(n - j).toNat) λ_ _=> .look
 |_=> .look
theorem h413:ef Tryz.prog r413:=by
 refine HV (L:=[oz]) (W:=[]) r413 (λ_=>none) adY (by simp) (by simpa using h94) ?_;rintro(n:Int) ⟨n0,n1⟩;refine bQ (let a:=(0:Int);let c:=bq.row;let d:=γd .i64;let e:=γZ 0 n.toNat 3;let h:=d (↑n.toNat:Int);let m:=(bp.i .u32).bB;let j:=(false,[],[]);let k:=fL (δ n.toNat (0:Rat));let l:=bu (κ a);a<=n/\n<=n/\n*(56:Int)<=(140737488355328:Int)/\n<=(1000000000000:Int)/\(((e.same e/\h.same h/\(γB .i64 0).same (d 0)/\True)/\(c (bp.b.pair (m.pair m)) (δ n.toNat j) 177 true).same (c sF (eX k 0 j) 177 true)/\True)/\a<=a/\a<=n)/\∀(x:Int),let o:=decide (x<(↑n.toNat:Int));let f:=eX k x.toNat j;let g:=x+(1:Int);let p:=d g;a<=x/\x<=n->(o=true->((-9223372036854775808:Int)<=a/\a<=(9223372036854775807:Int))/\n.toNat=f.length/\a<=x/\x<(↑f.length:Int)/\n.toNat=f.length/\x.toNat<f.length/\cu .i64 g/\((e.same e/\h.same h/\p.same p/\True)/\(c sF (f.set x.toNat (l.fst,l.snd.fst,l.snd.snd)) 177 true).same (c sF (eX k g.toNat j) 177 true)/\True)/\(a<=g/\g<=n)/\(n - g).toNat<(n - x).toNat)/\(o=false->e.same e/\(c sF f 177 false).same (c sF k 177 false)/\True)) (by kernel_rfl) ?_;conv=>zeta
 try simp only[vcs]
 have hcast:∀k:Nat,((k:Nat):Int).toNat=k:=λk=>γn k;have hl:(fL (δ n.toNat 0)).length=n.toNat:=by rw[fF,γE]
 have hrow:∀{x y:List bL},x=y->(bq.row sF x 177 true).same (bq.row sF y 177 true):=by rintro _ _ rfl;rfl
 refine⟨n0,by omega,by omega,by omega,⟨hrow (by rw[yF,hl]),by omega,by omega⟩,?_⟩;rintro j ⟨j0,j1⟩;have oZ:=@yE (fL (δ n.toNat 0)) j.toNat (false,([],[])) (by omega);refine⟨λhj=>?_,λhj=>?_⟩
 ·have hE:bj (fL (δ n.toNat 0)) j.toNat (false,([],[]))=bu 0:=by
   rw[jw (by rw[γE];omega),cT (by rw[γE];omega),List.getElem_replicate]
  have h0:(κ 0:Rat)=0:=rfl;simp only[h0,jM];exact⟨by omega,by omega,j0,by omega,by omega,by omega,by omega,hrow (by rw[yH (by omega) hE.symm,show(j+1).toNat=j.toNat+1 by omega]),by omega,by omega⟩
 ·rw[show j.toNat=(fL (δ n.toNat 0)).length by omega,yG];rfl
def r417:bM:=⟨185,List bL×bL×Int×List bL×bL,.cons (dG sF) (.cons (ei sF) (.cons (eU .i64) (.cons (dG sF) (.one (ei sF))))),
 λa=>∃l b p c,(a.1=fL l/\a.2.1=bu b/\a.2.2.2.1=fL p/\a.2.2.2.2=bu c)/\(l.length=p.length/\l.length<=1000)/\(0<=a.2.2.1/\a.2.2.1<l.length)/\(∀q∈l,Sz 10000000 q)/\(∀q∈p,Sz 10000000 q)/\Sz 10000000 b/\Sz 10000000 c,
 λa=> .bI [.row sF (fL (kn (vL a.1) a.2.2.1.toNat (vL a.2.2.2.1))),pU (bV a.2.1 - bj (vL a.1) a.2.2.1.toNat 0*bV a.2.2.2.2)]⟩
def adZ (l:List Rat) (b:Rat) (c:Int) (p:List Rat) (pb:Rat):Nat->cG
 |6=> .inv Int (λj=>⟨[(2,.si .i64 c),(3,.row sF (fL p)),(6,.ptr 0 0 3),(9,.ptr 1 0 3),(11,.ptr 2 0 3),(12,.ptr 3 0 3),(13,.ow 4 l.length 3),(28,.row sF (fL l)),(29,.si .i64 l.length),(30,.si .i64 j)],
   [.cells [.sb (bu b).1,.row (.i .u32) (bu b).2.1,.row (.i .u32) (bu b).2.2] 177 3 false,.cells [.sb (bu pb).1,.row (.i .u32) (bu pb).2.1,.row (.i .u32) (bu pb).2.2] 177 3 false,
    .cells [.bl false,.sc (.slice none 0 0),.sc (.slice none 0 0)] 177 3 false,.cells [.sb (bu (bj l c.toNat 0)).1,.row (.i .u32) (bu (bj l c.toNat 0)).2.1,.row (.i .u32) (bu (bj l c.toNat 0)).2.2] 177 3 false,
    .row sF (eX (fL (kn l c.toNat p)) j.toNat (false,([],[]))) 177 true]⟩)
   (λs=>iS s 30) (λj=>0<=j/\j<=l.length) (λj=>(l.length - j).toNat) λ_ _=> .look
 |_=> .look
theorem h417:Holds Tryz.prog r417:=by
 refine cH (L:=[sX,AS,yj,AQ]) r417 (λa=>adZ (vL a.1) (bV a.2.1) a.2.2.1 (vL a.2.2.2.1) (bV a.2.2.2.2)) (by simpa using⟨h99,h410,h130,h95⟩) ?_;rintro⟨l',b',c,p',pb'⟩ ⟨l,b,p,pb,⟨e1,e2,e3,e4⟩,⟨g1,g2⟩,⟨c0,c1⟩,hl,hp,hb,hpb⟩;simp only at e1 e2 e3 e4 c0 c1;subst e1 e2 e3 e4;refine bQ (let a:=Ω;let d:=(0:Int);let e:=γd .i64;let f:=bq.cells;let g:=bq.row;let h:=γA;let j:=sF.dflt;let k:=γQ;let m:=γR;let n:=SV.bI;let F:=bj (fL l) c.toNat j;let a2:=(F.fst,F.snd.fst,F.snd.snd);let o:=bp.i .u32;let t:=(↑(fL l).length:Int);let L:=fL (kn (vL (fL l)) c.toNat (vL (fL p)));let v:=bV (bu b);let w:=bj (vL (fL l)) c.toNat (0:Rat);let y:=bV (bu pb);let a3:=(bu (v - w*y)).snd;let a4:=n [a sF L,m [h (bu (v - w*y)).fst,a o a3.fst,a o a3.snd]];let z:=fL (vL (fL p));let G:=a sF z;let A:=k 0 0 3;let B:=k 1 0 3;let C:=k 2 0 3;let D:=k 3 0 3;let wF:Nat:=(vL (fL l)).length;let H:=γZ 4 wF 3;let I:=fL (vL (fL l));let J:=a sF I;let r:=(↑wF:Int);let K:=e r;let a5:=SV.sc (Value.slice none 0 0);let E:=f [δh false,a5,a5] 177 3 false;let M:=(false,[],[]);let N:=((bu w).fst,(bu w).snd.fst,(bu w).snd.snd);let O:=f [h (bu v).fst,a o (bu v).snd.fst,a o (bu v).snd.snd] 177 3 false;let P:=f [h (bu y).fst,a o (bu y).snd.fst,a o (bu y).snd.snd] 177 3 false;let Q:=f [h (bu w).fst,a o (bu w).snd.fst,a o (bu w).snd.snd] 177 3 false;let a6:=((bu y).fst,(bu y).snd.fst,(bu y).snd.snd);let a7:=((bu v).fst,(bu v).snd.fst,(bu v).snd.snd);let S:=bu (bV N*bV a6);let a8:=(S.fst,S.snd.fst,S.snd.snd);let U:=bu (bV a7 - bV a8);let a9:=λ(u:Bool) ↦decide (jL (bV a2)=d)=u;let V:=λ(u:bp.b.T) (u_1:(o.bB.pair o.bB).T) (u_2:Rat) ↦(f [h u,a o u_1.fst,a o u_1.snd] 177 3 false).same (f [h (bu u_2).fst,a o (bu u_2).snd.fst,a o (bu u_2).snd.snd] 177 3 false);d<=c/\c<t/\c.toNat<(fL l).length/\cE a2/\(a9 true->(n [a sF (fL l),m [h (bu b).fst,a o (bu b).snd.fst,a o (bu b).snd.snd]]).same a4)/\(a9 false->d<=t/\t<=t/\t*(56:Int)<=(140737488355328:Int)/\t<=(1000000000000:Int)/\((((e c).same (e c)/\(a sF (fL p)).same G/\A.same A/\B.same B/\C.same C/\D.same D/\(γZ 4 t.toNat 3).same H/\(a sF (fL l)).same J/\(e t).same K/\(γB .i64 0).same (e 0)/\True)/\V (bu b).fst (bu b).snd v/\V (bu pb).fst (bu pb).snd y/\E.same E/\V F.fst F.snd w/\(g (bp.b.pair (o.bB.pair o.bB)) (δ t.toNat M) 177 true).same (g sF (eX L 0 M) 177 true)/\True)/\d<=d/\d<=r)/\∀(x:Int),let W:=bj z x.toNat j;let X:=(W.fst,W.snd.fst,W.snd.snd);let Y:=bu (bV N*bV X);let Z:=(Y.fst,Y.snd.fst,Y.snd.snd);let q:=eX L x.toNat M;let s:=x+(1:Int);let R:=e s;let aa:=g sF (eX L s.toNat M) 177 true;let a0:=bj I x.toNat j;let ab:=(a0.fst,a0.snd.fst,a0.snd.snd);let ac:=cE Z;let ad:=cE N/\cE X;let ae:=λ(u:Rat) ↦wF=q.length/\d<=x/\x<(↑q.length:Int)/\wF=q.length/\x.toNat<q.length/\cu .i64 s/\(((e c).same (e c)/\G.same G/\A.same A/\B.same B/\C.same C/\D.same D/\H.same H/\J.same J/\K.same K/\R.same R/\True)/\O.same O/\P.same P/\E.same E/\Q.same Q/\(g sF (q.set x.toNat ((bu u).fst,(bu u).snd.fst,(bu u).snd.snd)) 177 true).same aa/\True)/\(d<=s/\s<=r)/\(r - s).toNat<(r - x).toNat;let af:=λ(u:Bool) ↦decide (jL (bV X)=d)=u;let ag:=λ(u:List bL) ↦let a1:=bj u x.toNat j;cE (a1.fst,a1.snd.fst,a1.snd.snd);d<=x/\x<=r->(decide (x<r)=true->d<=x/\x<(↑I.length:Int)/\x.toNat<I.length/\(decide (x=c)=true->d<=x/\x<(↑z.length:Int)/\x.toNat<z.length/\ad/\ac/\ae (-bV Z))/\(decide (x=c)=false->d<=x/\x<(↑z.length:Int)/\x.toNat<z.length/\ag z/\(af true->wF=q.length/\d<=x/\x<(↑q.length:Int)/\wF=q.length/\x.toNat<q.length/\cu .i64 s/\(((e c).same (e c)/\G.same G/\A.same A/\B.same B/\C.same C/\D.same D/\H.same H/\J.same J/\K.same K/\R.same R/\True)/\O.same O/\P.same P/\E.same E/\Q.same Q/\(g sF (q.set x.toNat ab) 177 true).same aa/\True)/\(d<=s/\s<=r)/\(r - s).toNat<(r - x).toNat)/\(af false->d<=x/\x<(↑z.length:Int)/\x.toNat<z.length/\ad/\(ag I/\ac)/\ae (bV ab - bV Z))))/\(decide (x<r)=false->(cE N/\cE a6)/\(cE a7/\cE a8)/\wF=q.length/\(n [a sF q,m [h U.fst,a o U.snd.fst,a o U.snd.snd]]).same a4))) (by kernel_rfl) ?_;simp only[kM,eD];try simp only[vcs]
 have hfl:=@fF l;have hfp:=@fF p;have hel:(kn l c.toNat p).length=l.length:=Ef;have hfe:=@fF (kn l c.toNat p);have hA:bj (fL l) c.toNat sF.dflt=bu (bj l c.toNat 0):=jw (by omega);have hzc:=hl _ (dn (d:=0) (show c.toNat<l.length by omega));have hcast:∀k:Nat,((k:Nat):Int).toNat=k:=λk=>γn k;have hag:∀{x y:Rat},x=y->(γR [γA (bu x).1,Ω (bp.i IntKind.u32) (bu x).2.1,Ω (bp.i IntKind.u32) (bu x).2.2]).same (γR [γA (bu y).1,Ω (bp.i IntKind.u32) (bu y).2.1,Ω (bp.i IntKind.u32) (bu y).2.2]):=by rintro _ _ rfl;rfl
 have hrow:∀{x y:List bL},x=y->(bq.row sF x 177 true).same (bq.row sF y 177 true):=by rintro _ _ rfl;rfl
 simp only[hA,jM,eD,Jq,hcast];refine⟨c0,by omega,by omega,dN hzc (by omega),λhz=>⟨by rw[elim_none hz (by omega)],hag (by rw[hz];grind)⟩,λhz=>⟨by omega,by omega,by omega,by omega,⟨⟨⟨by rw[hfl];rfl,by omega⟩,rfl,hrow (by rw[yF,hfe,hel,hfl])⟩,by omega,by omega⟩,?_⟩⟩;rintro j ⟨j0,j1⟩;have oZ:=@yE (fL (kn l c.toNat p)) j.toNat (false,([],[])) (by omega);refine⟨λhj=>?_,λhj=>?_⟩
 ·have hP:bj (fL p) j.toNat sF.dflt=bu (bj p j.toNat 0):=jw (by omega);have hL:bj (fL l) j.toNat sF.dflt=bu (bj l j.toNat 0):=jw (by omega);have EI:=hp _ (dn (d:=0) (show j.toNat<p.length by omega));have hzl:=hl _ (dn (d:=0) (show j.toNat<l.length by omega));have hE:bj (fL (kn l c.toNat p)) j.toNat (false,([],[]))=bu (if j.toNat=c.toNat then -(bj l c.toNat 0*bj p j.toNat 0) else bj l j.toNat 0 - bj l c.toNat 0*bj p j.toNat 0):=by
   rw[jw (by omega),Eg (by omega)]
  have hm:=uE hzc EI;have tail:(0<=j+1/\j+1<=(l.length:Int))/\((l.length:Int) - (j+1)).toNat<((l.length:Int) - j).toNat:=by omega
  have step:∀{x:bL},x=bj (fL (kn l c.toNat p)) j.toNat (false,([],[]))->(bq.row sF ((eX (fL (kn l c.toNat p)) j.toNat (false,([],[]))).set j.toNat x) 177 true).same (bq.row sF (eX (fL (kn l c.toNat p)) (j+1).toNat (false,([],[]))) 177 true):=λh=>hrow (by
   rw[yH (by omega) h,show(j+1).toNat=j.toNat+1 by omega]);simp only[hP,hL,jM,eD,Jq];refine⟨j0,by omega,by omega,λhjc=>⟨j0,by omega,by omega,⟨dN hzc (by omega),dN EI (by omega)⟩,dN hm (by omega),by omega,j0,by omega,by omega,by omega,by omega,step ?_,tail⟩,λhjc=>⟨j0,by omega,by omega,dN EI (by omega),λhpz=>⟨by omega,j0,by omega,by omega,by omega,by omega,step ?_,tail⟩,λhpz=>⟨j0,by omega,by omega,⟨dN hzc (by omega),dN EI (by omega)⟩,⟨dN hzl (by omega),dN hm (by omega)⟩,by omega,j0,by omega,by omega,by omega,by omega,step ?_,tail⟩⟩⟩;·rw[hE,if_pos (by omega)]
  ·rw[hE,if_neg (by omega),hpz];congr 1;grind
  ·rw[hE,if_neg (by omega)]
 ·rw[show j.toNat=(fL (kn l c.toNat p)).length by omega,yG];exact⟨⟨dN hzc (by omega),dN hpb (by omega)⟩,⟨dN hb (by omega),dN (uE hzc hpb) (by omega)⟩,by omega,rfl,rfl⟩
def r408:dH:=uG 176 (Int×Int) (.cons (eU .i64) (.one (eU .i64))) (λn m t a=>(0<=a.1/\a.1<m)/\(0<=a.2/\a.2<n)/\t.cf a.1.toNat a.2.toNat≠0) (λ_ _ _ _=> .bI []) (λ_ _ t a=>fV t a.1.toNat a.2.toNat)
def py (l:List Rat) (q:Rat):List Rat:=l.map λx=>x*q
def fC (q:Rat):bq:=.cells [.sb (bu q).1,.row (.i .u32) (bu q).2.1,.row (.i .u32) (bu q).2.2] 177 3 false
def iY {a:Type} (f g:Nat->a) (n r i:Nat):List a:=(ω n).map λk=>if k<i/\k≠r then g k else f k
theorem wG {a:Type} {f g:Nat->a} {n r i:Nat}:(iY f g n r i).length=n:=by simp[iY]
theorem TN {a:Type} {l:List a} {g:Nat->a} {r:Nat} {d:a}:iY (λk=>bj l k d) g l.length r 0=l:=by
 refine γ9 wG λi b c=>?_;grind[iY,bj]
theorem TP {a:Type} {f g:Nat->a} {n r i:Nat} {d:a} (h:i<n):bj (iY f g n r i) i d=f i:=by
 simp_all[iY,qN]
theorem TQ {a:Type} {f g:Nat->a} {n r i:Nat} (h:i<n) (d:i≠r):(iY f g n r i).set i (g i)=iY f g n r (i+1):=by
 refine γ9 (by simp[iY]) λk b c=>?_;have e:k<n:=by grind[iY]
 rw[εU];simp only[iY,δD,εG];grind
theorem TR {a:Type} {f g:Nat->a} {n r:Nat}:iY f g n r (r+1)=iY f g n r r:=by
 unfold iY;grind
theorem TS {a:Type} {f g:Nat->a} {n r:Nat} {x:a} (h:r<n):(iY f g n r n).set r x=(ω n).map λk=>if k=r then x else g k:=by
 refine γ9 (by simp[iY]) λk b c=>?_;have d:k<n:=by simp_all
 rw[εU];simp only[iY,δD,εG];grind
theorem TT {l:List (List Rat)} {i:Nat} {x:List Rat}:(fM l).set i (fL x)=fM (l.set i x):=by
 simp_all[fM]
theorem ad1 {l:List Rat} {c:Nat} (h:c<l.length):(fL (py l (1 / bj l c 0))).set c (bu (1 / bj l c 0))=fL (kL l c):=by
 rw[yI];congr 1;refine γ9 (by simp[py,kL]) λk d e=>?_;have b:k<l.length:=by grind[kL]
 rw[εU];simp only[py,kL,δD,εG];by_cases a:c=k;·simp_all
 ·rw[if_neg a,if_neg λh=>a h.symm,cT (i:=k) b]
def li (t:Tb) (r c i:Nat):Tb:={t with
 cq:=iY (λk=>bj t.cq k []) (λk=>kn (bj t.cq k []) c (kL (bj t.cq r []) c)) t.cq.length r i
 bound:=iY t.bd (λk=>t.bd k - t.cf k c*(t.bd r*(1 / t.cf r c))) t.bound.length r i}
theorem ad2 {t:Tb} {r c:Nat}:li t r c 0=t:=by
 unfold li;have b:=@TN (List Rat) t.cq (λk=>kn (bj t.cq k []) c (kL (bj t.cq r []) c)) r [];have d:=@TN Rat t.bound (λk=>t.bd k - t.cf k c*(t.bd r*(1 / t.cf r c))) r 0;have a:iY t.bd (λk=>t.bd k - t.cf k c*(t.bd r*(1 / t.cf r c))) t.bound.length r 0=t.bound:=d;rw[b,a]
def ad3 (n m:Int) (t:Tb) (r c:Int):Nat->cG
 |3=> .inv Int (λj=>⟨[(0,.ptr 0 0 10),(1,.si .i64 r),(2,.si .i64 c),(6,.ptr 5 0 3),(8,.ow 6 n.toNat 3),(41,.row sF (fL (bj t.cq r.toNat []))),(42,.si .i64 n),(43,.si .i64 j)],
   (bH n m t).gQ++[fC (1 / t.cf r.toNat c.toNat),.row sF (eX (fL (py (bj t.cq r.toNat []) (1 / t.cf r.toNat c.toNat))) j.toNat (false,([],[]))) 177 true]⟩)
   (λs=>iS s 43) (λj=>0<=j/\j<=n) (λj=>(n - j).toNat) λ_ _=> .look
 |10=> .inv Int (λi=>⟨[(0,.ptr 0 0 10),(1,.si .i64 r),(2,.si .i64 c),(8,.row sF (fL (kL (bj t.cq r.toNat []) c.toNat))),(11,.ptr 7 0 3),(72,.si .i64 m),(73,.si .i64 i)],
   (bH n m (li t r.toNat c.toNat i.toNat)).gQ++[fC (1 / t.cf r.toNat c.toNat),.dead,fC (t.bd r.toNat*(1 / t.cf r.toNat c.toNat))]⟩)
   (λs=>iS s 73) (λj=>0<=j/\j<=m) (λj=>(m - j).toNat) λ_ _=> .look
 |_=> .look
theorem h408:ef Tryz.prog r408:=by
 refine lz (L:=[oz,Eb,AS,r417,wi]) (W:=[]) r408 (λa=>ad3 a.1.n a.1.m a.1.t a.2.1 a.2.2) (by simp) (by simpa using⟨h94,h416,h410,h417,h129⟩) ?_;rintro⟨x,r,c⟩ ⟨n,m,t,hx,hok,⟨r0,r1⟩,⟨c0,c1⟩,ha⟩;simp only at hx r0 r1 c0 c1 ha;subst hx;refine bQ (let a:=γd .i64;let d:=bq.row;let e:=(0:Int);let f:=Ω;let g:=γZ;let h:=bq.cells;let j:=γA;let k:=(1:Int);let o:=sF.dflt;let s:=γB .i64 0;let w:=γQ;let K:=(bH n m t).cq;let a0:=bj K r.toNat sF.bB.dflt;let af:=bu (κ k);let aB:=(af.fst,af.snd.fst,af.snd.snd);let ag:=bj a0 c.toNat o;let ah:=(ag.fst,ag.snd.fst,ag.snd.snd);let Q:=(↑(bH n m t).k4:Int);let L:=w 0 0 10;let a3:=w 5 0 3;let A:=(bH n m t).n;let ai:=g 6 A.toNat 3;let M:=(bH n m t).t;let S:=bj M.cq r.toNat [];let aj:=f sF (fL S);let a4:=a A;let G:=(bH n m t).m;let a5:=a G;let z:=bp.i .u32;let B:=bH A G M;let a6:=h [a B.n,a B.m,g 1 B.k0 1,g 2 B.k1 3,f sF B.cost,j B.v.fst,f z B.v.snd.fst,f z B.v.snd.snd,g 3 B.k3 1,g 4 B.k4 1] 261 10 false;let a7:=d sF.bB B.cq 106 false;let a8:=d sF B.bound 177 false;let C:=bp.i .i64;let a9:=d C B.basic 3 false;let aa:=d C B.free 3 false;let ak:=bu (bV aB / bV ah);let N:=(1:Rat) / M.cf r.toNat c.toNat;let R:=h [j (bu N).fst,f z (bu N).snd.fst,f z (bu N).snd.snd] 177 3 false;let ab:=(false,[],[]);let al:=fL (py S N);let T:=((bu N).fst,(bu N).snd.fst,(bu N).snd.snd);let ac:=B.bound.length;let am:=bj B.bound r.toNat o;let aC:=(am.fst,am.snd.fst,am.snd.snd);let U:=fL (kL S c.toNat);let an:=f sF U;let ad:=w 7 0 3;let D:=bH A G (li M r.toNat c.toNat 0);let ao:=bu (bV aC*bV T);let V:=bu (M.bd r.toNat*N);let ap:=h [j V.fst,f z V.snd.fst,f z V.snd.snd] 177 3 false;let W:=(V.fst,V.snd.fst,V.snd.snd);let E:=bH A G (fV M r.toNat c.toNat);((-9223372036854775808:Int)<=k/\k<=(9223372036854775807:Int))/\(bH n m t).k0=K.length/\e<=r/\r<(↑K.length:Int)/\(bH n m t).k0=K.length/\r.toNat<K.length/\e<=c/\c<(↑a0.length:Int)/\c.toNat<a0.length/\((cE aB/\cE ah)/\bV ah≠(0:Rat))/\e<=Q/\Q<=Q/\Q*(56:Int)<=(140737488355328:Int)/\Q<=(1000000000000:Int)/\(bH n m t).k0=K.length/\e<=r/\r<(↑K.length:Int)/\(bH n m t).k0=K.length/\r.toNat<K.length/\(((L.same L/\(a r).same (a r)/\(a c).same (a c)/\a3.same a3/\(g 6 Q.toNat 3).same ai/\(f sF a0).same aj/\(a (↑a0.length:Int)).same a4/\(s).same (a 0)/\True)/\(h [a4,a5,g 1 (bH n m t).k0 1,g 2 (bH n m t).k1 3,f sF (bH n m t).cost,j (bH n m t).v.fst,f z (bH n m t).v.snd.fst,f z (bH n m t).v.snd.snd,g 3 (bH n m t).k3 1,g 4 (bH n m t).k4 1] 261 10 false).same a6/\(d sF.bB K 106 false).same a7/\(d sF (bH n m t).bound 177 false).same a8/\(d C (bH n m t).basic 3 false).same a9/\(d C (bH n m t).free 3 false).same aa/\(h [j ak.fst,f z ak.snd.fst,f z ak.snd.snd] 177 3 false).same R/\(d (bp.b.pair (z.bB.pair z.bB)) (δ Q.toNat ab) 177 true).same (d sF (eX al 0 ab) 177 true)/\True)/\e<=e/\e<=A)/\∀(x:Int),let aq:=bj (fL S) x.toNat o;let aD:=(aq.fst,aq.snd.fst,aq.snd.snd);let ae:=eX al x.toNat ab;let O:=ae.length;let X:=x+k;let aE:=a X;let ar:=bu (bV aD*bV T);e<=x/\x<=A->(decide (x<A)=true->e<=x/\x<(↑(fL S).length:Int)/\x.toNat<(fL S).length/\(cE aD/\cE T)/\A.toNat=O/\e<=x/\x<(↑O:Int)/\A.toNat=O/\x.toNat<O/\cu .i64 X/\((L.same L/\(a r).same (a r)/\(a c).same (a c)/\a3.same a3/\ai.same ai/\aj.same aj/\a4.same a4/\aE.same aE/\True)/\a6.same a6/\a7.same a7/\a8.same a8/\a9.same a9/\aa.same aa/\R.same R/\(d sF (ae.set x.toNat (ar.fst,ar.snd.fst,ar.snd.snd)) 177 true).same (d sF (eX al X.toNat ab) 177 true)/\True)/\(e<=X/\X<=A)/\(A - X).toNat<(A - x).toNat)/\(decide (x<A)=false->A.toNat=O/\e<=c/\c<(↑O:Int)/\A.toNat=O/\c.toNat<O/\B.k1=ac/\e<=r/\r<(↑ac:Int)/\B.k1=ac/\r.toNat<ac/\(cE aC/\cE T)/\A.toNat=(ae.set c.toNat T).length/\(((L.same L/\(a r).same (a r)/\(a c).same (a c)/\(f sF (ae.set c.toNat T)).same an/\ad.same ad/\(a (↑B.k0:Int)).same a5/\(s).same (a 0)/\True)/\a6.same (h [a D.n,a D.m,g 1 D.k0 1,g 2 D.k1 3,f sF D.cost,j D.v.fst,f z D.v.snd.fst,f z D.v.snd.snd,g 3 D.k3 1,g 4 D.k4 1] 261 10 false)/\a7.same (d sF.bB D.cq 106 false)/\a8.same (d sF D.bound 177 false)/\a9.same (d C D.basic 3 false)/\aa.same (d C D.free 3 false)/\R.same R/\bq.dead.same bq.dead/\(h [j ao.fst,f z ao.snd.fst,f z ao.snd.snd] 177 3 false).same ap/\True)/\e<=e/\e<=G)/\∀(x:Int),let y:=bH A G (li M r.toNat c.toNat x.toNat);let aF:=a y.n;let aG:=a y.m;let aH:=g 1 y.k0 1;let aI:=g 2 y.k1 3;let Y:=y.cost;let aJ:=[g 3 y.k3 1,g 4 y.k4 1];let Z:=x+k;let F:=bH A G (li M r.toNat c.toNat Z.toNat);let J:=y.basic;let aK:=a Z;let a1:=y.cq;let H:=a1.length;let a2:=y.bound;let I:=a2.length;let au:=bj a1 x.toNat sF.bB.dflt;let av:=bj a2 x.toNat o;let aL:=(av.fst,av.snd.fst,av.snd.snd);let aw:=bu (bV aL - bj (vL au) c.toNat (0:Rat)*bV W);let ax:=(y.v.fst,y.v.snd.fst,y.v.snd.snd);let ay:=bj Y c.toNat o;let aM:=(ay.fst,ay.snd.fst,ay.snd.snd);let az:=bu (bV aM*bV W);let aN:=(az.fst,az.snd.fst,az.snd.snd);let P:=y.free.length;let aA:=bu (bV ax+bV aN);let aP:=(h (aF::aG::aH::aI::f sF Y::j y.v.fst::f z y.v.snd.fst::f z y.v.snd.snd::aJ) 261 10 false).same (h [a F.n,a F.m,g 1 F.k0 1,g 2 F.k1 3,f sF F.cost,j F.v.fst,f z F.v.snd.fst,f z F.v.snd.snd,g 3 F.k3 1,g 4 F.k4 1] 261 10 false);let aQ:=(d C J 3 false).same (d C F.basic 3 false)/\(d C y.free 3 false).same (d C F.free 3 false)/\R.same R/\bq.dead.same bq.dead/\ap.same ap/\True;let aO:=λ(u u_1:bq) ↦cu .i64 Z/\((L.same L/\(a r).same (a r)/\(a c).same (a c)/\an.same an/\ad.same ad/\a5.same a5/\aK.same aK/\True)/\aP/\u.same (d sF.bB F.cq 106 false)/\u_1.same (d sF F.bound 177 false)/\aQ)/\(e<=Z/\Z<=G)/\(G - Z).toNat<(G - x).toNat;e<=x/\x<=G->(decide (x<G)=true->(decide (x≠r)=true->y.k0=H/\e<=x/\x<(↑H:Int)/\y.k0=H/\x.toNat<H/\y.k1=I/\e<=x/\x<(↑I:Int)/\y.k1=I/\x.toNat<I/\(∃(l:List Rat),∃(b:Rat),∃(p:List Rat),∃(pb:Rat),(au=fL l/\aL=bu b/\U=fL p/\W=bu pb)/\(l.length=p.length/\l.length<=1000)/\(e<=c/\c<(↑l.length:Int))/\(∀(q:Rat),q∈l->Sz 10000000 q)/\(∀(q:Rat),q∈p->Sz 10000000 q)/\Sz 10000000 b/\Sz 10000000 pb)/\y.k0=H/\e<=x/\x<(↑H:Int)/\y.k0=H/\x.toNat<H/\y.k1=I/\e<=x/\x<(↑I:Int)/\y.k1=I/\x.toNat<I/\aO (d sF.bB (a1.set x.toNat (fL (kn (vL au) c.toNat (vL U)))) 106 false) (d sF (a2.set x.toNat (aw.fst,aw.snd.fst,aw.snd.snd)) 177 false))/\(decide (x≠r)=false->aO (d sF.bB a1 106 false) (d sF a2 177 false)))/\(decide (x<G)=false->e<=c/\c<(↑Y.length:Int)/\c.toNat<Y.length/\(∃(l:List Rat),∃(b:Rat),∃(p:List Rat),∃(pb:Rat),(Y=fL l/\ax=bu b/\U=fL p/\W=bu pb)/\(l.length=p.length/\l.length<=1000)/\(e<=c/\c<(↑l.length:Int))/\(∀(q:Rat),q∈l->Sz 10000000 q)/\(∀(q:Rat),q∈p->Sz 10000000 q)/\Sz 10000000 b/\Sz 10000000 pb)/\(cE aM/\cE W)/\(cE ax/\cE aN)/\y.k0=H/\e<=r/\r<(↑H:Int)/\y.k0=H/\r.toNat<H/\y.k1=I/\e<=r/\r<(↑I:Int)/\y.k1=I/\r.toNat<I/\y.k4=P/\e<=c/\c<(↑P:Int)/\y.k4=P/\c.toNat<P/\y.k3=J.length/\e<=r/\r<(↑J.length:Int)/\y.k3=J.length/\r.toNat<J.length/\y.k3=J.length/\e<=r/\r<(↑J.length:Int)/\y.k3=J.length/\r.toNat<J.length/\y.k4=P/\e<=c/\c<(↑P:Int)/\y.k4=P/\c.toNat<P/\(SV.bI []).same (SV.bI [])/\(h (aF::aG::aH::aI::f sF (fL (kn (vL Y) c.toNat (vL U)))::j aA.fst::f z aA.snd.fst::f z aA.snd.snd::aJ) 261 10 false).same (h [a E.n,a E.m,g 1 E.k0 1,g 2 E.k1 3,f sF E.cost,j E.v.fst,f z E.v.snd.fst,f z E.v.snd.snd,g 3 E.k3 1,g 4 E.k4 1] 261 10 false)/\(d sF.bB (a1.set r.toNat U) 106 false).same (d sF.bB E.cq 106 false)/\(d sF (a2.set r.toNat W) 177 false).same (d sF E.bound 177 false)/\(d C (J.set r.toNat (bj y.free c.toNat e)) 3 false).same (d C E.basic 3 false)/\(d C (y.free.set c.toNat (bj J r.toNat e)) 3 false).same (d C E.free 3 false)/\True))) (by kernel_rfl) ?_;conv=>zeta
 try simp only[sZ]
 try simp only[bH]
 try simp only[vcs]
 obtain⟨⟨⟨n0,n1⟩,m0,m1⟩,hw,hz⟩:=id hok;have hkl:=hw.cq;have hbl:=hw.bound;have hbb:=hw.basic;have hfl:=hw.free;have hcl:=hw.cost;have hfm:=@Jo t.cq;have Jt:=@fF t.bound;have hrl:=hw.row r.toNat (by omega);have hcast:∀k:Nat,((k:Nat):Int).toNat=k:=λk=>γn k;have h1:(κ 1:Rat)=1:=rfl;have hR:bj (fM t.cq) r.toNat sF.bB.dflt=fL (bj t.cq r.toNat []):=Jp (by omega);have hA:bj (fL (bj t.cq r.toNat [])) c.toNat sF.dflt=bu (t.cf r.toNat c.toNat):=jw (by omega);have hB:bj (fL t.bound) r.toNat sF.dflt=bu (t.bd r.toNat):=jw (by omega);simp only[hR,hA,hB,jM,eD,hcast,h1];have hsA:=hok.cf (i:=r.toNat) (j:=c.toNat) (by omega) (by omega);have hsB:=hok.bd (i:=r.toNat) (by omega);have s1:Sz 1 (1:Rat):=by unfold Sz;decide
 have hsI:=Ja s1 hsA ha;have hsP:=uE hsB hsI;have hfr:=@fF (bj t.cq r.toNat []);have hsl:(py (bj t.cq r.toNat []) (1 / t.cf r.toNat c.toNat)).length=n.toNat:=by unfold py;rw[Φ];exact hrl
 have hfs:=@fF (py (bj t.cq r.toNat []) (1 / t.cf r.toNat c.toNat));have hrow:∀{x y:List bL},x=y->(bq.row sF x 177 true).same (bq.row sF y 177 true):=by rintro _ _ rfl;rfl
 refine⟨by omega,by omega,r0,by omega,by omega,by omega,c0,by omega,by omega,⟨⟨dN s1 (by omega),dN hsA (by omega)⟩,ha⟩,by omega,by omega,by omega,by omega,by omega,r0,by omega,by omega,by omega,⟨⟨⟨by rw[hfl];rfl,trivial,by omega⟩,rfl,hrow (by rw[yF,hfs,hsl,hfl])⟩,by omega,by omega⟩,?_⟩;rintro j ⟨j0,j1⟩;have oZ:=@yE (fL (py (bj t.cq r.toNat []) (1 / t.cf r.toNat c.toNat))) j.toNat (false,([],[])) (by omega);refine⟨λhj=>?_,λhj=>?_⟩
 ·have hL:bj (fL (bj t.cq r.toNat [])) j.toNat sF.dflt=bu (t.cf r.toNat j.toNat):=jw (by omega);have hS:bj (fL (py (bj t.cq r.toNat []) (1 / t.cf r.toNat c.toNat))) j.toNat (false,([],[]))=bu (t.cf r.toNat j.toNat*(1 / t.cf r.toNat c.toNat)):=by
   rw[jw (by omega),cT (by omega)];unfold py Tb.cf;rw[δD,cT (l:=bj t.cq r.toNat []) (i:=j.toNat) (by omega)]
  simp only[hL,eD];refine⟨j0,by omega,by omega,⟨dN (hok.cf (by omega) (by omega)) (by omega),dN hsI (by omega)⟩,by omega,j0,by omega,by omega,by omega,by omega,hrow ?_,by omega,by omega⟩;rw[yH (by omega) hS.symm,show(j+1).toNat=j.toNat+1 by omega]
 ·have hset:(eX (fL (py (bj t.cq r.toNat []) (1 / t.cf r.toNat c.toNat))) j.toNat (false,([],[]))).set c.toNat (bu (1 / t.cf r.toNat c.toNat))=fL (kL (bj t.cq r.toNat []) c.toNat):=by
   rw[show j.toNat=(fL (py (bj t.cq r.toNat []) (1 / t.cf r.toNat c.toNat))).length by omega,yG];exact ad1 (by omega)
  have hpl:(kL (bj t.cq r.toNat []) c.toNat).length=n.toNat:=by rw[RZ];exact hrl
  have hfp:=@fF (kL (bj t.cq r.toNat []) c.toNat);simp only[hset,ad2];have TU:∀q∈kL (bj t.cq r.toNat []) c.toNat,Sz 10000000 q:=λq hq=>by
   obtain⟨k,hk,rfl⟩:=Θ.1 hq;rw[γC] at hk;split;·exact hsI.mono (by omega)
   ·exact(uE (hok.cf (i:=r.toNat) (j:=k) (by omega) (by omega)) hsI).mono (by omega)
  refine⟨by omega,c0,by omega,by omega,by omega,by omega,r0,by omega,by omega,by omega,⟨dN hsB (by omega),dN hsI (by omega)⟩,by omega,⟨⟨⟨trivial,by omega⟩,rfl,rfl,rfl,rfl,rfl,rfl⟩,by omega,by omega⟩,?_⟩;rintro i ⟨i0,i1⟩;have ekl:(li t r.toNat c.toNat i.toNat).cq.length=m.toNat:=by show(iY _ _ _ _ _).length=_;rw[wG];exact hkl
  have ebl:(li t r.toNat c.toNat i.toNat).bound.length=m.toNat:=by show(iY _ _ _ _ _).length=_;rw[wG];exact hbl
  have efm:=@Jo (li t r.toNat c.toNat i.toNat).cq;have efb:=@fF (li t r.toNat c.toNat i.toNat).bound;have hfc:=@fF t.cost;have ad6:∀{a b:Tb},a.cq.length=b.cq.length->a.bound.length=b.bound.length->a.cost=b.cost->a.value=b.value->a.basic.length=b.basic.length->a.free.length=b.free.length->
    (bq.cells [.si .i64 n,.si .i64 m,.ow 1 a.cq.length 1,.ow 2 a.bound.length 3,.row sF (fL a.cost),.sb (bu a.value).1,.row (.i .u32) (bu a.value).2.1,.row (.i .u32) (bu a.value).2.2,.ow 3 a.basic.length 1,.ow 4 a.free.length 1] 261 10 false).same
    (bq.cells [.si .i64 n,.si .i64 m,.ow 1 b.cq.length 1,.ow 2 b.bound.length 3,.row sF (fL b.cost),.sb (bu b.value).1,.row (.i .u32) (bu b.value).2.1,.row (.i .u32) (bu b.value).2.2,.ow 3 b.basic.length 1,.ow 4 b.free.length 1] 261 10 false):=λh1 h2 h3 h4 h5 h6=>by
   rw[h1,h2,h3,h4,h5,h6];rfl
  have TV:∀{x y:List (List bL)},x=y->(bq.row sF.bB x 106 false).same (bq.row sF.bB y 106 false):=by rintro _ _ rfl;rfl
  have TW:∀{x y:List bL},x=y->(bq.row sF x 177 false).same (bq.row sF y 177 false):=by rintro _ _ rfl;rfl
  have TX:∀{x y:List Int},x=y->(bq.row (.i .i64) x 3 false).same (bq.row (.i .i64) y 3 false):=by rintro _ _ rfl;rfl
  refine⟨λhi=>⟨λhir=>?_,λhir=>?_⟩,λhi=>?_⟩
  ·have hRi:bj (fM (li t r.toNat c.toNat i.toNat).cq) i.toNat sF.bB.dflt=fL (bj t.cq i.toNat []):=by
    rw[Jp (by omega)];congr 1;exact TP (by omega)
   have hBi:bj (fL (li t r.toNat c.toNat i.toNat).bound) i.toNat sF.dflt=bu (t.bd i.toNat):=by
    rw[jw (by omega)];congr 1;exact TP (by omega)
   have hli:=hw.row i.toNat (by omega);simp only[hRi,hBi,kM,eD];refine⟨by omega,i0,by omega,by omega,by omega,by omega,i0,by omega,by omega,by omega,⟨bj t.cq i.toNat [],t.bd i.toNat,kL (bj t.cq r.toNat []) c.toNat,t.bd r.toNat*(1 / t.cf r.toNat c.toNat),⟨rfl,rfl,rfl,rfl⟩,⟨by omega,by omega⟩,⟨c0,by omega⟩,λq hq=>?_,TU,(hok.bd (by omega)).mono (by omega),hsP.mono (by omega)⟩,by omega,i0,by omega,by omega,by omega,by omega,i0,by omega,by omega,by omega,by omega,⟨ad6 ?_ ?_ rfl rfl rfl rfl,TV ?_,TW ?_,rfl,rfl⟩,by omega,by omega⟩;·exact(hz.1 _ (dn (d:=[]) (by omega)) q hq).mono (by omega)
   ·show(iY _ _ _ _ _).length=(iY _ _ _ _ _).length;rw[wG,wG]
   ·show(iY _ _ _ _ _).length=(iY _ _ _ _ _).length;rw[wG,wG]
   ·rw[TT,show(i+1).toNat=i.toNat+1 by omega];congr 1;exact TQ (by omega) (by omega)
   ·rw[yI,show(i+1).toNat=i.toNat+1 by omega];congr 1;exact TQ (f:=t.bd) (g:=λk=>t.bd k - t.cf k c.toNat*(t.bd r.toNat*(1 / t.cf r.toNat c.toNat))) (by omega) (by omega)
  ·have e:li t r.toNat c.toNat (i+1).toNat=li t r.toNat c.toNat i.toNat:=by
    rw[show(i+1).toNat=r.toNat+1 by omega,show i.toNat=r.toNat by omega];unfold li;rw[TR,TR]
   rw[e];refine⟨?_,⟨rfl,rfl,rfl,rfl,rfl⟩,?_,?_⟩<;>omega
  ·have TY:=hok.cs (j:=c.toNat) (by omega);have hC:bj (fL t.cost) c.toNat sF.dflt=bu (t.cs c.toNat):=jw (by omega);have hcc:(li t r.toNat c.toNat i.toNat).cost=t.cost:=rfl;have hvv:(li t r.toNat c.toNat i.toNat).value=t.value:=rfl;have hff:(li t r.toNat c.toNat i.toNat).free=t.free:=rfl;have hbs:(li t r.toNat c.toNat i.toNat).basic=t.basic:=rfl;simp only[hC,hcc,hvv,hff,hbs,kM,eD];refine⟨c0,by omega,by omega,⟨t.cost,t.value,kL (bj t.cq r.toNat []) c.toNat,t.bd r.toNat*(1 / t.cf r.toNat c.toNat),⟨rfl,rfl,rfl,rfl⟩,⟨by omega,by omega⟩,⟨c0,by omega⟩,λq hq=>(hz.2.2.1 q hq).mono (by omega),TU,hz.2.2.2.mono (by omega),hsP.mono (by omega)⟩,⟨dN TY (by omega),dN hsP (by omega)⟩,⟨dN hz.2.2.2 (by omega),dN (uE TY hsP) (by omega)⟩,
    by omega,r0,by omega,by omega,by omega,by omega,r0,by omega,by omega,by omega,c0,by omega,by omega,r0,by omega,by omega,r0,by omega,by omega,c0,by omega,by omega,?_,TV ?_,TW ?_,TX rfl,TX rfl⟩
   ·have hpw:=R1 (r:=r.toNat) (c:=c.toNat) hw;rw[ekl,ebl,hbb,hfl,hpw.cq,hpw.bound,hpw.basic,hpw.free];rfl
   ·rw[TT,show i.toNat=t.cq.length by omega];congr 1;exact TS (by omega)
   ·rw[yI,show i.toNat=t.bound.length by omega];congr 1;exact TS (by omega)
def okO (n m:Nat) (t:Tb):Prop:=∃a M G,Small n m M G a/\Run n m a t/\ko m t
theorem aea {n m:Nat} {t:Tb} (h:okO n m t):fp n m (uM n m t) t=true:=by
 obtain⟨e,M,G,c,b,a⟩:=h;have d:=Jn b a;unfold uM;grind
noncomputable def J8:dH:=uG 160 Unit .nil (λn m t _=>okO n.toNat m.toNat t) (λn m t _=> .bI [.si .i64 (if eE (lastT n.toNat m.toNat t) n.toNat<0 then 0 else eE (lastT n.toNat m.toNat t) n.toNat),.sb (decide (eE (lastT n.toNat m.toNat t) n.toNat<0))]) (λn m t _=>lastT n.toNat m.toNat t)
def tS (t:Tb) (s:cy):Tb:=match Ej s.o with
 |some x=>x.t
 |none=>t
noncomputable def aeb (n m:Int) (t:Tb):Nat->cG
 |1=> .inv Tb (λx=>⟨[(0,.ptr 0 0 10)],(bH n m x).gQ⟩) (tS t) (λx=>okO n.toNat m.toNat x/\lastT n.toNat m.toNat x=lastT n.toNat m.toNat t/\fp n.toNat m.toNat (uM n.toNat m.toNat t) x=true) (λx=>yr n.toNat m.toNat (uM n.toNat m.toNat t) x) λ_ _=> .look
 |_=> .look
theorem aec {n m:Int} {t:Tb} (h:okO n.toNat m.toNat t) (e:0<=n/\n<=1000) (f:0<=m/\m<=1000):kN n m t:=by
 obtain⟨c,M,G,a,b,d⟩:=h;grind[TA]
theorem h402:ef Tryz.prog J8:=by
 refine lz (L:=[]) (W:=[Jr,Js,r408]) J8 (λa=>aeb a.1.n a.1.m a.1.t) (by simpa using⟨h411,h412,h408⟩) (by simp) ?_;rintro⟨x,u⟩ ⟨n,m,t,hx,hok,hd⟩;simp only at hx hd;subst hx;refine bQ (let a:=bq.row;let b:=γd .i64;let c:=γZ;let d:=Ω;let e:=bq.cells;let f:=(0:Int);let g:=γA;let h:=SV.bI;let I:=γQ 0 0 10;let D:=(bH n m t).n;let E:=(bH n m t).m;let r:=bp.i .u32;let F:=(bH n m t).t;let l:=bH D E F;let o:=bp.i .i64;let k:=D.toNat;let s:=E.toNat;let B:=lastT k s F;let G:=uM k s F;let K:=h [b (if eE B k<f then f else eE B k),g (decide (eE B k<f))];let p:=bH D E B;let L:=e [b p.n,b p.m,c 1 p.k0 1,c 2 p.k1 3,d sF p.cost,g p.v.fst,d r p.v.snd.fst,d r p.v.snd.snd,c 3 p.k3 1,c 4 p.k4 1] 261 10 false;let M:=a sF.bB p.cq 106 false;let N:=a sF p.bound 177 false;let O:=a o p.basic 3 false;let P:=a o p.free 3 false;(((I.same I/\True)/\(e [b D,b E,c 1 (bH n m t).k0 1,c 2 (bH n m t).k1 3,d sF (bH n m t).cost,g (bH n m t).v.fst,d r (bH n m t).v.snd.fst,d r (bH n m t).v.snd.snd,c 3 (bH n m t).k3 1,c 4 (bH n m t).k4 1] 261 10 false).same (e [b l.n,b l.m,c 1 l.k0 1,c 2 l.k1 3,d sF l.cost,g l.v.fst,d r l.v.snd.fst,d r l.v.snd.snd,c 3 l.k3 1,c 4 l.k4 1] 261 10 false)/\(a sF.bB (bH n m t).cq 106 false).same (a sF.bB l.cq 106 false)/\(a sF (bH n m t).bound 177 false).same (a sF l.bound 177 false)/\(a o (bH n m t).basic 3 false).same (a o l.basic 3 false)/\(a o (bH n m t).free 3 false).same (a o l.free 3 false)/\True)/\okO k s F/\B=B/\fp k s G F=true)/\∀(x:Tb),let y:=bH D E x;let z:=eE y.t y.n.toNat;let Q:=decide (z<f);let j:=bH y.n y.m y.t;let H:=dT j.t z.toNat j.m.toNat;let R:=decide (H<f);let C:=bH j.n j.m j.t;let S:=fV C.t H.toNat z.toNat;let A:=bH C.n C.m S;let q:=bH D E A.t;let T:=λ(u u_1:Int) (u_2 u_3:Tb) (u_4:bq) ↦let J:=bH u u_1 u_2;let U:=bH J.n J.m J.t;let w:=bH U.n U.m u_3;(e [b w.n,b w.m,c 1 w.k0 1,c 2 w.k1 3,d sF w.cost,g w.v.fst,d r w.v.snd.fst,d r w.v.snd.snd,c 3 w.k3 1,c 4 w.k4 1] 261 10 false).same u_4;okO k s x/\lastT k s x=B/\fp k s G x=true->(∃(n:Int),∃(m:Int),∃(t:Tb),y=bH n m t/\kN n m t/\True)/\(Q=true->(h [γB .i64 0,δh true]).same K/\(e [b j.n,b j.m,c 1 j.k0 1,c 2 j.k1 3,d sF j.cost,g j.v.fst,d r j.v.snd.fst,d r j.v.snd.snd,c 3 j.k3 1,c 4 j.k4 1] 261 10 false).same L/\(a sF.bB j.cq 106 false).same M/\(a sF j.bound 177 false).same N/\(a o j.basic 3 false).same O/\(a o j.free 3 false).same P/\True)/\(Q=false->(∃(n:Int),∃(m:Int),∃(t:Tb),j=bH n m t/\kN n m t/\f<=z/\z<n)/\(R=true->(h [b z,δh false]).same K/\T D E x j.t L/\(a sF.bB C.cq 106 false).same M/\(a sF C.bound 177 false).same N/\(a o C.basic 3 false).same O/\(a o C.free 3 false).same P/\True)/\(R=false->(∃(n:Int),∃(m:Int),∃(t:Tb),C=bH n m t/\kN n m t/\(f<=H/\H<m)/\(f<=z/\z<n)/\t.cf H.toNat z.toNat≠(0:Rat))/\0=0/\((I.same I/\True)/\T y.n y.m y.t S (e [b q.n,b q.m,c 1 q.k0 1,c 2 q.k1 3,d sF q.cost,g q.v.fst,d r q.v.snd.fst,d r q.v.snd.snd,c 3 q.k3 1,c 4 q.k4 1] 261 10 false)/\(a sF.bB A.cq 106 false).same (a sF.bB q.cq 106 false)/\(a sF A.bound 177 false).same (a sF q.bound 177 false)/\(a o A.basic 3 false).same (a o q.basic 3 false)/\(a o A.free 3 false).same (a o q.free 3 false)/\True)/\(okO k s A.t/\lastT k s A.t=B/\fp k s G A.t=true)/\yr k s G A.t<yr k s G x))) (by kernel_rfl) ?_;simp only[acz,sZ,SC,SD];try simp only[vcs]
 obtain⟨⟨hn,hm⟩,hw,hz⟩:=id hok;refine⟨⟨hd,aea hd⟩,?_⟩;rintro x ⟨hx,hl,he⟩;have EJ:=aec hx hn hm;have hs:stepT n.toNat m.toNat x=if eE x n.toNat<0 then none else if dT x (eE x n.toNat).toNat m.toNat<0 then none else some (fV x (dT x (eE x n.toNat).toNat m.toNat).toNat (eE x n.toNat).toNat):=rfl;have hwx:=EJ.2.1;have fin:∀{y:Tb},y=lastT n.toNat m.toNat t->bH n m y=bH n m (lastT n.toNat m.toNat t):=by rintro _ rfl;rfl
 refine⟨⟨n,m,x,rfl,EJ⟩,λh0=>?_,λh0=>?_⟩
 ·rw[if_pos h0] at hs;have e:=TF hs;rw[hl] at e;rw[<-e] at h0 ⊢;rw[if_pos h0,decide_eq_true h0];exact⟨⟨rfl,rfl⟩,rfl,rfl,rfl,rfl,rfl⟩
 ·have h0':¬eE x n.toNat<0:=h0;rw[if_neg h0'] at hs;rcases @uF x n.toNat with⟨e1,e2⟩|⟨c,e1,e2,e3,e4⟩;·omega
  ·refine⟨⟨n,m,x,rfl,EJ,by omega,by omega⟩,λh1=>?_,λh1=>?_⟩
   ·rw[if_pos h1] at hs;have e:=TF hs;rw[hl] at e;rw[e,if_neg h0',decide_eq_false h0'];exact⟨⟨rfl,rfl⟩,rfl,rfl,rfl,rfl,rfl⟩
   ·have h1':¬dT x (eE x n.toNat).toNat m.toNat<0:=h1;rw[if_neg h1'] at hs;rcases @wt x (eE x n.toNat).toNat m.toNat with⟨l1,l2⟩|⟨r,l1,l2,l3,l4⟩;·omega
    ·refine⟨⟨n,m,x,rfl,EJ,⟨by omega,by omega⟩,⟨by omega,by omega⟩,?_⟩,?_⟩;·rw[l1,γn];grind
     ·obtain⟨t0,M,G,g1,g2,g3⟩:=hx;have hsr:=Jl g2 g3 hs;have aed:=Jn g2 g3;refine⟨⟨⟨t0,M,G,g1,hsr.1,hsr.2⟩,?_,SB he hs⟩,left_step he hs⟩;rw[adV aed hs,hl]
end Go.Vi
