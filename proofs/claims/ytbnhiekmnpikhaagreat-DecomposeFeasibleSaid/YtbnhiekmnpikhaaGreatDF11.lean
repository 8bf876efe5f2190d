/-
  Contracts: point, prices.
  Conditions: none.
-/
import Derived.Test.YtbnhiekmnpikhaaGreatDF06
import Derived.Test.YtbnhiekmnpikhaaGreatDF07
import Derived.Test.YtbnhiekmnpikhaaGreatDF08
import Derived.Test.YtbnhiekmnpikhaaGreatDF09
import Derived.Test.YtbnhiekmnpikhaaGreatDF10
set_option maxRecDepth 100000
set_option maxHeartbeats 4000000
set_option linter.all false
open Bool renaming and_eq_true->θ
open Go.Vi.AV renaming sl->ζ1,sc->δe,os->θc
open Go.Vi.AV.sc renaming injEq->δd
open Go.Vi.AV.sl renaming injEq->δ5
open Go.Vi.SV renaming si->γd,row->Ω,ow->γZ,ptr->γQ,sb->γA,il->γB,g->γF,bl->δh
open Int renaming toNat_natCast->γn
open IntCast renaming intCast->κ
open List renaming replicate->δ,take->Δ,length->γc,take_length->φ,all_eq_true->τ,map->γb,length_replicate->γE,length_map->Φ,length_take->γy,map_append->γa,length_set->Ψ,map_map->γO,flatMap->ζ4,elem->ζN,getElem_of_mem->γH,mem_map->Θ,mem_append_left->εn,mem_append->γm,pairwise_cons->γu,mem_cons->γr,mem_cons_of_mem->γs,map_cons->ξ,sum_cons->δ8,perm_ext_iff_of_nodup->γ7,nodup_append->γw,filter_sublist->γt,sum_append->ζO,idxOf_lt_length_of_mem->εi,getElem?_set_ne->δq,take_append_drop->γK,map_nil->γv
open List.cons renaming injEq->Γ
open Option renaming map_eq_some_iff->ε
open Option.some renaming injEq->γ
namespace Go.Vi
open Go.Proofs.YtbnhiekmnpikhaaGreat.Ir
open Go.Proofs
def gq (t:Tb) (n:Nat):Nat->List Rat
 |0=>δ n 0
 |k+1=>if t.bv k<n then(gq t n k).set (t.bv k).toNat (t.bd k) else gq t n k
def jy (t:Tb) (n m:Nat):Nat->List Rat
 |0=>δ m 0
 |k+1=>if(n:Int)<=t.fv k/\t.fv k<n+m then(jy t n m k).set (t.fv k - n).toNat (-(t.cs k)) else jy t n m k
theorem EK {t:Tb} {n:Nat}:∀{k:Nat},(gq t n k).length=n
 |0=>by simp[gq];|k+1=>by
  have:=@EK t n k;grind[gq]
theorem EL {t:Tb} {n m:Nat}:∀{k:Nat},(jy t n m k).length=m
 |0=>by simp[jy];|k+1=>by
  have:=@EL t n m k;grind[jy]
def EM:dH:=uG 161 Unit .nil (λ_ _ t _=>∀v∈t.basic,0<=v) (λn m t _=> .row sF (fL (gq t n.toNat m.toNat))) (λ_ _ t _=>t)
def aee (n m:Int) (t:Tb):Nat->cG
 |3=> .inv Int (λi=>⟨[(0,.ptr 0 0 10),(3,.ow 5 n.toNat 3),(14,.ow 3 t.basic.length 1),(15,.si .i64 t.basic.length),(16,.si .i64 i)],(bH n m t).gQ++[.row sF (fL (gq t n.toNat i.toNat)) 177 false]⟩)
   (λs=>iS s 16) (λi=>0<=i/\i<=m) (λi=>(m - i).toNat) λ_ _=> .look
 |_=> .look
theorem h403:ef Tryz.prog EM:=by
 refine lz (L:=[]) (W:=[r413]) EM (λa=>aee a.1.n a.1.m a.1.t) (by simpa using h413) (by simp) ?_;rintro⟨x,u⟩ ⟨n,m,t,hx,hok,hd⟩;simp only at hx hd;subst hx;refine bQ (let a:=bq.row;let b:=γd .i64;let c:=(0:Int);let d:=Ω;let e:=γZ;let p:=(bH n m t).n;let B:=γQ 0 0 10;let g:=p.toNat;let C:=e 5 g 3;let J:=e 3 (bH n m t).k3 1;let k:=(bH n m t).t;let q:=k.basic.length;let G:=e 3 q 1;let H:=b (↑q:Int);let h:=(bH n m t).m;let D:=bp.i .u32;let f:=bH p h k;let r:=bq.cells [b f.n,b f.m,e 1 f.k0 1,e 2 f.k1 3,d sF f.cost,γA f.v.fst,d D f.v.snd.fst,d D f.v.snd.snd,e 3 f.k3 1,e 4 f.k4 1] 261 10 false;let s:=a sF.bB f.cq 106 false;let w:=a sF f.bound 177 false;let E:=bp.i .i64;let l:=f.basic;let y:=a E l 3 false;let z:=a E f.free 3 false;let F:=f.bound.length;(c<=p/\p<=(1000:Int))/\(((B.same B/\C.same C/\J.same G/\(b (↑(bH n m t).k3:Int)).same H/\(γB .i64 0).same (b 0)/\True)/\(bq.cells [b p,b h,e 1 (bH n m t).k0 1,e 2 (bH n m t).k1 3,d sF (bH n m t).cost,γA (bH n m t).v.fst,d D (bH n m t).v.snd.fst,d D (bH n m t).v.snd.snd,J,e 4 (bH n m t).k4 1] 261 10 false).same r/\(a sF.bB (bH n m t).cq 106 false).same s/\(a sF (bH n m t).bound 177 false).same w/\(a E (bH n m t).basic 3 false).same y/\(a E (bH n m t).free 3 false).same z/\(a sF (fL (δ g (0:Rat))) 177 false).same (a sF (fL (gq k g 0)) 177 false)/\True)/\c<=c/\c<=h)/\∀(x:Int),let o:=x+(1:Int);let K:=b o;let L:=decide (x<(↑q:Int));let A:=bj l x.toNat c;let M:=decide (A<f.n);let j:=fL (gq k g x.toNat);let I:=bj f.bound x.toNat sF.dflt;let N:=λ(u:bq) ↦cu .i64 o/\((B.same B/\C.same C/\G.same G/\H.same H/\K.same K/\True)/\r.same r/\s.same s/\w.same w/\y.same y/\z.same z/\u.same (a sF (fL (gq k g o.toNat)) 177 false)/\True)/\(c<=o/\o<=h)/\(h - o).toNat<(h - x).toNat;c<=x/\x<=h->(L=true->q=l.length/\c<=x/\x<(↑l.length:Int)/\q=l.length/\x.toNat<l.length/\(M=true->f.k1=F/\c<=x/\x<(↑F:Int)/\f.k1=F/\x.toNat<F/\g=j.length/\c<=A/\A<(↑j.length:Int)/\g=j.length/\A.toNat<j.length/\N (a sF (j.set A.toNat (I.fst,I.snd.fst,I.snd.snd)) 177 false))/\(M=false->N (a sF j 177 false)))/\(L=false->g=j.length/\(d sF j).same (d sF (fL (gq k g h.toNat)))/\r.same r/\s.same s/\w.same w/\y.same y/\z.same z/\True)) (by kernel_rfl) ?_;simp only[sZ];try simp only[bH]
 simp only[vcs];obtain⟨⟨⟨n0,n1⟩,m0,m1⟩,hw,hz⟩:=id hok;have hbb:=hw.basic;have hbl:=hw.bound;have Jt:=@fF t.bound;have hbv:∀k:Nat,bj t.basic k 0=t.bv k:=λk=>rfl;have hrow:∀{x y:List bL},x=y->(bq.row sF x 177 false).same (bq.row sF y 177 false):=by rintro _ _ rfl;rfl
 refine⟨⟨n0,n1⟩,⟨hrow rfl,by omega,by omega⟩,?_⟩;rintro i ⟨i0,i1⟩;have hpl:=@EK t n.toNat i.toNat;have hfp:=@fF (gq t n.toNat i.toNat);refine⟨λhi=>?_,λhi=>⟨by omega,by rw[show i.toNat=m.toNat by omega]⟩⟩;have hv:=hd _ (A0 hw (show i.toNat<m.toNat by omega));have hB:bj (fL t.bound) i.toNat sF.dflt=bu (t.bd i.toNat):=jw (by omega);have hs:gq t n.toNat (i+1).toNat=if t.bv i.toNat<n.toNat then(gq t n.toNat i.toNat).set (t.bv i.toNat).toNat (t.bd i.toNat) else gq t n.toNat i.toNat:=by
  rw[show(i+1).toNat=i.toNat+1 by omega];rfl
 simp only[hbv,hB,jM,hs];refine⟨i0,hi,by omega,λhlt=>⟨by omega,i0,by omega,by omega,by omega,by omega,hv,by omega,by omega,by omega,by omega,hrow ?_,by omega,by omega⟩,λhlt=>⟨by omega,hrow ?_,by omega,by omega⟩⟩;·rw[yI,if_pos (by omega)]
 ·rw[if_neg (by omega)]
def EN:dH:=uG 163 Unit .nil (λ_ _ t _=>True) (λn m t _=> .row sF (fL (jy t n.toNat m.toNat n.toNat))) (λ_ _ t _=>t)
def aef (n m:Int) (t:Tb):Nat->cG
 |3=> .inv Int (λi=>⟨[(0,.ptr 0 0 10),(3,.ow 5 m.toNat 3),(14,.ow 4 t.free.length 1),(15,.si .i64 t.free.length),(16,.si .i64 i)],(bH n m t).gQ++[.row sF (fL (jy t n.toNat m.toNat i.toNat)) 177 false]⟩)
   (λs=>iS s 16) (λi=>0<=i/\i<=n) (λi=>(n - i).toNat) λ_ _=> .look
 |_=> .look
theorem h405:ef Tryz.prog EN:=by
 refine lz (L:=[yj]) (W:=[r413]) EN (λa=>aef a.1.n a.1.m a.1.t) (by simpa using h413) (by simpa using h130) ?_;rintro⟨x,u⟩ ⟨n,m,t,hx,hok,hd⟩;simp only at hx hd;subst hx;refine bQ (let a:=bq.row;let b:=γd .i64;let c:=(0:Int);let d:=Ω;let e:=γZ;let f:=cu .i64;let A:=(bH n m t).m;let u:=γQ 0 0 10;let k:=A.toNat;let w:=e 5 k 3;let M:=e 4 (bH n m t).k4 1;let y:=(bH n m t).t;let B:=y.free.length;let C:=e 4 B 1;let D:=b (↑B:Int);let h:=(bH n m t).n;let G:=bp.i .u32;let g:=bH h A y;let o:=bq.cells [b g.n,b g.m,e 1 g.k0 1,e 2 g.k1 3,d sF g.cost,γA g.v.fst,d G g.v.snd.fst,d G g.v.snd.snd,e 3 g.k3 1,e 4 g.k4 1] 261 10 false;let p:=a sF.bB g.cq 106 false;let q:=a sF g.bound 177 false;let H:=bp.i .i64;let r:=a H g.basic 3 false;let z:=g.free;let s:=a H z 3 false;let E:=h.toNat;(c<=A/\A<=(1000:Int))/\(((u.same u/\w.same w/\M.same C/\(b (↑(bH n m t).k4:Int)).same D/\(γB .i64 0).same (b 0)/\True)/\(bq.cells [b h,b A,e 1 (bH n m t).k0 1,e 2 (bH n m t).k1 3,d sF (bH n m t).cost,γA (bH n m t).v.fst,d G (bH n m t).v.snd.fst,d G (bH n m t).v.snd.snd,e 3 (bH n m t).k3 1,M] 261 10 false).same o/\(a sF.bB (bH n m t).cq 106 false).same p/\(a sF (bH n m t).bound 177 false).same q/\(a H (bH n m t).basic 3 false).same r/\(a H (bH n m t).free 3 false).same s/\(a sF (fL (δ k (0:Rat))) 177 false).same (a sF (fL (jy y E k 0)) 177 false)/\True)/\c<=c/\c<=h)/\∀(x:Int),let j:=x+(1:Int);let I:=b j;let l:=fL (jy y E k x.toNat);let N:=a sF (fL (jy y E k j.toNat)) 177 false;let O:=decide (x<(↑B:Int));let J:=bj z x.toNat c;let P:=decide (g.n<=J);let Q:=decide (J<g.n+g.m);let F:=J - g.n;let K:=bj g.cost x.toNat sF.dflt;let L:=(K.fst,K.snd.fst,K.snd.snd);let R:=(bu (-bV L)).snd;let S:=f j/\((u.same u/\w.same w/\C.same C/\D.same D/\I.same I/\True)/\o.same o/\p.same p/\q.same q/\r.same r/\s.same s/\(a sF l 177 false).same N/\True)/\(c<=j/\j<=h)/\(h - j).toNat<(h - x).toNat;c<=x/\x<=h->(O=true->B=z.length/\c<=x/\x<(↑z.length:Int)/\B=z.length/\x.toNat<z.length/\(P=true->f (g.n+g.m)/\(Q=true->f F/\c<=x/\x<(↑g.cost.length:Int)/\x.toNat<g.cost.length/\cE L/\k=l.length/\c<=F/\F<(↑l.length:Int)/\k=l.length/\F.toNat<l.length/\f j/\((u.same u/\w.same w/\C.same C/\D.same D/\I.same I/\True)/\o.same o/\p.same p/\q.same q/\r.same r/\s.same s/\(a sF (l.set F.toNat ((bu (-bV L)).fst,R.fst,R.snd)) 177 false).same N/\True)/\(c<=j/\j<=h)/\(h - j).toNat<(h - x).toNat)/\(Q=false->S))/\(P=false->S))/\(O=false->k=l.length/\(d sF l).same (d sF (fL (jy y E k E)))/\o.same o/\p.same p/\q.same q/\r.same r/\s.same s/\True)) (by kernel_rfl) ?_;simp only[sZ];try simp only[bH]
 simp only[vcs];obtain⟨⟨⟨n0,n1⟩,m0,m1⟩,hw,hz⟩:=id hok;have hfl:=hw.free;have hcl:=hw.cost;have hfc:=@fF t.cost;have Ek:∀k:Nat,bj t.free k 0=t.fv k:=λk=>rfl;have hrow:∀{x y:List bL},x=y->(bq.row sF x 177 false).same (bq.row sF y 177 false):=by rintro _ _ rfl;rfl
 refine⟨⟨m0,m1⟩,⟨hrow rfl,by omega,by omega⟩,?_⟩;rintro i ⟨i0,i1⟩;have hpl:=@EL t n.toNat m.toNat i.toNat;have hfp:=@fF (jy t n.toNat m.toNat i.toNat);refine⟨λhi=>?_,λhi=>⟨by omega,by rw[show i.toNat=n.toNat by omega]⟩⟩;have hC:bj (fL t.cost) i.toNat sF.dflt=bu (t.cs i.toNat):=jw (by omega);have hs:jy t n.toNat m.toNat (i+1).toNat=if(n.toNat:Int)<=t.fv i.toNat/\t.fv i.toNat<n.toNat+m.toNat then(jy t n.toNat m.toNat i.toNat).set (t.fv i.toNat - n.toNat).toNat (-(t.cs i.toNat)) else jy t n.toNat m.toNat i.toNat:=by
  rw[show(i+1).toNat=i.toNat+1 by omega];rfl
 simp only[Ek,hC,jM,hs,eD];refine⟨i0,hi,by omega,λh1=>⟨by omega,λh2=>⟨by omega,i0,by omega,by omega,dN (hok.cs (by omega)) (by omega),by omega,by omega,by omega,by omega,by omega,by omega,hrow ?_,by omega,by omega⟩,λh2=>⟨by omega,hrow ?_,by omega,by omega⟩⟩,λh1=>⟨by omega,hrow ?_,by omega,by omega⟩⟩;·rw[yI,if_pos (by omega),show(n.toNat:Int)=n by omega]
 ·rw[if_neg (by omega)]
 ·rw[if_neg (by omega)]
@[reducible] def sR:bp:=.pair (.bB sF) sF
abbrev s9:=List bL×List (List bL×bL)
def yJ:qB s9 where
 put a:=.agg [.row sF a.1,.row sR a.2];dec
  | .agg [r,v]=>match jH sF r,jH sR v with
   |some c,some v=>some (c,v)
   |_,_=>none
  |_=>none;ok v a h:=by
  grind[γF,gL,o8]
 inj a b h:=by
  obtain⟨c,v⟩:=a;obtain⟨f,i⟩:=b;simp only[γF,gL,AV.agg.injEq,Γ,and_true,δ5] at h;have e:=ly sF h.1.1 h.1.2;have d:=ly sR h.2.1 h.2.2;rw[e,d]
def iZ (x:bL):Prop:=(bA x.2.1/\bA x.2.2)/\x.2.1.length<=10000000/\x.2.2.length<=10000000
def J9:bM:=⟨175,List bL,.one (dG sF),λl=>(show List bL from l).length<=1000/\∀x∈(show List bL from l),iZ x,λl=> .sb ((show List bL from l).all okF)⟩
def aeg (l:List bL):Nat->cG
 |2=> .inv Int (λi=>⟨[(5,.row sF l),(6,.si .i64 l.length),(7,.si .i64 i)],[]⟩)
   (λs=>iS s 7) (λi=>(0<=i/\i<=l.length)/\(l.take i.toNat).all okF=true) (λi=>(l.length - i).toNat) λ_ _=> .look
 |_=> .look
theorem h406:Holds Tryz.prog J9:=by
 refine cH (L:=[uD]) J9 aeg (by grind[h407]) ?_;rintro(l:List bL) ⟨(q:l.length<=1000),(n:∀x∈l,iZ x)⟩;refine bQ (let d:=(0:Int);let e:=γd .i64;let g:=Ω;let a:=(↑l.length:Int);let f:=e a;((((g sF l).same (g sF l)/\(e (↑l.length:Int)).same f/\(γB .i64 0).same (e 0)/\True)/\True)/\(d<=d/\d<=a)/\true=true)/\∀(x:Int),let b:=bj l x.toNat sF.dflt;let c:=x+(1:Int);let k:=e c;let m:=λ(u:Bool) ↦(!okF (b.fst,b.snd.fst,b.snd.snd))=u;(d<=x/\x<=a)/\(Δ x.toNat l).all okF=true->(decide (x<a)=true->d<=x/\x<(↑l.length:Int)/\x.toNat<l.length/\((bA b.snd.fst/\bA b.snd.snd)/\γc b.snd.fst<=10000000/\γc b.snd.snd<=10000000)/\(m true->(δh false).same (γA (l.all okF)))/\(m false->cu .i64 c/\(((g sF l).same (g sF l)/\f.same f/\k.same k/\True)/\True)/\((d<=c/\c<=a)/\(Δ c.toNat l).all okF=true)/\(a - c).toNat<(a - x).toNat))/\(decide (x<a)=false->(δh true).same (γA (l.all okF)))) (by kernel_rfl) ?_;simp only[vcs];refine⟨⟨by omega,by omega⟩,?_⟩;rintro i ⟨⟨j,t⟩,e⟩;refine⟨λh=>?_,λh=>?_⟩
 ·have p:=dn (d:=sF.dflt) (show i.toNat<l.length by omega);have r:=jq (d:=sF.dflt) j h;have g:=n _ p;have o:okF ((bj l i.toNat sF.dflt).1,(bj l i.toNat sF.dflt).2.1,(bj l i.toNat sF.dflt).2.2)=okF (bj l i.toNat sF.dflt):=rfl;rw[o];refine⟨j,h,by omega,⟨g.1,g.2.1,g.2.2⟩,λs=>?_,λv=>⟨by omega,⟨⟨by omega,by omega⟩,?_⟩,by omega⟩⟩;all_goals grind
 ·rw[show i.toNat=l.length by omega,φ] at e;simp_all
def Ko:bM:=⟨156,s9,.one yJ,λa=>(a.1.length<=160/\a.2.length<=40)/\(∀x∈a.1,iZ x/\okF x=true)/\∀r∈a.2,r.1.length=a.1.length/\(∀x∈r.1,iZ x/\okF x=true)/\iZ r.2/\okF r.2=true,λ_=> .si .i64 0⟩
def aeh (a:s9):Nat->cG
 |6=> .inv Int (λi=>⟨[(1,.ptr 0 0 2),(20,.row sR a.2),(21,.si .i64 a.2.length),(22,.si .i64 i)],[.cells [.row sF a.1,.row sR a.2] 217 2 false]⟩)
   (λs=>iS s 22) (λi=>0<=i/\i<=a.2.length) (λi=>(a.2.length - i).toNat) λ_ _=> .look
 |_=> .look
theorem h398:Holds Tryz.prog Ko:=by
 refine cH (L:=[J9,uD]) Ko aeh (by simpa using⟨h406,h407⟩) ?_;rintro⟨g,rs⟩ ⟨⟨hl1,hl2⟩,hg,hr⟩;simp only at hl1 hl2 hg hr;refine bQ (let a:=γB .i64;let b:=(0:Int);let c:=γd .i64;let d:=γB .i64 0;let q:=decide ((160:Int)<(↑g.length:Int));let e:=c 0;let m:=(↑rs.length:Int);let r:=decide ((40:Int)<m);let k:=γQ 0 0 2;let i:=Ω sR rs;let f:=(↑rs.length:Int);let n:=c f;let l:=bq.cells [Ω sF g,i] 217 2 false;(q=true->(a 3).same e)/\(q=false->(r=true->(a 3).same e)/\(r=false->(g.length<=1000/\∀(x:bL),x∈g->iZ x)/\((!g.all okF)=true->(a 2).same e)/\((!g.all okF)=false->(((k.same k/\i.same i/\(c m).same n/\(a 0).same e/\True)/\l.same l/\True)/\b<=b/\b<=f)/\∀(x:Int),let h:=bj rs x.toNat sR.dflt;let o:=h.snd.snd.fst;let p:=h.snd.snd.snd;let s:=!List.all h.fst okF;let j:=x+(1:Int);let t:=c j;let v:=λ(u:Bool) ↦(!okF (h.snd.fst,o,p))=u;let w:=λ(u:Bool) ↦decide ((↑(γc h.fst):Int)≠(↑g.length:Int))=u;b<=x/\x<=f->(decide (x<f)=true->b<=x/\x<m/\x.toNat<rs.length/\(w true->(a 2).same e)/\(w false->(γc h.fst<=1000/\∀(x:bL),x∈h.fst->iZ x)/\(s=true->(a 2).same e)/\(s=false->((bA o/\bA p)/\γc o<=10000000/\γc p<=10000000)/\(v true->(a 2).same e)/\(v false->cu .i64 j/\((k.same k/\i.same i/\n.same n/\t.same t/\True)/\l.same l/\True)/\(b<=j/\j<=f)/\(f - j).toNat<(f - x).toNat))))/\(decide (x<f)=false->(a 0).same e))))) (by kernel_rfl) ?_;simp only[vcs];have hall:∀{l:List bL},(∀x∈l,iZ x/\okF x=true)->l.all okF=true:=λh=>τ.2 λx hx=>(h x hx).2;refine⟨λh=>by omega,λ_=>⟨λh=>by omega,λ_=>⟨⟨by omega,λx hx=>(hg x hx).1⟩,λh=>(by rw[hall hg] at h;cases h),λ_=>⟨⟨by omega,by omega⟩,?_⟩⟩⟩⟩;rintro i ⟨i0,i1⟩;refine⟨λhi=>?_,λ_=>trivial⟩;have hm:=hr _ (dn (d:=sR.dflt) (show i.toNat<rs.length by omega));have h2:okF ((bj rs i.toNat sR.dflt).2.1,(bj rs i.toNat sR.dflt).2.2.1,(bj rs i.toNat sR.dflt).2.2.2)=okF (bj rs i.toNat sR.dflt).2:=rfl;rw[h2];refine⟨i0,hi,by omega,λh=>absurd (by rw[hm.1]) h,λ_=>⟨⟨by have:=hm.1;omega,λx hx=>(hm.2.1 x hx).1⟩,λh=>?_,λ_=>⟨⟨hm.2.2.1.1,hm.2.2.1.2.1,hm.2.2.1.2.2⟩,λh=>?_,λ_=>⟨by omega,⟨by omega,by omega⟩,by omega⟩⟩⟩⟩
 ·have:=hall hm.2.1;rw[show List.all (bj rs i.toNat sR.dflt).1 okF=true from this] at h;cases h
 ·rw[hm.2.2.2] at h;cases h
def Bl (a:s9):nJ:=⟨a.1.length,a.2.length,a.2.length,a.2.length,a.2.length,a.1.length,a.2.map (·.1),a.2.map (·.2),δ a.1.length (bu 0),bu 0,(df a.2.length).map λi=>a.1.length+i,df a.1.length⟩
def Kp:dH where
 f:=157;α:=s9;put a:=[yJ.put a];st _:=[];dec v o:=match v,o with
  |[v],[]=>yJ.dec v
  |_,_=>none;ok v o a h:=by
  split at h;·exact⟨by simp only[gL,yJ.ok _ _ h],rfl⟩
  ·cases h
 inj a b h _:=yJ.inj a b (by simpa[gL] using h);dom a:=a.1.length<=1000/\a.2.length<=1000/\∀r∈a.2,r.1.length<=1000;res a:=.ptr 0 0 10;out a:=(Bl a).gQ
def T0 (a:s9) (k0 k1 k2 k3 k4:Nat) (co:List (List bL)) (bo ct:List bL) (ba fr:List Int):cj:=
 [.cells [.row sF a.1,.row sR a.2] 217 2 false,.cells [.si .i64 a.1.length,.si .i64 a.2.length,.ow 2 k0 1,.ow 3 k1 3,.ow 4 k2 3,.sb (bu 0).1,.row (.i .u32) (bu 0).2.1,.row (.i .u32) (bu 0).2.2,.ow 5 k3 1,.ow 6 k4 1] 261 10 false,
  .row (.bB sF) co 106 false,.row sF bo 177 false,.row sF ct 177 true,.row (.i .i64) ba 3 false,.row (.i .i64) fr 3 false]
def aei (a:s9):Nat->cG
 |3=> .inv Int (λj=>⟨[(1,.ptr 0 0 2),(3,.ptr 1 0 10),(18,.si .i64 a.1.length),(19,.si .i64 j)],T0 a 0 0 j.toNat 0 j.toNat [] [] (δ j.toNat (bu 0)) [] (df j.toNat)⟩)
   (λs=>iS s 19) (λj=>0<=j/\j<=a.1.length) (λj=>(a.1.length - j).toNat) λ_ _=> .look
 |9=> .inv Int (λi=>⟨[(3,.ptr 1 0 10),(44,.row sR a.2),(45,.si .i64 a.2.length),(46,.si .i64 i)],T0 a i.toNat i.toNat a.1.length i.toNat a.1.length ((a.2.take i.toNat).map (·.1)) ((a.2.take i.toNat).map (·.2)) (δ a.1.length (bu 0)) ((df i.toNat).map λi=>a.1.length+i) (df a.1.length)⟩)
   (λs=>iS s 46) (λi=>0<=i/\i<=a.2.length) (λi=>(a.2.length - i).toNat) λ_ _=> .look
 |_=> .look
theorem h399:ef Tryz.prog Kp:=by
 refine HV (L:=[oz]) (W:=[]) Kp (λ_=>none) aei (by simp) (by simpa using h94) ?_;rintro⟨g,rs⟩ ⟨hg,hr,hrr⟩;simp only at hg hr hrr;refine bQ (let a:=bq.row;let c:=γZ;let d:=bq.cells;let e:=(0:Int);let f:=γd .i64;let h:=(-9223372036854775808:Int);let j:=Ω;let k:=(9223372036854775807:Int);let l:=γB .i64 0;let o:=cu .i64;let p:=γQ;let V:=p 0 0 2;let w:=p 1 0 10;let a6:=f (↑g.length:Int);let r:=(↑g.length:Int);let s:=f r;let N:=j sR rs;let y:=d [j sF g,N] 217 2 false;let a7:=f (↑rs.length:Int);let G:=c 2 0 1;let H:=c 3 0 3;let a8:=c 4 0 3;let I:=bu (κ e);let z:=bp.i .u32;let O:=c 5 0 1;let a9:=[O,c 6 0 1];let A:=(↑rs.length:Int);let t:=f A;let J:=bu (0:Rat);let B:=γA J.fst;let C:=j z J.snd.fst;let D:=j z J.snd.snd;let P:=bp.b.pair (z.bB.pair z.bB);let Q:=a sF.bB [] 106 false;let R:=a sF [] 177 false;let u:=bp.i .i64;let F:=a u [] 3 false;let a1:=c 4 g.length 3;let a2:=[c 6 g.length 1];let a3:=δ g.length J;let a4:=a sF a3 177 true;let W:=a u (df g.length) 3 false;let aa:=p 0 0 10;let q:=Bl (g,rs);(h<=e/\e<=k)/\(((V.same V/\w.same w/\a6.same s/\(l).same (f 0)/\True)/\y.same y/\(d (a6::a7::G::H::a8::γA I.fst::j z I.snd.fst::j z I.snd.snd::a9) 261 10 false).same (d (s::t::G::H::a8::B::C::D::a9) 261 10 false)/\(a P.bB [] 106 false).same Q/\(a P [] 177 false).same R/\(a P [] 177 true).same (a sF [] 177 true)/\F.same F/\F.same (a u (df 0) 3 false)/\True)/\e<=e/\e<=r)/\∀(x:Int),let S:=df x.toNat;let ab:=S.length+1;let X:=δ x.toNat J;let ac:=X.length+1;let K:=x+(1:Int);let ad:=f K;let ae:=X++[(I.fst,I.snd.fst,I.snd.snd)];let Y:=K.toNat;e<=x/\x<=r->(decide (x<r)=true->1=1/\x.toNat=S.length/\ab*8<=140737488355328/\ab<=1000000000000/\(h<=e/\e<=k)/\1=1/\x.toNat=X.length/\ac*56<=140737488355328/\ac<=1000000000000/\o K/\((V.same V/\w.same w/\s.same s/\ad.same ad/\True)/\y.same y/\(d [s,t,G,H,c 4 ae.length 3,B,C,D,O,c 6 (S++[x]).length 1] 261 10 false).same (d [s,t,G,H,c 4 Y 3,B,C,D,O,c 6 Y 1] 261 10 false)/\Q.same Q/\R.same R/\(a P ae 177 true).same (a sF (δ Y J) 177 true)/\F.same F/\(a u (S++[x]) 3 false).same (a u (df Y) 3 false)/\True)/\(e<=K/\K<=r)/\(r - K).toNat<(r - x).toNat)/\(decide (x<r)=false->(((w.same w/\N.same N/\a7.same t/\(l).same (f 0)/\True)/\y.same y/\(d [s,t,G,H,c 4 x.toNat 3,B,C,D,O,c 6 x.toNat 1] 261 10 false).same (d (s::t::G::H::a1::B::C::D::O::a2) 261 10 false)/\Q.same Q/\R.same R/\(a sF X 177 true).same a4/\F.same F/\(a u S 3 false).same W/\True)/\e<=e/\e<=A)/\∀(x:Int),let T:=bj rs x.toNat sR.dflt;let E:=γc T.fst;let af:=Δ x.toNat rs;let Z:=γb (λx ↦x.fst) af;let a5:=Z.length+1;let a0:=γb (λx ↦x.snd) af;let ag:=a0.length+1;let U:=γb (λi ↦(↑(g,rs).fst.length:Int)+i) (df x.toNat);let ah:=U.length+1;let L:=x+(1:Int);let ai:=f L;let aj:=a0++[(T.snd.fst,T.snd.snd.fst,T.snd.snd.snd)];let M:=L.toNat;e<=x/\x<=A->(decide (x<A)=true->e<=x/\x<(↑rs.length:Int)/\x.toNat<rs.length/\0=0/\(0+E)*56<=140737488355328/\0+E<=1000000000000/\x.toNat=Z.length/\a5*24<=140737488355328/\a5<=1000000000000/\E=E/\E=E/\E=E/\1=1/\x.toNat=a0.length/\ag*56<=140737488355328/\ag<=1000000000000/\o (r+x)/\1=1/\x.toNat=U.length/\ah*8<=140737488355328/\ah<=1000000000000/\o L/\((w.same w/\N.same N/\t.same t/\ai.same ai/\True)/\y.same y/\(d (s::t::c 2 a5 1::c 3 aj.length 3::a1::B::C::D::c 5 (U++[r+x]).length 1::a2) 261 10 false).same (d (s::t::c 2 M 1::c 3 M 3::a1::B::C::D::c 5 M 1::a2) 261 10 false)/\(a sF.bB (Z++[T.fst]) 106 false).same (a sF.bB (γb (λx ↦x.fst) (Δ M rs)) 106 false)/\(a P aj 177 false).same (a sF (γb (λx ↦x.snd) (Δ M rs)) 177 false)/\a4.same a4/\(a u (U++[r+x]) 3 false).same (a u (γb (λi ↦(↑(g,rs).fst.length:Int)+i) (df M)) 3 false)/\W.same W/\True)/\(e<=L/\L<=A)/\(A - L).toNat<(A - x).toNat)/\(decide (x<A)=false->g.length=a3.length/\aa.same aa/\(d [s,t,c 1 x.toNat 1,c 2 x.toNat 3,j sF a3,B,C,D,c 3 x.toNat 1,c 4 g.length 1] 261 10 false).same (d [f q.n,f q.m,c 1 q.k0 1,c 2 q.k1 3,j sF q.cost,γA q.v.fst,j z q.v.snd.fst,j z q.v.snd.snd,c 3 q.k3 1,c 4 q.k4 1] 261 10 false)/\(a sF.bB Z 106 false).same (a sF.bB q.cq 106 false)/\(a sF a0 177 false).same (a sF q.bound 177 false)/\(a u U 3 false).same (a u q.basic 3 false)/\W.same (a u q.free 3 false)/\True))) (by kernel_rfl) ?_;simp only[vcs];have h0:(κ 0:Rat)=0:=rfl;simp only[h0,jM];have hcell:∀{a b a' b' c d e a2 b2 c2 d2 e2:Nat},a=a2->b=b2->c=c2->d=d2->e=e2->(bq.cells [.si .i64 a',.si .i64 b',.ow 2 a 1,.ow 3 b 3,.ow 4 c 3,.sb (bu 0).1,.row (.i .u32) (bu 0).2.1,.row (.i .u32) (bu 0).2.2,.ow 5 d 1,.ow 6 e 1] 261 10 false).same
   (bq.cells [.si .i64 a',.si .i64 b',.ow 2 a2 1,.ow 3 b2 3,.ow 4 c2 3,.sb (bu 0).1,.row (.i .u32) (bu 0).2.1,.row (.i .u32) (bu 0).2.2,.ow 5 d2 1,.ow 6 e2 1] 261 10 false):=by
  rintro _ _ _ _ _ _ _ _ _ _ _ _ rfl rfl rfl rfl rfl;rfl
 have hrF:∀{x y:List bL},x=y->(bq.row sF x 177 false).same (bq.row sF y 177 false):=by rintro _ _ rfl;rfl
 have uP:∀{x y:List bL},x=y->(bq.row sF x 177 true).same (bq.row sF y 177 true):=by rintro _ _ rfl;rfl
 have hrM:∀{x y:List (List bL)},x=y->(bq.row (.bB sF) x 106 false).same (bq.row (.bB sF) y 106 false):=by rintro _ _ rfl;rfl
 have lI:∀{x y:List Int},x=y->(bq.row (.i .i64) x 3 false).same (bq.row (.i .i64) y 3 false):=by rintro _ _ rfl;rfl
 have hcast:∀k:Nat,((k:Nat):Int).toNat=k:=λk=>γn k;refine⟨by omega,⟨⟨rfl,lI rfl⟩,by omega,by omega⟩,?_⟩;rintro j ⟨j0,j1⟩;have l1:=@iz j.toNat;have l2:(δ j.toNat (bu 0)).length=j.toNat:=γE;refine⟨λhj=>?_,λhj=>?_⟩
 ·have e1:df j.toNat++[j]=df (j+1).toNat:=by
   rw[show(j+1).toNat=j.toNat+1 by omega,qQ,show((j.toNat:Nat):Int)=j by omega]
  have e2:δ j.toNat (bu 0)++[bu 0]=δ (j+1).toNat (bu 0):=by
   rw[show(j+1).toNat=j.toNat+1 by omega,List.replicate_succ']
  rw[e1,e2,iz,γE];rw[iz,γE];refine⟨rfl,?_,?_,?_,rfl,?_,?_,?_,⟨hcell rfl rfl rfl rfl rfl,uP rfl,lI rfl⟩,?_,?_⟩<;>omega
 ·rw[show j.toNat=g.length by omega];refine⟨⟨⟨hcell rfl rfl rfl rfl rfl,uP rfl,lI rfl⟩,by omega,by omega⟩,?_⟩;rintro i ⟨i0,i1⟩;have l3:(γb (λx:List bL×bL=>x.1) (Δ i.toNat rs)).length=i.toNat:=by rw[Φ,γy];omega
  have l4:(γb (λx:List bL×bL=>x.2) (Δ i.toNat rs)).length=i.toNat:=by rw[Φ,γy];omega
  have l5:(γb (λi:Int=>(g.length:Int)+i) (df i.toNat)).length=i.toNat:=by rw[Φ,iz]
  refine⟨λhi=>?_,λhi=>?_⟩
  ·have hm:=hrr _ (dn (d:=sR.dflt) (show i.toNat<rs.length by omega));have et:=jq (d:=sR.dflt) i0 hi;have e1:γb (λx:List bL×bL=>x.1) (Δ i.toNat rs)++[(bj rs i.toNat sR.dflt).1]=γb (λx:List bL×bL=>x.1) (Δ (i+1).toNat rs):=by rw[et,γa];rfl
   have e2:γb (λx:List bL×bL=>x.2) (Δ i.toNat rs)++[(bj rs i.toNat sR.dflt).2]=γb (λx:List bL×bL=>x.2) (Δ (i+1).toNat rs):=by rw[et,γa];rfl
   have e3:γb (λi:Int=>(g.length:Int)+i) (df i.toNat)++[(g.length:Int)+i]=γb (λi:Int=>(g.length:Int)+i) (df (i+1).toNat):=by
    rw[show(i+1).toNat=i.toNat+1 by omega,qQ,γa,show((i.toNat:Nat):Int)=i by omega];rfl
   have l6:(γb (λx:List bL×bL=>x.2) (Δ (i+1).toNat rs)).length=(i+1).toNat:=by rw[Φ,γy];omega
   have l7:(γb (λi:Int=>(g.length:Int)+i) (df (i+1).toNat)).length=(i+1).toNat:=by rw[Φ,iz]
   refine⟨i0,hi,by omega,by omega,by omega,l3.symm,by omega,by omega,l4.symm,by omega,by omega,by omega,l5.symm,by omega,by omega,by omega,⟨hcell ?_ ?_ rfl ?_ rfl,hrM e1,hrF e2,lI e3⟩,by omega,by omega⟩;·omega
   ·exact(congrArg γc e2).trans l6
   ·exact(congrArg γc e3).trans l7
  ·have e:i.toNat=rs.length:=by omega
   rw[e,φ];exact⟨γE.symm,rfl,rfl,rfl,rfl,rfl⟩
def r400:dH:=uG 158 Unit .nil (λ_ m t _=>ko m.toNat t) (λ_ _ _ _=> .bI [.sc (.slice none 0 0),.sb true]) (λ_ _ t _=>t)
def ael (n m:Int) (t:Tb):Nat->cG
 |3=> .inv Int (λi=>⟨[(0,.ptr 0 0 10),(4,.si .i64 (-1)),(12,.ow 2 t.bound.length 3),(13,.si .i64 t.bound.length),(14,.si .i64 i)],(bH n m t).gQ⟩)
   (λs=>iS s 14) (λi=>0<=i/\i<=m) (λi=>(m - i).toNat) λ_ _=> .look
 |_=> .look
theorem h400:ef Tryz.prog r400:=by
 refine lz (L:=[sX]) (W:=[]) r400 (λa=>ael a.1.n a.1.m a.1.t) (by simp) (by simpa using h99) ?_;rintro⟨x,u⟩ ⟨n,m,t,hx,hok,hd⟩;simp only at hx hd;subst hx;refine bQ (let a:=γd .i64;let b:=bq.row;let c:=(0:Int);let d:=γZ;let e:=Ω;let f:=(-1:Int);let w:=γQ 0 0 10;let A:=a f;let E:=d 2 (bH n m t).k1 3;let k:=(bH n m t).t.bound.length;let B:=d 2 k 3;let C:=a (↑k:Int);let j:=(bH n m t).m;let y:=bp.i .u32;let g:=bH (bH n m t).n j (bH n m t).t;let l:=bq.cells [a g.n,a g.m,d 1 g.k0 1,d 2 g.k1 3,e sF g.cost,γA g.v.fst,e y g.v.snd.fst,e y g.v.snd.snd,d 3 g.k3 1,d 4 g.k4 1] 261 10 false;let o:=b sF.bB g.cq 106 false;let p:=b sF g.bound 177 false;let z:=bp.i .i64;let q:=b z g.basic 3 false;let r:=b z g.free 3 false;let h:=g.bound.length;let F:=SV.sc (Value.slice none 0 0);(((w.same w/\(γB .i64 f).same A/\E.same B/\(a (↑(bH n m t).k1:Int)).same C/\(γB .i64 0).same (a 0)/\True)/\(bq.cells [a (bH n m t).n,a j,d 1 (bH n m t).k0 1,E,e sF (bH n m t).cost,γA (bH n m t).v.fst,e y (bH n m t).v.snd.fst,e y (bH n m t).v.snd.snd,d 3 (bH n m t).k3 1,d 4 (bH n m t).k4 1] 261 10 false).same l/\(b sF.bB (bH n m t).cq 106 false).same o/\(b sF (bH n m t).bound 177 false).same p/\(b z (bH n m t).basic 3 false).same q/\(b z (bH n m t).free 3 false).same r/\True)/\c<=c/\c<=j)/\∀(x:Int),let D:=bj g.bound x.toNat sF.dflt;let G:=(D.fst,D.snd.fst,D.snd.snd);let s:=x+(1:Int);let H:=a s;let I:=decide (x<(↑k:Int));let J:=λ(u:Bool) ↦decide (jL (bV G)<c)=u;let K:=λ(u:SV) ↦cu .i64 s/\((w.same w/\u.same A/\B.same B/\C.same C/\H.same H/\True)/\l.same l/\o.same o/\p.same p/\q.same q/\r.same r/\True)/\(c<=s/\s<=j)/\(j - s).toNat<(j - x).toNat;c<=x/\x<=j->(I=true->k=h/\c<=x/\x<(↑h:Int)/\k=h/\x.toNat<h/\cE G/\(J true->(true=true->K (a x))/\(true=false->g.k1=h/\c<=f/\f<(↑h:Int)/\g.k1=h/\0<h/\False))/\(J false->K A))/\(I=false->(true=true->(SV.bI [F,δh true]).same (SV.bI [F,γA true])/\l.same l/\o.same o/\p.same p/\q.same q/\r.same r/\True)/\(true=false->False))) (by kernel_rfl) ?_;simp only[sZ];try simp only[bH]
 simp only[vcs];obtain⟨⟨⟨n0,n1⟩,m0,m1⟩,hw,hz⟩:=id hok;have hbl:=hw.bound;have Jt:=@fF t.bound;refine⟨⟨by omega,by omega⟩,?_⟩;rintro i ⟨i0,i1⟩;refine⟨λhi=>?_,λhi=>⟨λ_=>trivial,λh=>by cases h⟩⟩;have hB:bj (fL t.bound) i.toNat sF.dflt=bu (t.bd i.toNat):=jw (by omega);have hpos:=hd i.toNat (by omega);have hneg:¬jL (t.bd i.toNat)<0:=λh=>by have:=A1.1 h;grind
 simp only[hB,jM,eD];exact⟨by omega,i0,by omega,by omega,by omega,dN (hok.bd (by omega)) (by omega),λh=>absurd h hneg,λ_=>⟨by omega,by omega,by omega⟩⟩
def Kq:dH:=uG 159 (List bL) (.one (dG sF)) (λn m t a=>∃g:List Rat,a=fL g/\g.length=n.toNat/\t.free=df n.toNat/\∀v∈t.basic,n<=v) (λ_ _ _ _=> .bI []) (λ_ _ t a=>{t with cost:=vL a,value:=0})
def aem (n m:Int) (t:Tb) (a:List bL):Nat->cG
 |3=> .inv Int (λj=>⟨[(0,.ptr 0 0 10),(1,.row sF a),(4,.ow 5 n.toNat 3),(24,.ow 4 t.free.length 1),(25,.si .i64 t.free.length),(26,.si .i64 j)],(bH n m {t with value:=0}).gQ++[.row sF (eX a j.toNat (false,([],[]))) 177 true]⟩)
   (λs=>iS s 26) (λi=>0<=i/\i<=n) (λi=>(n - i).toNat) λ_ _=> .look
 |10=> .inv Int (λi=>⟨[(0,.ptr 0 0 10),(1,.row sF a),(4,.ow 5 n.toNat 3),(52,.ow 3 t.basic.length 1),(53,.si .i64 t.basic.length),(54,.si .i64 i)],(bH n m {t with value:=0}).gQ++[.row sF a 177 true]⟩)
   (λs=>iS s 54) (λi=>0<=i/\i<=m) (λi=>(m - i).toNat) λ_ _=> .look
 |_=> .look
theorem h401:ef Tryz.prog Kq:=by
 refine lz (L:=[oz]) (W:=[]) Kq (λa=>aem a.1.n a.1.m a.1.t a.2) (by simp) (by simpa using h94) ?_;rintro⟨x,a⟩ ⟨n,m,t,hx,hok,g,ha,hgl,hfr,hbs⟩;simp only at hx ha;subst hx ha;refine bQ (let a:=(0:Int);let c:=γd .i64;let d:=bq.row;let e:=γZ;let f:=(-9223372036854775808:Int);let h:=Ω;let j:=(9223372036854775807:Int);let k:=bq.cells;let l:=γB .i64 0;let w:=(↑(bH n m t).k4:Int);let y:=γQ 0 0 10;let s:=h sF (fL g);let p:=(bH n m t).n;let F:=e 5 p.toNat 3;let a0:=e 4 (bH n m t).k4 1;let r:=(bH n m t).t;let N:=r.free.length;let U:=e 4 N 1;let V:=c (↑N:Int);let z:=(bH n m t).m;let H:=bu (κ a);let A:=bp.i .u32;let o:=bH p z (Tb.mk r.cq r.bound r.cost (0:Rat) r.basic r.free);let a1:=c o.n;let a2:=c o.m;let a3:=e 1 o.k0 1;let a4:=e 2 o.k1 3;let a5:=e 3 o.k3 1;let a6:=[γA o.v.fst,h A o.v.snd.fst,h A o.v.snd.snd,a5,e 4 o.k4 1];let G:=k (a1::a2::a3::a4::h sF o.cost::a6) 261 10 false;let B:=d sF.bB o.cq 106 false;let C:=d sF o.bound 177 false;let I:=bp.i .i64;let J:=o.basic;let D:=d I J 3 false;let E:=d I o.free 3 false;let R:=(false,[],[]);let S:=o.free.length;let z29:Nat:=(fL g).length;let O:=r.basic.length;let W:=e 3 O 1;let X:=c (↑O:Int);let Y:=d sF (fL g) 177 true;let q:=bH p z (Tb.mk r.cq r.bound (vL (fL g)) (0:Rat) r.basic r.free);(f<=a/\a<=j)/\a<=w/\w<=w/\w*(56:Int)<=(140737488355328:Int)/\w<=(1000000000000:Int)/\(((y.same y/\s.same s/\(e 5 w.toNat 3).same F/\a0.same U/\(c w).same V/\(l).same (c 0)/\True)/\(k [c p,c z,e 1 (bH n m t).k0 1,e 2 (bH n m t).k1 3,h sF (bH n m t).cost,γA H.fst,h A H.snd.fst,h A H.snd.snd,e 3 (bH n m t).k3 1,a0] 261 10 false).same G/\(d sF.bB (bH n m t).cq 106 false).same B/\(d sF (bH n m t).bound 177 false).same C/\(d I (bH n m t).basic 3 false).same D/\(d I (bH n m t).free 3 false).same E/\(d (bp.b.pair (A.bB.pair A.bB)) (δ w.toNat R) 177 true).same (d sF (eX (fL g) 0 R) 177 true)/\True)/\a<=a/\a<=p)/\∀(x:Int),let K:=x+(1:Int);let a7:=c K;let a8:=decide (x<(↑N:Int));let L:=eX (fL g) x.toNat R;let P:=bj o.free x.toNat a;let a9:=decide (P<o.n);let M:=L.set x.toNat (H.fst,H.snd.fst,H.snd.snd);let Z:=bj (fL g) P.toNat sF.dflt;let aa:=λ(u:List (Bool×List Int×List Int)) ↦cu .i64 K/\((y.same y/\s.same s/\F.same F/\U.same U/\V.same V/\a7.same a7/\True)/\G.same G/\B.same B/\C.same C/\D.same D/\E.same E/\(d sF u 177 true).same (d sF (eX (fL g) K.toNat R) 177 true)/\True)/\(a<=K/\K<=p)/\(p - K).toNat<(p - x).toNat;a<=x/\x<=p->(a8=true->N=S/\a<=x/\x<(↑S:Int)/\N=S/\x.toNat<S/\(f<=a/\a<=j)/\p.toNat=L.length/\a<=x/\x<(↑L.length:Int)/\p.toNat=L.length/\x.toNat<L.length/\(a9=true->a<=P/\P<(↑z29:Int)/\P.toNat<z29/\p.toNat=M.length/\a<=x/\x<(↑M.length:Int)/\p.toNat=M.length/\x.toNat<M.length/\aa (M.set x.toNat (Z.fst,Z.snd.fst,Z.snd.snd)))/\(a9=false->aa M))/\(a8=false->(((y.same y/\s.same s/\F.same F/\a5.same W/\(c (↑o.k3:Int)).same X/\(l).same (c 0)/\True)/\G.same G/\B.same B/\C.same C/\D.same D/\E.same E/\(d sF L 177 true).same Y/\True)/\a<=a/\a<=z)/\∀(x:Int),let ab:=decide (x<(↑O:Int));let T:=bj J x.toNat a;let ac:=decide (o.n<=T);let Q:=x+(1:Int);let ad:=c Q;a<=x/\x<=z->(ab=true->O=J.length/\a<=x/\x<(↑J.length:Int)/\O=J.length/\x.toNat<J.length/\(ac=true->cu .i64 Q/\((y.same y/\s.same s/\F.same F/\W.same W/\X.same X/\ad.same ad/\True)/\G.same G/\B.same B/\C.same C/\D.same D/\E.same E/\Y.same Y/\True)/\(a<=Q/\Q<=z)/\(z - Q).toNat<(z - x).toNat)/\(ac=false->a<=T/\T<(↑z29:Int)/\T.toNat<z29/\False))/\(ab=false->p.toNat=z29/\(SV.bI []).same (SV.bI [])/\(k (a1::a2::a3::a4::s::a6) 261 10 false).same (k [c q.n,c q.m,e 1 q.k0 1,e 2 q.k1 3,h sF q.cost,γA q.v.fst,h A q.v.snd.fst,h A q.v.snd.snd,e 3 q.k3 1,e 4 q.k4 1] 261 10 false)/\B.same (d sF.bB q.cq 106 false)/\C.same (d sF q.bound 177 false)/\D.same (d I q.basic 3 false)/\E.same (d I q.free 3 false)/\True))) (by kernel_rfl) ?_;simp only[sZ];try simp only[bH]
 simp only[vcs];obtain⟨⟨⟨n0,n1⟩,m0,m1⟩,hw,hz⟩:=id hok;have hbb:=hw.basic;have hfl:=hw.free;have hfg:=@fF g;have h0:(κ 0:Rat)=0:=rfl;have hrow:∀{x y:List bL},x=y->(bq.row sF x 177 true).same (bq.row sF y 177 true):=by rintro _ _ rfl;rfl
 simp only[h0,jM];refine⟨by omega,by omega,by omega,by omega,by omega,⟨⟨?_,?_,?_⟩,by omega,by omega⟩,?_⟩;·rw[hfl];rfl
 ·rfl
 ·exact hrow (by rw[yF,hfg,hgl,hfl];rfl)
 rintro j ⟨j0,j1⟩;have oZ:=@yE (fL g) j.toNat (false,([],[])) (by omega);refine⟨λhj=>?_,λhj=>?_⟩
 ·have hv:bj t.free j.toNat 0=j:=by rw[hfr,J5 (by omega)];omega
  rw[hv];have hset:((eX (fL g) j.toNat (false,([],[]))).set j.toNat (bu 0)).set j.toNat (bj (fL g) j.toNat sF.dflt)=eX (fL g) (j+1).toNat (false,([],[])):=by
   have e:=yH (d:=fL g) (j:=j.toNat) (z:=(false,([],[]))) (x:=bj (fL g) j.toNat sF.dflt) (by omega) rfl;rw[List.set_set,show(j+1).toNat=j.toNat+1 by omega];exact e
  rw[Ψ];exact⟨j0,by omega,by omega,by omega,by omega,j0,by omega,by omega,by omega,λ_=>⟨j0,by omega,by omega,by omega,j0,by omega,by omega,by omega,by omega,hrow hset,by omega,by omega⟩,λh=>(h (by omega)).elim⟩
 ·have e:j.toNat=(fL g).length:=by omega
  rw[e,yG];refine⟨⟨hrow rfl,by omega,by omega⟩,?_⟩;rintro i ⟨i0,i1⟩;refine⟨λhi=>⟨i0,hi,by omega,λ_=>⟨by omega,by omega,by omega⟩,λh=>absurd (hbs _ (dn (by omega))) h⟩,λhi=>⟨by omega,?_⟩⟩;rw[kM];rfl
abbrev Lp:=List Rat×List (List Rat×Rat)
def iK (a:Lp):s9:=(fL a.1,a.2.map λr=>(fL r.1,bu r.2))
def lj (a:Lp):Tb:=⟨a.2.map (·.1),a.2.map (·.2),a.1,0,(df a.2.length).map λi=>a.1.length+i,df a.1.length⟩
def rO (a:Lp):Tb:={lj a with cost:=δ a.1.length 0}
theorem aen {a:Lp}:Bl (iK a)=bH a.1.length a.2.length (rO a):=by
 unfold Bl iK bH rO lj;simp_all[iz,fM,fL]
structure Bm (a:Lp):Prop where
 n:a.1.length<=160
 m:a.2.length<=40
 small:∃M G,Small a.1.length a.2.length M G (lj a)
 yp:ko a.2.length (lj a)
 bnd:∃B,∀x z,(lj a).holds a.1.length a.2.length x z->(∀v∈(lj a).basic++(lj a).free,0<=x v)->z<=B
noncomputable def nO (a:Lp):Tb:=lastT a.1.length a.2.length (lj a)
theorem aeo {a:Lp} (h:Bm a):okO a.1.length a.2.length (lj a):=by
 obtain⟨M,G,b⟩:=h.small;exact⟨lj a,M,G,b,Run.refl b.wf b.nd,h.yp⟩
theorem aep {a:Lp} (h:Bm a):Run a.1.length a.2.length (lj a) (nO a)/\ko a.2.length (nO a)/\eE (nO a) a.1.length<0:=by
 obtain⟨M,G,c⟩:=h.small;obtain⟨B,d⟩:=h.bnd;have b:=Run.refl c.wf c.nd;have:=J3 b h.yp;exact⟨this.1,this.2.1,TG b h.yp d⟩
noncomputable def Kr:bM:=⟨133,s9,.one yJ,λx=>∃a:Lp,x=iK a/\Bm a,λx=>
 let a:Lp:=(vL x.1,x.2.map λr=>(vL r.1,bV r.2));.bI [.agg [.si .i64 1,.sb (bu (nO a).value).1,.row (.i .u32) (bu (nO a).value).2.1,.row (.i .u32) (bu (nO a).value).2.2,.row sF (fL (gq (nO a) a.1.length a.2.length)),.row sF (fL (jy (nO a) a.1.length a.2.length a.1.length)),.row sF []],.si .i64 0]⟩
theorem aer {a:Lp}:((vL (iK a).1,(iK a).2.map λr=>(vL r.1,bV r.2)):Lp)=a:=by
 obtain⟨g,b⟩:=a;unfold iK;simp only[kM,γO];congr 1;conv=>rhs;rw[<-List.map_id b]
 refine List.map_congr_left λr _=>?_;grind[kM,eD]
theorem aes {a:Lp}:((iK a).1,(iK a).2)=iK a:=rfl
theorem T8 {a:Lp}:vL (iK a).1=a.1:=kM _
theorem T9 {a:Lp}:(iK a).2.map (λr=>(vL r.1,bV r.2))=a.2:=congrArg Prod.snd (@aer a)
theorem aeu {a:Lp}:({cq:=(rO a).cq,bound:=(rO a).bound,cost:=a.1,value:=0,basic:=(rO a).basic,free:=(rO a).free}:Tb)=lj a:=rfl
theorem aev {a:Lp}:(iK a).1.length=a.1.length:=fF
theorem aew {a:Lp}:(iK a).2.length=a.2.length:=Φ _
theorem Ua {q:Rat} (h:Sz 1000000 q):iZ (bu q)/\okF (bu q)=true:=by
 obtain⟨g,⟨a,_,c⟩,⟨b,_,e⟩⟩:=l9 q;obtain⟨d,f⟩:=pq h;refine⟨⟨⟨a,b⟩,by omega,by omega⟩,?_⟩;grind[okF,eD]
theorem aex {o:Store} {d:Nat} {acc:List Nat} {l:List bL}:cY o d (γb (λx:bL=>dP bp.b x.1++dP ((bp.i .u32).bB.pair (bp.i .u32).bB) x.2) l).flatten acc=acc:=Ae λa c=>np (s:=sF) (l:=l) c
theorem aey {o:Store} {d:Nat} {acc:List Nat} {l:List (List bL)}:cY o d (γb (λx:List bL=>[ζ1 (γc x) (ζ4 (dP sF) x)]) l).flatten acc=acc:=Ae λa b=>np (s:=sF.bB) (l:=l) b
theorem aez {o:Store} {d:Nat} {acc:List Nat} {l:List Int}:cY o d (γb (λx:Int=>γb δe (dy (bp.i .i64) x)) l).flatten acc=acc:=Ae λa b=>np (s:=bp.i .i64) (l:=l) b
theorem h395:Holds Tryz.prog Kr:=by
 refine aae (L:=[Ko]) (W:=gP [Kp,r400,Kq,J8,EM,EN]) Kr (λf=>Nat.beq f EM.f||Nat.beq f EN.f) lk (kY (by simpa using⟨h399,h400,h401,h402,h403,h405⟩)) (by simpa using h398) ?_;rintro x ⟨a,hx,hok⟩;subst hx;refine bQ (let c:=Ω;let d:=bq.row;let e:=γd .i64;let f:=γZ;let h:=bq.cells;let j:=γB .i64;let k:=(0:Int);let l:=γA;let o:=δh false;let p:=SV.agg;let q:=SV.bI;let B:=(iK a).fst;let C:=(iK a).snd;let J:=h [c sF B,c sR C] 217 2 false;let Q:=j 0;let a1:=Value.slice none 0 0;let G:=SV.sc a1;let K:=h [Q,o,G,G,G,G,G] 221 7 false;let L:=Bl (B,C);let D:=bH L.n L.m L.t;let E:=bH D.n D.m (Tb.mk D.t.cq D.t.bound (vL B) (0:Rat) D.t.basic D.t.free);let a2:=lastT E.n.toNat E.m.toNat E.t;let s:=bH E.n E.m a2;let y:=bp.i .u32;let M:=s.v.snd.fst;let N:=s.v.snd.snd;let w:=bH s.n s.m s.t;let R:=w.v.snd.fst;let S:=w.v.snd.snd;let a3:=h [e w.n,e w.m,f 3 w.k0 1,f 4 w.k1 3,c sF w.cost,l w.v.fst,c y R,c y S,f 5 w.k3 1,f 6 w.k4 1] 261 10 false;let a4:=d sF.bB w.cq 106 false;let a5:=d sF w.bound 177 false;let z:=bp.i .i64;let a6:=d z w.basic 3 false;let a7:=d z w.free 3 false;let F:=c z [];let U:=γb (λ(r:List bL×bL) ↦(vL r.fst,bV r.snd)) C;let H:=nO (vL B,U);let z31:Nat:=(vL B).length;let a8:=e 0;let a9:=q [p [e 1,l (bu H.value).fst,c y (bu H.value).snd.fst,c y (bu H.value).snd.snd,c sF (fL (gq H z31 U.length)),c sF (fL (jy H z31 U.length z31)),c sF []],a8];let A:=bH w.n w.m w.t;let aa:=bR.cells [ζ1 B.length (γb (λ(x:sF.T) ↦dP bp.b x.fst++dP (y.bB.pair y.bB) x.snd) B).flatten,ζ1 C.length (γb (λ(x:sR.T) ↦dP sF.bB x.fst++dP sF x.snd) C).flatten] 217 2 false;let I:=δe a1;let ab:=bR.cells [δe (Value.int .i64 k),δe (Value.bool false),I,I,I,I,I] 221 7 false;let ac:=(γb (λ(x:sF.bB.T) ↦[ζ1 (γc x) (ζ4 (dP sF) x)]) s.cq).flatten;let ad:=(γb (λ(x:sF.T) ↦dP bp.b x.fst++dP (y.bB.pair y.bB) x.snd) s.bound).flatten;let ae:=(γb (λ(x:z.T) ↦γb δe (dy z x)) s.basic).flatten;let af:=(γb (λ(x:z.T) ↦γb δe (dy z x)) s.free).flatten;let O:=[aa,ab,bR.cells [δe (Value.int .i64 s.n),δe (Value.int .i64 s.m),θc 3 0 s.k0 (s.k0*1),θc 4 0 s.k1 (s.k1*3),ζ1 s.cost.length (γb (λ(x:sF.T) ↦dP bp.b x.fst++dP (y.bB.pair y.bB) x.snd) s.cost).flatten,δe (Value.bool s.v.fst),ζ1 M.length (γb (λ(x:y.T) ↦γb δe (dy y x)) M).flatten,ζ1 N.length (γb (λ(x:y.T) ↦γb δe (dy y x)) N).flatten,θc 5 0 s.k3 (s.k3*1),θc 6 0 s.k4 (s.k4*1)] 261 10 false,bR.cells ac 106 1 false,bR.cells ad 177 3 false,bR.cells ae 3 1 false,bR.cells af 3 1 false];let ag:=[2,3];let V:=cY O (nat_lit 396) ac ag;let W:=if ζN 4 V=true then V else cY O (nat_lit 395) ad (V++[4]);let X:=if ζN 5 W=true then W else cY O (nat_lit 390) ae (W++[5]);let ah:=(γb (λ(x:sF.bB.T) ↦[ζ1 (γc x) (ζ4 (dP sF) x)]) w.cq).flatten;let ai:=(γb (λ(x:sF.T) ↦dP bp.b x.fst++dP (y.bB.pair y.bB) x.snd) w.bound).flatten;let aj:=(γb (λ(x:z.T) ↦γb δe (dy z x)) w.basic).flatten;let ak:=(γb (λ(x:z.T) ↦γb δe (dy z x)) w.free).flatten;let P:=[aa,ab,bR.cells [δe (Value.int .i64 w.n),δe (Value.int .i64 w.m),θc 3 0 w.k0 (w.k0*1),θc 4 0 w.k1 (w.k1*3),ζ1 w.cost.length (γb (λ(x:sF.T) ↦dP bp.b x.fst++dP (y.bB.pair y.bB) x.snd) w.cost).flatten,δe (Value.bool w.v.fst),ζ1 R.length (γb (λ(x:y.T) ↦γb δe (dy y x)) R).flatten,ζ1 S.length (γb (λ(x:y.T) ↦γb δe (dy y x)) S).flatten,θc 5 0 w.k3 (w.k3*1),θc 6 0 w.k4 (w.k4*1)] 261 10 false,bR.cells ah 106 1 false,bR.cells ai 177 3 false,bR.cells aj 3 1 false,bR.cells ak 3 1 false];let Y:=cY P (nat_lit 396) ah ag;let Z:=if ζN 4 Y=true then Y else cY P (nat_lit 395) ai (Y++[4]);let a0:=if ζN 5 Z=true then Z else cY P (nat_lit 390) aj (Z++[5]);let al:=J.same J/\K.same K/\(h [e s.n,e s.m,f 3 s.k0 1,f 4 s.k1 3,c sF s.cost,l s.v.fst,c y M,c y N,f 5 s.k3 1,f 6 s.k4 1] 261 10 false).same a3/\(d sF.bB s.cq 106 false).same a4/\(d sF s.bound 177 false).same a5/\(d z s.basic 3 false).same a6/\(d z s.free 3 false).same a7/\True;let am:=∃(n:Int),∃(m:Int),∃(t:Tb),s=bH n m t/\kN n m t/\∀(v:Int),v∈t.basic->k<=v;let an:=λ(u:Bool) ↦(!decide (eE a2 E.n.toNat<k))=u;let ao:=λ(u:Int) (u_1:SV) ↦false=true->(q [p [j u,o,F,F,F,F,F],u_1]).same a9;((B.length<=160/\C.length<=40)/\(∀(x:bL),x∈B->iZ x/\okF x=true)/\∀(r:List bL×bL),r∈C->r.fst.length=B.length/\(∀(x:bL),x∈r.fst->iZ x/\okF x=true)/\iZ r.snd/\okF r.snd=true)/\ao k a8/\(false=false->(B.length<=1000/\C.length<=1000/\∀(r:List bL×bL),r∈C->r.fst.length<=1000)/\(∃(n:Int),∃(m:Int),∃(t:Tb),L=bH n m t/\kN n m t/\ko m.toNat t)/\ao (2:Int) Q/\(false=false->(∃(n:Int),∃(m:Int),∃(t:Tb),D=bH n m t/\kN n m t/\∃(g:List Rat),B=fL g/\g.length=n.toNat/\t.free=df n.toNat/\∀(v:Int),v∈t.basic->n<=v)/\(∃(n:Int),∃(m:Int),∃(t:Tb),E=bH n m t/\kN n m t/\okO n.toNat m.toNat t)/\(an true->am/\al/\False)/\(an false->am/\al/\(∃(n:Int),∃(m:Int),∃(t:Tb),w=bH n m t/\kN n m t/\True)/\(J.same J/\K.same K/\a3.same (h [e A.n,e A.m,f 3 A.k0 1,f 4 A.k1 3,c sF A.cost,l A.v.fst,c y A.v.snd.fst,c y A.v.snd.snd,f 5 A.k3 1,f 6 A.k4 1] 261 10 false)/\a4.same (d sF.bB A.cq 106 false)/\a5.same (d sF A.bound 177 false)/\a6.same (d z A.basic 3 false)/\a7.same (d z A.free 3 false)/\True)/\if(((if ζN 6 X=true then X else cY O (nat_lit 389) af (X++[6])).all λ(i:Nat) ↦decide (i<7))&&(((if ζN 6 a0=true then a0 else cY P (nat_lit 389) ak (a0++[6])).all λ(i:Nat) ↦decide (i<7))&&true))=true then(q [p [j 1,l s.v.fst,c y M,c y N,c sF (fL (gq s.t s.n.toNat s.m.toNat)),c sF (fL (jy w.t w.n.toNat w.m.toNat w.n.toNat)),F],Q]).same a9 else False)))) (by kernel_rfl) ?_;simp only[aes,aen,sZ,SC,SD,T8,T9,aeu,aev,aew,γn];try simp only[vcs]
 obtain⟨M,G,hs⟩:=hok.small;obtain⟨r1,r2,r3⟩:=aep hok;have hw:=hs.wf;have hz:=hs.wu (Run.refl hs.wf hs.nd);have hn:=hok.n;have hm:=hok.m;have hO:=aeo hok;have k1:kN a.1.length a.2.length (lj a):=⟨⟨by omega,by omega⟩,by simpa using hw,hz⟩;have k0:kN a.1.length a.2.length (rO a):=by
  refine⟨⟨by omega,by omega⟩,⟨hw.cq,hw.row,hw.bound,by simp[rO],hw.basic,hw.free⟩,hz.1,hz.2.1,λq hq=>?_,hz.2.2.2⟩;rw[(List.mem_replicate.1 hq).2];exact hz.2.2.2
 have k2:kN a.1.length a.2.length (nO a):=TA hs (by simpa using r1) (by omega) (by omega);have hl:lastT a.1.length a.2.length (lj a)=nO a:=rfl;have Ks:((a.1,a.2):Lp)=a:=rfl;simp only[hl,Ks,aex,aey,aez];have mem2:∀i,i<a.2.length->bj a.2 i ([],0)∈a.2:=λi hi=>dn hi;have hrow:∀r∈a.2,r.1.length=a.1.length/\(∀q∈r.1,Sz 1000000 q)/\Sz 1000000 r.2:=λr hr=>by
  obtain⟨i,hi,rfl⟩:=γH hr;have h1:=hw.row i hi;have e:bj (lj a).cq i []=a.2[i].1:=by
   show bj (a.2.map (·.1)) i []=_;rw[cT (by rw[Φ];exact hi),List.getElem_map]
  rw[e] at h1;refine⟨h1,hz.1 _ (Θ.2 ⟨a.2[i],hr,rfl⟩),hz.2.1 _ (Θ.2 ⟨a.2[i],hr,rfl⟩)⟩
 have hg:∀q∈a.1,Sz 1000000 q:=hz.2.2.1;have hF:∀{l:List Rat},(∀q∈l,Sz 1000000 q)->∀x∈fL l,iZ x/\okF x=true:=λh x hx=>by
  obtain⟨q,hq,rfl⟩:=Θ.1 hx;exact Ua (h q hq)
 have hdg:(∀x∈(iK a).1,iZ x/\okF x=true)/\∀r∈(iK a).2,r.1.length=a.1.length/\(∀x∈r.1,iZ x/\okF x=true)/\iZ r.2/\okF r.2=true:=by
  refine⟨hF hg,λr hr=>?_⟩;obtain⟨r0,hr0,rfl⟩:=Θ.1 hr;obtain⟨h1,h2,h3⟩:=hrow r0 hr0;exact⟨by rw[<-h1];exact fF,hF h2,Ua h3⟩
 have hb0:∀v∈(nO a).basic,0<=v:=λv hv=>by
  have:=r1.perm.mem_iff.1 (εn _ hv);simp only[lj,γm,Θ,iV] at this;rcases this with⟨i,hi,rfl⟩|h;·omega
  ·exact h.1
 have hbn:∀v∈(rO a).basic,(a.1.length:Int)<=v:=λv hv=>by
  simp only[rO,lj,Θ,iV] at hv;obtain⟨i,hi,rfl⟩:=hv;omega
 refine⟨⟨⟨hn,hm⟩,hdg.1,hdg.2⟩,λh=>(by cases h),λ_=>⟨⟨by omega,by omega,λr hr=>by have:=(hdg.2 r hr).1;omega⟩,⟨_,_,_,rfl,k0,by rw[γn];exact hok.yp⟩,λh=>(by cases h),λ_=>⟨⟨_,_,_,rfl,k0,a.1,rfl,by simp,rfl,hbn⟩,⟨_,_,_,rfl,k1,by simpa using hO⟩,λh=>absurd r3 h,λ_=>⟨⟨_,_,_,rfl,k2,hb0⟩,⟨_,_,_,rfl,k2⟩,?_⟩⟩⟩⟩;rw[if_pos (by decide)];rfl
theorem Bn {f:List Int} {d:Int} {i:Int} (h:0<=i) (c:i<f.length):bE (f.take (i+1).toNat) d=bE (f.take i.toNat) d++if bj f i.toNat 0=d then[i] else[]:=by
 have a:(f.take (i+1).toNat).length=i.toNat+1:=by grind
 have b:(f.take i.toNat).length=i.toNat:=by grind
 unfold bE;rw[a,b,qQ,List.filter_append];have e:∀{k:Nat} {m:Nat},k<m->m<=f.length->bj (f.take m) k 0=bj f k 0:=λ{k m} c j=>by
  grind[cT]
 congr 1
 ·refine List.filter_congr λx g=>?_;grind[iV]
 grind
def jN (f:List Int):Bool:=f.all λx=>decide (-1<=x)&&decide (x<=1)
def jf (p:bn) (f:List Int):Int:=if bz p≠0 then bz p else if f.length≠p.offers.length then 3 else if jN f=true then 0 else 4
def EO:bM:=⟨131,bn×List Int,.cons dO (.one (dG (.i .i64))),λa=>a.2.length<=1000000000000,λa=> .si .i64 (jf a.1 a.2)⟩
def aeA (p:bn) (f:List Int):Nat->cG
 |7=> .inv Int (λi=>⟨[(19,.row (.i .i64) f),(20,.si .i64 f.length),(21,.si .i64 i)],[.cells p.ss 27 20 false]⟩)
   (λs=>iS s 21) (λi=>(0<=i/\i<=f.length)/\jN (f.take i.toNat)=true) (λi=>(f.length - i).toNat) λ_ _=> .look
 |_=> .look
theorem h393:Holds Tryz.prog EO:=by
 refine cH (L:=[pe]) EO (λa=>aeA a.1 a.2) (by grind[h79]) ?_;rintro⟨p,f⟩ (D:f.length<=1000000000000);refine bQ (let a:=γd .i64;let d:=(0:Int);let g:=γB .i64;let v:=decide (bz p≠d);let e:=a (jf p f);let q:=(↑f.length:Int);let r:=decide (q≠(↑p.offers.length:Int));let n:=Ω (bp.i .i64) f;let c:=(↑f.length:Int);let o:=a c;let w:=g 0;let m:=bq.cells (bn.ss p) 27 20 false;True/\(v=true->(a (bz p)).same e)/\(v=false->(r=true->(g 3).same e)/\(r=false->(((n.same n/\(a q).same o/\w.same (a 0)/\True)/\m.same m/\True)/\(d<=d/\d<=c)/\jN []=true)/\∀(x:Int),let s:=bj f x.toNat d;let l:=decide (s<(-1:Int));let j:=decide ((1:Int)<s);let b:=x+(1:Int);let k:=a b;(d<=x/\x<=c)/\jN (Δ x.toNat f)=true->(decide (x<c)=true->d<=x/\x<q/\x.toNat<f.length/\(l=true->(g 4).same e)/\(l=false->(j=true->(g 4).same e)/\(j=false->cu .i64 b/\((n.same n/\o.same o/\k.same k/\True)/\m.same m/\True)/\((d<=b/\b<=c)/\jN (Δ b.toNat f)=true)/\(c - b).toNat<(c - x).toNat)))/\(decide (x<c)=false->w.same e)))) (by kernel_rfl) ?_;simp only[vcs];refine⟨λh=>by simp[jf,h],λh=>?_⟩;have F:bz p=0:=Classical.not_not.1 h;refine⟨λy=>by
  grind[jf],λy=>⟨⟨⟨by omega,by omega⟩,rfl⟩,?_⟩⟩;have u:f.length=p.offers.length:=by omega
 rintro i ⟨⟨A,G⟩,g⟩;refine⟨λt=>?_,λt=>?_⟩
 ·have B:=dn (d:=0) (show i.toNat<f.length by omega);have H:=jq (d:=0) A t;have z:¬(-1<=bj f i.toNat 0/\bj f i.toNat 0<=1)->(4:Int)=jf p f:=λE=>by
   have:jN f=false:=by
    rw[Bool.eq_false_iff];intro C;have:=τ.1 C _ B;grind
   grind[jf]
  grind[jN]
 ·rw[show i.toNat=f.length by omega,φ] at g;grind[jf]
def gC (p:bn) (f:List Int):Int:=cM ((bE f 1).map (oI p))
theorem Bo {p:bn} (c:bz p=0) {f:List Int} {k:Nat} (g:f.length=p.offers.length):0<=gC p (f.take k)/\gC p (f.take k)<=160000000:=by
 have a:=dQ c;have e:=@uO (f.take k) 1;have h:(f.take k).length<=f.length:=by grind
 have j:=@sQ p a ((bE (f.take k) 1).map (oI p)) λx b=>by
  obtain⟨i,d,rfl⟩:=Θ.1 b;have:=(kP.1 d).1;exact dn (by omega)
 have l:=a.2.1;grind[gC]
theorem Ub {p:bn} {f:List Int} {i:Int} (b:0<=i) (a:i<f.length):gC p (f.take (i+1).toNat)=gC p (f.take i.toNat)+if bj f i.toNat 0=1 then(oI p i).value else 0:=by
 unfold gC;rw[Bn b a,γa,pS];grind[cM]
def jO (p:bn) (f:List Int):Lp:=((cK p f).cost,(df (mF p)).map λr=>((bE f 0).map λi=>((dY p r (oI p i):Int):Rat),((dm p r - cZ p ((bE f 1).map (oI p)) r:Int):Rat)))
theorem EP {p:bn} {f:List Int}:lj (jO p f)=cK p f:=by
 simp_all[lj,jO,cK,df]
def mj (p:bn) (f:List Int) (j:Nat):List bL:=fL (((bE f 0).take j).map λi=>(((oI p i).value:Int):Rat))
def nP (p:bn) (f:List Int) (r:Int) (j:Nat):List bL:=fL (((bE f 0).take j).map λi=>((dY p r (oI p i):Int):Rat))
def nQ (p:bn) (f:List Int) (k:Nat):List (List bL×bL):=(df k).map λr=>(nP p f r (bE f 0).length,bu ((dm p r - cZ p ((bE f 1).map (oI p)) r:Int):Rat))
theorem Uc {p:bn} {f:List Int}:mj p f (bE f 0).length=(iK (jO p f)).1:=by
 unfold mj;rw[φ];rfl
theorem Ud {p:bn} {f:List Int}:nQ p f (mF p)=(iK (jO p f)).2:=by
 simp_all[nQ,iK,jO,nP]
theorem Kt {p:bn} {f:List Int} {j:Nat} (h:j<=(bE f 0).length):(mj p f j).length=j:=by
 grind[mj,fF]
theorem Ue {p:bn} {f:List Int} {r:Int} {j:Nat} (h:j<=(bE f 0).length):(nP p f r j).length=j:=by
 grind[nP,fF]
theorem Uf {p:bn} {f:List Int} {k:Nat}:(nQ p f k).length=k:=by
 grind[nQ,iz]
theorem Ug {l m:List Rat}:fL (l++m)=fL l++fL m:=γa
theorem aeB {p:bn} {f:List Int} {j:Int} (a:0<=j) (h:j<(bE f 0).length):mj p f (j+1).toNat=mj p f j.toNat++[bu (((oI p (bj (bE f 0) j.toNat 0)).value:Int):Rat)]:=by
 unfold mj;rw[jq (d:=0) a h,γa,Ug];rfl
theorem aeC {p:bn} {f:List Int} {r j:Int} (a:0<=j) (h:j<(bE f 0).length):nP p f r (j+1).toNat=nP p f r j.toNat++[bu ((dY p r (oI p (bj (bE f 0) j.toNat 0)):Int):Rat)]:=by
 unfold nP;rw[jq (d:=0) a h,γa,Ug];rfl
theorem aeD {p:bn} {f:List Int} {r:Int} (a:0<=r):nQ p f (r+1).toNat=nQ p f r.toNat++[(nP p f r (bE f 0).length,bu ((dm p r - cZ p ((bE f 1).map (oI p)) r:Int):Rat))]:=by
 unfold nQ;rw[show(r+1).toNat=r.toNat+1 by omega,qQ,γa,show((r.toNat:Nat):Int)=r by omega];rfl
def hJ (p:bn) (f:List Int):Bool:=fZ p ((bE f 1).map (oI p))
def mR (p:bn) (f:List Int):List bL×(List (List bL×bL)×List Int):=if hJ p f=true then((iK (jO p f)).1,((iK (jO p f)).2,bE f 0)) else([],([],[]))
theorem aeE {p:bn} {f:List Int} (h:eZ p f):Bm (jO p f):=by
 have a:=dQ h.1;have c:(jO p f).1.length=nF f:=by
  show((bE f 0).map _).length=_;simp_all
 have b:(jO p f).2.length=mF p:=by
  show((df (mF p)).map _).length=_;grind[iz]
 have g:=@uO f 0;have i:mF p=p.classes.length+12:=rfl;refine⟨?_,?_,?_,?_,?_⟩;·rw[c];have:=h.2.1;have:=a.2.1;grind
 ·rw[b];have:=a.1;omega
 ·grind[EP,EG]
 ·grind[EP,J7]
 ·rw[c,b,EP];exact⟨_,λx z d e=>TM h d e⟩
theorem aeF {p:bn} {f:List Int}:nO (jO p f)=dx p f:=by
 have b:(jO p f).1.length=nF f:=by
  show((bE f 0).map _).length=_;simp_all
 have a:(jO p f).2.length=mF p:=by
  show((df (mF p)).map _).length=_;grind[iz]
 grind[nO,dx,EP]
noncomputable def jZ (p:bn) (f:List Int) (k:Nat):List Rat:=(df f.length).map λi=>if bj f i.toNat 0=1 then 1 else if i∈(bE f 0).take k then bj (gq (dx p f) (nF f) (mF p)) ((bE f 0).idxOf i) 0 else 0
noncomputable def jg (p:bn) (f:List Int):Rat:=((gC p f:Int):Rat)+(dx p f).value
noncomputable def iD (p:bn) (f:List Int):List Rat:=jy (dx p f) (nF f) (mF p) (nF f)
theorem yK {p:bn} {f:List Int} {k:Nat}:(jZ p f k).length=f.length:=by
 grind[jZ,iz]
theorem ER {p:bn} {f:List Int} {k i:Nat} (h:i<f.length):bj (jZ p f k) i 0=if bj f i 0=1 then 1 else if(i:Int)∈(bE f 0).take k then bj (gq (dx p f) (nF f) (mF p)) ((bE f 0).idxOf (i:Int)) 0 else 0:=by
 unfold jZ;rw[J4 (e:=0) (by grind[iz]),J5 h,γn]
theorem aeG {l m:List Rat} (a:l.length=m.length) (h:∀i,i<m.length->bj l i 0=bj m i 0):l=m:=List.ext_getElem a λi b c=>by
 grind[cT]
theorem aeH {p:bn} {f:List Int} {k:Nat} (b:k<nF f):(jZ p f k).set (bj (bE f 0) k 0).toNat (bj (gq (dx p f) (nF f) (mF p)) k 0)=jZ p f (k+1):=by
 have g:=kP.1 (dn (d:=0) b);refine aeG (by grind[yK]) λi a=>?_;rw[yK] at a;have c:(bE f 0).idxOf (bj (bE f 0) k 0)=k:=pr (uN.imp λh=>by omega) b;have e:(bE f 0).take (k+1)=(bE f 0).take k++[bj (bE f 0) k 0]:=by simp_all[cT]
 rw[iU (by grind[yK]),ER a,ER a,e];grind
theorem aeI {p:bn} {f:List Int} {i:Nat} (h:i<f.length):bj (jZ p f 0) i 0=if bj f i 0=1 then 1 else 0:=by
 grind[ER]
def j3 (p:bn) (f:List Int):Bool:=decide (jf p f=0)&&hJ p f
noncomputable def ku (p:bn) (f:List Int):bL:=if j3 p f=true then bu (jg p f) else(false,([],[]))
noncomputable def qT (p:bn) (f:List Int):List bL:=if j3 p f=true then fL (iD p f) else[]
noncomputable def kx (p:bn) (f:List Int):List bL:=if j3 p f=true then fL (jZ p f (nF f)) else[]
noncomputable def aeJ (p:bn) (f:List Int):SV:=.agg [.sb (j3 p f),.sb (ku p f).1,.row (.i .u32) (ku p f).2.1,.row (.i .u32) (ku p f).2.2,.row sF (qT p f),.row sF (kx p f)]
theorem Ku:∀{l m:List Int},l.Pairwise (·<·)->m.Pairwise (·<·)->(∀x,x∈l↔x∈m)->l=m
 |[],[],_,_,_=>rfl
 |[],y::m,_,_,h=>by have:=(h y).2 (by simp);simp at this;|x::l,[],_,_,h=>by have:=(h x).1 (by simp);simp at this;|x::l,y::m,hl,hm,h=>by
  rw[γu] at hl hm;have e:x=y:=by
   rcases γr.1 ((h x).1 (by simp)) with h1|h1;·exact h1
   ·rcases γr.1 ((h y).2 (by simp)) with h2|h2;·exact h2.symm
    ·have:=hl.1 y h2;have:=hm.1 x h1;omega
  subst e;congr 1;refine Ku hl.2 hm.2 λz=>?_;constructor
  ·intro hz;rcases γr.1 ((h z).1 (γs _ hz)) with h1|h1;·have:=hl.1 z hz;omega
   ·exact h1
  ·intro hz;rcases γr.1 ((h z).2 (γs _ hz)) with h1|h1;·have:=hm.1 z hz;omega
   ·exact h1
theorem Kv {t:List Int} {g:Int->Int}:∀{l:List Int},((l.filter λx=>decide (x∈t)).map g).sum=(l.map λx=>if x∈t then g x else 0).sum
 |[]=>rfl
 |x::l=>by
  simp only[List.filter_cons,ξ,δ8];by_cases h:x∈t;·rw[if_pos (decide_eq_true h),if_pos h,ξ,δ8,Kv]
  ·rw[if_neg (by simpa using h),if_neg h,Kv];omega
theorem Kw {t:List Int} {g:Int->Int}:∀{l:List Int},me (λx=>((g x:Int):Rat)*(if x∈t then 1 else 0)) l=(((l.map λx=>if x∈t then g x else 0).sum:Int):Rat)
 |[]=>rfl
 |x::l=>by
  have:=@Kw t g l;simp only[me,this,ξ,δ8,Rat.intCast_add];congr 1;split<;>simp_all
theorem Kx {p:bn}:∀{l:List Int},cM (l.map (oI p))=(l.map λi=>(oI p i).value).sum
 |[]=>rfl
 |x::l=>by
  have:=@Kx p l;grind[cM]
section
variable {p:bn} {f t:List Int}
theorem Uh (k:jN f=true) (u:f.length=p.offers.length) (e:dS p.offers.length t) (j:∀i∈t,bj f i.toNat 0≠ -1) (r:∀i∈bE f 1,i∈t) (g:Int->Int):
  (t.map g).sum=((bE f 1).map g).sum+((bE f 0).map λx=>if x∈t then g x else 0).sum:=by
 have l:t.Perm (bE f 1++(bE f 0).filter λx=>decide (x∈t)):=by
  refine(γ7 (yz e) ?_).2 λx=>?_
  ·rw[γw];refine⟨uN.imp λh=>by omega,(uN.sublist γt).imp λh=>by omega,λa s b o m=>?_⟩;grind[kP]
  ·rw[γm,List.mem_filter,decide_eq_true_eq];constructor
   ·intro c;have v:=e.2 x c;have q:=j x c;have n:=τ.1 k _ (dn (d:=0) (show x.toNat<f.length by omega));simp only[θ,decide_eq_true_eq] at n;grind[kP]
   grind
 rw[Tm (l.map g),γa,ζO,Kv]
theorem wH (l:List Int) (r:Int):cZ p (l.map (oI p)) r=(l.map λi=>dY p r (oI p i)).sum:=by
 unfold cZ;rw[γO];rfl
theorem weak (h:eZ p f) (s:jN f=true) (z:dS p.offers.length t) (a:fZ p (t.map (oI p))=true) (u:∀i∈t,bj f i.toNat 0≠ -1) (A:∀i∈bE f 1,i∈t):((cM (t.map (oI p)):Int):Rat)<=jg p f:=by
 obtain⟨l,E,r⟩:=oH h;have d:∀g:Int->Int,bO (nF f) (λj=>((g (bj (bE f 0) j 0):Int):Rat)*(if bj (bE f 0) j 0∈t then(1:Rat) else 0))=(((t.map g).sum - ((bE f 1).map g).sum:Int):Rat):=λg=>by
  have e:=@qO (λx=>((g x:Int):Rat)*(if x∈t then(1:Rat) else 0)) (bE f 0);rw[Kw] at e;rw[Uh s h.2.1 z u A g];grind
 have q:=asg_holds (n:=nF f) (m:=mF p) (t:=cK p f) lH qS (y:=λj=>if bj (bE f 0) j 0∈t then(1:Rat) else 0);have B:(cK p f).value+bO (nF f) (λj=>(cK p f).cs j*(if bj (bE f 0) j 0∈t then(1:Rat) else 0))=((cM (t.map (oI p)) - gC p f:Int):Rat):=by
  grind[cK,dK,Bj,gC,Kx]
 rw[B] at q;have o:∀v∈(cK p f).basic++(cK p f).free,0<=ju (nF f) (cK p f) (λj=>if bj (bE f 0) j 0∈t then(1:Rat) else 0) v:=λv b=>by
  rcases γm.1 b with b|b
  ·obtain⟨i,k,rfl⟩:=yq lH b;rw[nI lH qS k,yC k,dK (g:=λj=>((dY p i (oI p (bj (bE f 0) j 0)):Int):Rat)*(if bj (bE f 0) j 0∈t then(1:Rat) else 0)) λj c=>by rw[yB k c],d λx=>dY p i (oI p x),<-wH,<-wH];have C:=pd.1 a i (by grind[dh]);have w:0<=(dm p i - cZ p ((bE f 1).map (oI p)) i) - (cZ p (t.map (oI p)) i - cZ p ((bE f 1).map (oI p)) i):=by omega
   have D:=EH w;simp_all
  grind[wq,lH,mM,qS]
 have:=l.best r q λj c=>o _ (l.perm.mem_iff.1 (List.mem_append_right _ (wo l.wf c)));grind[jg]
end
theorem Ui {t:Tb} {n j:Nat} (b:j<n):∀{k:Nat},(∀i,i<k->0<=t.bv i)->(∃i,i<k/\t.bv i=j/\bj (gq t n k) j 0=t.bd i)\/((∀i,i<k->t.bv i≠j)/\bj (gq t n k) j 0=0)
 |0,_=> .inr ⟨λi a=>by omega,by
   grind[gq,cT]⟩
 |k+1,h=>by
  have e:=h k (by omega);have d:=@Ui t n j b k λi a=>h i (by omega);unfold gq;by_cases c:t.bv k<n
  ·rw[if_pos c,iU (by grind[EK])];grind
  grind
theorem Uj {t:Tb} {n m r:Nat} (a:r<m):∀{k:Nat},(∃j,j<k/\t.fv j=((n+r:Nat):Int)/\bj (jy t n m k) r 0= -(t.cs j))\/((∀j,j<k->t.fv j≠((n+r:Nat):Int))/\bj (jy t n m k) r 0=0)
 |0=> .inr ⟨λi d=>by omega,by
   grind[jy,cT]⟩
 |k+1=>by
  have c:=@Uj t n m r a k;unfold jy;by_cases b:(n:Int)<=t.fv k/\t.fv k<n+m
  ·rw[if_pos b,iU (by grind[EL])];grind
  grind
theorem Uk {n m:Nat} {t:Tb} (h:t.WF n m) (c:(t.basic++t.free).Nodup) {j:Nat} (a:j<n):ew t (t.fv j)=t.cs j:=by
 have b:j<t.free.length:=by rw[h.free];exact a
 unfold ew;rw[if_pos (wo h a),show t.free.idxOf (t.fv j)=j from pr (γw.1 c).2.1 b]
theorem aeK {n m:Nat} {t:Tb} (h:t.WF n m) (b:(t.basic++t.free).Nodup) {j:Nat} (a:j<m):ew t (t.bv j)=0:=by
 unfold ew;rw[if_neg (Ji h b a)]
section
variable {p:bn} {f:List Int}
noncomputable def pY (p:bn) (f:List Int):Int->Rat:=ju (nF f) (dx p f) λ_=>0
theorem optX_holds (h:eZ p f):(cK p f).holds (nF f) (mF p) (pY p f) (dx p f).value:=by
 obtain⟨a,_,_⟩:=oH h;have b:=asg_holds a.wf a.gp (y:=λ_=>0);rw[dK (g:=λ_=>0) λj _=>by grind,iT] at b;have c:=(a.mN _ _).1 b;rwa [show(dx p f).value+0=(dx p f).value by grind] at c
theorem Ky (h:eZ p f) {i:Nat} (b:i<mF p):pY p f ((dx p f).bv i)=(dx p f).bd i:=by
 obtain⟨a,_,_⟩:=oH h;unfold pY;rw[nI a.wf a.gp b,dK (g:=λ_=>0) λj _=>by grind,iT];grind
theorem Kz (h:eZ p f) {j:Nat} (b:j<nF f):pY p f ((dx p f).fv j)=0:=by
 obtain⟨a,_,_⟩:=oH h;unfold pY;rw[mM a.wf a.gp b]
theorem ES (h:eZ p f) {v:Int} (a:v∈(cK p f).basic++(cK p f).free):(∃i,i<mF p/\(dx p f).bv i=v)\/∃j,j<nF f/\(dx p f).fv j=v:=by
 obtain⟨b,_,_⟩:=oH h;rw[<-b.perm.mem_iff,γm] at a;rcases a with a|a;·exact .inl (yq b.wf a)
 ·exact .inr (wq b.wf a)
theorem KA (h:eZ p f) {v:Int} (c:v∈(cK p f).basic++(cK p f).free):0<=pY p f v:=by
 obtain⟨_,b,_⟩:=oH h;rcases ES h c with⟨i,a,rfl⟩|⟨j,d,rfl⟩
 ·rw[Ky h a];exact b i a
 grind[Kz]
theorem KB {j:Nat} (a:j<nF f):(j:Int)∈(cK p f).basic++(cK p f).free:=by
 have:=wo (n:=nF f) (m:=mF p) (t:=cK p f) lH a;grind[wE]
theorem aeL (h:eZ p f) {i:Nat} (b:i<mF p):0<=(dx p f).bv i:=by
 obtain⟨a,_,_⟩:=oH h;have c:=a.perm.mem_iff.1 (εn _ (A0 a.wf b));grind[yq,lH,EE,wq,wE]
theorem aeM (h:eZ p f) {j:Nat} (c:j<nF f):bj (gq (dx p f) (nF f) (mF p)) j 0=pY p f j:=by
 rcases @Ui (dx p f) (nF f) j c (mF p) λi b=>aeL h b with⟨i,d,a,g⟩|⟨d,a⟩;·grind[Ky]
 ·rw[a];rcases ES h (KB c) with⟨i,b,e⟩|⟨k,l,e⟩<;>grind[ES,KB,Kz]
theorem aeN (h:eZ p f) {j:Nat} (a:j<nF f):pY p f j<=1:=by
 have:=TL h (optX_holds h) (λv b=>KA h b) a;grind[wE]
theorem Ul (h:eZ p f):(∀i,i<mF p->Sz 1000 ((dx p f).bd i))/\(∀j,j<nF f->Sz 1000 ((dx p f).cs j))/\Sz 1000 (dx p f).value:=have a:=(EG h).Tz (oH h).1;⟨a.1,a.2.1,a.2.2.1⟩
theorem KC (q:Rat) (h:q=0\/q=1):Sz 1000 q:=by
 have a:Sz 1 q:=by rcases h with rfl|rfl<;>exact⟨by decide,by decide⟩
 exact a.mono (by omega)
theorem aeO (h:eZ p f) {v:Int} (a:v∈(cK p f).basic++(cK p f).free):Sz 1000 (pY p f v):=by
 grind[ES,Ky,Ul,Kz,KC]
noncomputable def dD (p:bn) (f:List Int):List Rat:=jZ p f (nF f)
theorem rP:(dD p f).length=f.length:=yK
theorem Bq (h:eZ p f) (c:jN f=true) {i:Nat} (b:i<f.length):(bj f i 0=1/\bj (dD p f) i 0=1)\/(bj f i 0= -1/\bj (dD p f) i 0=0)\/(bj f i 0=0/\(i:Int)∈bE f 0/\(bE f 0).idxOf (i:Int)<nF f/\bj (dD p f) i 0=pY p f ((bE f 0).idxOf (i:Int))):=by
 have g:=τ.1 c _ (dn (d:=0) b);simp only[θ,decide_eq_true_eq] at g;unfold dD;rw[ER b,φ];rcases(show bj f i 0=1\/bj f i 0= -1\/bj f i 0=0 by omega) with a|a|a;·simp_all
 ·simp_all[kP]
 ·have e:(i:Int)∈bE f 0:=kP.2 ⟨by omega,by simp_all⟩;have j:(bE f 0).idxOf (i:Int)<nF f:=εi e;simp_all[aeM]
theorem ET (h:eZ p f) (a:jN f=true) {i:Nat} (b:i<f.length):0<=bj (dD p f) i 0/\bj (dD p f) i 0<=1/\Sz 1000 (bj (dD p f) i 0):=by
 rcases Bq h a b with⟨_,e⟩|⟨_,e⟩|⟨_,_,c,e⟩;all_goals grind[KC,KA,KB,aeN,aeO]
theorem tc (h:eZ p f) (c:jN f=true) {i:Nat} (b:i<f.length) (d:0<bj (dD p f) i 0) (a:bj (dD p f) i 0<1):bj f i 0=0:=by
 grind[Bq]
def eI (x:List Rat):List Int:=(df x.length).filter λi=>decide (0<bj x i.toNat 0)
theorem yL {x:List Rat} {i:Int}:i∈eI x↔(0<=i/\i<x.length)/\0<bj x i.toNat 0:=by
 simp_all[eI,iV]
theorem Um {x:List Rat}:dS x.length (eI x):=⟨oD.sublist γt,λi a=>(yL.1 a).1⟩
def mT (x:List Rat):Bool:=x.all λq=>decide (q.den=1)
theorem aeP {q:Rat} (h:q.den=1):q=(q.num:Rat):=by
 grind[Rat.mkRat_self,Rat.mkRat_one]
theorem aeQ {q:Rat} (c:q.den=1) (b:0<=q) (a:q<=1):q=0\/q=1:=by
 rw[aeP c] at b a ⊢;have f:0<=q.num:=by exact_mod_cast b
 have d:q.num<=1:=by exact_mod_cast a
 rcases(show q.num=0\/q.num=1 by omega) with e|e<;>simp_all
theorem aeR {t:List Int} (a:jN f=true) (c:f.length=p.offers.length) (h:dS p.offers.length t) (b:∀i∈t,bj f i.toNat 0≠ -1) (d:∀i∈bE f 1,i∈t) (g:Int->Int):bO (nF f) (λj=>((g (bj (bE f 0) j 0):Int):Rat)*(if bj (bE f 0) j 0∈t then(1:Rat) else 0))=(((t.map g).sum - ((bE f 1).map g).sum:Int):Rat):=by
 have e:=@qO (λx=>((g x:Int):Rat)*(if x∈t then(1:Rat) else 0)) (bE f 0);rw[Kw] at e;rw[Uh a c h b d g];grind
theorem Un (h:eZ p f) (t:jN f=true) (F:mT (dD p f)=true):fZ p ((eI (dD p f)).map (oI p))=true/\((cM ((eI (dD p f)).map (oI p)):Int):Rat)=jg p f:=by
 have n:=h.2.1;have z:=@rP p f;have q:∀i:Nat,i<f.length->bj (dD p f) i 0=0\/bj (dD p f) i 0=1:=λi o=>by
  obtain⟨O,J,_⟩:=ET h t o;have:=τ.1 F _ (dn (d:=0) (show i<(dD p f).length by omega));simp_all[aeQ]
 have B:dS p.offers.length (eI (dD p f)):=by
  grind[Um]
 have A:∀i∈eI (dD p f),bj f i.toNat 0≠ -1:=λi x K=>by
  grind[yL,Bq]
 have D:∀i∈bE f 1,i∈eI (dD p f):=λi x=>by
  grind[kP,yL,Bq]
 have G:∀j,j<nF f->(if bj (bE f 0) j 0∈eI (dD p f) then(1:Rat) else 0)=pY p f ((cK p f).fv j):=λj c=>by
  obtain⟨C,L⟩:=yD h c;have E:(bE f 0).idxOf (bj (bE f 0) j 0)=j:=pr (uN.imp λh=>by omega) c;have M:((((bj (bE f 0) j 0).toNat:Nat)):Int)=bj (bE f 0) j 0:=by omega
  have e:bj (dD p f) (bj (bE f 0) j 0).toNat 0=pY p f j:=by
   grind[Bq]
  rw[wE c,<-e];rcases q (bj (bE f 0) j 0).toNat (by omega) with l|l;·simp_all[yL]
  ·rw[l,if_pos];grind[yL]
 obtain⟨v,w⟩:=optX_holds h;have k:=aeR t n B A D;refine⟨pd.2 λy b=>?_,?_⟩
 ·obtain⟨r,m⟩:∃r:Int,r=(y:Int):=⟨_,rfl⟩;rw[<-m] at b ⊢;have I:0<=r:=by omega
  have a:r.toNat<mF p:=by unfold dh at b;grind
  have s:=v r.toNat a;rw[dK (g:=λj=>((dY p r (oI p (bj (bE f 0) j 0)):Int):Rat)*(if bj (bE f 0) j 0∈eI (dD p f) then(1:Rat) else 0)) λj c=>by grind[yB],k λi=>dY p r (oI p i),yC a,show((r.toNat:Nat):Int)=r by omega] at s;have N:=KA h (εn _ (A0 lH a));rw[<-wH,<-wH] at s;have l:((cZ p ((eI (dD p f)).map (oI p)) r - cZ p ((bE f 1).map (oI p)) r:Int):Rat)<=((dm p r - cZ p ((bE f 1).map (oI p)) r:Int):Rat):=by grind
  have H:cZ p ((eI (dD p f)).map (oI p)) r - cZ p ((bE f 1).map (oI p)) r<=dm p r - cZ p ((bE f 1).map (oI p)) r:=by exact_mod_cast l
  omega
 ·have u:(cK p f).value=0:=rfl;rw[u,dK (g:=λj=>(((oI p (bj (bE f 0) j 0)).value:Int):Rat)*(if bj (bE f 0) j 0∈eI (dD p f) then(1:Rat) else 0)) λj c=>by grind[Bj],k λi=>(oI p i).value] at w;grind[jg,gC,Kx]
theorem Uo (h:eZ p f) {x:Int->Rat} {z:Rat} (l:(cK p f).holds (nF f) (mF p) x z):z=(dx p f).value+(bO (mF p) (λk=>ew (dx p f) ((nF f+k:Nat):Int)*x ((nF f+k:Nat):Int))+bO (nF f) λj=>ew (dx p f) (j:Int)*x (j:Int)):=by
 obtain⟨a,_,_⟩:=oH h;have i:=((a.mN _ _).2 l).2;have m:bO (nF f) (λj=>(dx p f).cs j*x ((dx p f).fv j))=me (λv=>ew (dx p f) v*x v) ((dx p f).basic++(dx p f).free):=by
  rw[AX,qO,qO,a.wf.basic,a.wf.free];rw[dK (n:=mF p) (g:=λ_=>0) λk b=>by
   show ew (dx p f) ((dx p f).bv k)*x ((dx p f).bv k)=0;rw[aeK a.wf a.gp b];grind,iT];rw[dK (n:=nF f) (f:=λk=>ew (dx p f) (bj (dx p f).free k 0)*x (bj (dx p f).free k 0)) (g:=λj=>(dx p f).cs j*x ((dx p f).fv j)) λj e=>by
   show ew (dx p f) ((dx p f).fv j)*x ((dx p f).fv j)=_;rw[Uk a.wf a.gp e]];grind
 have d:me (λv=>ew (dx p f) v*x v) ((cK p f).basic++(cK p f).free)=bO (mF p) (λk=>ew (dx p f) ((nF f+k:Nat):Int)*x ((nF f+k:Nat):Int))+bO (nF f) λj=>ew (dx p f) (j:Int)*x (j:Int):=by
  have c:=@lH p f;rw[AX,qO,qO,c.basic,c.free];congr 1
  ·refine dK λk b=>?_;show ew (dx p f) ((cK p f).bv k)*x ((cK p f).bv k)=_;rw[EE b]
  ·refine dK λk b=>?_;show ew (dx p f) ((cK p f).fv k)*x ((cK p f).fv k)=_;rw[wE b]
 rw[i,m,Jh a.perm,d]
theorem Up (h:eZ p f) {v:Int}:ew (dx p f) v<=0:=by
 obtain⟨d,_,e⟩:=oH h;unfold ew;split
 ·rename_i g;have k:(dx p f).free.idxOf v<nF f:=by rw[<-d.wf.free];grind
  rcases @uF (dx p f) (nF f) with⟨a,b⟩|⟨c,a,b,i,j⟩<;>grind
 ·decide
theorem EU (h:eZ p f) {r:Nat} (g:r<mF p):bj (iD p f) r 0= -(ew (dx p f) ((nF f+r:Nat):Int)):=by
 obtain⟨a,_,_⟩:=oH h;unfold iD;rcases @Uj (dx p f) (nF f) (mF p) r g (nF f) with⟨j,c,b,i⟩|⟨c,b⟩;·rw[i,<-b,Uk a.wf a.gp c]
 ·rw[b];unfold ew;rw[if_neg];·decide
  ·intro d;obtain⟨j,k,e⟩:=wq a.wf d;simp_all
theorem EV:(iD p f).length=mF p:=EL
theorem KD (h:eZ p f) {r:Nat} (a:r<mF p):0<=bj (iD p f) r 0/\Sz 1000 (bj (iD p f) r 0):=by
 obtain⟨c,_,_⟩:=oH h;have d:=@Up p f h ((nF f+r:Nat):Int);refine⟨by grind[EU],?_⟩;rw[EU h a];refine AL ?_;unfold ew;split
 ·rename_i b;exact(Ul h).2.1 _ (by have:=εi b;rw[c.wf.free] at this;exact this)
 grind[KC]
theorem Ur (h:eZ p f):(dx p f).value=bO (mF p) λr=>bj (iD p f) r 0*(cK p f).bd r:=by
 have c:=asg_holds (n:=nF f) (m:=mF p) (t:=cK p f) lH qS (y:=λ_=>0);have a:=Uo h c;have d:(cK p f).value=0:=rfl;rw[d,dK (n:=nF f) (f:=λj=>(cK p f).cs j*(λ_=>(0:Rat)) j) (g:=λ_=>0) λj _=>by grind,iT] at a;rw[dK (n:=nF f) (f:=λj=>ew (dx p f) (j:Int)*ju (nF f) (cK p f) (λ_=>0) (j:Int)) (g:=λ_=>0) λj b=>by
  have e:=mM (n:=nF f) (m:=mF p) (t:=cK p f) lH qS (y:=λ_=>0) b;grind[wE],iT] at a;rw[dK (n:=mF p) (g:=λk=>(-1:Rat)*(bj (iD p f) k 0*(cK p f).bd k)) λk i=>by
  have e:=nI (n:=nF f) (m:=mF p) (t:=cK p f) lH qS (y:=λ_=>0) i;grind[EE,iT,EU],wj] at a;grind
theorem aeS (h:eZ p f) {j:Nat} (b:j<nF f):(cK p f).cs j<=bO (mF p) λr=>bj (iD p f) r 0*(cK p f).cf r j:=by
 have l:=asg_holds (n:=nF f) (m:=mF p) (t:=cK p f) lH qS (y:=λi=>if i=j then 1 else 0);have a:=Uo h l;have o:(cK p f).value=0:=rfl;rw[o,dK (n:=nF f) (f:=λi=>(cK p f).cs i*(if i=j then(1:Rat) else 0)) (g:=λi=>if i=j then(cK p f).cs j else 0) λi _=>by
  grind,uL b] at a;rw[dK (n:=nF f) (f:=λi=>ew (dx p f) (i:Int)*ju (nF f) (cK p f) (λi=>if i=j then 1 else 0) (i:Int)) (g:=λi=>if i=j then ew (dx p f) (j:Int) else 0) λi d=>by
  have e:=mM (n:=nF f) (m:=mF p) (t:=cK p f) lH qS (y:=λi=>if i=j then(1:Rat) else 0) d;rw[wE d] at e;grind,uL b] at a;rw[dK (n:=mF p) (g:=λk=>bj (iD p f) k 0*(cK p f).cf k j - bj (iD p f) k 0*(cK p f).bd k) λk c=>by
  have e:=nI (n:=nF f) (m:=mF p) (t:=cK p f) lH qS (y:=λi=>if i=j then(1:Rat) else 0) c;rw[EE c,dK (g:=λi=>if i=j then(cK p f).cf k j else 0) λi _=>by
   grind,uL b] at e;grind[EU],JZ] at a;grind[Ur,Up]
end
abbrev dj:=Int×(Int×(Int×(Int×List bL)))
@[reducible] def bF:bp:=.pair (.i .i64) (.pair (.i .i64) (.pair (.i .i64) (.pair (.i .i64) (.bB sF))))
def zN:dj:=(0,(0,(0,(0,[]))))
def EW:dj:=(3,(0,(0,(0,[]))))
noncomputable def qU (p:bn) (f:List Int):dj:=(1,(0,(0,(0,fL (iD p f)))))
def j4 (k o:Int):dj:=(2,(k,(o,(o+1,[]))))
structure dc where
 ch:List Int
 val:Int
 found:Bool
 prf:List dj
 err:Int
def dX (b:Int->Bool) (s:dc) (a:Alloc):dc:=if s.val<a.value then⟨a.chosen,a.value,s.found||b a.value,s.prf,s.err⟩ else s
def mU (q:Rat):Rat:=if q<0 then -q else q
def jz (x:List Rat):Nat->Option (Int×Rat)
 |0=>none
 |k+1=>if 0<bj x k 0/\bj x k 0<1 then(match jz x k with
   |none=>some ((k:Int),mU (bj x k 0 - 1 / 2))
   |some (i,l)=>if mU (bj x k 0 - 1 / 2)<l then some ((k:Int),mU (bj x k 0 - 1 / 2)) else some (i,l)) else jz x k
def jP (x:List Rat):Option Int:=(jz x x.length).map (·.1)
theorem KE {x:List Rat}:∀{k:Nat} {i:Int} {l:Rat},jz x k=some (i,l)->(0<=i/\i<k)/\(0<bj x i.toNat 0/\bj x i.toNat 0<1)/\l=mU (bj x i.toNat 0 - 1 / 2)
 |0,i,l,h=>by cases h;|k+1,i,l,h=>by
  unfold jz at h;have b:some ((k:Int),mU (bj x k 0 - 1 / 2))=some (i,l)->(0<bj x k 0/\bj x k 0<1)->(0<=i/\i<((k+1:Nat):Int))/\(0<bj x i.toNat 0/\bj x i.toNat 0<1)/\l=mU (bj x i.toNat 0 - 1 / 2):=λh f=>by
   grind
  have a:jz x k=some (i,l)->(0<=i/\i<((k+1:Nat):Int))/\(0<bj x i.toNat 0/\bj x i.toNat 0<1)/\l=mU (bj x i.toNat 0 - 1 / 2):=λh=>by
   obtain⟨c,d,e⟩:=KE h;grind
  grind
theorem Us {x:List Rat}:∀{k:Nat},jz x k=none->∀i,i<k->¬(0<bj x i 0/\bj x i 0<1)
 |0,_,i,a=>by omega;|k+1,h,i,a=>by
  unfold jz at h;split at h;·grind
  ·rename_i b;by_cases e:i=k;·simp_all
   ·exact Us h i (by omega)
theorem td {x:List Rat} {k:Int} (h:jP x=some k):(0<=k/\k<x.length)/\0<bj x k.toNat 0/\bj x k.toNat 0<1:=by
 unfold jP at h;obtain⟨⟨i,l⟩,b,a⟩:=ε.1 h;simp only at a;subst a;obtain⟨c,d,_⟩:=KE b;simp_all
theorem aeT {x:List Rat} (h:jP x=none):∀i,i<x.length->¬(0<bj x i 0/\bj x i 0<1):=Us (Option.map_eq_none_iff.1 h)
noncomputable def pz (p:bn) (f:List Int):Alloc:=⟨eI (dD p f),cM ((eI (dD p f)).map (oI p))⟩
noncomputable def dq (p:bn) (a:Int->Bool) (s:dc) (f:List Int):dc:=if((s.val+1:Int):Rat)<=jg p f/\mT (dD p f)=true then dX a s (pz p f) else s
def gG (s:dc) (a k:Int):dc:={s with prf:=(s.prf++[zN,zN]).set a.toNat (j4 k s.prf.length)}
noncomputable def fJ (p:bn) (en:Int->Bool) (most:Int) (b:dc->Int->List Int->dc) (s:dc) (a:Int) (f:List Int):dc:=
 if s.err≠0\/s.found=true then s
 else if hJ p f=false then {s with prf:=s.prf.set a.toNat EW}
 else if jg p f<(((dq p en s f).val+1:Int):Rat) then {dq p en s f with prf:=(dq p en s f).prf.set a.toNat (qU p f)}
 else match jP (dD p f) with
  |none=>{dq p en s f with err:=12}
  |some k=>if most<(dq p en s f).prf.length+2 then {dq p en s f with err:=12}
   else b (b (gG (dq p en s f) a k) ((dq p en s f).prf.length+1) (f.set k.toNat 1)) (dq p en s f).prf.length (f.set k.toNat (-1))
noncomputable def dF (p:bn) (b:Int->Bool) (a:Int):Nat->dc->Int->List Int->dc
 |0=>fJ p b a λs _ _=>s
 |n+1=>fJ p b a (dF p b a n)
structure eL (p:bn) (f:List Int):Prop where
 c:bz p=0
 l:f.length=p.offers.length
 r:jN f=true
theorem eL.ok {p:bn} {f:List Int} (h:eL p f) (a:hJ p f=true):eZ p f:=⟨h.c,h.l,a⟩
theorem eL.e {p:bn} {f:List Int} (h:eL p f):jf p f=0:=by
 unfold jf;rw[if_neg (by simp[h.c]),if_neg (by simp[h.l]),if_pos h.r]
theorem eL.j3 {p:bn} {f:List Int} (h:eL p f):j3 p f=hJ p f:=by
 unfold Go.Vi.j3;rw[h.e];simp
theorem Ut {f:List Int} {k:Nat} {d:Int} (h:jN f=true) (a: -1<=d/\d<=1):jN (f.set k d)=true:=by
 grind[jN]
theorem eL.set {p:bn} {f:List Int} (h:eL p f) {k:Nat} {d:Int} (a: -1<=d/\d<=1):eL p (f.set k d):=⟨h.c,by rw[Ψ];exact h.l,Ut h.r a⟩
theorem mq {f:List Int} {k d:Int} (i:0<=k/\k<f.length) (l:bj f k.toNat 0=0) (g:d≠0):nF f=nF (f.set k.toNat d)+1:=by
 have c:(bE f 0).Perm (k::bE (f.set k.toNat d) 0):=by
  refine(γ7 (uN.imp λh=>by omega) ?_).2 λx=>?_
  ·rw[List.nodup_cons];refine⟨λj=>?_,uN.imp λh=>by omega⟩;simp_all[kP,iU]
  ·rw[γr,kP,kP,Ψ];constructor
   ·rintro⟨a,b⟩;by_cases e:x=k;·exact .inl e
    ·exact .inr ⟨a,by rw[iU (by omega),if_neg (by omega)];exact b⟩
   grind[iU]
 have:=c.length_eq;omega
theorem EX {en:Int->Bool} {s:dc} {a:Alloc}:(dX en s a).prf=s.prf/\(dX en s a).err=s.err/\s.val<=(dX en s a).val/\((dX en s a).val=s.val\/(dX en s a).val=a.value)/\((dX en s a).ch=s.ch\/(dX en s a).ch=a.chosen):=by
 grind[dX]
theorem EY {p:bn} {en:Int->Bool} {s:dc} {f:List Int}:(dq p en s f).prf=s.prf/\(dq p en s f).err=s.err/\s.val<=(dq p en s f).val/\((dq p en s f).val=s.val\/(dq p en s f).val=(pz p f).value)/\((dq p en s f).ch=s.ch\/(dq p en s f).ch=(pz p f).chosen):=by
 grind[dq,EX]
theorem aeU {x:List Rat}:(eI x).length<=x.length:=by
 have:=List.length_filter_le (λi:Int=>decide (0<bj x i.toNat 0)) (df x.length);rw[iz] at this;exact this
theorem aeV {p:bn} {f:List Int} (b:f.length=p.offers.length):∀x∈(eI (dD p f)).map (oI p),x∈p.offers:=λx a=>by
 obtain⟨i,c,rfl⟩:=Θ.1 a;have:=(yL.1 c).1;rw[rP,b] at this;exact dn (by omega)
theorem Uu {p:bn} {f:List Int} (h:eL p f):0<=(pz p f).value/\(pz p f).value<=160000000/\(pz p f).chosen.length<=160:=by
 have a:=dQ h.c;have b:=@sQ p a ((eI (dD p f)).map (oI p)) (aeV h.l);have d:=@aeU (dD p f);rw[rP,h.l] at d;have e:=a.2.1;rw[Φ] at b;refine⟨b.1,?_,?_⟩
 ·show cM _<=_;omega
 ·show(eI (dD p f)).length<=160;omega
theorem KF {p:bn} (a:bz p=0) {c:List Int} (h:dS p.offers.length c):cO p c=0↔fZ p (c.map (oI p))=true:=by
 simp_all[Bi,fE,dU,cO]
theorem yM {p:bn} (a:bz p=0) {c:List Int} (h:dS p.offers.length c):ek p c=cM (c.map (oI p)):=by
 simp_all[dU,Bi,ek]
theorem rQ {p:bn} {en:Int->Bool} {most:Int}:∀{n:Nat} {s:dc} {a:Int} {f:List Int},eL p f->s.prf.length<=(dF p en most n s a f).prf.length/\((dF p en most n s a f).prf.length<=most\/(dF p en most n s a f).prf.length=s.prf.length)/\s.val<=(dF p en most n s a f).val/\((dF p en most n s a f).val=s.val\/(dF p en most n s a f).val<=160000000)/\((dF p en most n s a f).ch=s.ch\/(dF p en most n s a f).ch.length<=160)/\((dF p en most n s a f).err=s.err\/(dF p en most n s a f).err=12):=by
 have d:∀{b:dc->Int->List Int->dc},(∀{s:dc} {a:Int} {f:List Int},eL p f->s.prf.length<=(b s a f).prf.length/\((b s a f).prf.length<=most\/(b s a f).prf.length=s.prf.length)/\s.val<=(b s a f).val/\((b s a f).val=s.val\/(b s a f).val<=160000000)/\((b s a f).ch=s.ch\/(b s a f).ch.length<=160)/\((b s a f).err=s.err\/(b s a f).err=12))->
   ∀{s:dc} {a:Int} {f:List Int},eL p f->s.prf.length<=(fJ p en most b s a f).prf.length/\((fJ p en most b s a f).prf.length<=most\/(fJ p en most b s a f).prf.length=s.prf.length)/\s.val<=(fJ p en most b s a f).val/\((fJ p en most b s a f).val=s.val\/(fJ p en most b s a f).val<=160000000)/\((fJ p en most b s a f).ch=s.ch\/(fJ p en most b s a f).ch.length<=160)/\((fJ p en most b s a f).err=s.err\/(fJ p en most b s a f).err=12):=by
  intro b c s a f h;obtain⟨v,j,E,l,r⟩:=@EY p en s f;obtain⟨H,A,L⟩:=Uu h;have w:(dq p en s f).ch=s.ch\/(dq p en s f).ch.length<=160:=r.imp id λh=>by simp_all
  have x:(dq p en s f).val=s.val\/(dq p en s f).val<=160000000:=l.imp id λh=>by omega
  unfold fJ;split;·simp_all
  split;·simp_all
  split;·simp_all
  split;·simp_all
  rename_i k J;split;·simp_all
  rename_i o;have F:(gG (dq p en s f) a k).prf.length=s.prf.length+2:=by
   simp_all[gG]
  obtain⟨D,K,u,z,e,t⟩:=@c (gG (dq p en s f) a k) ((dq p en s f).prf.length+1) (f.set k.toNat 1) (h.set (by omega));obtain⟨B,C,G,I,g,M⟩:=@c (b (gG (dq p en s f) a k) ((dq p en s f).prf.length+1) (f.set k.toNat 1)) (dq p en s f).prf.length (f.set k.toNat (-1)) (h.set (by omega));have i:(gG (dq p en s f) a k).val=(dq p en s f).val:=rfl;have m:(gG (dq p en s f) a k).ch=(dq p en s f).ch:=rfl;have q:(gG (dq p en s f) a k).err=(dq p en s f).err:=rfl;rw[v] at o;rw[i] at u z;rw[m] at e;rw[q,j] at t;refine⟨by omega,.inl (by omega),by omega,by omega,?_,?_⟩
  ·rcases g with g|g
   ·rw[g];rcases e with e|e<;>simp_all
   omega
  omega
 intro n;induction n with
 |zero=>exact d λ{s a f} _=>⟨Nat.le_refl _,.inr rfl,Int.le_refl _,.inl rfl,.inl rfl,.inl rfl⟩;|succ n y=>exact d λh=>y h
inductive jh (p:bn) (v:Int) (t:List dj):Nat->List Int->Nat->Nat->Prop
 |bnd {a:Nat} {f:List Int} {lo:Nat}:t[a]?=some (qU p f)->hJ p f=true->jg p f<((v+1:Int):Rat)->jh p v t a f lo lo
 |con {a:Nat} {f:List Int} {lo:Nat}:t[a]?=some EW->hJ p f=false->jh p v t a f lo lo
 |tf {a:Nat} {f:List Int} {lo mid hi:Nat} {k:Int}:t[a]?=some (j4 k lo)->a<lo->(0<=k/\k<f.length)->bj f k.toNat 0=0->jh p v t (lo+1) (f.set k.toNat 1) (lo+2) mid->jh p v t lo (f.set k.toNat (-1)) mid hi->jh p v t a f lo hi
section
variable {p:bn} {v v':Int} {t t':List dj} {a lo hi:Nat} {f:List Int}
theorem jh.le (h:jh p v t a f lo hi):lo<=hi:=by
 induction h with
 |bnd _ _ _=>omega;|con _ _=>omega;|tf _ _ _ _ _ _ b c=>omega
theorem jh.mono (h:jh p v t a f lo hi) (q:v<=v') (e:∀i,i=a\/(lo<=i/\i<hi)->t'[i]?=t[i]?):jh p v' t' a f lo hi:=by
 induction h with
 |bnd c b d=>
  refine .bnd (by simp_all) b ?_;have:((v+1:Int):Rat)<=((v'+1:Int):Rat):=by exact_mod_cast (show v+1<=v'+1 by omega)
  grind;|con c b=>exact .con (by simp_all) b;|tf c b d l k g m j=>
  have o:=k.le;have n:=g.le;exact .tf (by simp_all) b d l (m λi hi=>e i (by omega)) (j λi hi=>e i (by omega))
def EZ (f:List Int) (l:List Int):Prop:=(∀i∈l,bj f i.toNat 0≠ -1)/\∀i∈bE f 1,i∈l
theorem Uw {l:List Int} {k d:Int} (g:0<=k/\k<f.length) (m:bj f k.toNat 0=0) (e:∀i∈l,0<=i) (h:EZ f l) (j:(d=1/\k∈l)\/(d= -1/\k∉l)):EZ (f.set k.toNat d) l:=by
 obtain⟨b,c⟩:=h;refine⟨λi a=>?_,λi a=>?_⟩<;>grind[iU,kP]
theorem aeW {l m:List Int} (e:bz p=0) (f:∀i∈l,0<=i/\i<p.offers.length) (q:m.Nodup) (j:∀i∈m,i∈l) (o:l.Nodup) (h:fZ p (l.map (oI p))=true):fZ p (m.map (oI p))=true:=by
 refine pd.2 λr b=>?_;have d:=pd.1 h r b;have a:l.Perm (m++l.filter λi=>decide (i∉m)):=by
  grind
 have g:cZ p (l.map (oI p)) r=cZ p (m.map (oI p)) r+cZ p ((l.filter λi=>decide (i∉m)).map (oI p)) r:=by
  rw[wH,wH,wH,Tm (a.map _),γa,ζO]
 have n:=@sO p r ((l.filter λi=>decide (i∉m)).map (oI p)) λx c=>by
  obtain⟨i,k,rfl⟩:=Θ.1 c;simp_all[kr]
 omega
theorem jh.sound (h:jh p v t a f lo hi) (e:eL p f) {l:List Int} (d:dS p.offers.length l) (b:fZ p (l.map (oI p))=true) (g:EZ f l):cM (l.map (oI p))<=v:=by
 induction h with
 |bnd o n m=>
  have j:=weak (e.ok n) e.r d b g.1 g.2;have s:((cM (l.map (oI p)):Int):Rat)<((v+1:Int):Rat):=by grind
  have u:cM (l.map (oI p))<v+1:=by exact_mod_cast s
  omega;|con o n=>
  exfalso;have:=aeW e.c d.2 (uN.imp λh=>by omega) g.2 (yz d) b;grind[hJ];|@tf a f lo y hi k o n m j s u x w=>
  by_cases q:k∈l;·exact x (e.set (by omega)) (Uw m j (λi hi=>(d.2 i hi).1) g (.inl ⟨rfl,q⟩))
  ·exact w (e.set (by omega)) (Uw m j (λi hi=>(d.2 i hi).1) g (.inr ⟨rfl,q⟩))
end
theorem Ux {p:bn} {en:Int->Bool} {most:Int}:∀{n:Nat} {s:dc} {a:Int} {f:List Int},eL p f->nF f<=n->(0<=a/\a<s.prf.length)->(dF p en most n s a f).err=0->(dF p en most n s a f).found=false->
  jh p (dF p en most n s a f).val (dF p en most n s a f).prf a.toNat f s.prf.length (dF p en most n s a f).prf.length/\(∀i:Nat,i<s.prf.length->i≠a.toNat->(dF p en most n s a f).prf[i]?=s.prf[i]?)/\s.err=0/\s.found=false:=by
 have y:∀{b:dc->Int->List Int->dc} {s:dc} {a:Int} {f:List Int},eL p f->(0<=a/\a<s.prf.length)->
   (∀{s:dc} {a:Int} {g:List Int},eL p g->nF f=nF g+1->(0<=a/\a<s.prf.length)->s.prf.length<=(b s a g).prf.length/\s.val<=(b s a g).val/\((b s a g).err=0->(b s a g).found=false->jh p (b s a g).val (b s a g).prf a.toNat g s.prf.length (b s a g).prf.length/\(∀i:Nat,i<s.prf.length->i≠a.toNat->(b s a g).prf[i]?=s.prf[i]?)/\s.err=0/\s.found=false))->
   (fJ p en most b s a f).err=0->(fJ p en most b s a f).found=false->jh p (fJ p en most b s a f).val (fJ p en most b s a f).prf a.toNat f s.prf.length (fJ p en most b s a f).prf.length/\(∀i:Nat,i<s.prf.length->i≠a.toNat->(fJ p en most b s a f).prf[i]?=s.prf[i]?)/\s.err=0/\s.found=false:=by
  intro b s a f t C q e c;obtain⟨D,e2,e3,e4,e5⟩:=@EY p en s f;have B:a.toNat<s.prf.length:=by omega
  unfold fJ at e c ⊢;split at e;·simp_all
  rename_i x;have G:s.err=0/\s.found=false:=by simpa using x
  rw[if_neg x] at c ⊢;split at e
  ·rename_i m;rw[if_pos m];refine⟨?_,λi u j=>?_,G⟩
   ·rw[Ψ];exact .con (by simp_all) m
   ·show(s.prf.set a.toNat EW)[i]?=_;rw[δq (λh=>j h.symm)]
  rename_i m;rw[if_neg m] at c ⊢;have O:hJ p f=true:=by simpa using m
  split at e
  ·rename_i w;rw[if_pos w];refine⟨?_,λi u j=>?_,G⟩
   ·rw[Ψ,D];refine .bnd ?_ O w;simp_all
   ·show((dq p en s f).prf.set a.toNat _)[i]?=_;rw[δq (λh=>j h.symm),D]
  rename_i w;rw[if_neg w] at c ⊢;cases A:jP (dD p f) with
  |none=>simp_all;|some k=>
  rw[A] at e c;simp only at e c ⊢;split at e;·simp at e
  rename_i Q;rw[if_neg Q] at c ⊢;obtain⟨l,K,L⟩:=td A;rw[rP] at l;have v:bj f k.toNat 0=0:=tc (t.ok O) t.r (by omega) K L;have n1:=mq l v (d:=1) (by omega);have Y:=mq l v (d:= -1) (by omega);have T:eL p (f.set k.toNat 1):=t.set (by omega);have f2:eL p (f.set k.toNat (-1)):=t.set (by omega);have S:(gG (dq p en s f) a k).prf.length=s.prf.length+2:=by
   simp_all[gG]
  rw[D] at e c ⊢;obtain⟨l1,v1,t1⟩:=@q (gG (dq p en s f) a k) ((s.prf.length:Int)+1) (f.set k.toNat 1) T n1 (by omega);generalize R:b (gG (dq p en s f) a k) ((s.prf.length:Int)+1) (f.set k.toNat 1)=I at*;obtain⟨l2,V,Z⟩:=@q I (s.prf.length:Int) (f.set k.toNat (-1)) f2 Y (by omega);generalize X:b I (s.prf.length:Int) (f.set k.toNat (-1))=P at*;obtain⟨N,F,U,w2⟩:=Z e c;obtain⟨J,H,w3,w4⟩:=t1 U w2;have M:∀i:Nat,i<s.prf.length+2->(gG (dq p en s f) a k).prf[i]?=if i=a.toNat then some (j4 k s.prf.length) else(s.prf++[zN,zN])[i]?:=λi u=>by
   unfold gG;simp only[D];rw[List.getElem?_set];by_cases h:a.toNat=i;·simp_all
   ·rw[if_neg h,if_neg (λm=>h m.symm)]
  have E:((s.prf.length:Int)).toNat=s.prf.length:=by omega
  have z:((s.prf.length:Int)+1).toNat=s.prf.length+1:=by omega
  rw[E] at N F;rw[z] at J H;rw[S] at J H;have o:∀i:Nat,i<s.prf.length->P.prf[i]?=(gG (dq p en s f) a k).prf[i]?:=λi u=>by rw[F i (by omega) (by omega),H i (by omega) (by omega)]
  refine⟨.tf (k:=k) (mid:=I.prf.length) ?_ B l v ?_ N,λi u j=>?_,G⟩;·rw[o _ B,M _ (by omega),if_pos rfl]
  ·exact J.mono V λi u=>F i (by omega) (by omega)
  ·rw[o i u,M i (by omega),if_neg j,List.getElem?_append_left u]
 intro n;induction n with
 |zero=>
  intro s a f t W C e c;exact y t C (λ{s a g} _ h _=>by omega) e c;|succ n ih=>
  intro s a f t W C e c;refine y t C (λ{s a g} x m w=>?_) e c;have A:=@rQ p en most n s a g x;exact⟨A.1,A.2.2.1,λe c=>ih x (by omega) w e c⟩
theorem Uy {p:bn} {en:Int->Bool} {most:Int} {G:List Int->Int->Bool->Prop} (u:∀c w b q w',G c w b->cO p q=0->ek p q=w'->w<w'->G q w' (b||en w')):
  ∀{n:Nat} {s:dc} {a:Int} {f:List Int},eL p f->G s.ch s.val s.found->G (dF p en most n s a f).ch (dF p en most n s a f).val (dF p en most n s a f).found:=by
 have k:∀{d:dc->Int->List Int->dc},(∀{s:dc} {a:Int} {f:List Int},eL p f->G s.ch s.val s.found->G (d s a f).ch (d s a f).val (d s a f).found)->
   ∀{s:dc} {a:Int} {f:List Int},eL p f->G s.ch s.val s.found->G (fJ p en most d s a f).ch (fJ p en most d s a f).val (fJ p en most d s a f).found:=by
  intro d e s a f i j;unfold fJ;split;·exact j
  split;·exact j
  rename_i t;have y:hJ p f=true:=by simp_all
  have m:G (dq p en s f).ch (dq p en s f).val (dq p en s f).found:=by
   unfold dq;split
   ·rename_i A;unfold dX;split
    ·rename_i o;obtain⟨z,B⟩:=Un (i.ok y) i.r A.2;have g:dS p.offers.length (eI (dD p f)):=by
      have:=@Um (dD p f);rw[rP,i.l] at this;exact this
     refine u _ _ _ _ _ j ?_ ?_ o;·exact(KF i.c g).2 z
     ·exact yM i.c g
    ·exact j
   ·exact j
  split;·exact m
  split;·exact m
  split;·exact m
  ·exact e (i.set (by omega)) (e (i.set (by omega)) m)
 intro n;induction n with
 |zero=>exact k λ_ h=>h;|succ n x=>exact k λv t=>x v t
theorem two_pow_pos (n:Nat):1<=2^n:=Nat.one_le_two_pow
theorem Uz {p:bn} {en:Int->Bool} {most:Int}:∀{n:Nat} {s:dc} {a:Int} {f:List Int},eL p f->nF f<=n->s.err=0->((s.prf.length+2^(nF f+1):Nat):Int)<=most+2->(dF p en most n s a f).err=0/\(dF p en most n s a f).prf.length+2<=s.prf.length+2^(nF f+1):=by
 have l:∀{c:dc->Int->List Int->dc} {s:dc} {a:Int} {f:List Int},eL p f->s.err=0->((s.prf.length+2^(nF f+1):Nat):Int)<=most+2->
   (∀{s:dc} {a:Int} {g:List Int},eL p g->nF f=nF g+1->s.err=0->((s.prf.length+2^(nF g+1):Nat):Int)<=most+2->(c s a g).err=0/\(c s a g).prf.length+2<=s.prf.length+2^(nF g+1))->
   (fJ p en most c s a f).err=0/\(fJ p en most c s a f).prf.length+2<=s.prf.length+2^(nF f+1):=by
  intro c s a f b t u C;obtain⟨L,J,T,X,e5⟩:=@EY p en s f;have F:2<=2^(nF f+1):=by grind
  unfold fJ;split;·omega
  split;·simp_all
  rename_i E N;have x:hJ p f=true:=by simp_all
  split;·simp_all
  rename_i v;cases A:jP (dD p f) with
  |none=>
   exfalso;apply v;have o:mT (dD p f)=true:=by
    unfold mT;rw[τ];intro q H;obtain⟨i,B,rfl⟩:=γH H;have w:=aeT A i B;obtain⟨M,I,_⟩:=ET (b.ok x) b.r (show i<f.length by grind[rP]);rw[cT B] at w M I;rcases(show(dD p f)[i]=0\/(dD p f)[i]=1 by grind) with e|e<;>simp_all
   obtain⟨Y,K⟩:=Un (b.ok x) b.r o;have P:((pz p f).value:Rat)=jg p f:=K;by_cases D:((s.val+1:Int):Rat)<=jg p f
   ·have O:s.val<(pz p f).value:=by
     rw[<-P] at D;have:s.val+1<=(pz p f).value:=by exact_mod_cast D
     omega
    have:(dq p en s f).val=(pz p f).value:=by
     simp_all[dq,dX]
    grind
   grind;|some k=>
   simp only;obtain⟨j,z,y⟩:=td A;rw[rP] at j;have m:bj f k.toNat 0=0:=tc (b.ok x) b.r (by omega) z y;have n1:=mq j m (d:=1) (by omega);have n2:=mq j m (d:= -1) (by omega);have W:eL p (f.set k.toNat 1):=b.set (by omega);have Z:eL p (f.set k.toNat (-1)):=b.set (by omega);have V:(gG (dq p en s f) a k).prf.length=s.prf.length+2:=by
    grind[gG]
   have U:2^(nF f+1)=2^(nF (f.set k.toNat 1)+1)+2^(nF (f.set k.toNat 1)+1):=by
    grind
   have ne:nF (f.set k.toNat (-1))=nF (f.set k.toNat 1):=by omega
   have Q:2<=2^(nF (f.set k.toNat 1)+1):=by omega
   rw[if_neg (by rw[L];omega)];have S:(gG (dq p en s f) a k).err=0:=by show(dq p en s f).err=0;rw[J,t]
   grind
 intro n;induction n with
 |zero=>
  intro s a f b G t u;exact l b t u λ{s a g} _ h _ _=>by omega;|succ n R=>
  intro s a f b G t u;exact l b t u λ{s a g} E N v w=>R E (by omega) v w
structure dJ where
 p:bn
 ch:List Int
 val:Int
 found:Bool
 en:Option Int
 k1:Nat
 k2:Nat
 most:Int
 err:Int
 prf:List dj
 fx:List Int
def dJ.cs (x:dJ) (e:SV) (i j:Nat):List SV:=[.row (.i .i64) x.ch,.si .i64 x.val,.sb x.found,e,.ow i x.k1 5,.ow j x.k2 1,.si .i64 x.most,.si .i64 x.err]
def dJ.yN (x:dJ):cj:=[.cells (x.p.ss++x.cs (.fn (.func 70) [] []) 1 2) 126 28 false,.row bF x.prf 108 true,.row (.i .i64) x.fx 3 true]
def dJ.yO (x:dJ) (m:Int):cj:=[.cells (x.p.ss++x.cs (.fn (.func 116) [] [.ptr 1 0 1]) 2 3) 126 28 false,.cells [.si .i64 m] 2 1 false,.row bF x.prf 108 true,.row (.i .i64) x.fx 3 true]
def dJ.gQ (x:dJ):cj:=match x.en with
 |none=>x.yN
 |some m=>x.yO m
def KG:cj->Option dJ
 |[.cells cs 126 28 false,.row s1 l1 108 true,.row s2 l2 3 true]=>match cs.drop 20 with
  |[c,v,b,.fn (.func 70) [] [],.ow 1 k1 5,.ow 2 k2 1,mo,er]=>match vU (cs.take 20),jH (.i .i64) c,v.int .i64,b.boo,mo.int .i64,er.int .i64 with
   |some p,some c,some v,some b,some mo,some er=>match iH s1 bF l1,iH s2 (.i .i64) l2 with
    |some l1,some l2=>some ⟨p,c,v,b,none,k1,k2,mo,er,l1,l2⟩
    |_,_=>none
   |_,_,_,_,_,_=>none
  |_=>none
 |[.cells cs 126 28 false,.cells [m] 2 1 false,.row s1 l1 108 true,.row s2 l2 3 true]=>match cs.drop 20 with
  |[c,v,b,.fn (.func 116) [] [.ptr 1 0 1],.ow 2 k1 5,.ow 3 k2 1,mo,er]=>match vU (cs.take 20),jH (.i .i64) c,v.int .i64,b.boo,mo.int .i64,er.int .i64 with
   |some p,some c,some v,some b,some mo,some er=>match iH s1 bF l1,iH s2 (.i .i64) l2,m.int .i64 with
    |some l1,some l2,some m=>some ⟨p,c,v,b,some m,k1,k2,mo,er,l1,l2⟩
    |_,_,_=>none
   |_,_,_,_,_,_=>none
  |_=>none
 |_=>none
theorem aeX {o:cj} {x:dJ} (h:KG o=some x):gO o=gO x.gQ:=by
 unfold KG at h;split at h
 ·rename_i cs s1 l1 s2 l2;split at h
  ·rename_i c v b k1 k2 mo er hd;split at h
   ·rename_i p c' v' b' mo' er' h1 h2 h3 h4 h5 h6;split at h
    ·rename_i l1' l2' g1 g2;simp only[γ] at h;subst h;obtain⟨rfl,e1⟩:=mH g1;obtain⟨rfl,e2⟩:=mH g2;cases e1;cases e2;have e3:gL cs=gL p.ss++gL [c,v,b,.fn (.func 70) [] [],.ow 1 k1 5,.ow 2 k2 1,mo,er]:=by
      rw[<-hd,<-Ac h1,<-uj,γK]
     simp only[dJ.gQ,dJ.yN,dJ.cs,gO,ξ,γv,bq.g,uj,e3];simp only[gL,o8 h2,iO h3,vC h4,iO h5,iO h6,γF]
    ·cases h
   ·cases h
  ·cases h
 ·rename_i cs m s1 l1 s2 l2;split at h
  ·rename_i c v b k1 k2 mo er hd;split at h
   ·rename_i p c' v' b' mo' er' h1 h2 h3 h4 h5 h6;split at h
    ·rename_i l1' l2' m' g1 g2 g3;simp only[γ] at h;subst h;obtain⟨rfl,e1⟩:=mH g1;obtain⟨rfl,e2⟩:=mH g2;cases e1;cases e2;have e3:gL cs=gL p.ss++gL [c,v,b,.fn (.func 116) [] [.ptr 1 0 1],.ow 2 k1 5,.ow 3 k2 1,mo,er]:=by
      rw[<-hd,<-Ac h1,<-uj,γK]
     simp only[dJ.gQ,dJ.yO,dJ.cs,gO,ξ,γv,bq.g,uj,e3];simp only[gL,o8 h2,iO h3,vC h4,iO h5,iO h6,iO g3,γF]
    ·cases h
   ·cases h
  ·cases h
 ·cases h
theorem ae2 {p q:bn} (h:gL p.ss=gL q.ss):p=q:=dO.inj p q (by grind[dO,γF])
theorem ae3 {x y:dJ} (h:gO x.gQ=gO y.gQ):x=y:=by
 obtain⟨p,E,u,b,J,H,G,k,o,A,L⟩:=x;obtain⟨B,n,d,a,l,r,v,c,f,q,C⟩:=y;have w:∀{e I:SV} {i j:Nat},gL (p.ss++(dJ.mk p E u b J H G k o A L).cs e i j)=gL (B.ss++(dJ.mk B n d a l r v c f q C).cs I i j)->p=B/\E=n/\u=d/\b=a/\H=r/\G=v/\k=c/\o=f:=by
  intro e I i j h;rw[uj,uj] at h;obtain⟨z,t⟩:=List.append_inj h (by rw[jW,jW];rfl);simp only[dJ.cs,gL,γF,Γ,δd,Value.int.injEq,Value.bool.injEq,AV.os.injEq,δ5,and_true,true_and] at t;grind[ae2,pv]
 cases J with
 |none=>
  cases l with
  |none=>
   simp only[dJ.gQ,dJ.yN,gO,ξ,γv,bq.g,Γ,bR.cells.injEq,and_true] at h;obtain⟨z,t,D⟩:=h;obtain⟨rfl,rfl,rfl,rfl,rfl,rfl,rfl,rfl⟩:=w z;rw[pv (s:=bF) t,pv (s:=.i .i64) D];|some K=>
   have:=congrArg γc h;simp_all[dJ.gQ,dJ.yN,dJ.yO,gO]
 |some m=>
  cases l with
  |none=>
   have:=congrArg γc h;simp_all[dJ.gQ,dJ.yN,dJ.yO,gO];|some K=>
   simp only[dJ.gQ,dJ.yO,gO,ξ,γv,bq.g,Γ,bR.cells.injEq,and_true] at h;obtain⟨z,F,t,D⟩:=h;obtain⟨rfl,rfl,rfl,rfl,rfl,rfl,rfl,rfl⟩:=w z;simp only[gL,γF,Γ,δd,Value.int.injEq,and_true,true_and] at F;subst F;rw[pv (s:=bF) t,pv (s:=.i .i64) D]
def E0 (f:FuncId) (c:Type) (A:qC c) (i:dJ->c->Prop) (e:dJ->c->SV) (out:dJ->c->dJ):dH where
 f:=f;α:=dJ×c;put a:=.ptr 0 0 28::A.put a.2;st a:=a.1.gQ;dec v o:=match v with
  | .ptr 0 0 28::r=>match KG o,A.dec r with
   |some s,some b=>some (s,b)
   |_,_=>none
  |_=>none;ok v o a h:=by
  split at h
  ·split at h
   ·rename_i d g;simp only[γ] at h;subst h;exact⟨by simp only[gL,A.ok _ _ g],aeX d⟩
   ·cases h
  ·cases h
 inj a b d g:=by
  simp only[gL,Γ,true_and] at d;exact Prod.ext (ae3 g) (A.inj _ _ d)
 dom a:=i a.1 a.2;res a:=e a.1 a.2;out a:=(out a.1 a.2).gQ
def cz (e:Option Int) (v:Int):Bool:=match e with
 |none=>false
 |some m=>decide (m<=v)
def dJ.s (x:dJ):dc:=⟨x.ch,x.val,x.found,x.prf,x.err⟩
def dJ.upd (x:dJ) (s:dc):dJ:=⟨x.p,s.ch,s.val,s.found,x.en,s.prf.length,x.k2,x.most,s.err,s.prf,x.fx⟩
structure ft (x:dJ):Prop where
 f:eL x.p x.fx
 k1:x.k1=x.prf.length
 k2:x.k2=x.fx.length
 v0:0<=x.val
 v1:x.val<=9223372036854775806
 m0:1<=x.most
 m1:x.most<=65536
 l:x.prf.length<=65536
 c:x.ch.length<=9223372036854775807
def KH:dH where
 f:=70;α:=Alloc;put a:=[nA.put a];st _:=[];dec v o:=match v,o with
  |[a],[]=>nA.dec a
  |_,_=>none;ok v o a h:=by
  split at h;·exact⟨by simp only[gL,nA.ok _ _ h],rfl⟩
  ·cases h
 inj a b h1 _:=by
  simp only[gL,Γ,and_true] at h1;exact nA.inj _ _ h1
 dom _:=True;res _:=.sb false;out _:=[]
theorem h438:ef Tryz.prog KH:=by
 refine lz (L:=[]) (W:=[]) KH lk (by simp) (by simp) ?_;rintro(a:Alloc) -;refine bQ ((δh false).same (γA false)/\True) (by kernel_rfl) ?_;simp_all
def KI:dH where
 f:=116;α:=Alloc×Int;put a:=[nA.put a.1,.ptr 0 0 1];st a:=[.cells [.si .i64 a.2] 2 1 false];dec v o:=match v,o with
  |[a,.ptr 0 0 1],[.cells [m] 2 1 false]=>match nA.dec a,m.int .i64 with
   |some a,some m=>some (a,m)
   |_,_=>none
  |_,_=>none;ok v o a h:=by
  split at h
  ·split at h
   ·rename_i h1 h2;simp only[γ] at h;subst h;exact⟨by simp only[gL,nA.ok _ _ h1],by simp only[gO,ξ,γv,bq.g,gL,iO h2,γF]⟩
   ·cases h
  ·cases h
 inj a b h1 h2:=by
  simp only[gL,Γ,and_true] at h1;simp only[gO,ξ,γv,bq.g,gL,γF,Γ,bR.cells.injEq,δd,Value.int.injEq,and_true,true_and] at h2;exact Prod.ext (nA.inj _ _ h1) h2
 dom _:=True;res a:=.sb (decide (a.2<=a.1.value));out a:=[.cells [.si .i64 a.2] 2 1 false]
theorem h442:ef Tryz.prog KI:=by
 refine lz (L:=[]) (W:=[]) KI lk (by simp) (by simp) ?_;rintro⟨a,m⟩ -;refine bQ (let b:=bq.cells [γd .i64 m] 2 1 false;(γA (decide (m<=a.value))).same (γA (decide (m<=a.value)))/\b.same b/\True) (by kernel_rfl) ?_;conv=>zeta
 exact⟨rfl,rfl,trivial⟩
def Br:dH:=E0 71 Alloc (.one nA) (λx _=>x.k1=x.prf.length) (λ_ _=> .bI []) λx a=>x.upd (dX (cz x.en) x.s a)
theorem h439:ef Tryz.prog Br:=by
 refine lz (L:=[]) (W:=[KH,KI]) Br lk (by simpa using⟨h438,h442⟩) (by simp) ?_;rintro⟨⟨p,ch,val,found,en,k1,k2,most,err,prf,fx⟩,a⟩ hk;have hk:k1=prf.length:=hk;subst hk;have e1:∀en:Int->Bool,val<a.value->dX en ⟨ch,val,found,prf,err⟩ a=⟨a.chosen,a.value,found||en a.value,prf,err⟩:=λen h=>if_pos h;have e2:∀en:Int->Bool,¬val<a.value->dX en ⟨ch,val,found,prf,err⟩ a=⟨ch,val,found,prf,err⟩:=λen h=>if_neg h;cases en with
 |none=>
  refine bQ (let b:=γd .i64;let c:=bq.row;let d:=bq.cells;let e:=Ω;let f:=SV.bI;let k:=b p.supply.a0;let l:=b p.supply.a1;let m:=b p.supply.a2;let n:=b p.supply.a3;let o:=b p.supply.a4;let q:=b p.supply.a5;let r:=b p.opn.a0;let s:=b p.opn.a1;let t:=b p.opn.a2;let v:=b p.opn.a3;let w:=b p.opn.a4;let x:=b p.opn.a5;let y:=b p.cls.a0;let z:=b p.cls.a1;let A:=b p.cls.a2;let B:=b p.cls.a3;let C:=b p.cls.a4;let D:=b p.cls.a5;let h:=bp.i .i64;let E:=e h p.classes;let F:=e bp.off p.offers;let G:=SV.fn (Fn.func 70) [] [];let H:=γZ 2 k2 1;let I:=b most;let J:=[G,γZ 1 prf.length 5,H,I,b err];let g:=dX (cz none) (dc.mk ch val found prf err) a;let K:=d [k,l,m,n,o,q,r,s,t,v,w,x,y,z,A,B,C,D,E,F,e h g.ch,b g.val,γA g.found,G,γZ 1 g.prf.length 5,H,I,b g.err] 126 28 false;let j:=c h fx 3 true;let L:=decide (val<a.value);let M:=λ(u u_1:Bool) (u_2:List Int) (u_3:Int) (u_4:SV) ↦u=u_1->(f []).same (f [])/\(d (k::l::m::n::o::q::r::s::t::v::w::x::y::z::A::B::C::D::E::F::e h u_2::b u_3::u_4::J) 126 28 false).same K/\(c bF prf 108 true).same (c bF g.prf 108 true)/\j.same j/\True;(L=true->M found true a.chosen a.value (δh true)/\(found=false->True/\(f []).same (f [])/\(d (k::l::m::n::o::q::r::s::t::v::w::x::y::z::A::B::C::D::E::F::e h a.chosen::b a.value::γA false::J) 126 28 false).same K/\(c bF prf 108 true).same (c bF g.prf 108 true)/\j.same j/\True))/\M L false ch val (γA found)) (by kernel_rfl) ?_;conv=>zeta
  refine⟨λh=>?_,λh=>?_⟩
  ·simp only[e1 _ (of_decide_eq_true h)];refine⟨λhf=>?_,λhf=>?_⟩
   ·subst hf;exact⟨rfl,rfl,rfl,rfl,trivial⟩
   ·subst hf;exact⟨trivial,rfl,rfl,rfl,rfl,trivial⟩
  ·simp only[e2 _ (of_decide_eq_false h)];exact⟨rfl,rfl,rfl,rfl,trivial⟩;|some m=>
  refine bQ (let b:=γd .i64;let c:=bp.i .i64;let d:=bq.cells;let e:=Ω;let f:=bq.row;let g:=γZ;let h:=γQ;let j:=SV.bI;let k:=γA;(decide (val<a.value)=true->(found=true->(j []).same (j [])/\(d [b p.supply.a0,b p.supply.a1,b p.supply.a2,b p.supply.a3,b p.supply.a4,b p.supply.a5,b p.opn.a0,b p.opn.a1,b p.opn.a2,b p.opn.a3,b p.opn.a4,b p.opn.a5,b p.cls.a0,b p.cls.a1,b p.cls.a2,b p.cls.a3,b p.cls.a4,b p.cls.a5,e (c) p.classes,e bp.off p.offers,e (c) a.chosen,b a.value,δh true,SV.fn (Fn.func 116) [] [h 1 0 1],g 2 prf.length 5,g 3 k2 1,b most,b err] 126 28 false).same (d [b p.supply.a0,b p.supply.a1,b p.supply.a2,b p.supply.a3,b p.supply.a4,b p.supply.a5,b p.opn.a0,b p.opn.a1,b p.opn.a2,b p.opn.a3,b p.opn.a4,b p.opn.a5,b p.cls.a0,b p.cls.a1,b p.cls.a2,b p.cls.a3,b p.cls.a4,b p.cls.a5,e (c) p.classes,e bp.off p.offers,e (c) (dX (cz (some m)) (dc.mk ch val found prf err) a).ch,b (dX (cz (some m)) (dc.mk ch val found prf err) a).val,k (dX (cz (some m)) (dc.mk ch val found prf err) a).found,SV.fn (Fn.func 116) [] [h 1 0 1],g 2 (dX (cz (some m)) (dc.mk ch val found prf err) a).prf.length 5,g 3 k2 1,b most,b (dX (cz (some m)) (dc.mk ch val found prf err) a).err] 126 28 false)/\(d [b m] 2 1 false).same (d [b m] 2 1 false)/\(f bF prf 108 true).same (f bF (dX (cz (some m)) (dc.mk ch val found prf err) a).prf 108 true)/\(f (c) fx 3 true).same (f (c) fx 3 true)/\True)/\(found=false->True/\(j []).same (j [])/\(d [b p.supply.a0,b p.supply.a1,b p.supply.a2,b p.supply.a3,b p.supply.a4,b p.supply.a5,b p.opn.a0,b p.opn.a1,b p.opn.a2,b p.opn.a3,b p.opn.a4,b p.opn.a5,b p.cls.a0,b p.cls.a1,b p.cls.a2,b p.cls.a3,b p.cls.a4,b p.cls.a5,e (c) p.classes,e bp.off p.offers,e (c) a.chosen,b a.value,k (decide (m<=a.value)),SV.fn (Fn.func 116) [] [h 1 0 1],g 2 prf.length 5,g 3 k2 1,b most,b err] 126 28 false).same (d [b p.supply.a0,b p.supply.a1,b p.supply.a2,b p.supply.a3,b p.supply.a4,b p.supply.a5,b p.opn.a0,b p.opn.a1,b p.opn.a2,b p.opn.a3,b p.opn.a4,b p.opn.a5,b p.cls.a0,b p.cls.a1,b p.cls.a2,b p.cls.a3,b p.cls.a4,b p.cls.a5,e (c) p.classes,e bp.off p.offers,e (c) (dX (cz (some m)) (dc.mk ch val found prf err) a).ch,b (dX (cz (some m)) (dc.mk ch val found prf err) a).val,k (dX (cz (some m)) (dc.mk ch val found prf err) a).found,SV.fn (Fn.func 116) [] [h 1 0 1],g 2 (dX (cz (some m)) (dc.mk ch val found prf err) a).prf.length 5,g 3 k2 1,b most,b (dX (cz (some m)) (dc.mk ch val found prf err) a).err] 126 28 false)/\(d [b m] 2 1 false).same (d [b m] 2 1 false)/\(f bF prf 108 true).same (f bF (dX (cz (some m)) (dc.mk ch val found prf err) a).prf 108 true)/\(f (c) fx 3 true).same (f (c) fx 3 true)/\True))/\(decide (val<a.value)=false->(j []).same (j [])/\(d [b p.supply.a0,b p.supply.a1,b p.supply.a2,b p.supply.a3,b p.supply.a4,b p.supply.a5,b p.opn.a0,b p.opn.a1,b p.opn.a2,b p.opn.a3,b p.opn.a4,b p.opn.a5,b p.cls.a0,b p.cls.a1,b p.cls.a2,b p.cls.a3,b p.cls.a4,b p.cls.a5,e (c) p.classes,e bp.off p.offers,e (c) ch,b val,k found,SV.fn (Fn.func 116) [] [h 1 0 1],g 2 prf.length 5,g 3 k2 1,b most,b err] 126 28 false).same (d [b p.supply.a0,b p.supply.a1,b p.supply.a2,b p.supply.a3,b p.supply.a4,b p.supply.a5,b p.opn.a0,b p.opn.a1,b p.opn.a2,b p.opn.a3,b p.opn.a4,b p.opn.a5,b p.cls.a0,b p.cls.a1,b p.cls.a2,b p.cls.a3,b p.cls.a4,b p.cls.a5,e (c) p.classes,e bp.off p.offers,e (c) (dX (cz (some m)) (dc.mk ch val found prf err) a).ch,b (dX (cz (some m)) (dc.mk ch val found prf err) a).val,k (dX (cz (some m)) (dc.mk ch val found prf err) a).found,SV.fn (Fn.func 116) [] [h 1 0 1],g 2 (dX (cz (some m)) (dc.mk ch val found prf err) a).prf.length 5,g 3 k2 1,b most,b (dX (cz (some m)) (dc.mk ch val found prf err) a).err] 126 28 false)/\(d [b m] 2 1 false).same (d [b m] 2 1 false)/\(f bF prf 108 true).same (f bF (dX (cz (some m)) (dc.mk ch val found prf err) a).prf 108 true)/\(f (c) fx 3 true).same (f (c) fx 3 true)/\True)) (by kernel_rfl) ?_;refine⟨λh=>?_,λh=>?_⟩
  ·simp only[e1 _ (of_decide_eq_true h)];refine⟨λhf=>?_,λhf=>?_⟩
   ·subst hf;exact⟨rfl,rfl,rfl,rfl,rfl,trivial⟩
   ·subst hf;exact⟨trivial,rfl,rfl,rfl,rfl,rfl,trivial⟩
  ·simp only[e2 _ (of_decide_eq_false h)];exact⟨rfl,rfl,rfl,rfl,rfl,trivial⟩
theorem ae4 {p:bn} {f:List Int} {d:Int} (h:f.length=p.offers.length):dS p.offers.length (bE f d):=⟨uN,λi a=>by grind[kP]⟩
theorem yP {a:Type} {l:List a} {i:Nat} {x d:a} (h:l[i]?=some x):bj l i d=x/\i<l.length:=by
 grind[bj]
theorem jh.top {p:bn} {v:Int} {t:List dj} {a lo b:Nat} {f:List Int} (h:jh p v t a f lo b):a<t.length/\(lo<b->b<=t.length):=by
 induction h with
 |bnd c _ _=>grind;|con c _=>grind;|@tf a f lo d b k c _ _ _ g e i j=>
  omega
section
variable {p:bn} {v:Int} {t:List dj} {a lo mid hi n:Nat} {f:List Int} {k:Int} {s:List Bool}
end
end Go.Vi
namespace Go.Proofs.YtbnhiekmnpikhaaGreat
open Go.ChangeShapes Go.WideShapes Go.ChangeAt Go.RowKit Go.Vi
theorem ae5 {H:Type} {enc:TypeId×Value->H} {w:World} {spare:Nat->Bool} {held:Bool} {fuel:Nat} {cs:List Value} {x:DataW H×List MemPlace} (h:DataW.trod enc Tryz.prog w 0 spare held fuel 53 cs=some x):
  ∃n:Int,(0<=n/\n<=18446744073709551615)/\cs=[.int .u64 n]:=by
 obtain⟨n,rfl,_,hw⟩:=DataW.trod_int Tryz.underlying53 h;simp only[Lit.wf,θ,decide_eq_true_eq] at hw;exact⟨n,hw,rfl⟩
theorem ae6 {W:World} (n:Int):bw kh W [] [] ((eU .u64).put n).g (.int .u64 n):=by
 simp[eU,γF,bw,Value.oneCell']
end Go.Proofs.YtbnhiekmnpikhaaGreat
namespace Go.Vi
open Go.Proofs
theorem E1 {a b:bC} (h:∀k,k<6->a.at k<=b.at k):a.le b=true:=by
 have i:=h 0 (by omega);have c:=h 1 (by omega);have d:=h 2 (by omega);have f:=h 3 (by omega);have g:=h 4 (by omega);have e:=h 5 (by omega);simp_all[bC.at,bj,bC.le_iff]
theorem ae7 {p:bn} {L:List Off} (d:(L.map Off.bX).Nodup) (c:fZ p L=true):gA p L:=by
 refine⟨d,E1 λk a=>?_,E1 λk a=>?_⟩
 ·have h:=pd.1 c (p.classes.length+k) (by grind[dh]);rw[show(((p.classes.length+k:Nat)):Int)=p.classes.length+k by omega,QK a] at h;rw[nB,γO];have:cZ p L (p.classes.length+k)=(L.map ((λb=>bC.at b k)∘Off.want)).sum:=by
   unfold cZ;congr 1;simp_all[QI]
  omega
 ·have h:=pd.1 c (p.classes.length+6+k) (by grind[dh]);rw[show(((p.classes.length+6+k:Nat)):Int)=p.classes.length+6+k by omega,QL a] at h;rw[nB,γO];have:cZ p L (p.classes.length+6+k)=(L.map ((λb=>bC.at b k)∘eV p)).sum:=by
   unfold cZ;congr 1;simp_all[QJ]
  omega
theorem UA {l:List Off}:∀{t:List Int} {a:Int} {r:List Off}, -1<=a->eh l a t=some r->t.Pairwise (·<·)/\∀j∈t,a<j/\j<l.length
 |[],_,_,_,_=>by simp;|i::t,a,r,g,h=>by
  simp only[eh] at h;split at h;·cases h
  ·rename_i k;obtain⟨f,d,rfl⟩:=ε.1 h;obtain⟨e,c⟩:=UA (by omega) d;refine⟨γu.2 ⟨λj b=>(c j b).1,e⟩,λj b=>?_⟩;grind
def rR (p:bn) (t:List Int):Prop:=mJ 0 p.offers.length t/\gA p (cC p t)
theorem uQ {p:bn} (c:bz p=0) {t:List Int}:cO p t=0↔rR p t:=by
 refine⟨λh=>?_,λh=>QP c h.1 h.2⟩;have e:=abg h;obtain⟨i,a,l,m,o⟩:=Ik h;obtain⟨r,d⟩:=Option.isSome_iff_exists.1 a;obtain⟨f,g⟩:=UA (by omega) d;have n:dU p t=cC p t:=by grind[dU,DR]
 have b:fZ p (cC p t)=true:=by
  simp_all[cO]
 exact⟨⟨f,λj k=>by simp_all⟩,ae7 e b⟩
theorem ae8 {p:bn} (a:Good p):rR p []:=⟨⟨by simp,by simp⟩,of_decide_eq_true (Qx a)⟩
theorem KJ {p:bn} (a:bz p=0) {t:List Int} (h:rR p t):ek p t=cM (cC p t):=by
 grind[uQ,abf,Ak,DO]
theorem ae9 {p:bn} (c:bz p=0) {L:List Off} (b:gA p L) (d:∀x∈L,x∈p.offers):cM L<=rH p (allM p):=by
 have a:=dQ c;have f:=Aj a.1;rw[QT c (m:=allM p) (by grind[allM]) (by grind[allM])];refine DF a ⟨b.1,λx e=>?_,b.2.1,b.2.2⟩;have:=a.2.2.2.2 x (d x e);grind[abk]
theorem afa {p:bn} (c:bz p=0):∃L,gA p L/\(∀x∈L,x∈p.offers)/\cM L=rH p (allM p):=by
 have a:=dQ c;have f:=Aj a.1;rw[QT c (m:=allM p) (by grind[allM]) (by grind[allM])];have h:=bC.iP.1 a.2.2.1;have g:=bC.iP.1 a.2.2.2.1;obtain⟨L,b,e⟩:=DG a (QB (allM p)) (l:=p.supply) (o:=p.opn) (by grind[bC.le_iff,bC.zero]) (by grind[bC.le_iff,bC.zero]);exact⟨L,⟨b.nd,b.w,b.o⟩,λx d=>(b.mem x d).1,e⟩
open Go.Proofs.YtbnhiekmnpikhaaGreat.Ir
def iE (p:bn):List Int:=δ p.offers.length 0
theorem yQ {n:Nat}:nF (δ n 0)=n:=by
 have e:bE (δ n 0) 0=df n:=by
  simp_all[bE,iV,cT]
 grind[iz]
theorem oJ {p:bn} (a:bz p=0):eL p (iE p) where
 c:=a;l:=γE;r:=by
  unfold jN;rw[τ];intro x b;rw[List.eq_of_mem_replicate b];decide
def kQ (p:bn) (c:List Int):dc:=dX (cz none) (dX (cz none) ⟨c,ek p c,false,[zN],0⟩ (gB p c)) (gB p (jY p))
noncomputable def iL (p:bn) (c:List Int) (a:Int):dc:=dF p (cz none) a p.offers.length (kQ p c) 0 (iE p)
noncomputable def ky (p:bn) (c:List Int) (a:Int):Int:=if cO p c≠0 then cO p c else if a<1\/65536<a then 4 else(iL p c a).err
def kR (p:bn) (m:Int):dc:=dX (cz (some m)) ⟨[],m - 1,false,[zN],0⟩ (gB p (jY p))
noncomputable def gd (p:bn) (m a:Int):dc:=dF p (cz (some m)) a p.offers.length (kR p m) 0 (iE p)
noncomputable def ji (p:bn) (m a:Int):Int:=if bz p≠0 then bz p else if a<1\/65536<a then 4 else if m<=0 then 0 else if(gd p m a).found=true then 0 else(gd p m a).err
noncomputable def j5 (p:bn) (m a:Int):Bool:=decide (ji p m a=0)&&(decide (m<=0)||(gd p m a).found)
noncomputable def oK (p:bn) (m a:Int):Alloc:=if j5 p m a=true/\0<m then⟨(gd p m a).ch,(gd p m a).val⟩ else⟨[],0⟩
end Go.Vi
