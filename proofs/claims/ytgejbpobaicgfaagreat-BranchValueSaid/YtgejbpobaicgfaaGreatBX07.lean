/-
  Contracts: which offers fit together (the reference).
  Conditions: none.
-/
import Derived.Test.YtgejbpobaicgfaaGreatBX06
import Derived.KernelRfl
import Derived.Test.YtgejbpobaicgfaaGreatProg
import Derived.Shelf.Sort.AssemblyIn
import Derived.Shelf.SlicesE.Clone
import Derived.Shelf.SlicesE.Delete
import Derived.Sort.EveryDepth
import Derived.Sort.OwnSortedInts
import Derived.WalkKit
import Derived.Deep.LoopGhost
import Derived.Lib.Walk
import Derived.Lib.SliceRun
import Derived.Shelf.RegionOpenPlain
set_option maxRecDepth 100000
set_option maxHeartbeats 4000000
set_option linter.all false
open And renaming intro->γe
open BitVec renaming ofInt->γq
open Go.Vi.AV renaming sc->δi
open Go.Vi.AV.os renaming injEq->δ7
open Go.Vi.SV renaming si->γa,row->Ξ,il->γu,agg->γL,ow->γQ
open Int renaming reduceToNat->εh,reduceLT->εT,reduceAdd->εI,toNat_zero->εs,toNat_one->εJ,le_trans->ζb,pow_succ->γx,mul_add->εy,toNat_natCast->γm,add_comm->ζE,emod_nonneg->γ8,emod_lt_of_pos->γO,ediv_eq_zero_of_lt->δQ,emod_eq_of_lt->δm,eq_ofNat_of_zero_le->δI,mul_nonneg->γh,mul_le_mul->δt,mul_le_mul_of_nonneg_left->ν,le_of_lt->φ,mul_le_mul_of_nonneg_right->γG
open List renaming take->ω,take_length->τ,map_append->γj,map_cons->ψ,map_nil->γy,mem_singleton->δX,mem_map->γk,getElem?_cons_zero->γB,getElem?_cons_succ->γn,pairwise_cons->γH,mem_cons->γX,nodup_cons->δx,map_map->δq,mem_append->γt,ext_getElem?->δc,length->γb,getElem?_map->δd,getElem?_eq_some_iff->ζ,replicate->δ,cons_append->γJ,length_cons->γz,range->Φ,range_succ->εi,take_of_length_le->Ω,replicate_zero->εZ,drop->γ1,drop_of_length_le->δP,drop_zero->δK,mem_of_mem_drop->γY
open List.cons renaming injEq->Δ
open Nat renaming reduceEqDiff->δU,reduceAdd->εK,reduceSub->εL,le_refl->Θ,zero_le->εY,lt_of_lt_of_le->γo
open Option renaming getD_some->γA,isSome_iff_exists->γp,map_eq_some_iff->ε
open Option.some renaming injEq->γ
namespace Go.Vi
open Go.Proofs.YtgejbpobaicgfaaGreat.Ir
open Go.Proofs
theorem h111:Holds Tryz.prog apm:=by
 refine kh (L:=[]) apm aCZ (by simp) ?_
 rintro⟨p,l⟩ ⟨hg,hl,d2⟩
 simp only at hg hl d2
 refine gp (let a:=γa .i64;let b:=(0:Int);let d:=cJ.cells;let f:=(6:Int);let h:=SV.bl false;let k:=ie .i64;let m:=SV.sb;let r:=SV.ptr;let s:=(1:Int);let t:=Ξ (cn.i .i64) l;let y:=r 0 0 20;let z:=r 1 0 6;let B:=r 2 0 6;let H:=γu .i64 0;let Z:=d (dd.ss p) 27 20 false;let O:=d [H,H,H,H,H,H] 23 6 false;let J:=aa0 p l b;let L:=aa1 p l b;let N:=(↑l.length:Int);let C:=r 3 0 8;let c6:=cn.off.dflt;let h6:=[p.cls.a0,p.cls.a1,p.cls.a2,p.cls.a3,p.cls.a4,p.cls.a5];let h7:=[p.supply.a0,p.supply.a1,p.supply.a2,p.supply.a3,p.supply.a4,p.supply.a5];let g9:=[p.opn.a0,p.opn.a1,p.opn.a2,p.opn.a3,p.opn.a4,p.opn.a5];(((t.same t/\y.same y/\z.same z/\B.same B/\H.same (a 0)/\True)/\Z.same Z/\O.same (d [a J.a0,a J.a1,a J.a2,a J.a3,a J.a4,a J.a5] 23 6 false)/\O.same (d [a L.a0,a L.a1,a L.a2,a L.a3,a L.a4,a L.a5] 23 6 false)/\True)/\b<=b/\b<=N/\abw p (rc p []))/\∀(x:Int),let g6:=decide (x<(↑l.length:Int));let d0:=bC l x.toNat b;let d1:=p.offers.length;let w:=aa0 p l x;let c4:=d [a w.a0,a w.a1,a w.a2,a w.a3,a w.a4,a w.a5] 23 6 false;let A:=aa1 p l x;let c8:=d [a A.a0,a A.a1,a A.a2,a A.a3,a A.a4,a A.a5] 23 6 false;let e0:=bC p.offers d0.toNat c6;let F:=e0.jV;let o:=e0.want;let D:=d [a F,a o.a0,a o.a1,a o.a2,a o.a3,a o.a4,a o.a5,a e0.value] 58 8 false;let M:=x+s;let G:=aa0 p l M;let b5:=Zc w G b;let I:=aa1 p l M;let b6:=Zc A I b;let h8:=[o.a0,o.a1,o.a2,o.a3,o.a4,o.a5];let f8:=a M;b<=x/\x<=N/\abw p (rc p (ω x.toNat l))->(g6=true->b<=x/\x<(↑l.length:Int)/\x.toNat<l.length/\b<=d0/\d0<(↑d1:Int)/\d0.toNat<d1/\(((t.same t/\y.same y/\z.same z/\B.same B/\(a x).same (a x)/\C.same C/\H.same (a 0)/\True)/\Z.same Z/\c4.same c4/\c8.same c8/\D.same D/\True)/\b<=b/\b<=x/\∀(j:Nat),(↑j:Int)<b->(bC p.offers (bC l j b).toNat c6).jV≠F)/\∀(v:Int),let d3:=bC l v.toNat b;let f7:=decide ((bC p.offers d3.toNat c6).jV=F);let c1:=v+s;let K:=a x;let f3:=a c1;(b<=v/\v<=x/\∀(j:Nat),(↑j:Int)<v->(bC p.offers (bC l j b).toNat c6).jV≠F)->(decide (v<x)=true->b<=v/\v<(↑l.length:Int)/\v.toNat<l.length/\b<=d3/\d3<(↑d1:Int)/\d3.toNat<d1/\(f7=true->(h).same (m (GU p l)))/\(f7=false->k c1/\((t.same t/\y.same y/\z.same z/\B.same B/\K.same K/\C.same C/\f3.same f3/\True)/\Z.same Z/\c4.same c4/\c8.same c8/\D.same D/\True)/\(b<=c1/\c1<=x/\∀(j:Nat),(↑j:Int)<c1->(bC p.offers (bC l j b).toNat c6).jV≠F)/\(x - c1).toNat<(x - v).toNat))/\(decide (v<x)=false->(((t.same t/\y.same y/\z.same z/\B.same B/\K.same K/\C.same C/\H.same (a 0)/\True)/\Z.same Z/\c4.same (d [a b5.a0,a b5.a1,a b5.a2,a b5.a3,a b5.a4,a b5.a5] 23 6 false)/\c8.same (d [a b6.a0,a b6.a1,a b6.a2,a b6.a3,a b6.a4,a b6.a5] 23 6 false)/\D.same D/\True)/\b<=b/\b<=f/\pfx p G I b)/\∀(c:Int),let q:=Zc w G c;let d8:=bC h8 c.toNat b;let S:=bC [q.a0,q.a1,q.a2,q.a3,q.a4,q.a5] c.toNat b+d8;let f9:=if c.toNat=0 then S else q.a0;let g2:=if c.toNat=1 then S else q.a1;let f4:=if c.toNat=2 then S else q.a2;let f5:=if c.toNat=3 then S else q.a3;let g1:=if c.toNat=4 then S else q.a4;let e6:=if c.toNat=5 then S else q.a5;let d7:=decide (bC h7 c.toNat b<bC [f9,g2,f4,f5,g1,e6] c.toNat b);let d6:=bC g9 c.toNat b;let e:=Zc A I c;let e4:=bC [e.a0,e.a1,e.a2,e.a3,e.a4,e.a5] c.toNat b;let g:=c+s;let d4:=a g;let b9:=Zc w G g;let a8:=Zc A I g;let Y:=e4+d8;let g5:=decide (c<f);let f6:=bC h6 c.toNat b;let f1:=decide (f6≠b);let f2:=decide (f6≠bC p.classes F.toNat b);let e9:=b<=c/\c<f/\c.toNat<6/\b<=c/\c<f/\c.toNat<6/\(d7=true->(h).same (m (GU p l)))/\(d7=false->b<=c/\c<f/\c.toNat<6/\b<=c/\c<f/\c.toNat<6/\(decide (d6<e4)=true->(h).same (m (GU p l)))/\(decide (d6<e4)=false->k g/\((t.same t/\y.same y/\z.same z/\B.same B/\K.same K/\C.same C/\d4.same d4/\True)/\Z.same Z/\(d [a f9,a g2,a f4,a f5,a g1,a e6] 23 6 false).same (d [a b9.a0,a b9.a1,a b9.a2,a b9.a3,a b9.a4,a b9.a5] 23 6 false)/\(d [a e.a0,a e.a1,a e.a2,a e.a3,a e.a4,a e.a5] 23 6 false).same (d [a a8.a0,a a8.a1,a a8.a2,a a8.a3,a a8.a4,a a8.a5] 23 6 false)/\D.same D/\True)/\(b<=g/\g<=f/\pfx p G I g)/\(f - g).toNat<(f - c).toNat));let e7:=λ(u:Bool) ↦decide (d6<bC [if c.toNat=0 then Y else e.a0,if c.toNat=1 then Y else e.a1,if c.toNat=2 then Y else e.a2,if c.toNat=3 then Y else e.a3,if c.toNat=4 then Y else e.a4,if c.toNat=5 then Y else e.a5] c.toNat b)=u;let f0:=λ(u:Bool) ↦d7=u;let e8:=λ(u E:fZ) ↦let n:=Zc u E c;let c3:=bC [n.a0,n.a1,n.a2,n.a3,n.a4,n.a5] c.toNat b+d8;let b3:=Zc u E g;(d [a (if c.toNat=0 then c3 else n.a0),a (if c.toNat=1 then c3 else n.a1),a (if c.toNat=2 then c3 else n.a2),a (if c.toNat=3 then c3 else n.a3),a (if c.toNat=4 then c3 else n.a4),a (if c.toNat=5 then c3 else n.a5)] 23 6 false).same (d [a b3.a0,a b3.a1,a b3.a2,a b3.a3,a b3.a4,a b3.a5] 23 6 false);let g4:=λ(u E:fZ) ↦let b8:=Zc u E c;(d [a b8.a0,a b8.a1,a b8.a2,a b8.a3,a b8.a4,a b8.a5] 23 6 false).same (d [a E.a0,a E.a1,a E.a2,a E.a3,a E.a4,a E.a5] 23 6 false);b<=c/\c<=f/\pfx p G I c->(g5=true->b<=c/\c<f/\c.toNat<6/\b<=c/\c<f/\c.toNat<6/\k S/\b<=c/\c<f/\c.toNat<6/\b<=c/\c<f/\c.toNat<6/\(f1=true->b<=c/\c<f/\c.toNat<6/\b<=F/\F<(↑p.classes.length:Int)/\F.toNat<p.classes.length/\(f2=true->b<=c/\c<f/\c.toNat<6/\b<=c/\c<f/\c.toNat<6/\k Y/\b<=c/\c<f/\c.toNat<6/\b<=c/\c<f/\c.toNat<6/\b<=c/\c<f/\c.toNat<6/\(f0 true->(h).same (m (GU p l)))/\(f0 false->b<=c/\c<f/\c.toNat<6/\b<=c/\c<f/\c.toNat<6/\(e7 true->(h).same (m (GU p l)))/\(e7 false->k g/\((t.same t/\y.same y/\z.same z/\B.same B/\K.same K/\C.same C/\d4.same d4/\True)/\Z.same Z/\e8 w G/\e8 A I/\D.same D/\True)/\(b<=g/\g<=f/\pfx p G I g)/\(f - g).toNat<(f - c).toNat)))/\(f2=false->e9))/\(f1=false->e9))/\(g5=false->k M/\((t.same t/\y.same y/\z.same z/\B.same B/\f8.same f8/\True)/\Z.same Z/\g4 w G/\g4 A I/\True)/\(b<=M/\M<=N/\abw p (rc p (ω M.toNat l)))/\(N - M).toNat<(N - x).toNat)))/\(g6=false->(SV.bl true).same (m (GU p l)))) (by kernel_rfl) ?_
 simp only[vcs,aC0,aC3]
 have c5:∀{k:Int},0<=k->k<l.length->0<=bC l k.toNat 0/\bC l k.toNat 0<p.offers.length:=λh0 h1=>d2 _ (pz (by omega))
 have hw:∀x∈rc p l,x.want.ok=true:=λx hx=>(hg.2.2.2.2 x (alQ hg d2 x hx)).2.2.1
 have ho:∀x∈rc p l,(Ie p x).ok=true:=λx hx=>avl (hw x hx)
 have i4:=fZ.aaZ.1 hg.2.2.1
 have i5:=fZ.aaZ.1 hg.2.2.2.1
 refine⟨⟨⟨⟨rfl,rfl,rfl,rfl,rfl,rfl⟩,⟨rfl,rfl,rfl,rfl,rfl,rfl⟩⟩,by omega,by omega,?_⟩,?_⟩
 ·refine⟨by simp[rc],?_,?_⟩
  all_goals simp_all[fZ.le_iff,rc,Ko]
 rintro i ⟨b0,i0,hF⟩
 refine⟨λb4=>?_,λi6=>?_⟩
 rotate_left
 ·rw[show i.toNat=l.length from by omega,τ] at hF
  simp[GU,hF]
 have e3:=c5 b0 b4
 have g0:bC p.offers (bC l i.toNat 0).toNat cn.off.dflt∈p.offers:=pz (by omega)
 have hx:=hg.2.2.2.2 _ g0
 have i9:=fZ.aaZ.1 hx.2.2.1
 have e1:aa0 p l (i+1)=(aa0 p l i).add (bC p.offers (bC l i.toNat 0).toNat cn.off.dflt).want:=avo Off.want b0 b4
 have e2:aa1 p l (i+1)=(aa1 p l i).add (Ie p (bC p.offers (bC l i.toNat 0).toNat cn.off.dflt)):=avo (Ie p) b0 b4
 have b1:(aa0 p l i).bd 640:=avn Off.want hw hl i.toNat
 have b2:(aa1 p l i).bd 640:=avn (Ie p) ho hl i.toNat
 have m1:fZ.le (aa0 p l (i+1)) _=true:=avm Off.want hw (i+1).toNat
 have m2:fZ.le (aa1 p l (i+1)) _=true:=avm (Ie p) ho (i+1).toNat
 have H:¬(aa0 p l (i+1)).le p.supply=true->false=GU p l:=λh=>by
  symm
  unfold GU;rw[decide_eq_false_iff_not]
  rintro⟨_,q1,_⟩
  grind[fZ.le_iff]
 have J:¬(aa1 p l (i+1)).le p.opn=true->false=GU p l:=λh=>by
  symm
  unfold GU;rw[decide_eq_false_iff_not]
  rintro⟨_,_,q1⟩
  grind[fZ.le_iff]
 refine⟨b0,b4,by omega,e3.1,e3.2,by omega,⟨by omega,by omega,λj hj=>by omega⟩,?_⟩
 rintro k ⟨c7,g8,hk⟩
 refine⟨λi2=>?_,λe5=>?_⟩
 ·have d5:=c5 c7 (by omega)
  refine⟨c7,by omega,by omega,d5.1,d5.2,by omega,λh1=>?_,λh1=>⟨by omega,⟨by omega,by omega,λj hj=>?_⟩,by omega⟩⟩
  ·symm
   unfold GU;rw[decide_eq_false_iff_not]
   rintro⟨hn,_⟩
   have:=List.pairwise_iff_getElem.1 hn k.toNat i.toNat (by simp[rc];omega) (by simp[rc];omega) (by omega)
   apply this
   simp only[rc,List.getElem_map];rw[<-my (d:=0),<-my (d:=0)];exact h1
  ·by_cases d9:(j:Int)<k
   ·exact hk j d9
   ·rw[show j=k.toNat from by omega];exact h1
 have c9:pfx p (aa0 p l (i+1)) (aa1 p l (i+1)) 6->abw p (rc p (l.take (i+1).toNat)):=by
  intro h
  have h0:=h 0 (by decide)
  have h1:=h 1 (by decide)
  have h2:=h 2 (by decide)
  have h3:=h 3 (by decide)
  have h4:=h 4 (by decide)
  have h5:=h 5 (by decide)
  simp only[fZ.l,bC] at h0 h1 h2 h3 h4 h5
  refine⟨?_,?_,?_⟩
  ·rw[Xx (d:=0) b0 b4]
   simp only[rc,γj,ψ,γy]
   refine List.nodup_append.2 ⟨?_,by simp,?_⟩
   ·exact hF.1
   ·intro a ha b hb
    rw[δX.1 hb]
    obtain⟨x,i1,rfl⟩:=γk.1 ha
    obtain⟨y,hy,rfl⟩:=γk.1 i1
    obtain⟨j,hj,rfl⟩:=avi (d:=0) (by omega) hy
    grind
  ·rw[fZ.le_iff]
   exact⟨h0.1,h1.1,h2.1,h3.1,h4.1,h5.1⟩
  ·rw[fZ.le_iff]
   exact⟨h0.2,h1.2,h2.2,h3.2,h4.2,h5.2⟩
 clear hF hk c7 g8 e5 m1 m2 d2 c5 hw ho
 rw[e1,e2] at c9;rw[e1] at H;rw[e2] at J;simp only[e1,e2]
 clear e1 e2 e3 g0
 generalize bC p.offers (bC l i.toNat 0).toNat cn.off.dflt=x at*
 generalize aa0 p l i=T at*
 generalize aa1 p l i=V at*
 have W:(p.cls.a0=0\/p.cls.a0=bC p.classes x.jV.toNat 0)->(Ie p x).a0=0:=λh=>by
  show oc p.cls.a0 x.want.a0 (Xy p x) 0 6=0
  unfold oc
  rw[if_pos ⟨by decide,h⟩]
 have a9:¬(p.cls.a0=0\/p.cls.a0=bC p.classes x.jV.toNat 0)->(Ie p x).a0=x.want.a0:=λh=>by
  show oc p.cls.a0 x.want.a0 (Xy p x) 0 6=x.want.a0
  unfold oc;rw[if_neg λB=>h B.2]
 have Q:(p.cls.a1=0\/p.cls.a1=bC p.classes x.jV.toNat 0)->(Ie p x).a1=0:=λh=>by
  show oc p.cls.a1 x.want.a1 (Xy p x) 1 6=0
  unfold oc
  rw[if_pos ⟨by decide,h⟩]
 have a6:¬(p.cls.a1=0\/p.cls.a1=bC p.classes x.jV.toNat 0)->(Ie p x).a1=x.want.a1:=λh=>by
  show oc p.cls.a1 x.want.a1 (Xy p x) 1 6=x.want.a1
  unfold oc;rw[if_neg λB=>h B.2]
 have N:(p.cls.a2=0\/p.cls.a2=bC p.classes x.jV.toNat 0)->(Ie p x).a2=0:=λh=>by
  show oc p.cls.a2 x.want.a2 (Xy p x) 2 6=0
  unfold oc
  rw[if_pos ⟨by decide,h⟩]
 have a7:¬(p.cls.a2=0\/p.cls.a2=bC p.classes x.jV.toNat 0)->(Ie p x).a2=x.want.a2:=λh=>by
  show oc p.cls.a2 x.want.a2 (Xy p x) 2 6=x.want.a2
  unfold oc;rw[if_neg λB=>h B.2]
 have U:(p.cls.a3=0\/p.cls.a3=bC p.classes x.jV.toNat 0)->(Ie p x).a3=0:=λh=>by
  show oc p.cls.a3 x.want.a3 (Xy p x) 3 6=0
  unfold oc
  rw[if_pos ⟨by decide,h⟩]
 have c2:¬(p.cls.a3=0\/p.cls.a3=bC p.classes x.jV.toNat 0)->(Ie p x).a3=x.want.a3:=λh=>by
  show oc p.cls.a3 x.want.a3 (Xy p x) 3 6=x.want.a3
  unfold oc;rw[if_neg λB=>h B.2]
 have X:(p.cls.a4=0\/p.cls.a4=bC p.classes x.jV.toNat 0)->(Ie p x).a4=0:=λh=>by
  show oc p.cls.a4 x.want.a4 (Xy p x) 4 6=0
  unfold oc
  rw[if_pos ⟨by decide,h⟩]
 have b7:¬(p.cls.a4=0\/p.cls.a4=bC p.classes x.jV.toNat 0)->(Ie p x).a4=x.want.a4:=λh=>by
  show oc p.cls.a4 x.want.a4 (Xy p x) 4 6=x.want.a4
  unfold oc;rw[if_neg λB=>h B.2]
 have O:(p.cls.a5=0\/p.cls.a5=bC p.classes x.jV.toNat 0)->(Ie p x).a5=0:=λh=>by
  show oc p.cls.a5 x.want.a5 (Xy p x) 5 6=0
  unfold oc
  rw[if_pos ⟨by decide,h⟩]
 have c0:¬(p.cls.a5=0\/p.cls.a5=bC p.classes x.jV.toNat 0)->(Ie p x).a5=x.want.a5:=λh=>by
  show oc p.cls.a5 x.want.a5 (Xy p x) 5 6=x.want.a5
  unfold oc;rw[if_neg λB=>h B.2]
 have i8:=hx.1
 have i3:=hx.2.1
 have i7:=hg.1
 generalize hO:Ie p x=P at*
 simp only[fZ.bd] at b1 b2;simp only[fZ.le_iff] at H J
 refine⟨⟨⟨⟨rfl,rfl,rfl,rfl,rfl,rfl⟩,⟨rfl,rfl,rfl,rfl,rfl,rfl⟩⟩,by omega,by omega,λj hj=>by omega⟩,?_⟩
 rintro k ⟨c7,g7,hk⟩
 refine⟨λg3=>?_,λg3=>?_⟩
 rotate_left
 ·have:k=6:=by omega
  subst this
  refine⟨by omega,⟨⟨rfl,rfl,rfl,rfl,rfl,rfl⟩,⟨rfl,rfl,rfl,rfl,rfl,rfl⟩⟩,⟨by omega,by omega,c9 hk⟩,by omega⟩
 have r:bC (T.add x.want).l k.toNat 0<=bC p.supply.l k.toNat 0->bC (V.add P).l k.toNat 0<=bC p.opn.l k.toNat 0->pfx p (T.add x.want) (V.add P) (k+1):=λh1 h2 j hj=>by
  by_cases d9:(j:Int)<k
  ·exact hk j d9
  ·rw[show j=k.toNat from by omega];omega
 have s:=λh=>(H h).symm
 have m:=λh=>(J h).symm
 clear c9 hk H J
 generalize pfx p (T.add x.want) (V.add P) (k+1)=PF at*
 generalize GU p l=R at*
 generalize bC p.classes x.jV.toNat 0=cl at*
 simp only[fZ.add,fZ.l] at*
 have h9:k=0\/k=1\/k=2\/k=3\/k=4\/k=5:=by omega
 clear hg hx hO b4 b0 i0 c7 g7 g3 hl
 rcases h9 with rfl|rfl|rfl|rfl|rfl|rfl
 ·clear Q a6 N a7 U c2 X b7 O c0
  have t:p.supply.a0<T.a0+x.want.a0->R=false:=λh=>s λB=>by
   omega
  have z:p.opn.a0<V.a0+P.a0->R=false:=λh=>m λB=>by
   omega
  clear s m
  have f:T.a0+x.want.a0<=p.supply.a0->V.a0+P.a0<=p.opn.a0->PF:=r
  clear r
  simp only[bC,Zc,εh,εT,εI,δU,if_true,if_false,reduceIte,εs,εJ,εK,εL,γB,γn,γA]
  by_cases hc:p.cls.a0=0\/p.cls.a0=cl
  ·have ho:=W hc
   clear W a9
   repeat' (first|refine γe ?_ ?_|intro _)
   all_goals first
    |trivial
    |omega
    |exact f (by omega) (by omega)
    |exact(t (by omega)).symm
    |exact(z (by omega)).symm
  grind
 ·clear W a9 N a7 U c2 X b7 O c0
  have t:p.supply.a1<T.a1+x.want.a1->R=false:=λh=>s λB=>by
   omega
  have z:p.opn.a1<V.a1+P.a1->R=false:=λh=>m λB=>by
   omega
  clear s m
  have f:T.a1+x.want.a1<=p.supply.a1->V.a1+P.a1<=p.opn.a1->PF:=r
  clear r
  simp only[bC,Zc,εh,εT,εI,δU,if_true,if_false,reduceIte,εs,εJ,εK,εL,γB,γn,γA]
  by_cases hc:p.cls.a1=0\/p.cls.a1=cl
  ·have ho:=Q hc
   clear Q a6
   repeat' (first|refine γe ?_ ?_|intro _)
   all_goals first
    |trivial
    |omega
    |exact f (by omega) (by omega)
    |exact(t (by omega)).symm
    |exact(z (by omega)).symm
  grind
 ·clear W a9 Q a6 U c2 X b7 O c0
  have t:p.supply.a2<T.a2+x.want.a2->R=false:=λh=>s λB=>by
   omega
  have z:p.opn.a2<V.a2+P.a2->R=false:=λh=>m λB=>by
   omega
  clear s m
  have f:T.a2+x.want.a2<=p.supply.a2->V.a2+P.a2<=p.opn.a2->PF:=r
  clear r
  simp only[bC,Zc,εh,εT,εI,δU,if_true,if_false,reduceIte,εs,εJ,εK,εL,γB,γn,γA]
  by_cases hc:p.cls.a2=0\/p.cls.a2=cl
  ·have ho:=N hc
   clear N a7
   repeat' (first|refine γe ?_ ?_|intro _)
   all_goals first
    |trivial
    |omega
    |exact f (by omega) (by omega)
    |exact(t (by omega)).symm
    |exact(z (by omega)).symm
  grind
 ·clear W a9 Q a6 N a7 X b7 O c0
  have t:p.supply.a3<T.a3+x.want.a3->R=false:=λh=>s λB=>by
   omega
  have z:p.opn.a3<V.a3+P.a3->R=false:=λh=>m λB=>by
   omega
  clear s m
  have f:T.a3+x.want.a3<=p.supply.a3->V.a3+P.a3<=p.opn.a3->PF:=r
  clear r
  simp only[bC,Zc,εh,εT,εI,δU,if_true,if_false,reduceIte,εs,εJ,εK,εL,γB,γn,γA]
  by_cases hc:p.cls.a3=0\/p.cls.a3=cl
  ·have ho:=U hc
   clear U c2
   repeat' (first|refine γe ?_ ?_|intro _)
   all_goals first
    |trivial
    |omega
    |exact f (by omega) (by omega)
    |exact(t (by omega)).symm
    |exact(z (by omega)).symm
  grind
 ·clear W a9 Q a6 N a7 U c2 O c0
  have t:p.supply.a4<T.a4+x.want.a4->R=false:=λh=>s λB=>by
   omega
  have z:p.opn.a4<V.a4+P.a4->R=false:=λh=>m λB=>by
   omega
  clear s m
  have f:T.a4+x.want.a4<=p.supply.a4->V.a4+P.a4<=p.opn.a4->PF:=r
  clear r
  simp only[bC,Zc,εh,εT,εI,δU,if_true,if_false,reduceIte,εs,εJ,εK,εL,γB,γn,γA]
  by_cases hc:p.cls.a4=0\/p.cls.a4=cl
  ·have ho:=X hc
   clear X b7
   repeat' (first|refine γe ?_ ?_|intro _)
   all_goals first
    |trivial
    |omega
    |exact f (by omega) (by omega)
    |exact(t (by omega)).symm
    |exact(z (by omega)).symm
  grind
 ·clear W a9 Q a6 N a7 U c2 X b7
  have t:p.supply.a5<T.a5+x.want.a5->R=false:=λh=>s λB=>by
   omega
  have z:p.opn.a5<V.a5+P.a5->R=false:=λh=>m λB=>by
   omega
  clear s m
  have f:T.a5+x.want.a5<=p.supply.a5->V.a5+P.a5<=p.opn.a5->PF:=r
  clear r
  simp only[bC,Zc,εh,εT,εI,δU,if_true,if_false,reduceIte,εs,εJ,εK,εL,γB,γn,γA]
  by_cases hc:p.cls.a5=0\/p.cls.a5=cl
  ·have ho:=O hc
   clear O c0
   repeat' (first|refine γe ?_ ?_|intro _)
   all_goals first
    |trivial
    |omega
    |exact f (by omega) (by omega)
    |exact(t (by omega)).symm
    |exact(z (by omega)).symm
  grind
def ab0 (p:dd) (i:Int):Int:=(bC p.offers i.toNat cn.off.dflt).value
def better (a b:Alloc):Alloc:=if b.value<a.value\/a.value=b.value/\cmpL a.chosen b.chosen<0 then a else b
def HE (p:dd):Nat->Int->Alloc->Alloc->Alloc
 |0,_,_,b=>b
 |k+1,i,a,b=>HE p k (i+1) a (if GU p (a.chosen++[i]) then HE p k (i+1) ⟨a.chosen++[i],a.value+ab0 p i⟩ (better ⟨a.chosen++[i],a.value+ab0 p i⟩ b) else b)
def sX (p:dd) (i:Int):Nat:=(p.offers.length - i).toNat
def ab1 (p:dd) (a:Alloc) (f:Int) (b:Alloc):Alloc:=HE p (sX p f) f a (better a b)
def aei (p:dd) (a:Alloc) (f:Int) (b:Alloc):Prop:=Good p/\0<=f/\f<=p.offers.length/\(∀i∈a.chosen,0<=i/\i<p.offers.length)/\a.chosen.length<=f/\0<=a.value/\a.value<=1000000*f/\b.chosen.length<=160
def extC (n:Nat):fN:=⟨50,dd×Alloc×Int×Alloc,.cons qa (.cons Xh (.cons (sx .i64) (.one Xh))),λa=>aei a.1 a.2.1 a.2.2.1 a.2.2.2/\sX a.1 a.2.2.1<n,
 λa=>Xh.put (ab1 a.1 a.2.1 a.2.2.1 a.2.2.2)⟩
def M4 (n:Nat):List fN:=[extC n,apm,r32]
def aS (s:jD) (id:Nat):Alloc:=match s.o[id]? with
 |some (.cells [r,v] _ _ _)=>⟨(Kz (.i .i64) r).getD [],(v.int .i64).getD 0⟩
 |_=>⟨[],0⟩
def avp (p:dd) (a:Alloc) (f:Int) (b:Alloc):Nat->jY
 |4=> .inv (Int×Alloc) (λx=>⟨[(4,.ptr 0 0 20),(5,.ptr 1 0 2),(7,.ptr 2 0 2),(8,.ptr 3 0 2),(9,.si .i64 x.1)],
   [.cells p.ss 27 20 false,.cells [.row (.i .i64) a.chosen,.si .i64 a.value] 37 2 false,.cells [.row (.i .i64) x.2.chosen,.si .i64 x.2.value] 37 2 false,.cells [.sc (.slice none 0 0),.il .i64 0] 37 2 false]⟩)
   (λs=>(iS s 9,aS s 2)) (λx=>f<=x.1/\x.1<=p.offers.length/\x.2.chosen.length<=160/\ab1 p a f b=HE p (sX p x.1) x.1 a x.2) (λx=>sX p x.1) λ_ _=> .look
 |_=> .look
theorem aC4 {env:_} {e d a:cJ} {c:List Int} {v:Int} {n:_} {m:_} {b:Bool}:aS ⟨env,[e,d,.cells [.row (.i .i64) c,.si .i64 v] n m b,a]⟩ 2=⟨c,v⟩:=rfl
theorem avq {a b:Alloc} {n:Nat} (d:a.chosen.length<=n) (c:b.chosen.length<=n):(better a b).chosen.length<=n:=by
 grind[better]
theorem apo {p:dd}:∀{k:Nat} {i:Int} {a b:Alloc},a.chosen.length<=i->i+k<=160->b.chosen.length<=160->(HE p k i a b).chosen.length<=160
 |0,i,a,b,_,_,h=>h
 |k+1,i,a,b,d,e,c=>by
  simp only[HE]
  apply apo (by omega) (by omega)
  split
  ·apply apo (by simp;omega) (by omega)
   apply avq (by simp;omega) c
  ·exact c
theorem alR {p:dd} {a:Alloc} {f:Int} {b:Alloc} (h:aei p a f b):(ab1 p a f b).chosen.length<=160:=by
 obtain⟨i,k,j,e,g,l,d,c⟩:=h
 have m:=i.2.1
 grind[ab1,apo,sX,avq]
theorem aC5 (n:Nat) (p:dd) (a:Alloc) (f:Int) (b:Alloc) (h:aei p a f b) (hn:sX p f<n+1):
  Vc (fnK (SR (M4 n) aaV.none tyN mtN Da) (avp p a f b) (fG 50) ((extC (n+1)).A.put (p,a,f,b)) λv=>v.same ((extC (n+1)).res (p,a,f,b))):=by
 obtain⟨c,v⟩:=a
 obtain⟨d,w⟩:=b
 refine gp (let a:=γa .i64;let b:=cJ.cells;let e:=Ξ;let g:=ie .i64;let h:=SV.ptr;let j:=(0:Int);let Y:=(↑p.offers.length:Int);let V:=Alloc.mk c v;let T:=ab1 p V f (Alloc.mk d w);let k:=(↑p.offers.length:Int);let y:=0+c.length;let A:=c.length+1;let N:=h 0 0 20;let t:=h 1 0 2;let z:=h 2 0 2;let B:=h 3 0 2;let q:=cn.i .i64;let s:=b [a p.supply.a0,a p.supply.a1,a p.supply.a2,a p.supply.a3,a p.supply.a4,a p.supply.a5,a p.opn.a0,a p.opn.a1,a p.opn.a2,a p.opn.a3,a p.opn.a4,a p.opn.a5,a p.cls.a0,a p.cls.a1,a p.cls.a2,a p.cls.a3,a p.cls.a4,a p.cls.a5,e q p.classes,e cn.off p.offers] 27 20 false;let m:=b [e q c,a v] 37 2 false;let r:=b [SV.sc (Value.slice none 0 0),γu .i64 0] 37 2 false;let G:=a f;let Z:=[(4,N),(5,t),(7,z),(8,B),(9,G)];let M:=aS (jD.mk Z [s,m,m,r]) 2;let X:=b [e q d,a w] 37 2 false;let L:=aS (jD.mk Z [s,m,X,r]) 2;let W:=decide (cmpL c d<j);let C:=∀(x:Int×Alloc),let l:=x.fst+(1:Int);let Q:=a l;let o:=c++[x.fst];let S:=v+(bC p.offers x.fst.toNat cn.off.dflt).value;let a6:=λ(u:Alloc) ↦let U:=b [e q u.chosen,a u.value] 37 2 false;let K:=aS (jD.mk [(4,N),(5,t),(7,z),(8,B),(9,Q)] [s,m,U,r]) 2;g l/\((N.same N/\t.same t/\z.same z/\B.same B/\Q.same Q/\True)/\s.same s/\m.same m/\U.same (b [e q K.chosen,a K.value] 37 2 false)/\r.same r/\True)/\(f<=l/\l<=Y/\K.chosen.length<=160/\T=HE p (sX p l) l V K)/\sX p l<sX p x.fst;f<=x.fst/\x.fst<=Y/\x.snd.chosen.length<=160/\T=HE p (sX p x.fst) x.fst V x.snd->(decide (x.fst<k)=true->0=0/\y*8<=140737488355328/\y<=1000000000000/\c.length=c.length/\A*8<=140737488355328/\A<=1000000000000/\o.length=o.length/\(Good p/\o.length<=160/\∀(i:Int),i∈o->j<=i/\i<Y)/\(GU p o=true->o.length=o.length/\j<=x.fst/\x.fst<k/\x.fst.toNat<p.offers.length/\g S/\g l/\(aei p (Alloc.mk o S) l x.snd/\sX p l<n)/\a6 (ab1 p (Alloc.mk o S) l x.snd))/\(GU p o=false->a6 x.snd))/\(decide (x.fst<k)=false->(γL [e q x.snd.chosen,a x.snd.value]).same (γL [e q T.chosen,a T.value]));let D:=(((N.same N/\t.same t/\z.same z/\B.same B/\G.same G/\True)/\s.same s/\m.same m/\m.same (b [e q M.chosen,a M.value] 37 2 false)/\r.same r/\True)/\f<=f/\f<=Y/\M.chosen.length<=160/\T=HE p (sX p f) f V M)/\C;let E:=(((N.same N/\t.same t/\z.same z/\B.same B/\G.same G/\True)/\s.same s/\m.same m/\X.same (b [e q L.chosen,a L.value] 37 2 false)/\r.same r/\True)/\f<=f/\f<=Y/\L.chosen.length<=160/\T=HE p (sX p f) f V L)/\C;(decide (w<v)=true->D)/\(decide (w<v)=false->(decide (v=w)=true->(c.length<=1000000000000/\d.length<=1000000000000)/\(W=true->D)/\(W=false->E))/\(decide (v=w)=false->E))) (by kernel_rfl) ?_
 conv=>zeta
 obtain⟨y,b2,b3,a9,b1,a7,b0,a8⟩:=h
 simp only at a9 b1 a7 b0 a8
 simp only[vcs,aC4]
 have hN:=y.2.1
 refine⟨λh1=>⟨⟨by omega,by omega,by omega,?_⟩,?_⟩,λh1=>⟨λh2=>⟨⟨by omega,by omega⟩,λh3=>⟨⟨by omega,by omega,by omega,?_⟩,?_⟩,λh3=>⟨⟨by omega,by omega,by omega,?_⟩,?_⟩⟩,λh2=>⟨⟨by omega,by omega,by omega,?_⟩,?_⟩⟩⟩
 ·simp_all[ab1,better]
 ·rintro⟨i,⟨e,u⟩⟩ ⟨E,F,J,k⟩
  simp only at E F J k ⊢
  refine⟨λC=>?_,λP=>?_⟩
  ·have D:sX p i=sX p (i+1)+1:=by grind[sX]
   have O:sX p i<=sX p f:=by grind[sX]
   have hv:=y.2.2.2.2 _ (pz (d:=cn.off.dflt) (show i.toNat<p.offers.length by omega))
   rw[D] at k;simp only[HE] at k
   have R:(c++[i]).length=c.length+1:=by simp
   have g:∀j∈c++[i],0<=j/\j<p.offers.length:=λj hj=>by
    grind
   have hN:=y.2.1
   refine⟨by omega,by omega,by omega,by omega,⟨y,by omega,g⟩,λI=>?_,λI=>?_⟩
   ·rw[if_pos I] at k
    have H:aei p ⟨c++[i],v+(bC p.offers i.toNat cn.off.dflt).value⟩ (i+1) ⟨e,u⟩:=⟨y,by omega,by omega,g,by grind,by grind,by grind,J⟩
    refine⟨by omega,C,by omega,by omega,by omega,⟨H,by omega⟩,by omega,⟨by omega,by omega,alR H,k⟩,by omega⟩
   grind
  ·have D:sX p i=0:=by grind[sX]
   rw[D] at k;simp only[HE] at k;rw[k];exact rfl
 ·simp_all[ab1,better]
 ·rintro⟨i,⟨e,u⟩⟩ ⟨E,F,J,k⟩
  simp only at E F J k ⊢
  refine⟨λC=>?_,λP=>?_⟩
  ·have D:sX p i=sX p (i+1)+1:=by grind[sX]
   have O:sX p i<=sX p f:=by grind[sX]
   have hv:=y.2.2.2.2 _ (pz (d:=cn.off.dflt) (show i.toNat<p.offers.length by omega))
   rw[D] at k;simp only[HE] at k
   have R:(c++[i]).length=c.length+1:=by simp
   have g:∀j∈c++[i],0<=j/\j<p.offers.length:=λj hj=>by
    grind
   have hN:=y.2.1
   refine⟨by omega,by omega,by omega,by omega,⟨y,by omega,g⟩,λI=>?_,λI=>?_⟩
   ·rw[if_pos I] at k
    have H:aei p ⟨c++[i],v+(bC p.offers i.toNat cn.off.dflt).value⟩ (i+1) ⟨e,u⟩:=⟨y,by omega,by omega,g,by grind,by grind,by grind,J⟩
    refine⟨by omega,C,by omega,by omega,by omega,⟨H,by omega⟩,by omega,⟨by omega,by omega,alR H,k⟩,by omega⟩
   grind
  ·have D:sX p i=0:=by grind[sX]
   rw[D] at k;simp only[HE] at k;rw[k];exact rfl
 ·simp_all[ab1,better,if_neg]
 ·rintro⟨i,⟨e,u⟩⟩ ⟨E,F,J,k⟩
  simp only at E F J k ⊢
  refine⟨λC=>?_,λP=>?_⟩
  ·have D:sX p i=sX p (i+1)+1:=by grind[sX]
   have O:sX p i<=sX p f:=by grind[sX]
   have hv:=y.2.2.2.2 _ (pz (d:=cn.off.dflt) (show i.toNat<p.offers.length by omega))
   rw[D] at k;simp only[HE] at k
   have R:(c++[i]).length=c.length+1:=by simp
   have g:∀j∈c++[i],0<=j/\j<p.offers.length:=λj hj=>by
    grind
   have hN:=y.2.1
   refine⟨by omega,by omega,by omega,by omega,⟨y,by omega,g⟩,λI=>?_,λI=>?_⟩
   ·rw[if_pos I] at k
    have H:aei p ⟨c++[i],v+(bC p.offers i.toNat cn.off.dflt).value⟩ (i+1) ⟨e,u⟩:=⟨y,by omega,by omega,g,by grind,by grind,by grind,J⟩
    refine⟨by omega,C,by omega,by omega,by omega,⟨H,by omega⟩,by omega,⟨by omega,by omega,alR H,k⟩,by omega⟩
   grind
  ·have D:sX p i=0:=by grind[sX]
   rw[D] at k;simp only[HE] at k;rw[k];exact rfl
 ·simp_all[ab1,better,if_neg]
 ·rintro⟨i,⟨e,u⟩⟩ ⟨E,F,J,k⟩
  simp only at E F J k ⊢
  refine⟨λC=>?_,λP=>?_⟩
  ·have D:sX p i=sX p (i+1)+1:=by grind[sX]
   have O:sX p i<=sX p f:=by grind[sX]
   have hv:=y.2.2.2.2 _ (pz (d:=cn.off.dflt) (show i.toNat<p.offers.length by omega))
   rw[D] at k;simp only[HE] at k
   have R:(c++[i]).length=c.length+1:=by simp
   have g:∀j∈c++[i],0<=j/\j<p.offers.length:=λj hj=>by
    grind
   have hN:=y.2.1
   refine⟨by omega,by omega,by omega,by omega,⟨y,by omega,g⟩,λI=>?_,λI=>?_⟩
   ·rw[if_pos I] at k
    have H:aei p ⟨c++[i],v+(bC p.offers i.toNat cn.off.dflt).value⟩ (i+1) ⟨e,u⟩:=⟨y,by omega,by omega,g,by grind,by grind,by grind,J⟩
    refine⟨by omega,C,by omega,by omega,by omega,⟨H,by omega⟩,by omega,⟨by omega,by omega,alR H,k⟩,by omega⟩
   grind
  ·have D:sX p i=0:=by grind[sX]
   rw[D] at k;simp only[HE] at k;rw[k];exact rfl
theorem aC6 {L:List fN} {W:aaV} (c:fN) (F:zr) (Λ:Nat->jY) (i:acy Tryz.prog W) (j:∀c∈L,Holds Tryz.prog c)
  (l:Da c.f=some F) (a:c.α) (e:(c.A.put a).length=F.params) (k:∀d,abW c.f L=some d->∀b,gL (c.A.put a)=gL (d.A.put b)->¬d.dom b)
  (h:Vc (fnK (SR L W tyN mtN Da) Λ F (c.A.put a) λv=>v.same (c.res a))):FG Tryz.prog c.f=true/\W7 Tryz.prog c.f (gL (c.A.put a)) [] (c.res a).g []:=by
 refine aoS (p:=SR L W tyN mtN Da) (Λ:=Λ) (aga i j acY) (agb i) (λ_ _ h=>h) l ?_ e h.out
 simp only[acw,adB,Bool.false_eq_true,if_false];split
 all_goals simp_all[ans]
theorem apq:∀n,Holds Tryz.prog (extC n)
 |0=>by
  rintro⟨p,a,f,b⟩ ⟨_,h⟩
  omega
 |n+1=>by
  rintro⟨p,a,f,b⟩ ⟨i,l⟩
  by_cases k:sX p f<n
  ·exact apq n (p,a,f,b) ⟨i,k⟩
  ·refine aC6 (L:=M4 n) (extC (n+1)) (fG 50) (avp p a f b) (acy.none _) (by simp only[M4,List.forall_mem_cons,List.not_mem_nil,false_implies,implies_true,and_true];exact⟨apq n,h111,h32⟩)
    (show Da 50=some (fG 50) by kernel_rfl) (p,a,f,b) rfl ?_ (aC5 n p a f b i l)
   intro d o j g c
   have e:d=extC n:=by
    simp_all[abW,M4,extC]
   subst e
   have m:(p,a,f,b)=j:=(extC n).A.inj (p,a,f,b) j g
   subst m
   exact k c.2
def yh (p:dd):Alloc:=ab1 p ⟨[],0⟩ 0 ⟨[],0⟩
def r25:fN:=⟨19,dd,.one qa,λp=>Good p,λp=>Xh.put (yh p)⟩
theorem h25:Holds Tryz.prog r25:=by
 refine kh (L:=[extC 161]) r25 lk (by grind[apq]) ?_
 intro(p:dd) (c:Good p)
 refine gp (let c:=(0:Int);let a:=Alloc.mk [] c;let b:=ab1 p a c a;(aei p a c a/\sX p c<161)/\(γL [Ξ (cn.i .i64) b.chosen,γa .i64 b.value]).same (γL [Ξ (cn.i .i64) (yh p).chosen,γa .i64 (yh p).value])) (by kernel_rfl) ?_
 conv=>zeta
 have:=c.2.1
 refine⟨⟨⟨c,by omega,by omega,by simp,by simp,by simp,by simp,by simp⟩,by grind[sX]⟩,rfl⟩
theorem apr {p:dd} {c:List Int} (e:lj p c=0):fO p=0/\EH p c=true/\Good p/\c.length<=160/\∀i∈c,0<=i/\i<p.offers.length:=by
 have b:fO p=0:=by
  unfold lj at e;omega
 have d:EH p c=true:=by
  unfold lj at e
  grind
 have f:=uw b
 obtain⟨r,g⟩:=γp.1 d
 obtain⟨h,a⟩:=avg (by omega) g
 refine⟨b,d,f,?_,a⟩
 have k:=ajh (by omega) g
 have j:=f.2.1
 grind
theorem aC7 {p:dd} (c:Good p) {L:List Off} (h:∀x∈L,x∈p.offers):(Ko (L.map Off.want)).bd (4*L.length)/\(Ko (L.map (Ie p))).bd (4*L.length):=by
 have e:∀x∈L,x.want.ok=true:=λx d=>(c.2.2.2.2 x (h x d)).2.2.1
 have a:=@ajl (L.map Off.want) (λb f=>by grind)
 grind[ajl,avl]
theorem avr {p:dd} {l m:List Int}:rc p (l++m)=rc p l++rc p m:=by simp[rc]
theorem alT {p:dd} {i:Int} {l:List Int}:rc p (i::l)=bC p.offers i.toNat cn.off.dflt::rc p l:=rfl
def avt (p:dd) (l:List Int):Prop:=∀i∈l,0<=i/\i<p.offers.length
theorem avu {p:dd} (f:Good p) {L M:List Off} (c:∀x∈M,x∈p.offers) (h:abw p (L++M)):abw p L:=by
 obtain⟨e,d⟩:=aC7 f c
 obtain⟨g,a,b⟩:=h
 rw[γj,apn,fZ.le_iff] at a b;simp only[fZ.add,fZ.bd] at a b e d
 refine⟨?_,?_,?_⟩<;>grind[fZ.le_iff]
theorem aC8 {p:dd} (a:Good p) {l m:List Int} (b:avt p m) (h:GU p (l++m)=true):GU p l=true:=by
 unfold GU at h ⊢
 have h:=of_decide_eq_true h
 rw[avr] at h
 exact decide_eq_true (avu a (alQ a b) h)
def abx (i:Int) (k:Nat) (t:List Int):Prop:=t.Pairwise (·<·)/\∀j∈t,i<=j/\j<i+k
theorem avv {a b:Alloc}:a.value<=(better a b).value/\b.value<=(better a b).value:=by
 grind[better]
theorem avw {a b:Alloc}:better a b=a\/better a b=b:=by
 grind[better]
theorem ajm {p:dd}:∀{k:Nat} {i:Int} {a b:Alloc},b.value<=(HE p k i a b).value
 |0,_,_,b=>by simp[HE]
 |k+1,i,a,b=>by
  simp only[HE]
  refine ζb ?_ ajm
  split
  ·exact ζb avv.2 ajm
  ·omega
theorem aps {p:dd} (h:Good p):∀{k:Nat} {i:Int} {a b:Alloc} {t:List Int},0<=i->i+k<=p.offers.length->t≠[]->abx i k t->GU p (a.chosen++t)=true->a.value+o5 (rc p t)<=(HE p k i a b).value
 |0,i,a,b,t,_,_,u,c,_=>by
  cases t with
  |nil=>simp_all
  |cons j t=>
   have:=c.2 j (by simp)
   omega
 |k+1,i,a,b,t,w,x,u,c,s=>by
  cases t with
  |nil=>simp_all
  |cons j t=>
   have v:=c.2 j (by simp)
   have q:=γH.1 c.1
   simp only[HE]
   by_cases l:j=i
   ·subst l
    have d:avt p t:=λm e=>by
     have:=c.2 m (by simp[e])
     omega
    have f:GU p (a.chosen++[j]++t)=true:=by simp_all
    have g:GU p (a.chosen++[j])=true:=aC8 h d f
    rw[if_pos g]
    refine ζb ?_ ajm
    rw[alT];simp only[o5]
    cases t with
    |nil=>
     refine ζb ?_ ajm
     refine ζb ?_ avv.1
     simp[o5,rc,ab0]
    |cons o n=>
     have:=aps h (k:=k) (i:=j+1) (a:=⟨a.chosen++[j],a.value+ab0 p j⟩) (b:=better ⟨a.chosen++[j],a.value+ab0 p j⟩ b) (t:=o::n) (by omega) (by omega) (by simp) ⟨q.2,λm e=>by
      have r:=c.2 m (List.mem_cons_of_mem _ e)
      grind⟩ f
     grind[ab0]
   ·exact aps h (by omega) (by omega) (by simp) ⟨c.1,λm e=>by
     have r:=c.2 m e
     grind⟩ s
theorem apt {p:dd} (g:Good p):∀{k:Nat} {i:Int} {a b:Alloc},HE p k i a b=b\/∃t,t≠[]/\abx i k t/\GU p (a.chosen++t)=true/\HE p k i a b=⟨a.chosen++t,a.value+o5 (rc p t)⟩
 |0,i,a,b=> .inl rfl
 |k+1,i,a,b=>by
  have l:∀{t:List Int},abx (i+1) k t->abx i (k+1) t:=λh=>⟨h.1,λj c=>by have:=h.2 j c;omega⟩
  simp only[HE]
  rcases @apt p g k (i+1) a (if GU p (a.chosen++[i]) then HE p k (i+1) ⟨a.chosen++[i],a.value+ab0 p i⟩ (better ⟨a.chosen++[i],a.value+ab0 p i⟩ b) else b) with h|⟨t,m,d,n,o⟩
  ·rw[h]
   split
   ·rename_i q
    have e:(⟨a.chosen++[i],a.value+ab0 p i⟩:Alloc)=⟨a.chosen++[i],a.value+o5 (rc p [i])⟩:=by simp[o5,rc,ab0]
    have f:abx i (k+1) [i]:=⟨by simp,λj c=>by grind⟩
    rcases @apt p g k (i+1) ⟨a.chosen++[i],a.value+ab0 p i⟩ (better ⟨a.chosen++[i],a.value+ab0 p i⟩ b) with h|⟨t,m,d,n,o⟩
    ·grind[avw]
    ·refine .inr ⟨i::t,by simp,⟨γH.2 ⟨λj c=>by have:=d.2 j c;omega,d.1⟩,λj c=>?_⟩,by simp_all,?_⟩
     ·rcases γX.1 c with rfl|c
      ·omega
      ·have:=d.2 j c;omega
     grind[alT,o5,ab0]
   simp_all
  grind
theorem avx {p:dd}:yh p=HE p p.offers.length 0 ⟨[],0⟩ ⟨[],0⟩:=by
 grind[sX,yh,ab1,avw]
theorem aC9 {p:dd} (f:Good p) {t:List Int} (e:abx 0 p.offers.length t) (d:GU p t=true):o5 (rc p t)<=(yh p).value:=by
 rw[avx]
 by_cases c:t=[]
 ·subst c
  exact ajm
 ·have:=aps f (k:=p.offers.length) (i:=0) (a:=⟨[],0⟩) (b:=⟨[],0⟩) (t:=t) (by omega) (by omega) c e d
  simp_all
theorem avy {p:dd} (a:Good p):GU p []=true:=by
 have b:=fZ.aaZ.1 a.2.2.1
 have c:=fZ.aaZ.1 a.2.2.2.1
 unfold GU
 refine decide_eq_true ⟨by simp[rc],?_,?_⟩
 all_goals simp_all[fZ.le_iff,rc,Ko]
theorem aDa {p:dd} (a:Good p):∃t,abx 0 p.offers.length t/\GU p t=true/\yh p=⟨t,o5 (rc p t)⟩:=by
 rw[avx]
 rcases @apt p a p.offers.length 0 ⟨[],0⟩ ⟨[],0⟩ with h|⟨t,b,e,c,d⟩
 ·exact⟨[],⟨by simp,by simp⟩,avy a,by rw[h];rfl⟩
 grind
theorem apu {p:dd}:∀{c:List Int} {s:Int},c.foldl (apg p) s=s+o5 (rc p c)
 |[],s=>by simp[rc,o5]
 |i::c,s=>by
  rw[List.foldl_cons,apu,alT];simp only[o5,apg];omega
theorem alU {p:dd}:∀{c:List Int} {a:Int} {r:List Off},uv p.offers a c=some r->r=rc p c
 |[],a,r,h=>by simp[uv] at h;subst h;rfl
 |i::c,a,r,h=>by
  simp only[uv] at h;split at h
  ·cases h
  ·obtain⟨d,b,rfl⟩:=ε.1 h
   rw[alU b,alT]
theorem aDb {p:dd} {c:List Int} (hz:lj p c=0):qX p c=aph p c:=by
 obtain⟨q1,q2,hg,q4,q5⟩:=apr hz
 obtain⟨r,hr⟩:=γp.1 q2
 unfold qX aph;rw[if_pos q1,apu];simp only[oC,hr,γA,alU hr];omega
theorem avz {p:dd} {x:Off} (b:0<=x.jV) (a:x.jV<p.classes.length):sV p x.jV x=1:=by
 unfold sV;omega
theorem sum_cons {p:dd} {x:Off} {L:List Off} {r:Int}:li p (x::L) r=sV p r x+li p L r:=by simp[li]
theorem avA {p:dd} {r:Int}:∀{L:List Off},(∀x∈L,x.want.ok=true)->(∃x∈L,x.jV=r/\0<=r/\r<p.classes.length)->1<=li p L r
 |[],_,h=>by simp_all
 |y::L,a,⟨x,c,e,f,d⟩=>by
  have g:=@acA p r y (a y (by simp))
  have i:=@aeg p r L λz b=>a z (by simp[b])
  rw[sum_cons]
  rcases γX.1 c with rfl|c
  ·grind[avz]
  ·have:=@avA p r L (λz b=>a z (by simp[b])) ⟨x,c,e,f,d⟩
   omega
theorem avB {p:dd}:∀{L:List Off},(∀x∈L,x.want.ok=true/\0<=x.jV/\x.jV<p.classes.length)->(∀r:Int,0<=r->r<p.classes.length->li p L r<=1)->(L.map Off.jV).Nodup
 |[],_,_=>by simp
 |x::L,e,f=>by
  have a:=e x (by simp)
  rw[ψ,δx]
  have d:∀r:Int,0<=r->r<p.classes.length->li p L r<=1:=λr j b=>by
   have:=f r j b
   have:=@acA p r x a.1
   grind[sum_cons]
  refine⟨λg=>?_,avB (λy c=>e y (by simp[c])) d⟩
  obtain⟨y,c,h⟩:=γk.1 g
  have b:=f x.jV a.2.1 a.2.2
  have k:=@avA p x.jV L (λz i=>(e z (by simp[i])).1) ⟨y,c,h,a.2.1,a.2.2⟩
  rw[sum_cons,avz a.2.1 a.2.2] at b;omega
theorem aDc {p:dd} {c:List Int} (e:lj p c=0):((rc p c).map Off.jV).Nodup:=by
 obtain⟨j,f,a,m,h⟩:=apr e
 obtain⟨r,l⟩:=γp.1 f
 have n:oC p c=rc p c:=by grind[oC,alU]
 have d:By p (rc p c)=true:=by
  simp_all[lj]
 refine avB (p:=p) (λx g=>?_) λr o i=>?_
 ·have:=a.2.2.2.2 x (alQ a h x g)
  simp_all
 ·have b:=abY.1 d r.toNat (by grind[ki])
  rw[show((r.toNat:Nat):Int)=r by omega] at b
  have k:nn p r=1:=by unfold nn;omega
  omega
def fZ.at (b:fZ) (k:Nat):Int:=bC [b.a0,b.a1,b.a2,b.a3,b.a4,b.a5] k 0
theorem avC {a b:fZ} (h:a.le b=true) (k:Nat):a.at k<=b.at k:=by
 grind[fZ.le_iff,fZ.at,bC]
theorem alV (k:Nat):∀(l:List fZ),(Ko l).at k=(l.map λb=>b.at k).sum:=by
 intro l;unfold fZ.at Ko
 match k with
 |0|1|2|3|4|5=>simp only[bC,γB,γn,γA]
 |k+6=>
  simp only[bC,γn,List.getElem?_nil,Option.getD_none]
  induction l<;>grind
theorem avD {p:dd} {x:Off} {k:Nat} (a:k<6):sV p (p.classes.length+k) x=x.want.at k:=by
 unfold sV
 rw[if_neg (by omega),if_pos (by omega),show((p.classes.length:Int)+k - p.classes.length).toNat=k by omega]
 rfl
theorem avE {p:dd} {x:Off} {k:Nat} (a:k<6):sV p (p.classes.length+6+k) x=(Ie p x).at k:=by
 unfold sV
 rw[if_neg (by omega),if_neg (by omega),show((p.classes.length:Int)+6+k - p.classes.length - 6).toNat=k by omega]
 have:k=0\/k=1\/k=2\/k=3\/k=4\/k=5:=by omega
 rcases this with rfl|rfl|rfl|rfl|rfl|rfl<;>simp[Ie,apd,oc,Xy,fZ.at,bC]
theorem avF {p:dd} {k:Nat} (a:k<6):nn p (p.classes.length+k)=p.supply.at k:=by
 unfold nn
 rw[if_neg (by omega),if_pos (by omega),show((p.classes.length:Int)+k - p.classes.length).toNat=k by omega]
 rfl
theorem avG {p:dd} {k:Nat} (a:k<6):nn p (p.classes.length+6+k)=p.opn.at k:=by
 unfold nn
 rw[if_neg (by omega),if_neg (by omega),show((p.classes.length:Int)+6+k - p.classes.length - 6).toNat=k by omega]
 rfl
theorem avH {p:dd} {r:Int} (a:0<=r) (b:r<p.classes.length):∀{L:List Off},(L.map Off.jV).Nodup->li p L r<=1/\(r∉L.map Off.jV->li p L r=0)
 |[],_=>by simp[li]
 |x::L,h=>by
  rw[ψ,δx] at h
  obtain⟨d,e⟩:=avH a b h.2
  have c:sV p r x=if x.jV=r then 1 else 0:=by unfold sV;omega
  rw[sum_cons,c]
  grind
theorem aDd {p:dd} {L:List Off} (h:abw p L):By p L=true:=by
 obtain⟨j,i,f⟩:=h
 refine abY.2 λr g=>?_
 unfold ki at g
 by_cases l:r<p.classes.length
 ·have:=(avH (p:=p) (r:=r) (by omega) (by omega) j).1
  have d:nn p r=1:=by unfold nn;omega
  omega
 by_cases d:r<p.classes.length+6
 ·obtain⟨k,rfl⟩:∃k:Nat,r=p.classes.length+k:=⟨r - p.classes.length,by omega⟩
  have c:k<6:=by omega
  have e:(((p.classes.length+k:Nat)):Int)=p.classes.length+k:=by omega
  rw[e,avF c]
  have a:=avC i k
  rw[alV,δq] at a
  have:li p L (p.classes.length+k)=(L.map ((λb=>fZ.at b k)∘Off.want)).sum:=by
   unfold li
   congr 1
   simp_all[avD]
  omega
 ·obtain⟨k,rfl⟩:∃k:Nat,r=p.classes.length+6+k:=⟨r - p.classes.length - 6,by omega⟩
  have c:k<6:=by omega
  have e:(((p.classes.length+6+k:Nat)):Int)=p.classes.length+6+k:=by omega
  rw[e,avG c]
  have a:=avC f k
  rw[alV,δq] at a
  have:li p L (p.classes.length+6+k)=(L.map ((λb=>fZ.at b k)∘Ie p)).sum:=by
   unfold li
   congr 1
   simp_all[avE]
  omega
theorem avI {l:List Off}:∀{t:List Int} {a:Int},t.Pairwise (·<·)->(∀j∈t,a<j/\j<l.length)->uv l a t=some (t.map λi=>bC l i.toNat cn.off.dflt)
 |[],_,_,_=>rfl
 |i::t,a,h,d=>by
  have e:=d i (by simp)
  have c:=γH.1 h
  unfold uv
  rw[if_neg (by omega),avI c.2 λj b=>⟨c.1 j b,(d j (by simp[b])).2⟩]
  rfl
theorem aDe {p:dd} (e:fO p=0) {t:List Int} (a:abx 0 p.offers.length t) (c:abw p (rc p t)):lj p t=0:=by
 have d:uv p.offers (-1) t=some (rc p t):=avI a.1 λj b=>by have:=a.2 j b;omega
 simp_all[lj,EH,oC,aDd]
theorem avJ {a b:fZ} (h:∀k,k<6->a.at k<=b.at k):a.le b=true:=by
 have i:=h 0 (by omega)
 have c:=h 1 (by omega)
 have d:=h 2 (by omega)
 have f:=h 3 (by omega)
 have g:=h 4 (by omega)
 have e:=h 5 (by omega)
 simp_all[fZ.at,bC,fZ.le_iff]
theorem aDf {p:dd} {L:List Off} (d:(L.map Off.jV).Nodup) (c:By p L=true):abw p L:=by
 refine⟨d,avJ λk a=>?_,avJ λk a=>?_⟩
 ·have h:=abY.1 c (p.classes.length+k) (by grind[ki])
  rw[show(((p.classes.length+k:Nat)):Int)=p.classes.length+k by omega,avF a] at h
  rw[alV,δq]
  have:li p L (p.classes.length+k)=(L.map ((λb=>fZ.at b k)∘Off.want)).sum:=by
   unfold li
   congr 1
   simp_all[avD]
  omega
 ·have h:=abY.1 c (p.classes.length+6+k) (by grind[ki])
  rw[show(((p.classes.length+6+k:Nat)):Int)=p.classes.length+6+k by omega,avG a] at h
  rw[alV,δq]
  have:li p L (p.classes.length+6+k)=(L.map ((λb=>fZ.at b k)∘Ie p)).sum:=by
   unfold li
   congr 1
   simp_all[avE]
  omega
theorem avK {l:List Off}:∀{t:List Int} {a:Int} {r:List Off}, -1<=a->uv l a t=some r->t.Pairwise (·<·)/\∀j∈t,a<j/\j<l.length
 |[],_,_,_,_=>by simp
 |i::t,a,r,g,h=>by
  simp only[uv] at h;split at h
  ·cases h
  ·rename_i k
   obtain⟨f,d,rfl⟩:=ε.1 h
   obtain⟨e,c⟩:=avK (by omega) d
   refine⟨γH.2 ⟨λj b=>(c j b).1,e⟩,λj b=>?_⟩
   grind
def ae5 (p:dd) (t:List Int):Prop:=abx 0 p.offers.length t/\abw p (rc p t)
theorem agi {p:dd} (c:fO p=0) {t:List Int}:lj p t=0↔ae5 p t:=by
 refine⟨λh=>?_,λh=>aDe c h.1 h.2⟩
 have e:=aDc h
 obtain⟨i,a,l,m,o⟩:=apr h
 obtain⟨r,d⟩:=γp.1 a
 obtain⟨f,g⟩:=avK (by omega) d
 have n:oC p t=rc p t:=by grind[oC,alU]
 have b:By p (rc p t)=true:=by
  simp_all[lj]
 exact⟨⟨f,λj k=>by simp_all⟩,aDf e b⟩
theorem apv {p:dd} (a:Good p):ae5 p []:=⟨⟨by simp,by simp⟩,of_decide_eq_true (avy a)⟩
theorem aDg {p:dd} (c:Good p) {l m:List Int} (h:ae5 p (l++m)):ae5 p l:=by
 obtain⟨⟨b,d⟩,a⟩:=h
 rw[avr] at a
 refine⟨⟨(List.pairwise_append.1 b).1,λj e=>d j (by simp[e])⟩,avu c (λx f=>?_) a⟩
 grind[alQ]
theorem aDh {p:dd} (hc:fO p=0) {t:List Int} (h:ae5 p t):qX p t=o5 (rc p t):=by
 have hz:=(agi hc).2 h
 rw[aDb hz];unfold aph;rw[apu];omega
def ahL (p:dd):Nat->Int->List Int->List (List Int)->List (List Int)
 |0,_,_,a=>a
 |k+1,i,c,a=>ahL p k (i+1) c (if lj p (c++[i])=0 then ahL p k (i+1) (c++[i]) (a++[c++[i]]) else a)
def apw (p:dd):List (List Int):=ahL p p.offers.length 0 [] [[]]
theorem ajn {p:dd} (f:fO p=0):∀{k:Nat} {i:Int} {c:List Int} {out:List (List Int)} {x:List Int},x∈ahL p k i c out↔x∈out\/∃t,t≠[]/\abx i k t/\ae5 p (c++t)/\x=c++t
 |0,i,c,out,x=>by
  simp only[ahL]
  refine⟨.inl,λh=>?_⟩
  rcases h with h|⟨t,l,d,_⟩
  ·exact h
  ·cases t with
   |nil=>simp_all
   |cons j t=>
    have:=d.2 j (by simp)
    omega
 |k+1,i,c,out,x=>by
  have w:=uw f
  simp only[ahL];rw[ajn f]
  have s:∀{t:List Int},abx (i+1) k t->abx i (k+1) t:=λh=>⟨h.1,λj e=>by have:=h.2 j e;omega⟩
  have n:∀{t:List Int},abx (i+1) k t->abx i (k+1) (i::t):=λh=>⟨γH.2 ⟨λj e=>by have:=h.2 j e;omega,h.1⟩,λj e=>by
   rcases γX.1 e with rfl|e
   ·omega
   ·have:=h.2 j e;omega⟩
  constructor
  ·rintro(h|⟨t,l,d,q,r⟩)
   ·split at h
    ·rename_i y
     rw[ajn f] at h
     rcases h with h|⟨t,l,d,q,r⟩
     ·rcases γt.1 h with h|h
      ·exact .inl h
      ·rw[δX] at h
       exact .inr ⟨[i],by simp,n (t:=[]) ⟨by simp,by simp⟩,(agi f).1 y,h⟩
     grind
    simp_all
   grind
  ·rintro(h|⟨t,l,d,q,r⟩)
   ·left
    split
    ·rw[ajn f];left;simp[h]
    ·exact h
   ·cases t with
    |nil=>simp_all
    |cons j t=>
     have e:=d.2 j (by simp)
     have u:=γH.1 d.1
     by_cases o:j=i
     ·subst o
      left
      have v:ae5 p ((c++[j])++t):=by simp_all
      rw[if_pos ((agi f).2 (aDg w v)),ajn f]
      by_cases z:t=[]
      ·simp_all
      ·right
       exact⟨t,z,⟨u.2,λm g=>by have a:=u.1 m g;have b:=d.2 m (by simp[g]);omega⟩,v,by simp_all⟩
     ·right
      refine⟨j::t,by simp,⟨d.1,λm g=>?_⟩,q,r⟩
      have b:=d.2 m g
      grind
theorem aDi {p:dd} (b:fO p=0) {t:List Int}:t∈apw p↔ae5 p t:=by
 unfold apw;rw[ajn b]
 constructor
 ·grind[apv,uw]
 ·intro h
  by_cases a:t=[]
  ·left;simp[a]
  ·right
   exact⟨t,a,h.1,by simpa using h,by simp⟩
end Go.Vi
namespace Go.Proofs
open Go.Shelf
def Tryz.layS_ren:Ren:=
 ⟨λ
  |189=>124
  |125=>160
  |257=>159
  |128=>189
  |129=>190
  |294=>181
  |295=>182
  |296=>183
  |297=>184
  |298=>185
  |299=>186
  |216=>136
  |300=>187
  |301=>188
  |328=>192
  |329=>193
  |330=>194
  |331=>195
  |332=>196
  |215=>164
  |343=>198
  |n=>n,
 λ
  |28=>24
  |3=>3
  |46=>162
  |0=>0
  |51=>161
  |53=>107
  |4=>4
  |183=>231
  |182=>230
  |131=>142
  |5=>5
  |9=>9
  |218=>238
  |222=>242
  |228=>244
  |229=>122
  |n=>n,
 λn=>n⟩
def Tryz.layC_ren:Ren:=
 ⟨λ
  |41=>77
  |n=>n,
 λ
  |22=>24
  |23=>3
  |4=>4
  |n=>n,
 λn=>n⟩
def Tryz.layD_ren:Ren:=
 ⟨λ
  |45=>155
  |n=>n,
 λ
  |22=>24
  |23=>3
  |3=>3
  |4=>4
  |0=>0
  |n=>n,
 λn=>n⟩
theorem Tryz.layS:Lays.n189 Tryz.prog Tryz.layS_ren:={mixed:=by kernel_rfl,f125:=Tryz.func160.trans (by kernel_rfl),f128:=Tryz.func189.trans (by kernel_rfl),f129:=Tryz.func190.trans (by kernel_rfl),f189:=Tryz.func124.trans (by kernel_rfl),f215:=Tryz.func164.trans (by kernel_rfl),f216:=Tryz.func136.trans (by kernel_rfl),f257:=Tryz.func159.trans (by kernel_rfl),f294:=Tryz.func181.trans (by kernel_rfl),f295:=Tryz.func182.trans (by kernel_rfl),f296:=Tryz.func183.trans (by kernel_rfl),f297:=Tryz.func184.trans (by kernel_rfl),f298:=Tryz.func185.trans (by kernel_rfl),f299:=Tryz.func186.trans (by kernel_rfl),f300:=Tryz.func187.trans (by kernel_rfl),f301:=Tryz.func188.trans (by kernel_rfl),f328:=Tryz.func192.trans (by kernel_rfl),f329:=Tryz.func193.trans (by kernel_rfl),f330:=Tryz.func194.trans (by kernel_rfl),f331:=Tryz.func195.trans (by kernel_rfl),f332:=Tryz.func196.trans (by kernel_rfl),f343:=Tryz.func198.trans (by kernel_rfl),t0:=Tryz.underlying0,a0:=Tryz.isAgg0,z0:=Tryz.sizeOf0,v0:=Tryz.zeroValue0,t3:=Tryz.underlying3,a3:=Tryz.isAgg3,z3:=Tryz.sizeOf3,v3:=Tryz.zeroValue3,t4:=Tryz.underlying4,a4:=Tryz.isAgg4,z4:=Tryz.sizeOf4,v4:=Tryz.zeroValue4,t5:=Tryz.underlying5,a5:=Tryz.isAgg5,z5:=Tryz.sizeOf5,v5:=Tryz.zeroValue5,t9:=Tryz.underlying9,a9:=Tryz.isAgg9,z9:=Tryz.sizeOf9,v9:=Tryz.zeroValue9,t28:=Tryz.underlying24,a28:=Tryz.isAgg24,z28:=Tryz.sizeOf24,v28:=Tryz.zeroValue24,t46:=Tryz.underlying162,a46:=Tryz.isAgg162,z46:=Tryz.sizeOf162,v46:=Tryz.zeroValue162,t51:=Tryz.underlying161,a51:=Tryz.isAgg161,z51:=Tryz.sizeOf161,v51:=Tryz.zeroValue161,t53:=Tryz.underlying107,a53:=Tryz.isAgg107,z53:=Tryz.sizeOf107,v53:=Tryz.zeroValue107,t131:=Tryz.underlying142,a131:=Tryz.isAgg142,z131:=Tryz.sizeOf142,v131:=Tryz.zeroValue142,t182:=Tryz.underlying230,a182:=Tryz.isAgg230,z182:=Tryz.sizeOf230,v182:=Tryz.zeroValue230,t183:=Tryz.underlying231,a183:=Tryz.isAgg231,z183:=Tryz.sizeOf231,v183:=Tryz.zeroValue231,t218:=Tryz.underlying238,a218:=Tryz.isAgg238,z218:=Tryz.sizeOf238,v218:=Tryz.zeroValue238,t222:=Tryz.underlying242,a222:=Tryz.isAgg242,z222:=Tryz.sizeOf242,v222:=Tryz.zeroValue242,t228:=Tryz.underlying244,a228:=Tryz.isAgg244,z228:=Tryz.sizeOf244,v228:=Tryz.zeroValue244,t229:=Tryz.underlying122,a229:=Tryz.isAgg122,z229:=Tryz.sizeOf122,v229:=Tryz.zeroValue122}
theorem Tryz.layC:SlLaysE0.n41 Tryz.prog Tryz.layC_ren:={mixed:=by kernel_rfl,f41:=⟨Tryz.f77.name,by decide,Tryz.func77.trans (by kernel_rfl)⟩,t4:=Tryz.underlying4,a4:=Tryz.isAgg4,z4:=Tryz.sizeOf4,v4:=Tryz.zeroValue4,t22:=Tryz.underlying24,a22:=Tryz.isAgg24,z22:=Tryz.sizeOf24,v22:=Tryz.zeroValue24}
theorem Tryz.layD:SlLaysE.n45 Tryz.prog Tryz.layD_ren:={mixed:=by kernel_rfl,f45:=⟨Tryz.f155.name,by decide,Tryz.func155.trans (by kernel_rfl)⟩,t0:=Tryz.underlying0,a0:=Tryz.isAgg0,z0:=Tryz.sizeOf0,v0:=Tryz.zeroValue0,t3:=Tryz.underlying3,a3:=Tryz.isAgg3,z3:=Tryz.sizeOf3,v3:=Tryz.zeroValue3,t4:=Tryz.underlying4,a4:=Tryz.isAgg4,z4:=Tryz.sizeOf4,v4:=Tryz.zeroValue4,t22:=Tryz.underlying24,a22:=Tryz.isAgg24,z22:=Tryz.sizeOf24,v22:=Tryz.zeroValue24,a23:=Tryz.isAgg3,z23:=Tryz.sizeOf3}
end Go.Proofs
namespace Go.Proofs
open Go.Shelf Go.RowKit Go.Lib
theorem aDj {P:Program} {ρ:Ren} (L:SlLaysE0.n41 P ρ) (i0:TypeInfo) (z:Value) (b g:Nat) (I:P.info? (ρ.t 23)=some i0) (x:i0.zero=some z) (y:i0.size=b) (q:i0.bytes=g) (m:z.cells.size=b) (o:0<b)
  (Q:∀w,(Go.sizeOf (ρ.t 23)).run P w= .ok b w) (p:Addr) (n c:Nat) (d:List Value) (w:World) (K:d.length=n*b) (U:n<=maxLen) (B:n*g<=140737488355328)
  (C:∀j u,d[j]?=some u->w.cell? (p.add j)=some u) (E:∀u∈d,u.oneCell'=true):
  Calls P (ρ.f 41) #[.slice (some p) n c] w λe w'=>∃l,e= .returned l/\w'.ownsRow w.heap.size (ρ.t 23) b l n d/\l≠ .slice none 0 0/\Below w.heap.size w w':=by
 have v:=L.mixed;have W:=L.t4;have V:=L.a4;have T:=L.z4;have S:=L.v4;have i:=L.t22;have N:=L.a22;have O:=L.z22;have H:=L.v22
 have G:∀(w:World) (a:Option Addr) (n c r s:Nat),(binOp .eql (ρ.t 22) (.slice a n c) (.slice none r s)).run P w= .ok (.bool a.isNone) w:=λw a n c r s=>Lib.run_eql_slice_nil w _ _ a n c r s L.t22
 have F:∀w,Sem.run P (underlying (ρ.t 22)) w= .ok (TypeDesc.slice (ρ.t 23)) w:=run_underlying i
 have A:Aside (∀j u,d[j]?=some u->w.cell? (p.add j)=some u):=C
 clear C
 obtain⟨_,_,M⟩:=L.f41
 go_enter M,SlBodyN.n41_ntmps ρ
 go_wp2_with (at_builtin;refine wpList_append_own _ rfl _ _ (ρ.t 22) rfl w.heap.size (ρ.t 23) i0 z b g i I x y q m o _ _ _ rfl (World.ownsRow_made w #[] 0 (Θ _) (εY _) (by simp)) p n c d rfl ?qc1 ?qc2 ?qc3 ?qc4 ?qc5 ?qc6 ?_)
 case qc1=>exact K
 case qc2=>
  intro j u J
  exact Lib.cell?_alloc_some _ (A.out j u J)
 case qc3=>exact E
 case qc4=>omega
 case qc5=>simp_all
 case qc6=>simp
 intro l R D h k
 go_wp2
 go_ret
 refine⟨l,rfl,by omega,?_,?_⟩
 ·exact k
 ·exact((Below.refl _ w).alloc (Θ _) _).grown h (by simp) (by grind[Value.ownBlock])
end Go.Proofs
namespace Go.Vi
open Go.Proofs.YtgejbpobaicgfaaGreat.Ir
open Go.Proofs
theorem aby (l:List Int):kD (.i .i64) l=l.map λx=>δi (.int .i64 x):=by
 unfold kD
 induction l with
 |nil=>rfl
 |cons x l a=>rw[List.flatMap_cons,a];rfl
theorem avL {A:qM} {w:World} {σ:ja} {l:List Int} {e:TypeId} (d:iP A w σ [.cells (l.map λx=>δi (.int .i64 x)) e 1 true]) (s:1<=l.length):
  ∃b cap arr,σ=[some (b,cap)]/\cap<=maxLen/\w.heap[b]?=some (.cells arr e (0,0))/\arr.size=cap/\l.length<=cap/\arr.toList.take l.length=l.map (Value.int .i64):=by
 have f:=d.obj 0 _ rfl
 simp only[pn] at f
 obtain⟨_,_,h|⟨b,cap,arr,a,n,g,r,p,i⟩⟩:=f
 ·simp_all
 ·have c:=d.len
  simp at c
  have m:l.length<=arr.size:=by simp_all
  refine⟨b,cap,arr,?_,n,g,by omega,by omega,?_⟩
  ·match σ,c,a with
   |[x],_,a=>simp_all
  ·apply δc
   intro j
   by_cases k:j<l.length
   ·obtain⟨v,o,q⟩:=i j (.sc (.int .i64 l[j])) (by simp[k])
    grind[df]
   simp_all
def ym (l:List Int):List Int:=l.mergeSort λx y=>decide (x<=y)
theorem agj {l:List Int}:(ym l).length=l.length:=(List.mergeSort_perm _ _).length_eq
def ajo:og where
 f:=124
 α:=Nat×List Int
 put a:=[.ow 0 a.1 1]
 st a:=[.row (.i .i64) a.2 3 true]
 dec v o:=match v,o with
  |[.ow 0 n 1],[.row t l 3 true]=>match AW t (.i .i64) l with
   |some l=>some (n,l)
   |_=>none
  |_,_=>none
 ok v o a h:=by
  grind[KA]
 inj a b e1 e2:=by
  obtain⟨n,l⟩:=a
  obtain⟨n',l'⟩:=b
  simp only[gL,Δ,SV.g,δ7,true_and] at e1;simp only[gO,ψ,γy,cJ.g,Δ,ig.cells.injEq,and_true,true_and] at e2
  have h4:l=l':=by
   have hf:=congrArg γb e2
   rw[x7,x7] at hf
   exact XV (.i .i64) (by grind[cn.sz]) e2
  rw[e1.1.1,h4]
 dom a:=a.1=a.2.length/\1<=a.2.length/\a.2.length<=1000000
 res _:=.eW []
 out a:=[.row (.i .i64) (ym a.2) 3 true]
theorem h337:sd Tryz.prog ajo:=by
 rintro⟨n,l⟩ ⟨E,H,V⟩
 simp only at E H V
 subst E
 refine⟨by kernel_rfl,?_⟩
 intro A w F Q q s
 have C:∀m:List Int,gO [cJ.row (.i .i64) m 3 true]=[ig.cells (m.map λx=>δi (.int .i64 x)) 3 1 true]:=λm=>by
  simp only[gO,ψ,γy,cJ.g,aby];rfl
 have T:gL (ajo.put (l.length,l))=[.os 0 0 l.length (l.length*1)]:=rfl
 show Calls _ _ _ _ λe h=>∃u p,e= .returned u/\iP A h p (gO [cJ.row (.i .i64) (ym l) 3 true])/\df A h p (gO [cJ.row (.i .i64) (ym l) 3 true]) (.eW []) u/\Ext w F (gO [cJ.row (.i .i64) l 3 true]) h p (gO [cJ.row (.i .i64) (ym l) 3 true])
 replace q:iP A w F (gO [cJ.row (.i .i64) l 3 true]):=q
 replace s:ei A w F (gO [cJ.row (.i .i64) l 3 true]) (gL (ajo.put (l.length,l))) Q:=s
 rw[C] at q s;rw[C,C];rw[T] at s
 obtain⟨b,Y,d,rfl,U,L,q4,q5,N⟩:=avL q H
 simp only[ei] at s
 obtain⟨v,r,rfl,I,rfl⟩:=s
 simp only[df] at I
 obtain⟨O,a,y,rfl,a0,B⟩:=I
 have K:=B 1 ⟨_,_,_,rfl,by simp⟩
 simp only[SL,γB] at K
 obtain⟨rfl,rfl⟩:=K.2.1 trivial trivial (by omega)
 have P:b<w.heap.size:=q.bnd 0 b y rfl
 have R:=holds_of_blockI (ss:=l) L N
 have S:Calls Tryz.prog (ajo).f #[.slice (some ⟨b,0,none⟩) l.length y] w λe h=>e= .returned (.tuple #[])/\∃n z,h=Sort.grow (Sort.putRow (Value.int .i64) (Sort.ahead w n) b 0 (ym l).toArray) z:=
  calls_of_every_depth λD=>AnyS.slices_Sort_int_in Tryz.layS D b 0 y l w R P (by omega)
 refine Calls.mono S ?_
 rintro e h ⟨rfl,n,z,rfl⟩
 have t:=grownBy_sortedI (w:=w) (g:=b) (n:=n) (os:=z) (ym l).toArray
 have W:=heap_sortedI (w:=w) (n:=n) (os:=z) (ym l).toArray L
 have X:=take_putCellsI d (ym l) (by rw[agj];omega)
 have hz:(Sort.putCells (Value.int .i64) 0 (ym l).toArray d).size=d.size:=by simp[Sort.putCells]
 generalize Sort.grow (Sort.putRow (Value.int .i64) (Sort.ahead w n) b 0 (ym l).toArray) z=h at*
 generalize Sort.putCells (Value.int .i64) 0 (ym l).toArray d=o at*
 have hU:=q.upd (w':=h) (id:=0) (x':=.cells ((ym l).map λx=>δi (.int .i64 x)) 3 1 true) (s':=some (b,y)) rfl t.size t.os t.tape t.output
  (λk M E=>t.block k M λe=>by simp_all) (λb' c' e=>by simp_all)
  ⟨_,_,_,rfl,by simp[agj],λ_=>rfl⟩ ?_
 ·grind[df,ei]
 ·intro hx
  simp only[pn]
  refine⟨λ_=>by rw[<-aby];grind[acs],by rw[<-aby];grind[ala],.inr ⟨b,y,o,rfl,U,W,by omega,by grind[agj],?_⟩⟩
  intro j c J;rw[δd] at J
  obtain⟨x,G,rfl⟩:=ε.1 J
  have Z:=(ζ.1 G).1
  refine⟨.int .i64 x,?_,by simp[df,Value.oneCell']⟩
  have h9:(o.toList.take (ym l).length)[j]?=((ym l).map (Value.int .i64))[j]?:=by rw[X]
  grind
theorem avM {A:qM} {w:World} {l:List Int} {vs:List Value} {m:FuncId} (n:m=Tryz.layC_ren.f 41) (N:iP A w [] []) (K:l.length<=1000000) (B:ei A w [] [] [.sl l.length (l.map λx=>δi (.int .i64 x))] vs):
  Calls Tryz.prog m vs.toArray w λe w'=>RowKit.Below w.heap.size w w'/\((e= .returned (.slice none 0 0)/\l=[])\/∃g cap c,e= .returned (.slice (some ⟨g,0,none⟩) l.length cap)/\w.heap.size<=g/\w'.heap[g]?=some (.cells c 3 (0,0))/\l.length<=cap/\cap<=maxLen/\c.size=cap/\c.toList.take l.length=l.map (Value.int .i64)):=by
 subst n;simp only[ei] at B
 obtain⟨v,r,rfl,t,rfl⟩:=B
 simp only[df] at t
 obtain⟨a,cap,rfl,q,_,C⟩:=t
 cases a with
 |none=>
  have z:l=[]:=by
   cases l<;>grind[pd]
  grind[Calls.mono,AnyE.slices_Clone_nil,Tryz.layC,RowKit.Below.refl]
 |some p=>
  have H:∀j u,(l.map (Value.int .i64))[j]?=some u->w.cell? (p.add j)=some u:=by
   intro j u s;rw[δd] at s
   obtain⟨x,F,rfl⟩:=ε.1 s
   obtain⟨b,v,e,_,o,y⟩:=pd.get _ _ _ C j (.sc (.int .i64 x)) (by simp[F])
   grind[df]
  refine Calls.mono (aDj Tryz.layC Tryz.t3 (.int .i64 0) 1 8 (by kernel_rfl) (by kernel_rfl) (by kernel_rfl) (by kernel_rfl) (by kernel_rfl) (by omega) Tryz.sizeOf3 p l.length cap (l.map (Value.int .i64)) w (by simp) (by grind[maxLen]) (by omega) H (by simp[Value.oneCell'])) ?_
  rintro e w' ⟨L,rfl,k,E,i⟩
  refine⟨i,.inr ?_⟩
  obtain⟨_,h|⟨g,d,c,rfl,J,I,D,G,M,O⟩⟩:=k
  ·simp_all
  ·exact⟨g,d,c,rfl,J,I,D,G,by omega,by simp_all⟩
def alW:fN:=⟨77,List Int,.one (mA (.i .i64)),λl=>l.length<=1000000,λl=> .row (.i .i64) l⟩
theorem h330:Holds Tryz.prog alW:=by
 intro(l:List Int) (z:l.length<=1000000)
 refine⟨by kernel_rfl,?_⟩
 intro A w s I j o
 have k:s=[]:=by have:=j.len;simp_all
 subst k
 have t:gL (alW.A.put l)=[.sl l.length (l.map λx=>δi (.int .i64 x))]:=by rw[<-aby];rfl
 have y:(alW.res l).g= .sl l.length (l.map λx=>δi (.int .i64 x)):=by rw[<-aby];rfl
 rw[t] at o;rw[y]
 refine Calls.mono (avM (by rfl) j z o) ?_
 rintro e q ⟨d,h⟩
 have f:iP A q [] []:=⟨rfl,by simp,by simp,by simp,by simp,λb h=>γo (j.RN b h) d.size⟩
 have p:Ext w [] [] q [] []:=⟨d.size,λb h _=>⟨d.block b h,λ⟨i,c,a⟩=>by simp at a⟩,Θ _,λ_ _ ⟨_,_,_,_,h,_⟩=>by simp at h,λ_ ⟨_,_,_,h⟩=>by simp at h,d.os,d.tape,d.output⟩
 rcases h with⟨rfl,rfl⟩|⟨g,v,m,rfl,H,F,B,E,G,u⟩
 ·exact⟨_,[],rfl,f,by simp only[df];exact⟨none,0,rfl,by simp,by rw[<-aby];grind[acs],by simp[pd]⟩,p⟩
 ·refine⟨_,[],rfl,f,?_,p⟩
  simp only[df]
  refine⟨_,_,rfl,B,by rw[<-aby];grind[acs],pd.YQ _ _ _ λi c a=>?_⟩
  rw[δd] at a
  obtain⟨x,r,rfl⟩:=ε.1 a
  have n:=(ζ.1 r).1
  have C:(m.toList.take l.length)[i]?=(l.map (Value.int .i64))[i]?:=by rw[u]
  rw[List.getElem?_take_of_lt n,Array.getElem?_toList,δd,r] at C
  refine⟨⟨g,0,none⟩,.int .i64 x,rfl,⟨λ⟨i,c,a⟩=>by simp at a,λD=>by have:=j.RN g D;omega⟩,?_,by simp[df,Value.oneCell']⟩
  simp_all[Addr.add_lit,World.cell?]
def agk:og where
 f:=77
 α:=List Int
 put a:=[.row (.i .i64) a]
 st a:=[]
 dec v o:=match v,o with
  |[.row t l],[]=>AW t (.i .i64) l
  |_,_=>none
 ok v o a h:=by
  grind[KA]
 inj a b e1 e2:=by
  simp only[gL,Δ,SV.g,AV.sl.injEq,and_true] at e1
  exact XV (.i .i64) (by omega) e1.2
 dom a:=a.length<=1000000
 res a:=.ow 0 a.length 1
 out a:=[.row (.i .i64) a 3 true]
theorem h330o:sd Tryz.prog agk:=by
 intro(l:List Int) (E:l.length<=1000000)
 refine⟨by kernel_rfl,?_⟩
 intro A w s G k p
 replace k:iP A w s []:=k
 replace p:ei A w s [] (gL (agk.put l)) G:=p
 have q:s=[]:=by have:=k.len;simp_all
 subst q
 have F:gL (agk.put l)=[.sl l.length (l.map λx=>δi (.int .i64 x))]:=by rw[<-aby];rfl
 have B:(agk.res l).g= .os 0 0 l.length (l.length*1):=rfl
 have D:gO (agk.out l)=[ig.cells (l.map λx=>δi (.int .i64 x)) 3 1 true]:=by rw[<-aby];rfl
 rw[F] at p;rw[B,D]
 show Calls _ _ _ _ λe n=>∃u f,e= .returned u/\iP A n f [ig.cells (l.map λx=>δi (.int .i64 x)) 3 1 true]/\df A n f [ig.cells (l.map λx=>δi (.int .i64 x)) 3 1 true] (.os 0 0 l.length (l.length*1)) u/\Ext w [] [] n f [ig.cells (l.map λx=>δi (.int .i64 x)) 3 1 true]
 refine Calls.mono (avM (by rfl) k E p) ?_
 rintro e n ⟨d,h⟩
 have t:aeK [ig.cells (l.map λx=>δi (.int .i64 x)) 3 1 true] 0 (l.length*1):=⟨_,_,_,_,rfl,by simp⟩
 rcases h with⟨rfl,rfl⟩|⟨g,m,o,rfl,P,z,C,J,O,I⟩
 ·refine⟨_,[none],rfl,⟨rfl,?_,?_,?_,?_,λb h=>γo (k.RN b h) d.size⟩,?_,d.size,λb h _=>⟨d.block b h,?_⟩,εY _,λ_ _ ⟨_,_,_,_,h,_⟩=>by simp at h,λ_ ⟨_,_,_,h⟩=>by simp at h,d.os,d.tape,d.output⟩
  ·grind
  ·grind
  ·intro i x a
   cases i with
   |zero=>
    simp at a;subst a
    simp only[pn]
    exact⟨λ_=>rfl,rfl,.inl (by simp)⟩
   |succ i=>simp at a
  ·grind
  ·grind[df,SL]
  ·rintro⟨i,c,a⟩;grind
 ·have L:g<n.heap.size:=(Array.getElem?_eq_some_iff.1 z).1
  refine⟨_,[some (g,m)],rfl,⟨rfl,?_,?_,?_,?_,λb h=>γo (k.RN b h) d.size⟩,?_,d.size,λb h _=>⟨d.block b h,?_⟩,εY _,λ_ _ ⟨_,_,_,_,h,_⟩=>by simp at h,λ_ ⟨_,_,_,h⟩=>by simp at h,d.os,d.tape,d.output⟩
  ·grind
  ·grind
  ·intro i x a
   cases i with
   |zero=>
    simp at a;subst a
    simp only[pn]
    refine⟨λ_=>by rw[<-aby];grind[acs],by rw[<-aby];grind[ala],.inr ⟨g,m,o,rfl,J,z,by omega,by simp;omega,?_⟩⟩
    intro j c v;rw[δd] at v
    obtain⟨x,r,rfl⟩:=ε.1 v
    have H:=(ζ.1 r).1
    refine⟨.int .i64 x,?_,by simp[df,Value.oneCell']⟩
    have N:(o.toList.take l.length)[j]?=(l.map (Value.int .i64))[j]?:=by rw[I]
    grind
   |succ i=>simp at a
  ·intro i b c a
   cases i with
   |zero=>
    simp at a;intro K
    have:=k.RN b K
    omega
   |succ i=>simp at a
  ·simp only[df]
   refine⟨t,_,_,rfl,C,λM y=>?_⟩
   obtain⟨_,_,_,y,_⟩:=y
   grind[SL,acj]
  ·rintro⟨i,c,a⟩
   grind
def Yf (l:List Int) (i j:Nat):List Int:=l.take i++l.drop j++δ (j - i) 0
theorem avN {l:List Int} {i j:Nat} (a:i<=j) (b:j<=l.length):(Yf l i j).length=l.length:=by
 grind[Yf]
def agl:og where
 f:=155
 α:=(Nat×List Int)×Int×Int
 put a:=[.ow 0 a.1.1 1,.si .i64 a.2.1,.si .i64 a.2.2]
 st a:=[.row (.i .i64) a.1.2 3 true]
 dec v o:=match v,o with
  |[.ow 0 n 1,x,y],[.row t l 3 true]=>match AW t (.i .i64) l,x.int .i64,y.int .i64 with
   |some l,some i,some j=>some ((n,l),i,j)
   |_,_,_=>none
  |_,_=>none
 ok v o a h:=by
  split at h
  ·split at h
   ·rename_i d m r
    simp only[γ] at h;subst h
    obtain⟨rfl,k⟩:=KA d
    cases k
    refine⟨?_,rfl⟩
    simp only[gL,F2 m,F2 r];rfl
   ·cases h
  ·cases h
 inj a b e c:=by
  obtain⟨⟨n,l⟩,i,j⟩:=a
  obtain⟨⟨u,p⟩,w,s⟩:=b
  simp only[gL,Δ,SV.g,δ7,true_and,and_true,AV.sc.injEq,Value.int.injEq] at e;simp only[gO,ψ,γy,cJ.g,Δ,ig.cells.injEq,and_true,true_and] at c
  have d:l=p:=by
   have q:=congrArg γb c
   rw[x7,x7] at q
   exact XV (.i .i64) (by grind[cn.sz]) c
  simp_all
 dom a:=(a.1.1=a.1.2.length/\1<=a.1.2.length/\a.1.2.length<=1000000)/\0<=a.2.1/\a.2.1<=a.2.2/\a.2.2<=a.1.2.length
 res a:=.os 0 0 (a.1.2.length - (a.2.2 - a.2.1).toNat) a.1.1 1
 out a:=[.row (.i .i64) (Yf a.1.2 a.2.1.toNat a.2.2.toNat) 3 true]
theorem h347:sd Tryz.prog agl:=by
 rintro⟨⟨n,l⟩,i,j⟩ ⟨⟨H,K,h2⟩,i0,ij,Y⟩
 simp only at H K h2 i0 ij Y
 subst H
 obtain⟨i,rfl⟩:∃k:Nat,i=k:=⟨i.toNat,by omega⟩
 obtain⟨j,rfl⟩:∃k:Nat,j=k:=⟨j.toNat,by omega⟩
 refine⟨by kernel_rfl,?_⟩
 intro A w F X t z
 have I:∀m:List Int,gO [cJ.row (.i .i64) m 3 true]=[ig.cells (m.map λx=>δi (.int .i64 x)) 3 1 true]:=λm=>by
  simp only[gO,ψ,γy,cJ.g,aby];rfl
 have V:gL (agl.put ((l.length,l),(i:Int),(j:Int)))=[.os 0 0 l.length (l.length*1),.sc (.int .i64 i),.sc (.int .i64 j)]:=rfl
 have Z:(agl.res ((l.length,l),(i:Int),(j:Int))).g= .os 0 0 (l.length - (j - i)) (l.length*1):=by
  show AV.os 0 (0*1) (l.length - ((j:Int) - (i:Int)).toNat) (l.length*1)=_
  simp_all
 show Calls _ _ _ _ λe h=>∃u p,e= .returned u/\iP A h p (gO [cJ.row (.i .i64) (Yf l i j) 3 true])/\df A h p (gO [cJ.row (.i .i64) (Yf l i j) 3 true]) (agl.res ((l.length,l),(i:Int),(j:Int))).g u/\Ext w F (gO [cJ.row (.i .i64) l 3 true]) h p (gO [cJ.row (.i .i64) (Yf l i j) 3 true])
 replace t:iP A w F (gO [cJ.row (.i .i64) l 3 true]):=t
 replace z:ei A w F (gO [cJ.row (.i .i64) l 3 true]) (gL (agl.put ((l.length,l),(i:Int),(j:Int)))) X:=z
 rw[I] at t z;rw[I,I,Z];rw[V] at z
 obtain⟨b,a2,d,rfl,S,Q,q4,q5,q6⟩:=avL t K
 simp only[ei] at z
 obtain⟨v,r,rfl,M,v2,r2,rfl,C,v3,r3,rfl,D,rfl⟩:=z
 simp only[df] at M C D
 obtain⟨a0,a,s,rfl,a3,J⟩:=M
 obtain⟨rfl,_⟩:=C
 obtain⟨rfl,_⟩:=D
 have O:=J 1 ⟨_,_,_,rfl,by simp⟩
 simp only[SL,γB] at O
 obtain⟨rfl,rfl⟩:=O.2.1 trivial trivial (by omega)
 have hb:b<w.heap.size:=t.bnd 0 b s rfl
 have W:=holds_of_blockI (ss:=l) Q q6
 have T:maxLen=9223372036854775807:=rfl
 have B:=@avN l i j (by omega) (by omega)
 have E:Calls Tryz.prog (agl).f #[.slice (some ⟨b,0,none⟩) l.length s,.int .i64 i,.int .i64 j] w λe h=>e= .returned (.slice (some ⟨b,0,none⟩) (l.length - (j - i)) s)/\∃q,h=Sort.putRow (Value.int .i64) (Sort.ahead w q) b 0 (Yf l i j).toArray:=by
  exact AnyE.slices_Delete Tryz.layD (Value.int .i64) (λ_=>rfl) 0 Tryz.zeroValue3 Tryz.t3 (by kernel_rfl) (by kernel_rfl) b 0 s i j l.toArray w W (by omega) (by omega) (by omega) (by simp;omega)
 refine Calls.mono E ?_
 rintro e h ⟨rfl,q,rfl⟩
 have y:=grownBy_sortedI (w:=w) (g:=b) (n:=q) (os:=#[]) (Yf l i j).toArray
 have L:=heap_sortedI (w:=w) (n:=q) (os:=#[]) (Yf l i j).toArray Q
 rw[Sort.grow_empty] at y L
 have R:=take_putCellsI d (Yf l i j) (by omega)
 have hz:(Sort.putCells (Value.int .i64) 0 (Yf l i j).toArray d).size=d.size:=by simp[Sort.putCells]
 generalize Sort.putRow (Value.int .i64) (Sort.ahead w q) b 0 (Yf l i j).toArray=h at*
 generalize Sort.putCells (Value.int .i64) 0 (Yf l i j).toArray d=o at*
 have N:=t.upd (w':=h) (id:=0) (x':=.cells ((Yf l i j).map λx=>δi (.int .i64 x)) 3 1 true) (s':=some (b,s)) rfl y.size y.os y.tape y.output
  (λk U H=>y.block k U λe=>by simp_all) (λb' c' e=>by simp_all)
  ⟨_,_,_,rfl,by simp[B],λ_=>rfl⟩ ?_
 ·refine⟨_,[some (b,s)],rfl,N.1,?_,N.2⟩
  simp only[df]
  refine⟨⟨_,_,_,_,rfl,by simp[B]⟩,_,_,rfl,by omega,λsz E=>?_⟩
  obtain⟨_,_,_,E,_⟩:=E
  grind[SL]
 ·intro hx
  simp only[pn]
  refine⟨λ_=>by rw[<-aby];exact acs _ _,by rw[<-aby];exact ala _ _,.inr ⟨b,s,o,rfl,S,L,by omega,by simp_all,?_⟩⟩
  intro k c P;rw[δd] at P
  obtain⟨x,G,rfl⟩:=ε.1 P
  have a1:=(ζ.1 G).1
  refine⟨.int .i64 x,?_,by simp[df,Value.oneCell']⟩
  have h9:(o.toList.take (Yf l i j).length)[k]?=((Yf l i j).map (Value.int .i64))[k]?:=by rw[R]
  grind
def abz (a:List Int):Nat->Nat
 |0=>0
 |n+1=>if bC a n 0=0 then abz a n else n+1
def eZ (a:List Int):List Int:=a.take (abz a a.length)
def adH:fN:=⟨96,List Int,.one (mA (.i .u32)),λa=>a.length<=1000000000000,λa=> .row (.i .u32) (eZ a)⟩
def aDk (a:List Int):Nat->jY
 |2=> .inv Int (λn=>⟨[(0,.row (.i .u32) a),(3,.si .i64 n)],[]⟩) (λs=>iS s 3) (λn=>0<=n/\n<=a.length/\abz a n.toNat=abz a a.length) (λn=>n.toNat) λ_ _=> .look
 |_=> .look
theorem h152:Holds Tryz.prog adH:=by
 refine kh (L:=[]) adH aDk (by simp) ?_
 intro(a:List Int) (h:a.length<=1000000000000)
 refine gp (let e:=(0:Int);let f:=Ξ;let c:=cn.i .u32;let d:=(↑a.length:Int);let l:=γa .i64 d;let g:=(↑a.length:Int);let j:=abz a a.length;((((f c a).same (f c a)/\l.same l/\True)/\True)/\e<=d/\d<=g/\abz a d.toNat=j)/\∀(x:Int),let r:=decide (e<x);let b:=x - (1:Int);let o:=decide (bC a b.toNat e=e);let k:=γa .i64 b;e<=x/\x<=g/\abz a x.toNat=j->(r=true->ie .i64 b/\e<=b/\b<d/\b.toNat<a.length/\(o=true->ie .i64 b/\(((f c a).same (f c a)/\k.same k/\True)/\True)/\(e<=b/\b<=g/\abz a b.toNat=j)/\b.toNat<x.toNat)/\(o=false->e<=x/\e<=x/\0<=x.toNat/\x.toNat<=x.toNat/\x.toNat<=a.length/\(f c (ω (x.toNat - 0) a)).same (f c (eZ a))))/\(r=false->e<=x/\e<=x/\0<=x.toNat/\x.toNat<=x.toNat/\x.toNat<=a.length/\(f c (ω (x.toNat - 0) a)).same (f c (eZ a)))) (by kernel_rfl) ?_
 simp only[vcs]
 refine⟨⟨by omega,by omega,by simp⟩,?_⟩
 rintro n ⟨f,t,q⟩
 have e:(n.toNat=0\/0<n.toNat/\¬bC a (n.toNat - 1) 0=0)->ω (n.toNat - 0) a=eZ a:=λh=>by
  unfold eZ;rw[<-q]
  congr 1
  rcases h with h|h
  ·rw[h];rfl
  ·obtain⟨v,h⟩:=h
   obtain⟨m,u⟩:∃m,n.toNat=m+1:=⟨n.toNat - 1,by omega⟩
   simp_all[abz]
 refine⟨λs=>⟨by omega,by omega,by omega,by omega,λp=>⟨by omega,⟨by omega,by omega,?_⟩,by omega⟩,λp=>⟨f,f,by omega,by omega,by omega,?_⟩⟩,λs=>⟨f,f,by omega,by omega,by omega,e (.inl (by omega))⟩⟩
 ·rw[<-q,show n.toNat=(n - 1).toNat+1 by omega]
  rw[abz,if_pos p]
 simp_all
def bD:List Int->Int
 |[]=>0
 |d::l=>d+4294967296*bD l
def cQ (a:List Int):Prop:=∀d∈a,0<=d/\d<4294967296
def qH:List Int->Prop
 |[]=>True
 |d::l=>(l=[]->d≠0)/\qH l
theorem Kt {d:Int} {l:List Int}:cQ (d::l)↔(0<=d/\d<4294967296)/\cQ l:=by simp[cQ]
theorem SU {a:List Int} (h:cQ a) (n:Nat):cQ (a.take n):=λd b=>h d (List.mem_of_mem_take b)
theorem rf:∀{a:List Int},cQ a->0<=bD a
 |[],_=>Int.le_refl _
 |d::l,h=>by
  obtain⟨c,b⟩:=Kt.1 h
  have:=rf b
  grind[bD]
theorem val_zero:∀{a:List Int},cQ a->qH a->bD a=0->a=[]
 |[],_,_,_=>rfl
 |d::l,h,b,f=>by
  obtain⟨g,c⟩:=Kt.1 h
  have:=rf c
  simp only[bD] at f
  have e:=val_zero c b.2 (by omega)
  have:=b.1 e
  omega
theorem val_inj:∀{a b:List Int},cQ a->cQ b->qH a->qH b->bD a=bD b->a=b
 |[],b,_,i,_,c,h=>(val_zero i c h.symm).symm
 |d::l,[],f,_,g,_,h=>val_zero f g h
 |d::l,e::m,f,i,g,c,h=>by
  obtain⟨p,j⟩:=Kt.1 f
  obtain⟨s,k⟩:=Kt.1 i
  have r:=rf j
  have q:=rf k
  simp only[bD] at h
  have n:d=e:=by omega
  have o:bD l=bD m:=by omega
  rw[n,val_inj j k g.2 c.2 o]
theorem adI:∀{a:List Int} {x:Int},bD (a++[x])=bD a+4294967296^a.length*x
 |[],x=>by simp[bD]
 |d::l,x=>by
  simp only[γJ,bD,adI,γz,γx,εy]
  grind
theorem apx:∀{a:List Int} {x:Int},x≠0->qH (a++[x])
 |[],x,h=>⟨λ_=>h,trivial⟩
 |d::l,x,h=>⟨λb=>by simp at b,apx h⟩
theorem alX {a:List Int} {n:Nat} (h:n<a.length):a.take (n+1)=a.take n++[bC a n 0]:=by
 simp_all[my]
theorem avO {a:List Int}:∀{n:Nat},n<=a.length->bD (a.take (abz a n))=bD (a.take n)/\qH (a.take (abz a n))
 |0,_=>by simp[abz,qH]
 |n+1,h=>by
  obtain⟨d,b⟩:=@avO a n (by omega)
  have c:=alX (show n<a.length by omega)
  unfold abz
  grind[adI,apx]
theorem adJ {a:List Int}:bD (eZ a)=bD a/\qH (eZ a):=by
 have:=@avO a a.length (Θ _)
 rw[τ] at this;exact this
theorem aej {a:List Int} (h:cQ a):cQ (eZ a):=SU h _
theorem ae6 {a:List Int}:(eZ a).length<=a.length:=by grind[eZ]
def ae7:Nat->Int->List Int
 |0,_=>[]
 |k+1,n=>if n<=0 then[] else(n % 4294967296)::ae7 k (n / 4294967296)
def ey (n:Int):List Int:=ae7 n.toNat n
theorem avP:∀{k:Nat} {n:Int},0<=n->n.toNat<=k->bD (ae7 k n)=n/\cQ (ae7 k n)/\qH (ae7 k n)
 |0,n,b,h=>by
  have:n=0:=by omega
  subst this
  exact⟨rfl,by simp[ae7,cQ],trivial⟩
 |k+1,n,b,h=>by
  unfold ae7;split
  ·have:n=0:=by omega
   subst this
   exact⟨rfl,by simp[cQ],trivial⟩
  ·obtain⟨d,a,c⟩:=@avP k (n / 4294967296) (by omega) (by omega)
   refine⟨by grind[bD],Kt.2 ⟨by omega,a⟩,λe f=>?_,c⟩
   grind[bD]
theorem ri {n:Int} (h:0<=n):bD (ey n)=n/\cQ (ey n)/\qH (ey n):=avP h (Θ _)
theorem aek {a:List Int} (h:cQ a) (b:qH a):ey (bD a)=a:=by
 grind[ri,rf,val_inj]
theorem acZ {a:List Int} (h:cQ a):eZ a=ey (bD a):=by
 grind[adJ,aek,aej]
theorem Ku:∀{a:List Int},cQ a->bD a<4294967296^a.length
 |[],_=>by simp[bD]
 |d::l,h=>by
  obtain⟨c,b⟩:=Kt.1 h
  have:=Ku b
  grind[bD]
def Kv (s t:List Int):Nat->Int
 |0=>0
 |i+1=>(bC s i 0+Kv s t i+bC t i 0) / 4294967296
def adD (s t:List Int) (i:Nat):Int:=(bC s i 0+Kv s t i+bC t i 0) % 4294967296
def adR (s t:List Int) (i:Nat):List Int:=(Φ i).map (adD s t)++δ (s.length+1 - i) 0
def big (a:List Int×List Int):List Int:=if a.1.length<a.2.length then a.2 else a.1
def Zd (a:List Int×List Int):List Int:=if a.1.length<a.2.length then a.1 else a.2
def ajp:fN:=⟨109,List Int×List Int,.cons (mA (.i .u32)) (.one (mA (.i .u32))),λa=>(cQ a.1/\cQ a.2)/\a.1.length<=100000000000/\a.2.length<=100000000000,λa=> .row (.i .u32) (ey (bD a.1+bD a.2))⟩
def aDl (a:List Int×List Int):Nat->jY
 |6=> .inv Int (λi=>⟨[(0,.row (.i .u32) (big a)),(1,.row (.i .u32) (Zd a)),(5,.ow 0 (adR (big a) (Zd a) i.toNat).length 1),(6,.si .u64 (Kv (big a) (Zd a) i.toNat)),(21,.si .i64 (big a).length),(22,.si .i64 i)],[.row (.i .u32) (adR (big a) (Zd a) i.toNat) 161 true]⟩) (λs=>iS s 22)
  (λi=>0<=i/\i<=(big a).length) (λi=>((big a).length - i).toNat) λ_ _=> .look
 |_=> .look
theorem qb {a:List Int} (h:cQ a) (i:Nat):0<=bC a i 0/\bC a i 0<4294967296:=by
 by_cases b:i<a.length
 ·rw[my b];exact h _ (List.getElem_mem b)
 grind[bC]
theorem ahM {a:List Int} {i:Nat} (h:a.length<=i):bC a i 0=0:=by grind[bC]
theorem apy {s t:List Int} (b:cQ s) (a:cQ t):∀i,0<=Kv s t i/\Kv s t i<=1
 |0=>by simp[Kv]
 |i+1=>by
  have h:=apy b a i
  have c:=qb b i
  have d:=qb a i
  grind[Kv]
theorem alY {s t:List Int} {i:Nat} (h:i<=s.length):(adR s t i).length=s.length+1:=by grind[adR]
theorem apz {s t:List Int} {i:Nat} {v:Int} (h:i<=s.length):(adR s t i).set i v=(Φ i).map (adD s t)++v::δ (s.length - i) 0:=by
 unfold adR
 have a:s.length+1 - i=(s.length - i)+1:=by omega
 rw[a,List.replicate_succ]
 simp_all
theorem avQ {s t:List Int} {i:Nat} (h:i<s.length):adR s t (i+1)=(adR s t i).set i (adD s t i):=by
 rw[apz (by omega)]
 unfold adR;rw[εi,γj,List.append_assoc]
 simp_all
theorem KE {a:List Int} {i:Nat}:bD (a.take (i+1))=bD (a.take i)+4294967296^i*bC a i 0:=by
 by_cases h:i<a.length
 ·grind[alX,adI]
 ·rw[ahM (by omega),Ω (by omega),Ω (by omega)]
  simp
theorem apA {s t:List Int}:∀i,bD ((Φ i).map (adD s t))+4294967296^i*Kv s t i=bD (s.take i)+bD (t.take i)
 |0=>by simp[Kv,bD]
 |i+1=>by
  have a:=@apA s t i
  rw[εi,γj,ψ,γy,adI,KE,KE,γx]
  grind[adD,Kv]
theorem h154:Holds Tryz.prog ajp:=by
 refine kh (L:=[adH]) ajp aDl (by grind[h152]) ?_
 rintro⟨a,b⟩ ⟨⟨ha,hb⟩,U,P⟩
 simp only at ha hb U P
 refine gp (let c:=(18446744073709551616:Int);let d:=(0:Int);let e:=(4294967296:Int);let h:=γa .i64;let m:=Ξ;let n:=cJ.row;let o:=γQ;let r:=(↑(big (a,b)).length:Int);let J:=(↑(big (a,b)).length:Int);let T:=(↑(Zd (a,b)).length:Int);let p:=cn.i .u32;let X:=m p (big (a,b));let W:=m p (Zd (a,b));let R:=h r;let q:=adR (big (a,b)) (Zd (a,b)) 0;let t:=∀(x:Int),let f:=adR (big (a,b)) (Zd (a,b)) x.toNat;let g:=f.length;let j:=x+(1:Int);let C:=adR (big (a,b)) (Zd (a,b)) j.toNat;let K:=h j;let G:=bC (big (a,b)) x.toNat d;let w:=Kv (big (a,b)) (Zd (a,b)) x.toNat;let z:=f.set J.toNat (w % e);let B:=λ(u l:Int) ↦let F:=(u % c+l) % c;d<=(32:Int)/\(32:Int)<=(64:Int)/\f.length=g/\d<=x/\x<(↑g:Int)/\f.length=g/\x.toNat<g/\ie .i64 j/\((X.same X/\W.same W/\(o 0 f.length 1).same (o 0 C.length 1)/\(γa .u64 (F / e)).same (γa .u64 (Kv (big (a,b)) (Zd (a,b)) j.toNat))/\R.same R/\K.same K/\True)/\(n p (f.set x.toNat (F % e)) 161 true).same (n p C 161 true)/\True)/\(d<=j/\j<=r)/\(r - j).toNat<(r - x).toNat;d<=x/\x<=r->(decide (x<r)=true->d<=x/\x<J/\x.toNat<(big (a,b)).length/\(decide (x<T)=true->d<=x/\x<T/\x.toNat<(Zd (a,b)).length/\B (G % c+w) (bC (Zd (a,b)) x.toNat d % c))/\(decide (x<T)=false->B G w))/\(decide (x<r)=false->f.length=g/\d<=J/\J<(↑g:Int)/\f.length=g/\J.toNat<g/\f.length=z.length/\z.length<=1000000000000/\(m p (eZ z)).same (m p (ey (bD a+bD b))));let s:=λ(u:Bool) (l O:List Int) ↦let k:=(↑l.length:Int)+(1:Int);decide ((↑a.length:Int)<(↑b.length:Int))=u->ie .i64 k/\d<=k/\k<=k/\k*(4:Int)<=(140737488355328:Int)/\k<=(1000000000000:Int)/\((((m p l).same X/\(m p O).same W/\(o 0 k.toNat 1).same (o 0 q.length 1)/\(γu .u64 0).same (γa .u64 (Kv (big (a,b)) (Zd (a,b)) 0))/\(h (↑l.length:Int)).same R/\(γu .i64 0).same (h 0)/\True)/\(n p (d::δ l.length d) 161 true).same (n p q 161 true)/\True)/\d<=d/\d<=r)/\t;s true b a/\s false a b) (by kernel_rfl) ?_
 simp only[vcs]
 have a0:(a.length<b.length/\big (a,b)=b/\Zd (a,b)=a)\/(¬a.length<b.length/\big (a,b)=a/\Zd (a,b)=b):=by
  by_cases h:a.length<b.length
  ·exact .inl ⟨h,if_pos h,if_pos h⟩
  ·exact .inr ⟨h,if_neg h,if_neg h⟩
 generalize big (a,b)=s at*
 generalize Zd (a,b)=t at*
 have c:∀{u v:List Int},u=v->(cJ.row (.i .u32) u 161 true).same (cJ.row (.i .u32) v 161 true):=by rintro _ _ rfl;rfl
 have m:∀{u v:Nat},u=v->(γQ 0 u 1).same (γQ 0 v 1):=by rintro _ _ rfl;rfl
 have r0:∀u v:List Int,adR u v 0=0::δ u.length 0:=λu v=>rfl
 refine⟨λh=>?_,λh=>?_⟩
 ·obtain⟨h1,Z,V⟩:a.length<b.length/\s=b/\t=a:=by
   grind
  subst Z V
  have I:cQ s:=by assumption
  have H:cQ t:=by assumption
  have y:t.length<=s.length:=by omega
  have N:=apy I H
  refine⟨⟨by omega,by omega⟩,by omega,by omega,by omega,by omega,⟨⟨⟨rfl,rfl,m (by simp_all),rfl,rfl⟩,c (r0 s t).symm⟩,by omega,by omega⟩,?_⟩
  rintro i ⟨q,i1⟩
  have Y:=@alY s t i.toNat (by omega)
  have S:=N i.toNat
  have d1:=qb I i.toNat
  have d2:=qb H i.toNat
  refine⟨λA=>?_,λM=>?_⟩
  ·have l2:=@alY s t (i.toNat+1) (by omega)
   have e:(i+1).toNat=i.toNat+1:=by omega
   have o:=avQ (s:=s) (t:=t) (show i.toNat<s.length by omega)
   refine⟨q,A,by omega,λD=>?_,λD=>?_⟩
   ·have n:(((bC s i.toNat 0 % 18446744073709551616+Kv s t i.toNat) % 18446744073709551616+bC t i.toNat 0 % 18446744073709551616) % 18446744073709551616)=bC s i.toNat 0+Kv s t i.toNat+bC t i.toNat 0:=by omega
    rw[n,e]
    exact⟨q,D,by omega,by omega,by omega,q,by omega,by omega,by omega,⟨⟨m (by omega),rfl⟩,c o.symm⟩,by omega,by omega⟩
   ·have hz:=ahM (a:=t) (i:=i.toNat) (by omega)
    have n:((bC s i.toNat 0 % 18446744073709551616+Kv s t i.toNat) % 18446744073709551616)=bC s i.toNat 0+Kv s t i.toNat+bC t i.toNat 0:=by omega
    rw[n,e]
    exact⟨by omega,by omega,q,by omega,by omega,by omega,⟨⟨m (by omega),rfl⟩,c o.symm⟩,by omega,by omega⟩
  ·have E:i.toNat=s.length:=by omega
   have Q:Kv s t i.toNat % 4294967296=Kv s t i.toNat:=by omega
   rw[Q,γm,E];rw[E] at Y S
   refine⟨by omega,by omega,by omega,by simp,by simp;omega,?_⟩
   rw[apz (Θ _),Nat.sub_self,εZ,acZ ?_]
   ·rw[adI]
    have n:=@apA s t s.length
    rw[τ,Ω y] at n
    grind
   ·intro d hd
    grind[adD]
 ·obtain⟨h1,Z,V⟩:¬a.length<b.length/\s=a/\t=b:=by
   grind
  subst Z V
  have I:cQ s:=by assumption
  have H:cQ t:=by assumption
  have y:t.length<=s.length:=by omega
  have N:=apy I H
  refine⟨⟨by omega,by omega⟩,by omega,by omega,by omega,by omega,⟨⟨⟨rfl,rfl,m (by simp_all),rfl,rfl⟩,c (r0 s t).symm⟩,by omega,by omega⟩,?_⟩
  rintro i ⟨q,i1⟩
  have Y:=@alY s t i.toNat (by omega)
  have S:=N i.toNat
  have d1:=qb I i.toNat
  have d2:=qb H i.toNat
  refine⟨λA=>?_,λM=>?_⟩
  ·have l2:=@alY s t (i.toNat+1) (by omega)
   have e:(i+1).toNat=i.toNat+1:=by omega
   have o:=avQ (s:=s) (t:=t) (show i.toNat<s.length by omega)
   refine⟨q,A,by omega,λD=>?_,λD=>?_⟩
   ·have n:(((bC s i.toNat 0 % 18446744073709551616+Kv s t i.toNat) % 18446744073709551616+bC t i.toNat 0 % 18446744073709551616) % 18446744073709551616)=bC s i.toNat 0+Kv s t i.toNat+bC t i.toNat 0:=by omega
    rw[n,e]
    exact⟨q,D,by omega,by omega,by omega,q,by omega,by omega,by omega,⟨⟨m (by omega),rfl⟩,c o.symm⟩,by omega,by omega⟩
   ·have hz:=ahM (a:=t) (i:=i.toNat) (by omega)
    have n:((bC s i.toNat 0 % 18446744073709551616+Kv s t i.toNat) % 18446744073709551616)=bC s i.toNat 0+Kv s t i.toNat+bC t i.toNat 0:=by omega
    rw[n,e]
    exact⟨by omega,by omega,q,by omega,by omega,by omega,⟨⟨m (by omega),rfl⟩,c o.symm⟩,by omega,by omega⟩
  ·have E:i.toNat=s.length:=by omega
   have Q:Kv s t i.toNat % 4294967296=Kv s t i.toNat:=by omega
   rw[Q,γm,E];rw[E] at Y S
   refine⟨by omega,by omega,by omega,by simp,by simp;omega,?_⟩
   rw[apz (Θ _),Nat.sub_self,εZ,acZ ?_]
   ·rw[adI]
    have n:=@apA s t s.length
    rw[τ,Ω y] at n
    have hl:((Φ s.length).map (adD s t)).length=s.length:=by simp
    rw[hl,n]
    try rw[ζE]
   ·intro d hd
    grind[adD]
theorem ahN:∀{a b:List Int},cQ a->cQ b->qH b->a.length<b.length->bD a<bD b
 |[],b,_,c,f,h=>by
  have n:=rf c
  grind[bD,val_zero]
 |d::l,[],_,_,_,h=>by simp at h
 |d::l,e::m,g,c,f,h=>by
  obtain⟨k,j⟩:=Kt.1 g
  obtain⟨o,i⟩:=Kt.1 c
  simp only[γz] at h
  have:=ahN j i f.2 (by omega)
  grind[bD]
theorem apB:∀{k:Nat} {a b:List Int},cQ a->cQ b->k<a.length->k<b.length->a.drop (k+1)=b.drop (k+1)->bC a k 0<bC b k 0->bD a<bD b
 |_,[],_,_,_,h,_,_,_=>by simp at h
 |_,_::_,[],_,_,_,h,_,_=>by simp at h
 |0,d::l,e::m,f,g,_,_,h,c=>by
  grind[bC,bD]
 |k+1,d::l,e::m,f,g,n,q,h,c=>by
  obtain⟨p,j⟩:=Kt.1 f
  obtain⟨o,i⟩:=Kt.1 g
  simp only[List.drop_succ_cons] at h;simp only[bC,γn] at c
  have:=apB (k:=k) j i (by simp_all) (by simp_all) h c
  grind[bD]
theorem alZ {a:List Int} {k:Nat} (h:k<a.length):a.drop k=bC a k 0::a.drop (k+1):=by simp_all[my]
def Ig (x y:Int):Int:=if x<y then -1 else if y<x then 1 else 0
def ahO:fN:=⟨69,List Int×List Int,.cons (mA (.i .u32)) (.one (mA (.i .u32))),λa=>(cQ a.1/\cQ a.2)/\a.1.length<=1000000000000/\a.2.length<=1000000000000,λa=> .si .i64 (Ig (bD a.1) (bD a.2))⟩
def aDm (a:List Int×List Int):Nat->jY
 |7=> .inv Int (λi=>⟨[(0,.row (.i .u32) (eZ a.1)),(1,.row (.i .u32) (eZ a.2)),(22,.si .i64 (eZ a.1).length),(23,.si .i64 i)],[]⟩) (λs=>iS s 23)
  (λi=>0<=i/\i<=(eZ a.1).length/\(eZ a.1).drop ((eZ a.1).length - i.toNat)=(eZ a.2).drop ((eZ a.1).length - i.toNat)) (λi=>((eZ a.1).length - i).toNat) λ_ _=> .look
 |_=> .look
theorem h132:Holds Tryz.prog ahO:=by
 refine kh (L:=[adH]) ahO aDm (by simpa using h152) ?_
 rintro⟨a,b⟩ ⟨⟨ha,hb⟩,hla,hlb⟩
 simp only at ha hb hla hlb
 refine gp (let c:=(0:Int);let d:=γa .i64;let e:=γu .i64;let f:=ie .i64;let z0:Nat:=(eZ a).length;let h:=(↑z0:Int);let z2:Nat:=(eZ b).length;let l:=(↑z2:Int);let n:=d (Ig (bD a) (bD b));let o:=Ξ (cn.i .u32) (eZ a);let p:=Ξ (cn.i .u32) (eZ b);let z7:Nat:=(eZ a).length;let j:=(↑z7:Int);let s:=d j;let t:=e 0;let g:=h - (1:Int);a.length<=1000000000000/\b.length<=1000000000000/\(decide (h≠l)=true->(decide (h<l)=true->(e (-1:Int)).same n)/\(decide (h<l)=false->(e 1).same n))/\(decide (h≠l)=false->(((o.same o/\p.same p/\(d h).same s/\t.same (d 0)/\True)/\True)/\c<=c/\c<=j/\γ1 (z7 - 0) (eZ a)=γ1 (z7 - 0) (eZ b))/\∀(x:Int),let m:=(g - x).toNat;let q:=bC (eZ a) m c;let r:=bC (eZ b) m c;let k:=x+(1:Int);let u:=d k;c<=x/\x<=j/\γ1 (z7 - x.toNat) (eZ a)=γ1 (z7 - x.toNat) (eZ b)->(decide (x<j)=true->f g/\f (g - x)/\c<=g - x/\g - x<h/\m<z0/\c<=g - x/\g - x<l/\m<z2/\(decide (q<r)=true->(e (-1:Int)).same n)/\(decide (q<r)=false->c<=g - x/\g - x<h/\m<z0/\c<=g - x/\g - x<l/\m<z2/\(decide (r<q)=true->(e 1).same n)/\(decide (r<q)=false->f k/\((o.same o/\p.same p/\s.same s/\u.same u/\True)/\True)/\(c<=k/\k<=j/\γ1 (z7 - k.toNat) (eZ a)=γ1 (z7 - k.toNat) (eZ b))/\(j - k).toNat<(j - x).toNat)))/\(decide (x<j)=false->t.same n))) (by kernel_rfl) ?_
 simp only[vcs]
 obtain⟨va,na⟩:=@adJ a
 obtain⟨vb,nb⟩:=@adJ b
 have da:=aej ha
 have db:=aej hb
 have la:=@ae6 a
 rw[<-va,<-vb]
 generalize eZ a=s at*
 generalize eZ b=t at*
 have lt:bD s<bD t-> -1=Ig (bD s) (bD t):=λh=>by unfold Ig;rw[if_pos h]
 have gt:bD t<bD s->1=Ig (bD s) (bD t):=λh=>by unfold Ig;rw[if_neg (by omega),if_pos h]
 refine⟨hla,hlb,λhne=>⟨λh=>lt (ahN da db nb (by omega)),λh=>gt (ahN db da na (by omega))⟩,λhe=>⟨⟨by omega,by omega,?_⟩,?_⟩⟩
 ·rw[δP (by omega),δP (by omega)]
 rintro i ⟨i0,i1,hd⟩
 refine⟨λhlt=>?_,λhge=>?_⟩
 ·have hk:((s.length:Int) - 1 - i).toNat=s.length - 1 - i.toNat:=by omega
  have hk2:s.length - i.toNat=s.length - 1 - i.toNat+1:=by omega
  rw[hk];rw[hk2] at hd
  generalize hm:s.length - 1 - i.toNat=m at*
  refine⟨by omega,by omega,by omega,by omega,by omega,by omega,by omega,by omega,λh=>lt (apB da db (by omega) (by omega) hd h),λh=>⟨by omega,by omega,by omega,by omega,by omega,by omega,λh2=>gt (apB db da (by omega) (by omega) hd.symm h2),λh2=>⟨by omega,⟨by omega,by omega,?_⟩,by omega⟩⟩⟩
  rw[show s.length - (i+1).toNat=m by omega,alZ (show m<s.length by omega),alZ (show m<t.length by omega),hd,show bC s m 0=bC t m 0 by omega]
 ·have hz:s.length - i.toNat=0:=by omega
  rw[hz,δK,δK] at hd;subst hd;unfold Ig
  rw[if_neg (by omega),if_neg (by omega)]
def He (d:Int):List Int->List Int×Int
 |[]=>([],0)
 |x::l=>(((He d l).2*4294967296+x) / d::(He d l).1,((He d l).2*4294967296+x) % d)
theorem avR {d:Int}:∀{a:List Int},(He d a).1.length=a.length
 |[]=>rfl
 |x::l=>by simp[He,avR]
theorem al0 {d:Int} (e:0<d) (k:d<4294967296):∀{a:List Int},cQ a->cQ (He d a).1/\(0<=(He d a).2/\(He d a).2<d)/\bD (He d a).1*d+(He d a).2=bD a
 |[],_=>by grind[He,bD]
 |x::l,h=>by
  obtain⟨n,g⟩:=Kt.1 h
  obtain⟨j,⟨p,s⟩,o⟩:=al0 e k g
  simp only[He]
  generalize (He d l).1=q at*
  generalize (He d l).2=r at*
  have f:=γ8 (r*4294967296+x) (show d≠0 by omega)
  have i:=γO (r*4294967296+x) e
  have c:0<=(r*4294967296+x) / d:=Int.ediv_nonneg (by omega) (by omega)
  have b:(r*4294967296+x) / d<4294967296:=by
   refine Int.ediv_lt_of_lt_mul e ?_
   omega
  refine⟨Kt.2 ⟨⟨c,b⟩,j⟩,⟨f,i⟩,?_⟩
  simp only[bD]
  have m:=Int.mul_ediv_add_emod (r*4294967296+x) d
  grind
theorem aDn {d:Int} (i:0<d) (h:d<4294967296) {a:List Int} (g:cQ a):eZ (He d a).1=ey (bD a / d)/\(He d a).2=bD a % d:=by
 obtain⟨e,⟨c,b⟩,f⟩:=al0 i h g
 rw[acZ e]
 have j:=rf e
 have k:bD a / d=bD (He d a).1:=by
  rw[<-f,ζE,Int.add_mul_ediv_right _ _ (by omega),δQ c b,Int.zero_add]
 have l:bD a % d=(He d a).2:=by
  rw[<-f,ζE,Int.add_mul_emod_self_right,δm c b]
 simp_all
theorem apC {r x:Int} (d:0<=r) (g:r<4294967296) (a:0<=x) (e:x<4294967296):J9.orI .u64 (r*4294967296) x=r*4294967296+x:=by
 obtain⟨m,rfl⟩:=δI d
 obtain⟨k,rfl⟩:=δI a
 have b:(γq 64 ((m:Int)*4294967296)).toNat=2^32*m:=by
  grind[BitVec.toNat_ofInt]
 have c:(γq 64 (k:Int)).toNat=k:=by
  grind
 have f:(γq 64 ((m:Int)*4294967296) |||γq 64 (k:Int)).toNat=2^32*m+k:=by
  rw[BitVec.toNat_or,b,c,Nat.two_pow_add_eq_or_of_lt (by omega)]
 show x5 .u64 ((γq 64 ((m:Int)*4294967296) |||γq 64 (k:Int)).toNat:Nat)=_
 grind[aeN,IntKind.wrap,IntKind.bits,IntKind.signed]
def apD:fN:=⟨166,List Int×Int,.cons (mA (.i .u32)) (.one (sx .u32)),λa=>cQ a.1/\a.1.length<=100000000000/\0<a.2/\a.2<4294967296,λa=> .eW [.row (.i .u32) (ey (bD a.1 / a.2)),.si .u32 (bD a.1 % a.2)]⟩
def Ze (a:List Int) (d:Int) (i:Nat):List Int:=δ (a.length - i) 0++(He d (a.drop (a.length - i))).1
def Yg (a:List Int) (d:Int) (i:Nat):Int:=(He d (a.drop (a.length - i))).2
def aDo (a:List Int×Int):Nat->jY
 |4=> .inv Int (λi=>⟨[(0,.row (.i .u32) a.1),(1,.si .u32 a.2),(6,.ow 0 (Ze a.1 a.2 i.toNat).length 1),(7,.si .u64 (Yg a.1 a.2 i.toNat)),(15,.si .i64 a.1.length),(16,.si .i64 i)],[.row (.i .u32) (Ze a.1 a.2 i.toNat) 161 true]⟩) (λs=>iS s 16)
  (λi=>0<=i/\i<=a.1.length) (λi=>(a.1.length - i).toNat) λ_ _=> .look
 |_=> .look
theorem avS {a:List Int} {d:Int} {i:Nat} (h:i<=a.length):(Ze a d i).length=a.length:=by
 grind[Ze,avR]
theorem drop_cons {a:List Int} {k:Nat} (h:k<a.length):a.drop k=bC a k 0::a.drop (k+1):=alZ h
theorem avT {q:List Int} {y:Int}:∀k,(δ (k+1) 0++q).set k y=δ k 0++y::q
 |0=>by simp
 |k+1=>by
  have:=@avT q y k
  grind
theorem u64_in {n:Int} (b:0<=n) (a:n<18446744073709551616):ie .u64 n:=by
 show IntKind.u64.wrap n=n
 grind[IntKind.wrap,IntKind.bits,IntKind.signed]
theorem h167:Holds Tryz.prog apD:=by
 refine kh (L:=[adH]) apD aDo (by grind[h152]) ?_
 rintro⟨a,d⟩ ⟨o,H,n,w⟩
 simp only at o H n w
 refine gp (let h:=(0:Int);let k:=(18446744073709551616:Int);let l:=(4294967296:Int);let m:=γa .i64;let n:=Ξ;let o:=cJ.row;let p:=ie .i64;let q:=(1:Int);let s:=γQ;let c:=(↑a.length:Int);let e:=cn.i .u32;let f:=(↑a.length:Int);let A:=m f;let r:=d % k;h<=c/\c<=c/\c*(4:Int)<=(140737488355328:Int)/\c<=(1000000000000:Int)/\((((n e a).same (n e a)/\(γa .u32 d).same (γa .u32 d)/\(s 0 c.toNat 1).same (s 0 (Ze a d 0).length 1)/\(γu .u64 0).same (γa .u64 (Yg a d 0))/\(m c).same A/\(γu .i64 0).same (m 0)/\True)/\(o e (δ c.toNat h) 161 true).same (o e (Ze a d 0) 161 true)/\True)/\h<=h/\h<=f)/\∀(x:Int),let g:=c - q - x;let C:=J9.orI .u64 (Yg a d x.toNat*l % k) (bC a g.toNat h % k);let b:=Ze a d x.toNat;let j:=x+q;let K:=m j;h<=x/\x<=f->(decide (x<f)=true->p (c - q)/\p g/\h<=(32:Int)/\(32:Int)<=(64:Int)/\h<=g/\g<c/\g.toNat<a.length/\r≠h/\ie .u64 (C.tdiv r)/\r≠h/\b.length=b.length/\h<=g/\g<(↑b.length:Int)/\b.length=b.length/\g.toNat<b.length/\p j/\(((n e a).same (n e a)/\(γa .u32 d).same (γa .u32 d)/\(s 0 b.length 1).same (s 0 (Ze a d j.toNat).length 1)/\(γa .u64 (C.tmod r)).same (γa .u64 (Yg a d j.toNat))/\A.same A/\K.same K/\True)/\(o e (b.set g.toNat (C.tdiv r % l)) 161 true).same (o e (Ze a d j.toNat) 161 true)/\True)/\(h<=j/\j<=f)/\(f - j).toNat<(f - x).toNat)/\(decide (x<f)=false->b.length=b.length/\b.length<=1000000000000/\(SV.eW [n e (eZ b),γa .u32 (Yg a d x.toNat % l)]).same (SV.eW [n e (ey (bD a / d)),γa .u32 (bD a % d)]))) (by kernel_rfl) ?_
 simp only[vcs]
 have p:∀{u v:List Int},u=v->(cJ.row (.i .u32) u 161 true).same (cJ.row (.i .u32) v 161 true):=by rintro _ _ rfl;rfl
 have G:∀{u v:Nat},u=v->(γQ 0 u 1).same (γQ 0 v 1):=by rintro _ _ rfl;rfl
 have e:Ze a d 0=δ a.length 0:=by simp[Ze,He]
 have f:Yg a d 0=0:=by simp[Yg,He]
 refine⟨by omega,by omega,by omega,by omega,⟨⟨⟨G (by simp_all),f.symm⟩,p (by simp_all)⟩,by omega,by omega⟩,?_⟩
 rintro i ⟨i0,Z⟩
 have l1:=@avS a d i.toNat (by omega)
 have M:=λh=>@avS a d (i+1).toNat h
 have P:d % 18446744073709551616=d:=by omega
 refine⟨λN=>?_,λQ=>?_⟩
 ·have U:((a.length:Int) - 1 - i).toNat=a.length - 1 - i.toNat:=by omega
  have R:a.length - i.toNat=a.length - 1 - i.toNat+1:=by omega
  have W:a.length - (i+1).toNat=a.length - 1 - i.toNat:=by omega
  have X:Ze a d i.toNat=δ (a.length - 1 - i.toNat+1) 0++(He d (a.drop (a.length - 1 - i.toNat+1))).1:=by grind[Ze]
  have I:Yg a d i.toNat=(He d (a.drop (a.length - 1 - i.toNat+1))).2:=by grind[Yg]
  have l:Ze a d (i+1).toNat=δ (a.length - 1 - i.toNat) 0++(He d (a.drop (a.length - 1 - i.toNat))).1:=by grind[Ze]
  have m:Yg a d (i+1).toNat=(He d (a.drop (a.length - 1 - i.toNat))).2:=by grind[Yg]
  have E:a.length - 1 - i.toNat<a.length:=by omega
  rw[U]
  have l3:=M (by omega)
  generalize a.length - 1 - i.toNat=k at*
  have D:=drop_cons E
  have t:cQ (a.drop k):=λz F=>o z (γY F)
  obtain⟨q1,O,q3⟩:=al0 n w (a:=a.drop (k+1)) (λz F=>o z (γY F))
  obtain⟨y,B,p3⟩:=al0 n w t
  rw[D] at l m y B;simp only[He] at l m y B
  have q:=qb o k
  rw[<-I] at l m y B O
  have S:Yg a d i.toNat*4294967296 % 18446744073709551616=Yg a d i.toNat*4294967296:=by omega
  have V:bC a k 0 % 18446744073709551616=bC a k 0:=by omega
  rw[S,V,P,apC (by omega) (by omega) q.1 q.2]
  have s:0<=Yg a d i.toNat*4294967296+bC a k 0:=by omega
  rw[Int.tdiv_eq_ediv_of_nonneg s,Int.tmod_eq_emod_of_nonneg s]
  have J:=(Kt.1 y).1
  have T:(Yg a d i.toNat*4294967296+bC a k 0) / d % 4294967296=(Yg a d i.toNat*4294967296+bC a k 0) / d:=δm J.1 J.2
  grind[u64_in,avT]
 ·have hi:a.length - i.toNat=0:=by omega
  have X:Ze a d i.toNat=(He d a).1:=by grind[Ze]
  have I:Yg a d i.toNat=(He d a).2:=by grind[Yg]
  obtain⟨k1,k2⟩:=aDn n w o
  have Y:=γ8 (bD a) (show d≠0 by omega)
  have hl:=γO (bD a) n
  grind
def HH:Nat->Int->List Int
 |0,_=>[]
 |k+1,x=>x % 4294967296::HH k (x / 4294967296)
theorem ajq:∀{k:Nat} {x:Int},(HH k x).length=k
 |0,_=>rfl
 |k+1,x=>by simp[HH,ajq]
theorem apE:∀{k:Nat} {x:Int},cQ (HH k x)
 |0,_=>by simp[HH,cQ]
 |k+1,x=>Kt.2 ⟨by omega,apE⟩
theorem avU:∀{l:List Int},cQ l->HH l.length (bD l)=l
 |[],_=>rfl
 |d::l,h=>by
  obtain⟨e,b⟩:=Kt.1 h
  simp only[γz,HH,bD]
  have c:(d+4294967296*bD l) % 4294967296=d:=by omega
  have a:(d+4294967296*bD l) / 4294967296=bD l:=by omega
  rw[c,a,avU b]
theorem apF {l:List Int} {k:Nat} {x:Int} (h:cQ l) (b:l.length=k) (a:bD l=x):l=HH k x:=by
 grind[avU]
theorem pow_pos (k:Nat):(0:Int)<4294967296^k:=Int.pow_pos (by decide)
theorem apG:∀{k:Nat} {x:Int},0<=x->x<4294967296^k->bD (HH k x)=x
 |0,x,b,a=>by grind[HH,bD]
 |k+1,x,b,a=>by
  rw[γx] at a;simp only[HH,bD]
  rw[apG (k:=k) (x:=x / 4294967296) (by omega) (by omega)]
  omega
theorem al1:∀{a b:List Int},bD (a++b)=bD a+4294967296^a.length*bD b
 |[],b=>by simp[bD]
 |d::l,b=>by
  simp only[γJ,bD,al1,γz,γx,εy]
  grind
theorem ae9:∀{l:List Int} {j:Nat} {v:Int},j<l.length->bD (l.set j v)=bD l+4294967296^j*(v - bC l j 0)
 |[],_,_,h=>by simp at h
 |d::l,0,v,_=>by grind[bD,bC]
 |d::l,j+1,v,h=>by
  have a:=@ae9 l j v (by simpa using h)
  grind[bC,bD]
theorem aa2 {l:List Int} {j:Nat} {v:Int} (h:cQ l) (c:0<=v) (b:v<4294967296):cQ (l.set j v):=by
 intro d a
 rcases List.mem_or_eq_of_mem_set a with a|rfl
 ·exact h d a
 omega
theorem ahP {a:List Int} (h:cQ a) (n:Nat):cQ (a.drop n):=λd b=>h d (γY b)
theorem agm {a b:List Int} (e:cQ a) (c:cQ b):cQ (a++b):=λd f=>by
 rcases γt.1 f with h|h
 ·exact e d h
 ·exact c d h
theorem ajr {x:Int} (b:0<=x) (a:x<4294967296):cQ [x]:=Kt.2 ⟨⟨b,a⟩,by simp[cQ]⟩
theorem ael {l:List Int} {j:Nat} {v:Int} (h:j<l.length):bC (l.set j v) j 0=v:=by
 grind[bC]
theorem acB {l:List Int} {i j:Nat} {v:Int} (h:i≠j):bC (l.set i v) j 0=bC l j 0:=by
 grind[bC]
theorem ajs:∀{l:List Int} {i j:Nat},cQ l->bD l<4294967296^i->i<=j->bC l j 0=0
 |[],_,_,_,_,_=>by simp[bC]
 |d::l,0,j,h,a,c=>by
  obtain⟨e,b⟩:=Kt.1 h
  have:=rf b
  simp only[bD,Int.pow_zero] at a
  have f:d=0:=by omega
  have g:bD l=0:=by omega
  cases j with
  |zero=>simp[bC,f]
  |succ j=>
   have:=ajs (l:=l) (i:=0) (j:=j) b (by simp;omega) (by omega)
   grind[bC]
 |d::l,i+1,j,h,a,c=>by
  obtain⟨e,b⟩:=Kt.1 h
  cases j with
  |zero=>omega
  |succ j=>
   rw[γx] at a;simp only[bD] at a
   have:=ajs (l:=l) (i:=i) (j:=j) b (by omega) (by omega)
   grind[bC]
def HT (o b:List Int) (x:Int) (i:Nat):Nat->List Int×Int
 |0=>(o,0)
 |k+1=>((HT o b x i k).1.set (i+k) ((x*bC b k 0+bC (HT o b x i k).1 (i+k) 0+(HT o b x i k).2) % 4294967296),(x*bC b k 0+bC (HT o b x i k).1 (i+k) 0+(HT o b x i k).2) / 4294967296)
theorem avV {o b:List Int} {x:Int} {i:Nat} (d:cQ o) (g:cQ b) (f:0<=x) (m:x<4294967296):∀{k:Nat},i+k<=o.length->
  cQ (HT o b x i k).1/\(HT o b x i k).1.length=o.length/\(0<=(HT o b x i k).2/\(HT o b x i k).2<4294967296)/\(∀j,i+k<=j->bC (HT o b x i k).1 j 0=bC o j 0)/\
  bD (HT o b x i k).1+4294967296^(i+k)*(HT o b x i k).2=bD o+4294967296^i*(x*bD (b.take k))
 |0,h=>by simp[HT,d,bD]
 |k+1,h=>by
  obtain⟨l,t,⟨v,s⟩,u,r⟩:=@avV o b x i d g f m k (by omega)
  simp only[HT]
  generalize (HT o b x i k).1=p at*
  generalize (HT o b x i k).2=c at*
  have a:=qb g k
  have q:=qb l (i+k)
  have n:0<=x*bC b k 0:=γh f a.1
  have e:x*bC b k 0<=4294967295*4294967295:=δt (by omega) (by omega) a.1 (by omega)
  grind[aa2,ae9,KE,bC]
def prt (U:List Int) (j k:Nat):List Int:=(U.drop j).take k
theorem avW {U:List Int} {j k:Nat}:bC (U.drop j) k 0=bC U (j+k) 0:=by
 grind[bC]
theorem Zi {U:List Int} {j k:Nat}:bD (prt U j (k+1))=bD (prt U j k)+4294967296^k*bC U (j+k) 0:=by
 grind[prt,KE,avW]
theorem afa {U:List Int} {j k i:Nat} {d:Int} (h:k<=i):prt (U.set (j+i) d) j k=prt U j k:=by
 unfold prt
 apply δc
 grind
theorem afb {U:List Int} (h:cQ U) {j k:Nat}:cQ (prt U j k):=SU (ahP h j) k
theorem aDp {U:List Int} {j k:Nat} (h:j+k<=U.length):(prt U j k).length=k:=by
 grind[prt]
theorem agn {U:List Int} (h:cQ U) {j k:Nat}:bD (prt U j k)<4294967296^k:=by
 have g:=Ku (afb h (j:=j) (k:=k))
 have e:(prt U j k).length<=k:=by grind[prt]
 have i:(4294967296:Int)^(prt U j k).length<=4294967296^k:=by
  have d:∀{a b:Nat},a<=b->(4294967296:Int)^a<=4294967296^b:=λ{a b} c=>by
   obtain⟨m,rfl⟩:=Nat.exists_eq_add_of_le c
   rw[Int.pow_add]
   have f:=pow_pos a
   have l:=pow_pos m
   have:=ν (show(1:Int)<=4294967296^m by omega) (φ f)
   omega
  exact d e
 omega
def Ln (U:List Int) (j:Nat) (l:List Int):List Int:=U.take j++(l++U.drop (j+l.length))
theorem aDq {a b:List Int} (c:a.length=b.length) (h:∀m,bC a m 0=bC b m 0):a=b:=by
 apply List.ext_getElem c
 intro m d e
 have:=h m
 grind[my]
theorem avX {U l:List Int} {j:Nat} (h:j+l.length<=U.length):(Ln U j l).length=U.length:=by
 grind[Ln]
theorem aDr {U l:List Int} {j m:Nat} (h:j+l.length<=U.length):bC (Ln U j l) m 0=if m<j then bC U m 0 else if m<j+l.length then bC l (m - j) 0 else bC U m 0:=by
 unfold Ln bC
 grind
theorem ahQ {U W:List Int} {j k:Nat} {x:Int} (d:cQ W) (f:W.length=U.length) (g:j+k<=U.length) (e:∀m,(m<j\/j+k<=m)->bC W m 0=bC U m 0) (a:bD (prt W j k)=x):W=Ln U j (HH k x):=by
 have b:prt W j k=HH k x:=apF (afb d) (aDp (by omega)) a
 have c:=@ajq k x
 apply aDq
 ·grind[avX]
 ·intro m
  rw[aDr (by omega),c]
  split
  ·simp_all
  ·split
   ·rw[<-b]
    unfold prt
    have:bC ((W.drop j).take k) (m - j) 0=bC (W.drop j) (m - j) 0:=by
     unfold bC
     grind
    grind[avW]
   simp_all
section
variable {P V X v1 v2 u2 top rv ru g r:Int}
theorem aDs (e:0<P) (n:V=rv+P*(v2+4294967296*v1)) (l:X=ru+P*(u2+4294967296*top)) (a:0<=rv) (f:ru<P) (d:X<4294967296*V) (b:0<=V)
  (c:0<=g) (j:g*v1+r=top) (h:4294967296<=g\/r*4294967296+u2<g*v2):X<g*V:=by
 rcases h with h|h
 ·exact Int.lt_of_lt_of_le d (γG h b)
 ·have k:g*V=g*rv+P*(g*v2+4294967296*(top - r)):=by
   grind
  have i:P*(u2+1+4294967296*top)<=P*(g*v2+4294967296*(top - r)):=ν (by omega) (φ e)
  have m:0<=g*rv:=γh c a
  grind
theorem avY (c:0<P) (k:V=rv+P*(v2+4294967296*v1)) (n:X=ru+P*(u2+4294967296*top)) (a:0<=rv) (b:rv<P) (f:0<=ru) (e:2147483648<=v1) (j:0<=v2)
  (i:0<=g) (d:g<4294967296) (o:g*v1+r=top) (h:g*v2<=r*4294967296+u2):g*V<X+V:=by
 have m:g*V=g*rv+P*(g*v2+4294967296*(top - r)):=by
  grind
 have q:P*(g*v2+4294967296*(top - r))<=P*(u2+4294967296*top):=ν (by omega) (φ c)
 have p:g*rv<=4294967295*rv:=γG (by omega) a
 have l:P*4294967296<=P*(v2+4294967296*v1):=ν (by omega) (φ c)
 omega
theorem aDt (c:0<P) (p:V=rv+P*(v2+4294967296*v1)) (k:X=ru+P*(u2+4294967296*top)) (b:0<=rv) (e:ru<P) (a:0<=v2) (f:u2<4294967296)
  (d:0<=g) (o:g*v1+r=top) (l:r<v1):X<(g+1)*V:=by
 have n:(g+1)*V=(g+1)*rv+((g+1)*(P*v2)+P*(4294967296*((g+1)*v1))):=by
  grind
 have j:0<=(g+1)*rv:=γh (by omega) b
 have h:0<=(g+1)*(P*v2):=γh (by omega) (γh (φ c) a)
 have i:top+1<=(g+1)*v1:=by grind
 have m:P*(u2+1+4294967296*top)<=P*(4294967296*((g+1)*v1)):=ν (by omega) (φ c)
 grind
theorem aDu {b a:Int} (c:0<P) (l:V=rv+P*(v2+4294967296*v1)) (k:X=ru+P*(u2+4294967296*(b+4294967296*a))) (d:rv<P) (f:0<=ru) (e:0<=u2) (i:0<=b) (j:v2<4294967296)
  (g:X<4294967296*V):a<=v1:=by
 by_cases h:a<=v1
 ·exact h
 ·exfalso
  have m:P*(4294967296*(4294967296*(v1+1)))<=P*(u2+4294967296*(b+4294967296*a)):=ν (by omega) (φ c)
  have n:P*(v2+4294967296*v1)<=P*(4294967296*(v1+1) - 1):=ν (by omega) (φ c)
  grind
theorem afc {X V q:Int} (e:q*V<=X) (c:X<(q+1)*V):X / V=q/\X % V=X - q*V:=by
 rw[Int.add_mul,Int.one_mul] at c
 have d:0<V:=by omega
 have b:X=(X - q*V)+V*q:=by grind
 have a:X / V=q:=by
  conv=>lhs;rw[b]
  rw[Int.add_mul_ediv_left _ _ (by omega),δQ (by omega) (by omega),Int.zero_add]
 refine⟨a,?_⟩
 rw[Int.emod_def,a,Int.mul_comm]
end
theorem apH {p:Int} (a:0<=p) (e:p<18446744073709551616):J9.ai0 .u64 p 4294967295=p % 4294967296:=by
 obtain⟨m,rfl⟩:=δI a
 have b:(γq 64 ((m:Nat):Int)).toNat=m:=by grind
 have c:(γq 64 4294967295).toNat=4294967295:=by simp_all
 have d:(γq 64 ((m:Nat):Int) &&&γq 64 4294967295).toNat=m % 4294967296:=by
  rw[BitVec.toNat_and,b,c]
  exact Nat.and_two_pow_sub_one_eq_mod m 32
 show x5 .u64 ((γq 64 ((m:Nat):Int) &&&γq 64 4294967295).toNat:Nat)=_
 grind[aeN,IntKind.wrap,IntKind.bits]
theorem apI {U W v:List Int} {j i:Nat} {g c b d e:Int} (n:cQ W) (f:W.length=U.length) (o:cQ v) (h:0<=g) (r:g<4294967296) (y:0<=c) (t:c<4294967296) (s:0<=b) (q:b<=1) (u:j+i<U.length)
  (l:∀m,(m<j\/j+i<=m)->bC W m 0=bC U m 0)
  (k:bD (prt W j i)=bD (prt U j i) - g*bD (v.take i)+4294967296^i*(c+b))
  (a:0<=d/\d<4294967296) (w:d - 4294967296*e=bC W (j+i) 0 - (g*bC v i 0+c) % 4294967296 - b):
  cQ (W.set (j+i) d)/\(W.set (j+i) d).length=U.length/\(0<=(g*bC v i 0+c) / 4294967296/\(g*bC v i 0+c) / 4294967296<4294967296)/\
  (∀m,(m<j\/j+(i+1)<=m)->bC (W.set (j+i) d) m 0=bC U m 0)/\
  bD (prt (W.set (j+i) d) j (i+1))=bD (prt U j (i+1)) - g*bD (v.take (i+1))+4294967296^(i+1)*((g*bC v i 0+c) / 4294967296+e):=by
 have x:=qb o i
 have z:0<=g*bC v i 0:=γh h x.1
 have p:g*bC v i 0<=4294967295*4294967295:=δt (by omega) (by omega) x.1 (by omega)
 refine⟨aa2 n a.1 a.2,by simp[f],by omega,λm A=>by grind[acB],?_⟩
 have B:=l (j+i) (.inr (Θ _))
 rw[Zi,Zi,afa (Θ _),ael (by omega),k,KE,γx]
 grind
theorem apJ {U W v:List Int} {j i:Nat} {c s:Int} (a:cQ W) (d:W.length=U.length) (b:cQ v) (n:0<=c) (l:c<=1) (h:j+i<U.length) (g:cQ U)
  (e:∀m,(m<j\/j+i<=m)->bC W m 0=bC U m 0)
  (k:bD (prt W j i)+4294967296^i*c=bD (prt U j i)+bD (v.take i)) (o:s=bC W (j+i) 0+bC v i 0+c):
  cQ (W.set (j+i) (s % 4294967296))/\(W.set (j+i) (s % 4294967296)).length=U.length/\(0<=s / 4294967296/\s / 4294967296<=1)/\
  (∀m,(m<j\/j+(i+1)<=m)->bC (W.set (j+i) (s % 4294967296)) m 0=bC U m 0)/\
  bD (prt (W.set (j+i) (s % 4294967296)) j (i+1))+4294967296^(i+1)*(s / 4294967296)=bD (prt U j (i+1))+bD (v.take (i+1)):=by
 have x:=qb b i
 have y:=qb a (j+i)
 refine⟨aa2 a (by omega) (by omega),by simp[d],by omega,λm p=>by grind[acB],?_⟩
 have f:=e (j+i) (.inr (Θ _))
 rw[Zi,Zi,afa (Θ _),ael (by omega),KE,γx]
 grind
theorem aDv {v:List Int} {n:Nat} (a:2<=n) (b:v.length=n):bD v=bD (v.take (n - 2))+4294967296^(n - 2)*(bC v (n - 2) 0+4294967296*bC v (n - 1) 0):=by
 obtain⟨m,rfl⟩:∃m,n=m+2:=⟨n - 2,by omega⟩
 grind[KE]
theorem aDw {U:List Int} {j n:Nat} (a:2<=n):bD (prt U j (n+1))=bD (prt U j (n - 2))+4294967296^(n - 2)*(bC U (j+(n - 2)) 0+4294967296*(bC U (j+(n - 1)) 0+4294967296*bC U (j+n) 0)):=by
 obtain⟨m,rfl⟩:∃m,n=m+2:=⟨n - 2,by omega⟩
 grind[Zi]
end Go.Vi
