/-
  Contracts: a prefix of accepted offers, and what is left behind it.
  Conditions: none.
-/
import Derived.Test.YtbnhiekmnpikhaaGreatDF06
import Derived.Test.YtbnhiekmnpikhaaGreatDF07
import Derived.Test.YtbnhiekmnpikhaaGreatDF09
import Derived.Test.YtbnhiekmnpikhaaGreatDF08
import Derived.Test.YtbnhiekmnpikhaaGreatDF11
import Derived.Test.YtbnhiekmnpikhaaGreatDF12
import Derived.Test.YtbnhiekmnpikhaaGreatDF13
import Derived.Test.YtbnhiekmnpikhaaGreatDF10
import Derived.Maps.OwnRows
import Derived.Maps.Ext
set_option maxRecDepth 100000
set_option maxHeartbeats 4000000
set_option linter.all false
open Bool renaming and_eq_true->θ
open Classical renaming byContradiction->δc
open Go.Vi.SV renaming si->γd,row->Ω,ptr->γQ,agg->γR,il->γB
open Int renaming toNat_natCast->γn
open List renaming replicate->δ,map_cons->ξ,map_nil->γv,eq_nil_of_length_eq_zero->χ,take_length->φ,mem_filter->γk,set_eq_of_length_le->ζv,mem_cons->γr,all_eq_true->τ,mem_range->γC,mem_append->γm,mem_cons_self->γS,mem_map->Θ,getElem_of_mem->γH,not_mem_nil->δR,length_map->Φ,filter_sublist->γt,map_map->γO,getElem_map->δD,nodup_cons->γT,mem_cons_of_mem->γs,pairwise_map->ζt,any_eq_true->ζ8,sum_cons->δ8,map_append->γa,perm_ext_iff_of_nodup->γ7,map_congr_left->γU,map->γb,take->Δ,rel_of_pairwise_cons->ζk
open List.cons renaming injEq->Γ
open Nat renaming pow_le_pow_right->δr,le_refl->π
open Option.some renaming injEq->γ
open Prod renaming fst->εl
namespace Go.Vi
open Go.Proofs.YtbnhiekmnpikhaaGreat.Ir
open Go.Proofs
abbrev y9:=bC×(bC×(List Int×(Int×(Bool×(Bool×(Bool×(Bool×(Bool×(Bool×(Bool×Bool))))))))))
@[reducible] def sd:bp:=.pair .fi (.pair .fi (.pair (.bB (.i .i64)) (.pair (.i .i64) (.pair .b (.pair .b (.pair .b (.pair .b (.pair .b (.pair .b (.pair .b .b))))))))))
def xP (d:y9):jA:=⟨d.1,d.2.1,d.2.2.1,d.2.2.2.1,[d.2.2.2.2.1,d.2.2.2.2.2.1,d.2.2.2.2.2.2.1,d.2.2.2.2.2.2.2.1,d.2.2.2.2.2.2.2.2.1,d.2.2.2.2.2.2.2.2.2.1,d.2.2.2.2.2.2.2.2.2.2.1,d.2.2.2.2.2.2.2.2.2.2.2]⟩
def fP (u:jA):y9:=(u.left,(u.opn,(u.chosen,(u.value,(bj u.won 0 false,(bj u.won 1 false,(bj u.won 2 false,(bj u.won 3 false,(bj u.won 4 false,(bj u.won 5 false,(bj u.won 6 false,bj u.won 7 false)))))))))))
theorem Vo {u:jA} (h:u.won.length=8):xP (fP u)=u:=by
 obtain⟨l,o,c,v,w⟩:=u;simp only at h;match w,h with
 |[a,b,c,d,e,f,g,i],_=>rfl
def zX:jA:=⟨bC.zero,bC.zero,[],0,δ 8 false⟩
def pk (k j:Int) (a b:Int):Bool:=decide (k<=j)||(decide (0<=a)&&decide (0<=b))
def jQ (a b:bC) (k:Int):Bool:=pk k 0 a.a0 b.a0&&(pk k 1 a.a1 b.a1&&(pk k 2 a.a2 b.a2&&(pk k 3 a.a3 b.a3&&(pk k 4 a.a4 b.a4&&pk k 5 a.a5 b.a5))))
def LY:dH where
 f:=115;α:=y9×bn×Off;put a:=[.ptr 0 0 22,dO.put a.2.1,(ei .off).put a.2.2];st a:=[.cells (encS sd a.1) 142 22 false];dec v o:=match v,o with
  |[.ptr 0 0 22,p,x],[.cells cs 142 22 false]=>match jT sd cs,dO.dec p,(ei .off).dec x with
   |some d,some p,some x=>some (d,p,x)
   |_,_,_=>none
  |_,_=>none;ok v o a h:=by
  split at h
  ·split at h
   ·rename_i h1 h2 h3;simp only[γ] at h;subst h;refine⟨by simp only[gL,dO.ok _ _ h2,(ei .off).ok _ _ h3],?_⟩;simp only[gO,ξ,γv,bq.g,gl,nX h1,t7]
   ·cases h
  ·cases h
 inj a b h1 h2:=by
  obtain⟨d,p,x⟩:=a;obtain⟨d',p',x'⟩:=b;simp only[gL,Γ,and_true,true_and] at h1;simp only[gO,ξ,γv,bq.g,Γ,bR.cells.injEq,and_true,gl,t7] at h2;rw[xK sd d d' h2,dO.inj p p' h1.1,(ei .off).inj x x' h1.2]
 dom a:=((∀k,k<6->(-1000<=a.1.1.at k/\a.1.1.at k<=1000)/\(-1000<=a.1.2.1.at k/\a.1.2.1.at k<=1000))/\a.2.2.want.ok=true)/\0<=a.2.2.bX/\a.2.2.bX<a.2.1.classes.length;res a:=.sb ((a.1.1.sub a.2.2.want).pos&&(gI a.2.1 (xP a.1) a.2.2).pos);out a:=[.cells (encS sd (a.1.1.sub a.2.2.want,(gI a.2.1 (xP a.1) a.2.2,a.1.2.2))) 142 22 false]
def agh (d:y9) (p:bn) (x:Off):Nat->cG
 |3=> .inv Int (λk=>⟨[(0,.ptr 0 0 22),(4,.ptr 1 0 20),(5,.ptr 2 0 8),(7,.sb (jQ (d.1.sub x.want) (gI p (xP d) x) k)),(11,.agg (encS .fi x.want)),(12,.si .i64 k)],
   [.cells (encS sd (iJ d.1 (d.1.sub x.want) k,(iJ d.2.1 (gI p (xP d) x) k,d.2.2))) 142 22 false,.cells p.ss 27 20 false,.cells (encS .off x) 65 8 false]⟩)
   (λs=>iS s 12) (λk=>0<=k/\k<=6) (λk=>(6 - k).toNat) λ_ _=> .look
 |_=> .look
theorem h450:ef Tryz.prog LY:=by
 refine lz (L:=[]) (W:=[]) LY (λa=>agh a.1 a.2.1 a.2.2) (by simp) (by simp) ?_;rintro⟨d,p,x⟩ ⟨⟨hb,hw⟩,hx0,hx1⟩;simp only at hb hw hx0 hx1;refine bQ (let a:=γd .i64;let b:=(0:Int);let c:=(6:Int);let e:=bq.cells;let f:=SV.sb;let g:=cu .i64;let h:=Ω;let j:=SV.bl false;let k:=γQ;let r:=k 0 0 22;let s:=k 1 0 20;let t:=k 2 0 8;let o:=d.fst.sub x.want;let q:=gI p (xP d) x;let a9:=a x.want.a0;let aa:=a x.want.a1;let ab:=a x.want.a2;let ac:=a x.want.a3;let ad:=a x.want.a4;let ae:=a x.want.a5;let v:=γR [a9,aa,ab,ac,ad,ae];let N:=bp.i .i64;let D:=d.snd.snd.snd.snd.snd;let af:=D.snd.snd.snd.snd.snd;let E:=iJ d.fst o b;let F:=iJ d.snd.fst q b;let G:=d.snd.snd.snd.snd.snd;let ag:=G.snd.snd.snd.snd.snd;let A:=[h N d.snd.snd.fst,a d.snd.snd.snd.fst,f d.snd.snd.snd.snd.fst,f G.fst,f G.snd.fst,f G.snd.snd.fst,f G.snd.snd.snd.fst,f G.snd.snd.snd.snd.fst,f ag.fst,f ag.snd];let w:=e [a p.supply.a0,a p.supply.a1,a p.supply.a2,a p.supply.a3,a p.supply.a4,a p.supply.a5,a p.opn.a0,a p.opn.a1,a p.opn.a2,a p.opn.a3,a p.opn.a4,a p.opn.a5,a p.cls.a0,a p.cls.a1,a p.cls.a2,a p.cls.a3,a p.cls.a4,a p.cls.a5,h N p.classes,h bp.off p.offers] 27 20 false;let y:=e [a x.bX,a9,aa,ab,ac,ad,ae,a x.value] 65 8 false;let aM:=[x.want.a0,x.want.a1,x.want.a2,x.want.a3,x.want.a4,x.want.a5];let aN:=[p.cls.a0,p.cls.a1,p.cls.a2,p.cls.a3,p.cls.a4,p.cls.a5];(((r.same r/\s.same s/\t.same t/\(SV.bl true).same (f (jQ o q b))/\v.same v/\(γB .i64 0).same (a 0)/\True)/\(e [a d.fst.a0,a d.fst.a1,a d.fst.a2,a d.fst.a3,a d.fst.a4,a d.fst.a5,a d.snd.fst.a0,a d.snd.fst.a1,a d.snd.fst.a2,a d.snd.fst.a3,a d.snd.fst.a4,a d.snd.fst.a5,h N d.snd.snd.fst,a d.snd.snd.snd.fst,f d.snd.snd.snd.snd.fst,f D.fst,f D.snd.fst,f D.snd.snd.fst,f D.snd.snd.snd.fst,f D.snd.snd.snd.snd.fst,f af.fst,f af.snd] 142 22 false).same (e (a E.a0::a E.a1::a E.a2::a E.a3::a E.a4::a E.a5::a F.a0::a F.a1::a F.a2::a F.a3::a F.a4::a F.a5::A) 142 22 false)/\w.same w/\y.same y/\True)/\b<=b/\b<=c)/\∀(x_1:Int),let L:=jQ o q x_1;let n:=iJ d.fst o x_1;let ah:=bj aM x_1.toNat b;let B:=bj [n.a0,n.a1,n.a2,n.a3,n.a4,n.a5] x_1.toNat b - ah;let ai:=if x_1.toNat=0 then B else n.a0;let aj:=if x_1.toNat=1 then B else n.a1;let ak:=if x_1.toNat=2 then B else n.a2;let al:=if x_1.toNat=3 then B else n.a3;let am:=if x_1.toNat=4 then B else n.a4;let an:=if x_1.toNat=5 then B else n.a5;let O:=bj [ai,aj,ak,al,am,an] x_1.toNat b;let P:=decide (b<=O);let m:=x_1+(1:Int);let l:=iJ d.snd.fst q x_1;let ao:=bj [l.a0,l.a1,l.a2,l.a3,l.a4,l.a5] x_1.toNat b;let C:=ao - ah;let ap:=if x_1.toNat=0 then C else l.a0;let aq:=if x_1.toNat=1 then C else l.a1;let ar:=if x_1.toNat=2 then C else l.a2;let au:=if x_1.toNat=3 then C else l.a3;let av:=if x_1.toNat=4 then C else l.a4;let aw:=if x_1.toNat=5 then C else l.a5;let H:=min (bj [ap,aq,ar,au,av,aw] x_1.toNat b) O;let Q:=if x_1.toNat=0 then H else ap;let R:=if x_1.toNat=1 then H else aq;let S:=if x_1.toNat=2 then H else ar;let T:=if x_1.toNat=3 then H else au;let U:=if x_1.toNat=4 then H else av;let V:=if x_1.toNat=5 then H else aw;let M:=f (jQ o q m);let z:=a m;let W:=a ai;let X:=a aj;let Y:=a ak;let Z:=a al;let a6:=a am;let a7:=a an;let I:=iJ d.fst o m;let J:=iJ d.snd.fst q m;let a8:=e (a I.a0::a I.a1::a I.a2::a I.a3::a I.a4::a I.a5::a J.a0::a J.a1::a J.a2::a J.a3::a J.a4::a J.a5::A) 142 22 false;let K:=min ao O;let ax:=if x_1.toNat=0 then K else l.a0;let ay:=if x_1.toNat=1 then K else l.a1;let az:=if x_1.toNat=2 then K else l.a2;let aA:=if x_1.toNat=3 then K else l.a3;let aB:=if x_1.toNat=4 then K else l.a4;let aC:=if x_1.toNat=5 then K else l.a5;let aD:=decide (x_1<c);let aE:=bj aN x_1.toNat b;let aF:=decide (aE=b);let aG:=decide (aE≠bj p.classes x.bX.toNat b);let aO:=let aH:=g m/\((r.same r/\s.same s/\t.same t/\(j).same M/\v.same v/\z.same z/\True)/\(e (W::X::Y::Z::a6::a7::a Q::a R::a S::a T::a U::a V::A) 142 22 false).same a8/\w.same w/\y.same y/\True)/\(b<=m/\m<=c)/\(c - m).toNat<(c - x_1).toNat;x_1.toNat<6/\b<=x_1/\x_1<c/\x_1.toNat<6/\b<=x_1/\x_1<c/\x_1.toNat<6/\(L=true->b<=x_1/\x_1<c/\x_1.toNat<6/\(P=true->b<=x_1/\x_1<c/\x_1.toNat<6/\g m/\((r.same r/\s.same s/\t.same t/\(f (decide (b<=bj [Q,R,S,T,U,V] x_1.toNat b))).same M/\v.same v/\z.same z/\True)/\(e (W::X::Y::Z::a6::a7::a Q::a R::a S::a T::a U::a V::A) 142 22 false).same a8/\w.same w/\y.same y/\True)/\(b<=m/\m<=c)/\(c - m).toNat<(c - x_1).toNat)/\(P=false->aH))/\(L=false->aH);let aI:=(e (W::X::Y::Z::a6::a7::a ax::a ay::a az::a aA::a aB::a aC::A) 142 22 false).same a8;let aJ:=b<=x_1/\x_1<c/\x_1.toNat<6/\g C/\b<=x_1/\x_1<c/\x_1.toNat<6/\b<=x_1/\x_1<c/\aO;let aK:=g m/\((r.same r/\s.same s/\t.same t/\(j).same M/\v.same v/\z.same z/\True)/\aI/\w.same w/\y.same y/\True)/\(b<=m/\m<=c)/\(c - m).toNat<(c - x_1).toNat;let aL:=λ(u:Bool) ↦P=u;b<=x_1/\x_1<=c->(aD=true->b<=x_1/\x_1<c/\b<=x_1/\x_1<c/\x_1.toNat<6/\g B/\b<=x_1/\x_1<c/\x_1.toNat<6/\b<=x_1/\x_1<c/\x_1.toNat<6/\(aF=true->aJ)/\(aF=false->b<=x_1/\x_1<c/\x_1.toNat<6/\b<=x.bX/\x.bX<(↑p.classes.length:Int)/\x.bX.toNat<p.classes.length/\(aG=true->aJ)/\(aG=false->b<=x_1/\x_1<c/\x_1.toNat<6/\b<=x_1/\x_1<c/\x_1.toNat<6/\b<=x_1/\x_1<c/\x_1.toNat<6/\(L=true->b<=x_1/\x_1<c/\x_1.toNat<6/\(aL true->b<=x_1/\x_1<c/\x_1.toNat<6/\g m/\((r.same r/\s.same s/\t.same t/\(f (decide (b<=bj [ax,ay,az,aA,aB,aC] x_1.toNat b))).same M/\v.same v/\z.same z/\True)/\aI/\w.same w/\y.same y/\True)/\(b<=m/\m<=c)/\(c - m).toNat<(c - x_1).toNat)/\(aL false->aK))/\(L=false->aK))))/\(aD=false->(f L).same (f (o.pos&&q.pos))/\(e (a n.a0::a n.a1::a n.a2::a n.a3::a n.a4::a n.a5::a l.a0::a l.a1::a l.a2::a l.a3::a l.a4::a l.a5::A) 142 22 false).same (e (a o.a0::a o.a1::a o.a2::a o.a3::a o.a4::a o.a5::a q.a0::a q.a1::a q.a2::a q.a3::a q.a4::a q.a5::A) 142 22 false)/\True)) (by kernel_rfl) ?_;simp only[vcs];refine⟨⟨⟨rfl,rfl⟩,by omega,by omega⟩,?_⟩;rintro k ⟨k0,k6⟩;simp only[show bj p.classes x.bX.toNat 0=lA p x from rfl];generalize hcl:lA p x=cl at*;constructor
 ·intro hk;rcases(show k=0\/k=1\/k=2\/k=3\/k=4\/k=5 by omega) with rfl|rfl|rfl|rfl|rfl|rfl
  ·have hb0:=hb 0 (by omega);have hw0:0<=x.want.a0/\x.want.a0<=4:=by have:=bC.iP.1 hw;omega
   have b1: -1000<=d.1.a0/\d.1.a0<=1000:=hb0.1;have b2: -1000<=d.2.1.a0/\d.2.1.a0<=1000:=hb0.2;have eo:(gI p (xP d) x).a0=min (d.2.1.a0 - nd p.cls.a0 x.want.a0 cl) (d.1.a0 - x.want.a0):=by rw[<-hcl];rfl
   generalize gI p (xP d) x=O at*;by_cases h1:p.cls.a0=0;·simp[iJ,bj,bC.sub,jQ,pk,eo,nd,h1,k9];grind
   ·by_cases h2:p.cls.a0=cl
    ·subst h2;simp[iJ,bj,bC.sub,jQ,pk,eo,nd,h1,k9];grind
    ·simp[iJ,bj,bC.sub,jQ,pk,eo,nd,h1,h2,k9];grind
  ·have hb0:=hb 1 (by omega);have hw0:0<=x.want.a1/\x.want.a1<=4:=by have:=bC.iP.1 hw;omega
   have b1: -1000<=d.1.a1/\d.1.a1<=1000:=hb0.1;have b2: -1000<=d.2.1.a1/\d.2.1.a1<=1000:=hb0.2;have eo:(gI p (xP d) x).a1=min (d.2.1.a1 - nd p.cls.a1 x.want.a1 cl) (d.1.a1 - x.want.a1):=by rw[<-hcl];rfl
   generalize gI p (xP d) x=O at*;by_cases h1:p.cls.a1=0;·simp[iJ,bj,bC.sub,jQ,pk,eo,nd,h1,k9];grind
   ·by_cases h2:p.cls.a1=cl
    ·subst h2;simp[iJ,bj,bC.sub,jQ,pk,eo,nd,h1,k9];grind
    ·simp[iJ,bj,bC.sub,jQ,pk,eo,nd,h1,h2,k9];grind
  ·have hb0:=hb 2 (by omega);have hw0:0<=x.want.a2/\x.want.a2<=4:=by have:=bC.iP.1 hw;omega
   have b1: -1000<=d.1.a2/\d.1.a2<=1000:=hb0.1;have b2: -1000<=d.2.1.a2/\d.2.1.a2<=1000:=hb0.2;have eo:(gI p (xP d) x).a2=min (d.2.1.a2 - nd p.cls.a2 x.want.a2 cl) (d.1.a2 - x.want.a2):=by rw[<-hcl];rfl
   generalize gI p (xP d) x=O at*;by_cases h1:p.cls.a2=0;·simp[iJ,bj,bC.sub,jQ,pk,eo,nd,h1,k9];grind
   ·by_cases h2:p.cls.a2=cl
    ·subst h2;simp[iJ,bj,bC.sub,jQ,pk,eo,nd,h1,k9];grind
    ·simp[iJ,bj,bC.sub,jQ,pk,eo,nd,h1,h2,k9];grind
  ·have hb0:=hb 3 (by omega);have hw0:0<=x.want.a3/\x.want.a3<=4:=by have:=bC.iP.1 hw;omega
   have b1: -1000<=d.1.a3/\d.1.a3<=1000:=hb0.1;have b2: -1000<=d.2.1.a3/\d.2.1.a3<=1000:=hb0.2;have eo:(gI p (xP d) x).a3=min (d.2.1.a3 - nd p.cls.a3 x.want.a3 cl) (d.1.a3 - x.want.a3):=by rw[<-hcl];rfl
   generalize gI p (xP d) x=O at*;by_cases h1:p.cls.a3=0;·simp[iJ,bj,bC.sub,jQ,pk,eo,nd,h1,k9];grind
   ·by_cases h2:p.cls.a3=cl
    ·subst h2;simp[iJ,bj,bC.sub,jQ,pk,eo,nd,h1,k9];grind
    ·simp[iJ,bj,bC.sub,jQ,pk,eo,nd,h1,h2,k9];grind
  ·have hb0:=hb 4 (by omega);have hw0:0<=x.want.a4/\x.want.a4<=4:=by have:=bC.iP.1 hw;omega
   have b1: -1000<=d.1.a4/\d.1.a4<=1000:=hb0.1;have b2: -1000<=d.2.1.a4/\d.2.1.a4<=1000:=hb0.2;have eo:(gI p (xP d) x).a4=min (d.2.1.a4 - nd p.cls.a4 x.want.a4 cl) (d.1.a4 - x.want.a4):=by rw[<-hcl];rfl
   generalize gI p (xP d) x=O at*;by_cases h1:p.cls.a4=0;·simp[iJ,bj,bC.sub,jQ,pk,eo,nd,h1,k9];grind
   ·by_cases h2:p.cls.a4=cl
    ·subst h2;simp[iJ,bj,bC.sub,jQ,pk,eo,nd,h1,k9];grind
    ·simp[iJ,bj,bC.sub,jQ,pk,eo,nd,h1,h2,k9];grind
  ·have hb0:=hb 5 (by omega);have hw0:0<=x.want.a5/\x.want.a5<=4:=by have:=bC.iP.1 hw;omega
   have b1: -1000<=d.1.a5/\d.1.a5<=1000:=hb0.1;have b2: -1000<=d.2.1.a5/\d.2.1.a5<=1000:=hb0.2;have eo:(gI p (xP d) x).a5=min (d.2.1.a5 - nd p.cls.a5 x.want.a5 cl) (d.1.a5 - x.want.a5):=by rw[<-hcl];rfl
   generalize gI p (xP d) x=O at*;by_cases h1:p.cls.a5=0;·simp[iJ,bj,bC.sub,jQ,pk,eo,nd,h1,k9];grind
   ·by_cases h2:p.cls.a5=cl
    ·subst h2;simp[iJ,bj,bC.sub,jQ,pk,eo,nd,h1,k9];grind
    ·simp[iJ,bj,bC.sub,jQ,pk,eo,nd,h1,h2,k9];grind
 ·intro hk;have:k=6:=by omega
  subst this;simp[iJ,bC.sub,jQ,pk,bC.pos,Bool.and_assoc];exact⟨by ac_rfl,rfl⟩
noncomputable def Vp (L:List bM) (W:nz) (a:Nat->Option (Nat×Nat×Nat)):ja:=⟨⟨vR L,W.C⟩,rD,rE,a,jK,λ_=>false⟩
theorem agi {L:List bM} {W:nz} (e:Nat->Option (Nat×Nat×Nat)) (c:bM) (F:fz) (g:c.α->Nat->cG) (i:qE Tryz.prog W) (k:∀c∈L,Holds Tryz.prog c)
  
  (h:∀a,c.dom a->Vc (uh (Vp L W e) (g a) F (c.A.put a) λv=>v.sH (c.res a))) (l:jK c.f=some F:=by kernel_rfl) (d:pP c.f L=none:=by kernel_rfl) (b:∀a,(c.A.put a).length=F.params:=by intro _;kernel_rfl):Holds Tryz.prog c:=
 λa j=>HI (p:=Vp L W e) (Λ:=g a) (vS i k sN) (vT i) (λ_ _ h=>h) l (HK d) (b a) (λ_ h=>Ab h) (h a j).out
def qb (p:bn) (u:jA) (i:Int):jA:=if jj p u (oI p i)=true then fh p u i else zX
def BE (u:jA):Prop:=(∀k,k<6->(-1000<=u.left.at k/\u.left.at k<=1000)/\(-1000<=u.opn.at k/\u.opn.at k<=1000))/\(0<=u.value/\u.value<=160000000)/\u.chosen.length<=1000
def Fj:bM:=⟨79,y9×bn×Int,.cons (ei sd) (.cons dO (.one (eU .i64))),λa=>bz a.2.1=0/\BE (xP a.1)/\0<=a.2.2/\a.2.2<a.2.1.offers.length,
 λa=> .bI [.agg (encS sd (fP (qb a.2.1 (xP a.1) a.2.2))),.sb (jj a.2.1 (xP a.1) (oI a.2.1 a.2.2))]⟩
def agj (n:Nat):Option (Nat×Nat×Nat):=if n=2 then some (3,0,8) else none
theorem h443:Holds Tryz.prog Fj:=by
 refine agi (L:=[]) (W:=gP [LY]) agj Fj (fG 79) lk (kY (by simpa using h450)) (by simp) ?_;rintro⟨⟨l,o,c,v,w0,w1,w2,w3,w4,w5,w6,w7⟩,p,i⟩ ⟨hc,hd,i0,i1⟩;simp only at hc hd i0 i1;refine bQ (let a:=γd .i64;let b:=SV.sb;let d:=(-1000:Int);let e:=(1000:Int);let f:=γR;let g:=SV.bI;let h:=(0:Int);let j:=SV.bl true;let m:=cu .i64;let n:=(1:Int);let q:=(2:Int);let r:=(3:Int);let s:=(4:Int);let t:=(5:Int);let u:=(6:Int);let w:=(7:Int);let x:=Ω;let L:=γB .i64 0;let ac:=bp.i .i64;let P:=x ac [];let Q:=SV.bl false;let M:=xP (l,o,c,v,w0,w1,w2,w3,w4,w5,w6,w7);let aa:=(fP (qb p M i)).fst;let N:=(fP (qb p M i)).snd;let ab:=N.snd.snd.snd.snd.snd;let y:=g [f [a aa.a0,a aa.a1,a aa.a2,a aa.a3,a aa.a4,a aa.a5,a N.fst.a0,a N.fst.a1,a N.fst.a2,a N.fst.a3,a N.fst.a4,a N.fst.a5,x ac N.snd.fst,a N.snd.snd.fst,b N.snd.snd.snd.fst,b N.snd.snd.snd.snd.fst,b ab.fst,b ab.snd.fst,b ab.snd.snd.fst,b ab.snd.snd.snd.fst,b ab.snd.snd.snd.snd.fst,b ab.snd.snd.snd.snd.snd],b (jj p M (oI p i))];let ad:=bj p.offers i.toNat bp.off.dflt;let O:=ad.bX;let G:=ad.want;let R:=(↑p.classes.length:Int);let a9:=l.sub G;let I:=a9.pos;let H:=ad.value;let S:=gI p M (Off.mk h G H);let A:=a a9.a0;let B:=a a9.a1;let C:=a a9.a2;let D:=a a9.a3;let E:=a a9.a4;let F:=a a9.a5;let ae:=a S.a0;let af:=a S.a1;let ag:=a S.a2;let ah:=a S.a3;let ai:=a S.a4;let aj:=a S.a5;let T:=a (v+H);let ak:=[b w6,b w7];let al:=b w4::b w5::ak;let bc:=b w2::b w3::al;let am:=T::j::b w1::bc;let z:=[j];let U:=x ac [i];let J:=c.length+1;let V:=x ac (c++[i]);let W:=gI p M (Off.mk n G H);let an:=a W.a0;let ao:=a W.a1;let ap:=a W.a2;let aq:=a W.a3;let ar:=a W.a4;let au:=a W.a5;let av:=T::b w0::j::bc;let X:=gI p M (Off.mk q G H);let aw:=a X.a0;let ax:=a X.a1;let ay:=a X.a2;let az:=a X.a3;let aA:=a X.a4;let aB:=a X.a5;let aC:=T::b w0::b w1::j::b w3::al;let Y:=gI p M (Off.mk r G H);let aD:=a Y.a0;let aE:=a Y.a1;let aF:=a Y.a2;let aG:=a Y.a3;let aH:=a Y.a4;let aI:=a Y.a5;let aJ:=T::b w0::b w1::b w2::j::al;let Z:=gI p M (Off.mk s G H);let aK:=a Z.a0;let aL:=a Z.a1;let aM:=a Z.a2;let aN:=a Z.a3;let aO:=a Z.a4;let aP:=a Z.a5;let aQ:=T::b w0::b w1::b w2::b w3::j::b w5::ak;let a6:=gI p M (Off.mk t G H);let aR:=a a6.a0;let aS:=a a6.a1;let aT:=a a6.a2;let aU:=a a6.a3;let aV:=a a6.a4;let aW:=a a6.a5;let aX:=T::b w0::b w1::b w2::b w3::b w4::j::ak;let a7:=gI p M (Off.mk u G H);let aY:=a a7.a0;let aZ:=a a7.a1;let b0:=a a7.a2;let b1:=a a7.a3;let b2:=a a7.a4;let b3:=a a7.a5;let b4:=[T,b w0,b w1,b w2,b w3,b w4,b w5,j,b w7];let a8:=gI p M (Off.mk w G H);let b5:=a a8.a0;let b6:=a a8.a1;let b7:=a a8.a2;let b8:=a a8.a3;let b9:=a a8.a4;let ba:=a a8.a5;let bb:=T::b w0::b w1::b w2::b w3::b w4::b w5::b w6::z;let K:=(g [f [L,L,L,L,L,L,L,L,L,L,L,L,P,L,Q,Q,Q,Q,Q,Q,Q,Q],Q]).same y;h<=i/\i<(↑p.offers.length:Int)/\i.toNat<p.offers.length/\(O=h->(w0=true->K)/\(w0=false->(((∀(k:Nat),k<6->(d<=l.at k/\l.at k<=e)/\d<=o.at k/\o.at k<=e)/\G.ok=true)/\h<=h/\h<R)/\((!(I&&S.pos))=true->K)/\((!(I&&S.pos))=false->m (v+H)/\(c.length=0->(1=0->(g (f (A::B::C::D::E::F::ae::af::ag::ah::ai::aj::P::am)::z)).same y)/\(1≠0->8<=140737488355328/\1<=1000000000000/\1=1/\(g (f (A::B::C::D::E::F::ae::af::ag::ah::ai::aj::U::am)::z)).same y))/\(c.length≠0->c.length*8<=140737488355328/\c.length<=1000000000000/\c.length=c.length/\J*8<=140737488355328/\J<=1000000000000/\(c++[i]).length=(c++[i]).length/\(g (f (A::B::C::D::E::F::ae::af::ag::ah::ai::aj::V::am)::z)).same y))))/\(O=n->(w1=true->K)/\(w1=false->(((∀(k:Nat),k<6->(d<=l.at k/\l.at k<=e)/\d<=o.at k/\o.at k<=e)/\G.ok=true)/\h<=n/\n<R)/\((!(I&&W.pos))=true->K)/\((!(I&&W.pos))=false->m (v+H)/\(c.length=0->(1=0->(g (f (A::B::C::D::E::F::an::ao::ap::aq::ar::au::P::av)::z)).same y)/\(1≠0->8<=140737488355328/\1<=1000000000000/\1=1/\(g (f (A::B::C::D::E::F::an::ao::ap::aq::ar::au::U::av)::z)).same y))/\(c.length≠0->c.length*8<=140737488355328/\c.length<=1000000000000/\c.length=c.length/\J*8<=140737488355328/\J<=1000000000000/\(c++[i]).length=(c++[i]).length/\(g (f (A::B::C::D::E::F::an::ao::ap::aq::ar::au::V::av)::z)).same y))))/\(O=q->(w2=true->K)/\(w2=false->(((∀(k:Nat),k<6->(d<=l.at k/\l.at k<=e)/\d<=o.at k/\o.at k<=e)/\G.ok=true)/\h<=q/\q<R)/\((!(I&&X.pos))=true->K)/\((!(I&&X.pos))=false->m (v+H)/\(c.length=0->(1=0->(g (f (A::B::C::D::E::F::aw::ax::ay::az::aA::aB::P::aC)::z)).same y)/\(1≠0->8<=140737488355328/\1<=1000000000000/\1=1/\(g (f (A::B::C::D::E::F::aw::ax::ay::az::aA::aB::U::aC)::z)).same y))/\(c.length≠0->c.length*8<=140737488355328/\c.length<=1000000000000/\c.length=c.length/\J*8<=140737488355328/\J<=1000000000000/\(c++[i]).length=(c++[i]).length/\(g (f (A::B::C::D::E::F::aw::ax::ay::az::aA::aB::V::aC)::z)).same y))))/\(O=r->(w3=true->K)/\(w3=false->(((∀(k:Nat),k<6->(d<=l.at k/\l.at k<=e)/\d<=o.at k/\o.at k<=e)/\G.ok=true)/\h<=r/\r<R)/\((!(I&&Y.pos))=true->K)/\((!(I&&Y.pos))=false->m (v+H)/\(c.length=0->(1=0->(g (f (A::B::C::D::E::F::aD::aE::aF::aG::aH::aI::P::aJ)::z)).same y)/\(1≠0->8<=140737488355328/\1<=1000000000000/\1=1/\(g (f (A::B::C::D::E::F::aD::aE::aF::aG::aH::aI::U::aJ)::z)).same y))/\(c.length≠0->c.length*8<=140737488355328/\c.length<=1000000000000/\c.length=c.length/\J*8<=140737488355328/\J<=1000000000000/\(c++[i]).length=(c++[i]).length/\(g (f (A::B::C::D::E::F::aD::aE::aF::aG::aH::aI::V::aJ)::z)).same y))))/\(O=s->(w4=true->K)/\(w4=false->(((∀(k:Nat),k<6->(d<=l.at k/\l.at k<=e)/\d<=o.at k/\o.at k<=e)/\G.ok=true)/\h<=s/\s<R)/\((!(I&&Z.pos))=true->K)/\((!(I&&Z.pos))=false->m (v+H)/\(c.length=0->(1=0->(g (f (A::B::C::D::E::F::aK::aL::aM::aN::aO::aP::P::aQ)::z)).same y)/\(1≠0->8<=140737488355328/\1<=1000000000000/\1=1/\(g (f (A::B::C::D::E::F::aK::aL::aM::aN::aO::aP::U::aQ)::z)).same y))/\(c.length≠0->c.length*8<=140737488355328/\c.length<=1000000000000/\c.length=c.length/\J*8<=140737488355328/\J<=1000000000000/\(c++[i]).length=(c++[i]).length/\(g (f (A::B::C::D::E::F::aK::aL::aM::aN::aO::aP::V::aQ)::z)).same y))))/\(O=t->(w5=true->K)/\(w5=false->(((∀(k:Nat),k<6->(d<=l.at k/\l.at k<=e)/\d<=o.at k/\o.at k<=e)/\G.ok=true)/\h<=t/\t<R)/\((!(I&&a6.pos))=true->K)/\((!(I&&a6.pos))=false->m (v+H)/\(c.length=0->(1=0->(g (f (A::B::C::D::E::F::aR::aS::aT::aU::aV::aW::P::aX)::z)).same y)/\(1≠0->8<=140737488355328/\1<=1000000000000/\1=1/\(g (f (A::B::C::D::E::F::aR::aS::aT::aU::aV::aW::U::aX)::z)).same y))/\(c.length≠0->c.length*8<=140737488355328/\c.length<=1000000000000/\c.length=c.length/\J*8<=140737488355328/\J<=1000000000000/\(c++[i]).length=(c++[i]).length/\(g (f (A::B::C::D::E::F::aR::aS::aT::aU::aV::aW::V::aX)::z)).same y))))/\(O=u->(w6=true->K)/\(w6=false->(((∀(k:Nat),k<6->(d<=l.at k/\l.at k<=e)/\d<=o.at k/\o.at k<=e)/\G.ok=true)/\h<=u/\u<R)/\((!(I&&a7.pos))=true->K)/\((!(I&&a7.pos))=false->m (v+H)/\(c.length=0->(1=0->(g (f (A::B::C::D::E::F::aY::aZ::b0::b1::b2::b3::P::b4)::z)).same y)/\(1≠0->8<=140737488355328/\1<=1000000000000/\1=1/\(g (f (A::B::C::D::E::F::aY::aZ::b0::b1::b2::b3::U::b4)::z)).same y))/\(c.length≠0->c.length*8<=140737488355328/\c.length<=1000000000000/\c.length=c.length/\J*8<=140737488355328/\J<=1000000000000/\(c++[i]).length=(c++[i]).length/\(g (f (A::B::C::D::E::F::aY::aZ::b0::b1::b2::b3::V::b4)::z)).same y))))/\(O=w->(w7=true->K)/\(w7=false->(((∀(k:Nat),k<6->(d<=l.at k/\l.at k<=e)/\d<=o.at k/\o.at k<=e)/\G.ok=true)/\h<=w/\w<R)/\((!(I&&a8.pos))=true->K)/\((!(I&&a8.pos))=false->m (v+H)/\(c.length=0->(1=0->(g (f (A::B::C::D::E::F::b5::b6::b7::b8::b9::ba::P::bb)::z)).same y)/\(1≠0->8<=140737488355328/\1<=1000000000000/\1=1/\(g (f (A::B::C::D::E::F::b5::b6::b7::b8::b9::ba::U::bb)::z)).same y))/\(c.length≠0->c.length*8<=140737488355328/\c.length<=1000000000000/\c.length=c.length/\J*8<=140737488355328/\J<=1000000000000/\(c++[i]).length=(c++[i]).length/\(g (f (A::B::C::D::E::F::b5::b6::b7::b8::b9::ba::V::bb)::z)).same y))))/\h<=O/\O<(8:Int)) (by kernel_rfl) ?_;simp only[vcs];have hg:=(dQ hc).2.2.2.2 (oI p i) (dn (by omega));have hc8:=(dQ hc).1;obtain⟨h1,h2,h3⟩:=hd;have h1':∀k,k<6->(-1000<=l.at k/\l.at k<=1000)/\(-1000<=o.at k/\o.at k<=1000):=h1;have h2':0<=v/\v<=160000000:=h2;have h3':c.length<=1000:=h3;refine⟨i0,i1,by omega,?_⟩;have eo:bj p.offers i.toNat bp.off.dflt=oI p i:=rfl;simp only[eo];generalize hr:fP (qb p (xP (l,o,c,v,w0,w1,w2,w3,w4,w5,w6,w7)) i)=r;simp only[qb,fh] at hr;generalize hW:jj p (xP (l,o,c,v,w0,w1,w2,w3,w4,w5,w6,w7)) (oI p i)=W at*;simp only[jj] at hW;generalize oI p i=x at*;obtain⟨b,w,y⟩:=x;simp only at hg hW hr ⊢;refine⟨?_,?_,?_,?_,?_,?_,?_,?_,?_⟩;case refine_9=>
  exact⟨hg.1,by omega⟩
 all_goals
  rintro rfl;refine⟨λhw=>?_,λhw=>⟨⟨⟨h1',hg.2.2.1⟩,by omega,by omega⟩,λhq=>?_,λhq=>⟨by omega,λhl=>⟨λh=>absurd h (by decide),λ_=>⟨by omega,by omega,?_⟩⟩,λhl=>⟨by omega,by omega,by omega,by omega,?_⟩⟩⟩⟩;all_goals subst hw
  ·have e:W=false:=hW.symm;subst e;subst hr;exact⟨rfl,rfl⟩
  ·have e:W=false:=hW.symm.trans hq;subst e;subst hr;exact⟨rfl,rfl⟩
  ·have e:W=true:=hW.symm.trans (by simp only[θ];exact⟨rfl,hq⟩);subst e;subst hr;have:=χ hl;subst this;exact⟨rfl,rfl⟩
  ·have e:W=true:=hW.symm.trans (by simp only[θ];exact⟨rfl,hq⟩);subst e;subst hr;exact⟨rfl,rfl⟩
def LZ:bM:=⟨81,y9×bn×Int,.cons (ei sd) (.cons dO (.one (eU .i64))),λa=>bz a.2.1=0/\BE (xP a.1)/\0<=a.2.2/\a.2.2<=a.2.1.offers.length,
 λa=> .agg (gU a.2.1 (xP a.1) a.2.2.toNat).ss⟩
def pB (p:bn) (u:jA) (i k:Nat):List Off:=((p.offers.take k).drop i).filter (jj p u)
theorem agk {p:bn} {u:jA} {i:Nat}:pB p u i i=[]:=by
 grind[pB]
theorem agl {p:bn} {u:jA} {i k:Nat} (b:i<=k) (a:k<p.offers.length):pB p u i (k+1)=pB p u i k++if jj p u (oI p k)=true then[oI p k] else[]:=by
 unfold pB;have e:oI p k=p.offers[k]:=cT (by omega);rw[List.take_succ_eq_append_getElem a,List.drop_append_of_le_length (by grind),List.filter_append,e];grind
theorem agm {p:bn} {u:jA} {i k:Nat}:(pB p u i k).length<=p.offers.length:=by
 grind[pB]
def agn (l o:bC) (c:List Int) (v:Int) (w0 w1 w2 w3 w4 w5 w6 w7:Bool) (p:bn) (i:Int):Nat->cG
 |3=> .inv Int (λk=>⟨[(3,.ptr 0 0 22),(4,.ptr 1 0 20),(6,.ptr 2 0 20),(7,.ptr 3 0 20),(8,.si .i64 k)],
   [.cells (encS sd (l,o,c,v,w0,w1,w2,w3,w4,w5,w6,w7)) 142 22 false,.cells p.ss 27 20 false,
    .cells [.il .i64 0,.il .i64 0,.il .i64 0,.il .i64 0,.il .i64 0,.il .i64 0,.il .i64 0,.il .i64 0,.il .i64 0,.il .i64 0,.il .i64 0,.il .i64 0,.il .i64 0,.il .i64 0,.il .i64 0,.il .i64 0,.il .i64 0,.il .i64 0,.sc (.slice none 0 0),.sc (.slice none 0 0)] 27 20 false,
    .cells [.si .i64 l.a0,.si .i64 l.a1,.si .i64 l.a2,.si .i64 l.a3,.si .i64 l.a4,.si .i64 l.a5,.si .i64 o.a0,.si .i64 o.a1,.si .i64 o.a2,.si .i64 o.a3,.si .i64 o.a4,.si .i64 o.a5,
     .si .i64 p.cls.a0,.si .i64 p.cls.a1,.si .i64 p.cls.a2,.si .i64 p.cls.a3,.si .i64 p.cls.a4,.si .i64 p.cls.a5,.row (.i .i64) p.classes,.ow 4 (pB p (xP (l,o,c,v,w0,w1,w2,w3,w4,w5,w6,w7)) i.toNat k.toNat).length 8] 27 20 false,
    .row .off (pB p (xP (l,o,c,v,w0,w1,w2,w3,w4,w5,w6,w7)) i.toNat k.toNat) 65 true]⟩)
   (λs=>iS s 8) (λk=>i<=k/\k<=p.offers.length) (λk=>(p.offers.length - k).toNat) λ_ _=> .look
 |_=> .look
theorem h444:Holds Tryz.prog LZ:=by
 refine cH (L:=[Fj]) LZ (λa=>agn a.1.1 a.1.2.1 a.1.2.2.1 a.1.2.2.2.1 a.1.2.2.2.2.1 a.1.2.2.2.2.2.1 a.1.2.2.2.2.2.2.1 a.1.2.2.2.2.2.2.2.1 a.1.2.2.2.2.2.2.2.2.1 a.1.2.2.2.2.2.2.2.2.2.1 a.1.2.2.2.2.2.2.2.2.2.2.1 a.1.2.2.2.2.2.2.2.2.2.2.2 a.2.1 a.2.2) (by simpa using h443) ?_;rintro⟨⟨l,o,c,v,w0,w1,w2,w3,w4,w5,w6,w7⟩,p,i⟩ ⟨hc,hd,i0,i1⟩;simp only at hc hd i0 i1;refine bQ (let a:=γd .i64;let b:=bq.cells;let d:=bq.row;let e:=SV.sb;let f:=Ω;let g:=γQ;let h:=(0:Int);let j:=SV.ow;let y:=a p.cls.a0;let z:=a p.cls.a1;let A:=a p.cls.a2;let B:=a p.cls.a3;let C:=a p.cls.a4;let D:=a p.cls.a5;let Z:=bp.i .i64;let E:=f Z p.classes;let G:=g 0 0 22;let H:=g 1 0 20;let I:=g 2 0 20;let J:=g 3 0 20;let K:=a l.a0;let L:=a l.a1;let M:=a l.a2;let N:=a l.a3;let O:=a l.a4;let P:=a l.a5;let Q:=a o.a0;let R:=a o.a1;let S:=a o.a2;let T:=a o.a3;let U:=a o.a4;let V:=a o.a5;let W:=b [K,L,M,N,O,P,Q,R,S,T,U,V,f Z c,a v,e w0,e w1,e w2,e w3,e w4,e w5,e w6,e w7] 142 22 false;let X:=f bp.off p.offers;let k:=γB .i64 0;let a8:=SV.sc (Value.slice none 0 0);let Y:=b [k,k,k,k,k,k,k,k,k,k,k,k,k,k,k,k,k,k,a8,a8] 27 20 false;let n:=xP (l,o,c,v,w0,w1,w2,w3,w4,w5,w6,w7);let a9:=pB p n i.toNat i.toNat;let q:=(↑p.offers.length:Int);let a6:=(↑p.offers.length:Int);let F:=gU p n i.toNat;let r:=F.supply;let s:=F.opn;let t:=F.cls;let a7:=λ(u u_1:bC) (u_2 u_3:SV) ↦let aa:=a u.a0;let ab:=a u.a1;let ac:=a u.a2;let ad:=a u.a3;let ae:=a u.a4;let af:=a u.a5;let ag:=a u_1.a0;let ah:=a u_1.a1;let ai:=a u_1.a2;let aj:=a u_1.a3;let ak:=a u_1.a4;let al:=a u_1.a5;(b [aa,ab,ac,ad,ae,af,ag,ah,ai,aj,ak,al,y,z,A,B,C,D,E,u_2] 27 20 false).same (b [aa,ab,ac,ad,ae,af,ag,ah,ai,aj,ak,al,y,z,A,B,C,D,E,u_3] 27 20 false);(((G.same G/\H.same H/\I.same I/\J.same J/\(a i).same (a i)/\True)/\W.same W/\a7 p.supply p.opn X X/\Y.same Y/\a7 l o (j 4 0 8) (j 4 a9.length 8)/\(d bp.off [] 65 true).same (d bp.off a9 65 true)/\True)/\i<=i/\i<=q)/\∀(x:Int),let w:=x+(1:Int);let am:=a w;let an:=pB p n i.toNat w.toNat;let ao:=jj p n (oI p x);let m:=pB p n i.toNat x.toNat;let ap:=m.length+1;let aq:=m++[bj p.offers x.toNat bp.off.dflt];let ar:=λ(u:Nat) (u_1:bq) ↦cu .i64 w/\((G.same G/\H.same H/\I.same I/\J.same J/\am.same am/\True)/\W.same W/\a7 p.supply p.opn X X/\Y.same Y/\(b [K,L,M,N,O,P,Q,R,S,T,U,V,y,z,A,B,C,D,E,j 4 u 8] 27 20 false).same (b [K,L,M,N,O,P,Q,R,S,T,U,V,y,z,A,B,C,D,E,j 4 an.length 8] 27 20 false)/\u_1.same (d bp.off an 65 true)/\True)/\(i<=w/\w<=q)/\(q - w).toNat<(q - x).toNat;i<=x/\x<=q->(decide (x<a6)=true->(bz p=h/\BE n/\h<=x/\x<q)/\(ao=true->h<=x/\x<a6/\x.toNat<p.offers.length/\1=1/\m.length=m.length/\ap*64<=140737488355328/\ap<=1000000000000/\ar aq.length (d bp.off aq 65 true))/\(ao=false->ar m.length (d bp.off m 65 true)))/\(decide (x<a6)=false->m.length=m.length/\(γR [K,L,M,N,O,P,Q,R,S,T,U,V,y,z,A,B,C,D,E,f bp.off m]).same (γR [a r.a0,a r.a1,a r.a2,a r.a3,a r.a4,a r.a5,a s.a0,a s.a1,a s.a2,a s.a3,a s.a4,a s.a5,a t.a0,a t.a1,a t.a2,a t.a3,a t.a4,a t.a5,f Z F.classes,f bp.off F.offers]))) (by kernel_rfl) ?_;simp only[vcs];have hl:p.offers.length<=160:=(dQ hc).2.1;generalize hu:xP (l,o,c,v,w0,w1,w2,w3,w4,w5,w6,w7)=u at*;have e0:=@agk p u i.toNat;refine⟨⟨⟨by rw[e0];rfl,by rw[e0];rfl⟩,by omega,by omega⟩,?_⟩;rintro k ⟨k0,k1⟩;have hlen:=@agm p u i.toNat k.toNat;refine⟨λhk=>?_,λhk=>?_⟩
 ·have eS:=@agl p u i.toNat k.toNat (by omega) (by omega);rw[show((k.toNat:Nat):Int)=k by omega] at eS;have eo:bj p.offers k.toNat bp.off.dflt=oI p k:=rfl;rw[show(k+1).toNat=k.toNat+1 by omega,eS,eo];refine⟨⟨hc,hd,by omega,by omega⟩,λhw=>?_,λhw=>?_⟩
  ·rw[if_pos hw];refine⟨?_,?_,?_,?_,?_,?_,⟨rfl,rfl⟩,?_,?_⟩<;>omega
  ·rw[if_neg (by rw[hw];simp),List.append_nil];refine⟨?_,⟨rfl,rfl⟩,?_,?_⟩<;>omega
 ·rw[show k.toNat=p.offers.length by omega];subst hu;unfold pB;rw[φ];rfl
noncomputable def L0:bM:=⟨56,bn×Int,.cons dO (.one (eU .i64)),λa=>(bz a.1=0/\a.1.offers.length<=15)/\a.2=(cB a.1).value,
 λa=> .bI [.row (.i .i64) (cB a.1).chosen,.si .i64 0]⟩
noncomputable def agp (p:bn) (m:Int):Nat->cG
 |3=> .inv Int (λk=>⟨[(1,.si .i64 m),(2,.ptr 0 0 20),(6,.ptr 1 0 22),(21,.si .i64 p.offers.length),(22,.si .i64 k)],
   [.cells p.ss 27 20 false,.cells (encS sd (fP (j6 p m k.toNat))) 142 22 false,.dead]⟩)
   (λs=>iS s 22) (λk=>0<=k/\k<=p.offers.length) (λk=>(p.offers.length - k).toNat) λ_ _=> .look
 |_=> .look
theorem agq {b a:Type} (x:b×a):(x.1,x.2)=x:=rfl
theorem Vq {p:bn} {m:Int} {k:Nat} (h:(j6 p m k).value=m):∀n,j6 p m (k+n)=j6 p m k
 |0=>rfl
 |n+1=>by
  have a:=Vq h n;simp_all[qV,j6]
theorem agr {p:bn} {u:jA} {i:Int} (h:u.won.length=8):(qb p u i).won.length=8:=by
 unfold qb;split
 ·show(u.won.set _ true).length=8;simp_all
 ·rfl
theorem Vr {p:bn} {u:jA} (e:bz p=0) (d:rT p u):BE u:=by
 have g:=E9 e d (k:=0);have j:=yX.1 (uo (uq g).1).1;have i:∀k,k<6->0<=u.opn.at k/\u.opn.at k<=u.left.at k:=λk c=>⟨(tj g c).2.2.1,(tj g c).2.2.2.1⟩;have h:=(uQ e).2 d.f;obtain⟨m,q,n⟩:=uV e h;have o:u.value=ek p u.chosen:=by rw[d.v,KJ e d.f]
 refine⟨λk c=>?_,by omega,by omega⟩;have a:=j k c;have b:=i k c;have l:0<=u.left.at k/\u.left.at k<=4:=a;omega
theorem h436:Holds Tryz.prog L0:=by
 refine cH (L:=[Fj,LZ,LX]) L0 (λa=>agp a.1 a.2) (by simpa using⟨h443,h444,h434⟩) ?_;rintro⟨p,m⟩ ⟨⟨hc,h15⟩,hm⟩;simp only at hc h15 hm;refine bQ (let a:=γd .i64;let b:=SV.sb;let c:=(0:Int);let d:=bq.cells;let e:=Ω;let f:=cu .i64;let g:=(65536:Int);let h:=SV.bI;let A:=γQ 0 0 20;let B:=γQ 1 0 22;let k:=(↑p.offers.length:Int);let M:=a k;let Q:=γB .i64 0;let U:=a 0;let V:=a p.supply.a0;let W:=a p.supply.a1;let X:=a p.supply.a2;let Y:=a p.supply.a3;let Z:=a p.supply.a4;let a6:=a p.supply.a5;let a7:=a p.opn.a0;let a8:=a p.opn.a1;let a9:=a p.opn.a2;let aa:=a p.opn.a3;let ab:=a p.opn.a4;let ac:=a p.opn.a5;let o:=bp.i .i64;let C:=d [V,W,X,Y,Z,a6,a7,a8,a9,aa,ab,ac,a p.cls.a0,a p.cls.a1,a p.cls.a2,a p.cls.a3,a p.cls.a4,a p.cls.a5,e o p.classes,e bp.off p.offers] 27 20 false;let q:=SV.bl false;let D:=fP (j6 p m 0);let E:=D.fst;let F:=D.snd.fst;let G:=D.snd.snd.snd.snd.snd;let ad:=G.snd.snd.snd.snd.snd;let ae:=h [e o (cB p).chosen,U];0=0/\((((a m).same (a m)/\A.same A/\B.same B/\(a (↑p.offers.length:Int)).same M/\Q.same U/\True)/\C.same C/\(d [V,W,X,Y,Z,a6,a7,a8,a9,aa,ab,ac,e o [],Q,q,q,q,q,q,q,q,q] 142 22 false).same (d [a E.a0,a E.a1,a E.a2,a E.a3,a E.a4,a E.a5,a F.a0,a F.a1,a F.a2,a F.a3,a F.a4,a F.a5,e o D.snd.snd.fst,a D.snd.snd.snd.fst,b D.snd.snd.snd.snd.fst,b G.fst,b G.snd.fst,b G.snd.snd.fst,b G.snd.snd.snd.fst,b G.snd.snd.snd.snd.fst,b ad.fst,b ad.snd] 142 22 false)/\bq.dead.same bq.dead/\True)/\c<=c/\c<=k)/\∀(x:Int),let j:=x+(1:Int);let N:=a j;let s:=fP (j6 p m x.toNat);let t:=s.fst;let v:=s.snd.fst;let af:=e o s.snd.snd.fst;let R:=s.snd.snd.snd.fst;let ag:=s.snd.snd.snd.snd.fst;let l:=s.snd.snd.snd.snd.snd;let ah:=l.snd.snd.snd.snd.fst;let O:=l.snd.snd.snd.snd.snd;let H:=fP (j6 p m j.toNat);let I:=H.fst;let J:=H.snd.fst;let K:=H.snd.snd.snd.snd.snd;let ai:=K.snd.snd.snd.snd.snd;let aj:=d [a I.a0,a I.a1,a I.a2,a I.a3,a I.a4,a I.a5,a J.a0,a J.a1,a J.a2,a J.a3,a J.a4,a J.a5,e o H.snd.snd.fst,a H.snd.snd.snd.fst,b H.snd.snd.snd.snd.fst,b K.fst,b K.snd.fst,b K.snd.snd.fst,b K.snd.snd.snd.fst,b K.snd.snd.snd.snd.fst,b ai.fst,b ai.snd] 142 22 false;let P:=xP (t,v,s.snd.snd.fst,R,ag,l.fst,l.snd.fst,l.snd.snd.fst,l.snd.snd.snd.fst,ah,O.fst,O.snd);let w:=(fP (qb p P x)).fst;let r:=(fP (qb p P x)).snd;let y:=r.fst;let z:=r.snd.snd.fst;let ak:=r.snd.snd.snd.snd.fst;let n:=r.snd.snd.snd.snd.snd;let al:=n.snd.snd.snd.snd.fst;let am:=n.snd.snd.snd.snd.snd;let S:=gU p (xP (w,y,r.snd.fst,z,r.snd.snd.snd.fst,ak,n.fst,n.snd.fst,n.snd.snd.fst,n.snd.snd.snd.fst,al,am)) j.toNat;let an:=ji S (m - z) g;let ao:=f j/\(((a m).same (a m)/\A.same A/\B.same B/\M.same M/\N.same N/\True)/\C.same C/\(d [a t.a0,a t.a1,a t.a2,a t.a3,a t.a4,a t.a5,a v.a0,a v.a1,a v.a2,a v.a3,a v.a4,a v.a5,af,a R,b ag,b l.fst,b l.snd.fst,b l.snd.snd.fst,b l.snd.snd.snd.fst,b ah,b O.fst,b O.snd] 142 22 false).same aj/\bq.dead.same bq.dead/\True)/\(c<=j/\j<=k)/\(k - j).toNat<(k - x).toNat;let ap:=(h [af,Q]).same ae;let aq:=λ(u:Bool) ↦j5 S (m - z) g=u;let ar:=λ(u:Bool) ↦decide (an≠c)=u;let au:=λ(u:jA) ↦let L:=(fP u).snd.snd.snd.snd;let T:=L.snd.snd.snd.snd.snd;BE (xP ((fP u).fst,(fP u).snd.fst,(fP u).snd.snd.fst,(fP u).snd.snd.snd.fst,L.fst,L.snd.fst,L.snd.snd.fst,L.snd.snd.snd.fst,L.snd.snd.snd.snd.fst,T.fst,T.snd.fst,T.snd.snd));let av:=λ(u:Bool) ↦(!jj p P (oI p x))=u;let aw:=λ(u:Bool) ↦decide (R=m)=u;c<=x/\x<=k->(decide (x<k)=true->(aw true->ap)/\(aw false->(bz p=c/\au (j6 p m x.toNat)/\c<=x/\x<k)/\(av true->ao)/\(av false->f j/\(bz p=c/\au (qb p P x)/\c<=j/\j<=k)/\f (m - z)/\(S.offers.length<=20/\(-9223372036854775808:Int)<=m - z/\m - z<=(9223372036854775807:Int))/\(ar true->(h [e o [],a an]).same ae)/\(ar false->(aq true->f j/\(((a m).same (a m)/\A.same A/\B.same B/\M.same M/\N.same N/\True)/\C.same C/\(d [a w.a0,a w.a1,a w.a2,a w.a3,a w.a4,a w.a5,a y.a0,a y.a1,a y.a2,a y.a3,a y.a4,a y.a5,e o r.snd.fst,a z,b r.snd.snd.snd.fst,b ak,b n.fst,b n.snd.fst,b n.snd.snd.fst,b n.snd.snd.snd.fst,b al,b am] 142 22 false).same aj/\bq.dead.same bq.dead/\True)/\(c<=j/\j<=k)/\(k - j).toNat<(k - x).toNat)/\(aq false->ao)))))/\(decide (x<k)=false->ap)) (by kernel_rfl) ?_;simp only[vcs];simp only[agq];refine⟨⟨rfl,by omega,by omega⟩,?_⟩;rintro k ⟨k0,k1⟩;obtain⟨hG,hC⟩:=Lc hc h15 k.toNat (by omega);rw[<-hm] at hG hC;generalize hu:j6 p m k.toNat=u at*;have hW:=@agr p u k hG.wl;simp only[Vo hG.wl,Vo hW];have hrun:j6 p m (k+1).toNat=qV p m u k:=by
  rw[show(k+1).toNat=k.toNat+1 by omega];show qV p m (j6 p m k.toNat) _=_;rw[hu,show((k.toNat:Nat):Int)=k by omega]
 have hD:=Vr hc hG;refine⟨λhk=>⟨λhv=>?_,λhv0=>⟨⟨hc,hD,by omega,by omega⟩,λhw=>?_,λhw=>?_⟩⟩,λhk=>?_⟩
 ·have h1:=@Vq p m k.toNat (by rw[hu];exact hv) (p.offers.length - k.toNat);rw[show k.toNat+(p.offers.length - k.toNat)=p.offers.length by omega,hu] at h1;show u.chosen=_;rw[<-h1,hm,UY hc h15]
 ·have hv:¬u.value=m:=hv0;have e:j6 p m (k+1).toNat=u:=by rw[hrun];unfold qV;rw[if_neg hv,if_neg (by rw[hw];simp)]
  rw[e];refine⟨?_,rfl,?_,?_⟩<;>omega
 ·have hv:¬u.value=m:=hv0;have hy:qb p u k=fh p u k:=by unfold qb;rw[if_pos hw]
  rw[hy];have hlt:∀j∈u.chosen,j<k:=λj hj=>by
   rw[hC] at hj;have:=of_decide_eq_true (γk.1 hj).2;omega
  have hG2:=hG.next hc hlt ⟨by omega,by omega⟩ hw;have hD2:=Vr hc hG2;have hq:=E9 hc hG2 (k:=(k+1).toNat);have AO:(gU p (fh p u k) (k+1).toNat).offers.length<=15:=by
   have h1:=List.length_filter_le (jj p (fh p u k)) (p.offers.drop (k+1).toNat);rw[List.length_drop] at h1;show((p.offers.drop _).filter _).length<=15;omega
  have hroom:ji (gU p (fh p u k) (k+1).toNat) (m - (fh p u k).value) 65536=0:=KQ hq (by omega) (by
   have:2^((gU p (fh p u k) (k+1).toNat).offers.length+1)<=2^16:=δr (by omega) (by omega);have h16:(2:Nat)^16=65536:=rfl;omega);have hmb:0<=m/\m<=160000000:=by
   obtain⟨f1,f2⟩:=BD hc;have:=uV hc ((uQ hc).2 f1);rw[KJ hc f1] at this;omega
  have hv2:0<=(fh p u k).value/\(fh p u k).value<=160000000:=hD2.2.1;have ev:(fP (fh p u k)).2.2.2.1=(fh p u k).value:=rfl;rw[ev,hroom];have er:j6 p m (k+1).toNat=if j5 (gU p (fh p u k) (k+1).toNat) (m - (fh p u k).value) 65536=true then fh p u k else u:=by
   rw[hrun];unfold qV;rw[if_neg hv,if_pos hw]
  refine⟨by omega,⟨hc,hD2,by omega,by omega⟩,by omega,⟨by omega,by omega,by omega⟩,λh=>absurd rfl h,λ_=>⟨λhb=>?_,λhb=>?_⟩⟩
  ·rw[er,if_pos hb];refine⟨?_,rfl,?_,?_⟩<;>omega
  ·rw[er,if_neg (by rw[hb];simp)];refine⟨?_,rfl,?_,?_⟩<;>omega
 ·show u.chosen=_;rw[<-hu,hm,show k.toNat=p.offers.length by omega,UY hc h15]
noncomputable def qW (p:bn):List dj:=(iL p (gB p (jY p)).chosen 65536).prf
noncomputable def L1:bM:=⟨33,bn,.one dO,λp=>bz p≠0\/p.offers.length<=15,
 λp=> .bI [.agg [.row (.i .i64) (if bz p=0 then(cB p).chosen else[]),.si .i64 (if bz p=0 then(cB p).value else 0),.row bF (if bz p=0 then qW p else[])],.si .i64 (bz p)]⟩
theorem h427:Holds Tryz.prog L1:=by
 refine cH (L:=[pe,Bg,Bh,LW,L0]) L1 lk (by grind[h79,h312,h315,h429,h436]) ?_;rintro(p:bn) (y:bz p≠0\/p.offers.length<=15);refine bQ (let a:=(0:Int);let b:=γd .i64;let d:=Ω;let h:=(65536:Int);let l:=SV.bI;let o:=γR;let k:=bp.i .i64;let w:=[b (bz p)];let m:=l (o [d k (if bz p=a then(cB p).chosen else[]),b (if bz p=a then(cB p).value else a),d bF (if bz p=a then qW p else[])]::w);let t:=γB .i64 0;let v:=o [d k [],t,d k []];let x:=decide (bz p≠a);let q:=(gB p (jY p)).chosen;let j:=ky p q h;let f:=decide (j≠a);let g:=iL p q h;let e:=if j=a then g.val else a;let B:=λ(u c:Bool) (n:List SV) ↦u=c->(l n).same m;let r:=λ(u:Bool) (c:Int) ↦u=true->(l [v,b c]).same m;True/\(x=true->(l (v::w)).same m)/\(x=false->p.offers.length<=20/\(jY p).length<=9223372036854775807/\(p.offers.length<=20/\q.length<=9223372036854775807)/\r f j/\(f=false->((bz p=a/\p.offers.length<=15)/\e=(cB p).value)/\r false a/\B false false [o [d k (cB p).chosen,b e,d bF (if j=a then g.prf else[])],t]))) (by kernel_rfl) ?_;simp only[vcs];by_cases a:bz p=0
 ·have l:p.offers.length<=15:=y.resolve_left λh=>h a;obtain⟨o,_⟩:=yS a;have D:=LV a;have A:=(uV a o).2.2;have b:((1+2^(p.offers.length+1):Nat):Int)<=65536+2:=by
   have:2^(p.offers.length+1)<=2^16:=δr (by omega) (by omega);omega
  have d:ky p (gB p (jY p)).chosen 65536=0:=afe a o (by omega) b;obtain⟨_,C,z⟩:=KO a o (most:=65536) (by omega);have s:=(C (z b)).2.1;simp only[d,a,if_true];refine⟨λh=>absurd rfl h,λ_=>⟨by omega,by omega,⟨by omega,by omega⟩,λh=>absurd rfl h,λ_=>⟨⟨⟨trivial,l⟩,s⟩,λh=>(by cases h),λ_=>⟨?_,trivial⟩⟩⟩⟩;rw[s];rfl
 ·refine⟨λ_=>?_,λh=>absurd a h⟩;rw[if_neg a,if_neg a,if_neg a];rfl
theorem ags {t:List dj} {u:List (Int×Bool)} {k:Int} {f g h:List Int} (c:f.length=g.length) (a:∀i,bj f i 0=if bj g i 0≠0 then bj g i 0 else bj h i 0):
  ∀i,bj (oN t u k f) i 0=if bj (oN t u k g) i 0≠0 then bj (oN t u k g) i 0 else bj h i 0:=λi=>by
 unfold oN;rw[c];generalize (bj t (bj u k.toNat (0,false)).1.toNat bF.dflt).2.1=o;generalize (bj u k.toNat (0,false)).2=b;split
 ·by_cases d:o.toNat<g.length
  ·rw[iU (by omega),iU d];grind
  ·rw[ζv (by omega),ζv (by omega)];exact a i
 ·exact a i
theorem Vs {t:List dj} {u:List (Int×Bool)} {h:List Int}:∀{m:Nat} {k:Int} {f g:List Int},f.length=g.length->(∀i,bj f i 0=if bj g i 0≠0 then bj g i 0 else bj h i 0)->
  ∀i,bj (iF t u m k f) i 0=if bj (iF t u m k g) i 0≠0 then bj (iF t u m k g) i 0 else bj h i 0
 |0,_,_,_,_,a=>a
 |m+1,k,f,g,b,a=>by
  unfold iF;split;·exact Vs (by grind[Vk]) (ags b a)
  ·exact a
theorem Vt {t:List dj} {u a:List (Int×Bool)}:∀{m:Nat} {k:Int} {f:List Int},(∀x:Nat,(x:Int)<=k->bj u x (0,false)=bj a x (0,false))->(∀x:Nat,(x:Int)<=k->0<x->0<=(bj u x (0,false)).1/\(bj u x (0,false)).1<x)->iF t u m k f=iF t a m k f
 |0,_,_,_,_=>rfl
 |m+1,k,f,b,c=>by
  unfold iF;split
  ·rename_i j;have e:=b k.toNat (by omega);have d:=c k.toNat (by omega) (by omega);have i:oN t u k f=oN t a k f:=by unfold oN;rw[e]
   rw[i,<-e];exact Vt (λx g=>b x (by omega)) λx g h=>c x (by omega) h
  ·rfl
theorem Vu {n:Nat} {i:Int}:∀{l c:List Int},uS n i c l=true->∀x∈l,(i<x/\x<n)/\x∉c
 |[],_,_,x,a=>by cases a;|y::l,c,h,x,a=>by
  simp only[uS,θ,decide_eq_true_eq] at h;rcases γr.1 a with rfl|a;·simp_all
  ·have:=Vu h.2 x a;simp_all
theorem Fo {t:List dj} (h:dV t=true) {i:Nat} (b:i<t.length):∀x∈jB (bj t i bF.dflt),((i:Int)<x/\x<t.length)/\x∉ic t i:=by
 unfold dV at h;simp only[θ,τ,γC] at h;have a:=h.2.1 i b;unfold kS at a;simp only[θ] at a;exact Vu a.2
theorem Fp {t:List dj} {x:Int}:∀{i:Nat},i<=t.length->(x∈ic t i↔∃q,q<i/\x∈jB (bj t q bF.dflt))
 |0,_=>by simp[ic];|i+1,b=>by
  have a:=@U0 t i (by omega) (by omega);rw[show((i:Int)+1).toNat=i+1 by omega,γn] at a;rw[a,γm,Fp (by omega)];grind
theorem Vv {t:List dj} (b:dV t=true) {i:Nat}:∀{j:Nat},i<=j->j<=t.length->∀x,x<=i->bj (eW t j) x (0,false)=bj (eW t i) x (0,false)
 |0,c,_,_,_=>by simp_all;|j+1,c,g,x,d=>by
  by_cases e:i=j+1;·rw[e]
  ·rw[<-Vv b (j:=j) (by omega) (by omega) x d];conv=>lhs;unfold eW
   split
   ·rename_i f;have a:∀y∈[(bj t j bF.dflt).2.2.1,(bj t j bF.dflt).2.2.2.1],((j:Int)<y/\y<t.length)/\y∉ic t j:=by
     have:=Fo b (i:=j) (by omega);simp_all[jB]
    have h:=(a _ (γS ..)).1;have k:=(a (bj t j bF.dflt).2.2.2.1 (by simp)).1;have l:=@tq t j;rw[iU (by grind),if_neg (by omega),iU (by omega),if_neg (by omega)]
   ·rfl
theorem L9 {t:List dj} (b:dV t=true) {q:Nat} (k:q<t.length) (f:(bj t q bF.dflt).1=2):∀{j:Nat},q<j->j<=t.length->
  bj (eW t j) (bj t q bF.dflt).2.2.1.toNat (0,false)=((q:Int),false)/\bj (eW t j) (bj t q bF.dflt).2.2.2.1.toNat (0,false)=((q:Int),true)
 |0,h,_=>by omega;|j+1,h,C=>by
  have u:jB (bj t q bF.dflt)=[(bj t q bF.dflt).2.2.1,(bj t q bF.dflt).2.2.2.1]:=if_pos f;have g:=Fo b k;rw[u] at g;have D:=(g _ (γS ..)).1;have F:=(g (bj t q bF.dflt).2.2.2.1 (by simp)).1;have A:(bj t q bF.dflt).2.2.1≠(bj t q bF.dflt).2.2.2.1:=by
   unfold dV at b;simp only[θ,τ,γC] at b;have d:=b.2.1 q k;unfold kS at d;rw[u] at d;simp only[uS,θ,decide_eq_true_eq] at d;grind
  have l:=@tq t j;by_cases e:q=j
  ·subst e;unfold eW;rw[if_pos f];have B:((eW t q).set (bj t q bF.dflt).2.2.1.toNat ((q:Int),false)).length=t.length:=by simp_all
   rw[iU (by omega),iU (by omega),if_neg (by omega),iU (by omega),if_pos rfl,if_pos rfl];simp_all
  ·have r:=L9 b k f (j:=j) (by omega) (by omega);unfold eW;split
   ·rename_i w;have a:=Fo b (i:=j) (by omega);unfold jB at a;rw[if_pos w] at a;have s:=a _ (γS ..);have n:=a (bj t j bF.dflt).2.2.2.1 (by simp);have o:∀x∈[(bj t q bF.dflt).2.2.1,(bj t q bF.dflt).2.2.2.1],x∈ic t j:=λx v=>(Fp (by omega)).2 ⟨q,by omega,by simp_all⟩;have m:=o _ (γS ..);have p:=o (bj t q bF.dflt).2.2.2.1 (by simp);have c:∀x y:Int,x∈ic t j->y∉ic t j->x≠y:=λx y v z e=>z (e▸v);have G:=c _ _ m s.2;have H:=c _ _ m n.2;have I:=c _ _ p s.2;have E:=c _ _ p n.2;have B:((eW t j).set (bj t j bF.dflt).2.2.1.toNat ((j:Int),false)).length=t.length:=by rw[List.length_set,l]
    rw[iU (by omega),if_neg (by omega),iU (by omega),if_neg (by omega),iU (by omega),if_neg (by omega),iU (by omega),if_neg (by omega)];exact r
   ·exact r
theorem Vw {n i:Nat}:bj (δ n (0:Int)) i 0=0:=by
 grind[bj]
theorem Vx {p:bn} {t:List dj} {i:Nat}:(i6 p t i).length=p.offers.length:=by
 grind[i6,Vl]
theorem agt {p:bn} {t:List dj} (a:dV t=true) {q:Nat} (g:q<t.length) (f:(bj t q bF.dflt).1=2) (y:0<=(bj t q bF.dflt).2.1/\(bj t q bF.dflt).2.1<p.offers.length) (B:bj (i6 p t q) (bj t q bF.dflt).2.1.toNat 0=0):
  i6 p t (bj t q bF.dflt).2.2.1.toNat=(i6 p t q).set (bj t q bF.dflt).2.1.toNat (-1)/\i6 p t (bj t q bF.dflt).2.2.2.1.toNat=(i6 p t q).set (bj t q bF.dflt).2.1.toNat 1:=by
 have e:=Fo a g;unfold jB at e;rw[if_pos f] at e;have w:=(e _ (γS ..)).1;have z:=(e (bj t q bF.dflt).2.2.2.1 (by simp)).1;have r:∀(c:Int) (b:Bool),((q:Int)<c/\c<t.length)->bj (eW t c.toNat) c.toNat (0,false)=((q:Int),b)->i6 p t c.toNat=(i6 p t q).set (bj t q bF.dflt).2.1.toNat (if b then 1 else -1):=λc b D l=>by
  have k:=LP a (i:=c.toNat) (by omega);have h:=@Vm t (eW t c.toNat) k c (δ p.offers.length 0) (by omega) (by omega);rw[l] at h;simp only[γn] at h;have m:i6 p t c.toNat=iF t (eW t c.toNat) c.toNat c (δ p.offers.length 0):=by
   grind[i6]
  have u:oN t (eW t c.toNat) c (δ p.offers.length 0)=(δ p.offers.length 0).set (bj t q bF.dflt).2.1.toNat (if b then 1 else -1):=by
   simp_all[oN]
  have o:iF t (eW t c.toNat) q q ((δ p.offers.length 0).set (bj t q bF.dflt).2.1.toNat (if b then 1 else -1))=iF t (eW t q) q q ((δ p.offers.length 0).set (bj t q bF.dflt).2.1.toNat (if b then 1 else -1)):=
   Vt (λx s=>Vv a (by omega) (by omega) x (by omega)) λx s v=>⟨(k.2 x (by omega)).1,(k.2 x (by omega)).2 v⟩;rw[m,h,u,o];have n:iF t (eW t q) q q (δ p.offers.length 0)=i6 p t q:=rfl;have d:=@Vs t (eW t q) ((δ p.offers.length 0).set (bj t q bF.dflt).2.1.toNat (if b then 1 else -1)) q q ((δ p.offers.length 0).set (bj t q bF.dflt).2.1.toNat (if b then 1 else -1)) (δ p.offers.length 0) (by simp_all) (λi=>by grind[Vw]);rw[n] at d;refine Lu 0 (by grind[Vx]) λi _=>?_;rw[d i,iU (by simp_all),iU (by rw[Vx];omega),Vw];grind
 have A:=(L9 a g f (j:=(bj t q bF.dflt).2.2.1.toNat) (by omega) (by omega)).1;have C:=(L9 a g f (j:=(bj t q bF.dflt).2.2.2.1.toNat) (by omega) (by omega)).2;simp_all
def inT (a b c j:Nat):Prop:=j=a\/(b<=j/\j<c)
section
variable {p:bn} {v:Int} {t:List dj} {a lo hi:Nat} {f:List Int}
theorem agu (h:eZ p f) (a:eL p f):wK p f (fL (iD p f)):=
 ⟨⟨a.c,a.l,a.r⟩,iD p f,rfl,EV,λ_=>1000,λk b=>(KD h b).2,by
  have:∀n,rW n (λ_=>1000)=n*1000:=λn=>by
   induction n<;>grind[rW]
  have d:=Fg a.c;grind⟩
theorem agv (h:eZ p f):posB (fL (iD p f))=true:=by
 unfold posB fL;rw[τ];intro x b;obtain⟨q,a,rfl⟩:=Θ.1 b;obtain⟨i,d,rfl⟩:=γH a;have c:=(KD h (r:=i) (by grind[EV])).1;grind[cT,bu]
theorem agw {l:List Rat} {K:Nat} (s:K<=1000000) (h:∀k,k<l.length->Sz K (bj l k 0)):∀x∈fL l,iZ x:=λx b=>by
 unfold fL at b;obtain⟨q,e,rfl⟩:=Θ.1 b;obtain⟨i,a,rfl⟩:=γH e;have c:=h i a;rw[cT a] at c;obtain⟨m,⟨f,p,n⟩,⟨d,g,j⟩⟩:=l9 l[i];obtain⟨o,r⟩:=pq c;exact⟨⟨f,d⟩,by omega,by omega⟩
theorem agx (a:eL p f) (b:hJ p f=true):tn (qU p f)=true/\mr p (qU p f)=true/\(∀x∈(qU p f).2.2.2.2,iZ x)/\jB (qU p f)=[]:=by
 have h:mF p<=20:=by have:=(dQ a.c).1;grind
 have d:(fL (iD p f)).length=mF p:=by rw[fF,EV]
 refine⟨?_,?_,agw (K:=1000) (by omega) λk g=>(KD (a.ok b) (by grind[EV])).2,rfl⟩
 ·show wf1 (qU p f)=true;have e:(qU p f).2.2.2.2=fL (iD p f):=rfl;unfold wf1;rw[e,d,decide_eq_true (show mF p<=40 by omega)];grind[rU,qU,fL,E3]
 simp_all[qU,mr,dh]
theorem agy (h:jh p v t a f lo hi) (hf:eL p f) (hl:t.length<=65536):
  (∀j,inT a lo hi j->j<t.length/\tn (bj t j bF.dflt)=true/\mr p (bj t j bF.dflt)=true/\(∀x∈(bj t j bF.dflt).2.2.2.2,iZ x)/\(jB (bj t j bF.dflt)=[]\/∃x:Nat,jB (bj t j bF.dflt)=[(x:Int),((x+1:Nat):Int)]/\j<x/\lo<=x/\x+1<hi))
  /\(∀q r (x:Int),inT a lo hi q->inT a lo hi r->x∈jB (bj t q bF.dflt)->x∈jB (bj t r bF.dflt)->q=r)
  /\(∀x:Nat,lo<=x->x<hi->∃q,inT a lo hi q/\(x:Int)∈jB (bj t q bF.dflt)):=by
 induction h with
 |@bnd a f lo h1 h2 h3=>
  grind[yP,agx,inT];|@con a f lo h1 h2=>
  obtain⟨e1,e2⟩:=yP (d:=bF.dflt) h1;have hj:∀j,inT a lo lo j->j=a:=λj h=>by grind[inT]
  refine⟨λj h=>?_,λq r x hq hr _ _=>by grind,λx h0 h1=>by omega⟩;rw[hj j h,e1];exact⟨e2,by decide,rfl,(λx hx=>by cases hx),.inl rfl⟩;|@tf a f lo mid hi k h1 h2 h3 h4 h5 h6 i1 i2=>
  obtain⟨e1,e2⟩:=yP (d:=bF.dflt) h1;have l1:=h5.le;have l2:=h6.le;have yh:=(jh.tf h1 h2 h3 h4 h5 h6).top.2 (by omega);have h160:=(dQ hf.c).2.1;have hfl:=hf.l;obtain⟨f1,g1,c1⟩:=i1 (hf.set (by omega));obtain⟨f2,g2,c2⟩:=i2 (hf.set (by omega));have hk:jB (bj t a bF.dflt)=[(lo:Int),((lo+1:Nat):Int)]:=by rw[e1];rfl
  have hin:∀j,inT a lo hi j->j=a\/inT (lo+1) (lo+2) mid j\/inT lo mid hi j:=λj h=>by unfold inT at h ⊢;omega
  have s1:∀j (x:Int),inT (lo+1) (lo+2) mid j->x∈jB (bj t j bF.dflt)->(lo:Int)+2<=x/\x<mid:=λj x hj hx=>by
   rcases(f1 j hj).2.2.2.2 with h|⟨y,h,_,_,_⟩;·rw[h] at hx;cases hx
   ·rw[h] at hx;simp only[γr,δR,or_false] at hx;omega
  have s2:∀j (x:Int),inT lo mid hi j->x∈jB (bj t j bF.dflt)->(mid:Int)<=x/\x<hi:=λj x hj hx=>by
   rcases(f2 j hj).2.2.2.2 with h|⟨y,h,_,_,_⟩;·rw[h] at hx;cases hx
   ·rw[h] at hx;simp only[γr,δR,or_false] at hx;omega
  have s0:∀x:Int,x∈jB (bj t a bF.dflt)->(lo:Int)<=x/\x<lo+2:=λx hx=>by
   grind
  refine⟨λj h=>?_,λq r x hq hr xq xr=>?_,λx h0 h1=>?_⟩
  ·rcases hin j h with rfl|h|h
   ·refine⟨e2,?_,?_,?_,.inr ⟨lo,hk,h2,π _,by omega⟩⟩
    ·rw[e1];show wf2 (j4 k lo)=true;have r1:oL k=true:=by grind[oL]
     have r2:oL (lo:Int)=true:=by grind[oL]
     have r3:oL ((lo:Int)+1)=true:=by grind[oL]
     show(oL k&&oL (lo:Int)&&oL ((lo:Int)+1)&&decide (([]:List bL)=[]))=true;rw[r1,r2,r3];rfl
    ·rw[e1];rfl
    ·rw[e1];intro x hx;cases hx
   ·grind
   grind
  ·grind
  ·by_cases q1:x<lo+2
   ·refine⟨a,.inl rfl,?_⟩;rw[hk];simp only[γr,δR,or_false];omega
   grind[inT]
theorem agz (h:jh p v t 0 f 1 t.length) (m:eL p f) (s:1<=t.length) (d:t.length<=65536):dV t=true/\t.all (mr p)=true/\∀n∈t,∀x∈n.2.2.2.2,iZ x:=by
 obtain⟨l,B,o⟩:=agy h m d;have b:∀j,j<t.length->inT 0 1 t.length j:=λj c=>by unfold inT;omega
 refine⟨?_,τ.2 λn a=>?_,λn a=>?_⟩
 ·unfold dV;simp only[θ,decide_eq_true_eq,τ,γC];refine⟨⟨s,d⟩,λi g=>?_,λk z=>?_⟩
  ·obtain⟨D,r,_,_,e⟩:=l i (b i g);unfold kS;rw[r,Bool.true_and];rcases e with w|⟨x,w,A,E,J⟩;·rw[w];rfl
   ·have a:∀y:Int,y∈jB (bj t i bF.dflt)->y∉ic t i:=λy I C=>by
     grind[Fp]
    rw[w] at a ⊢;have F:=a (x:Int) (by simp);have G:=a ((x+1:Nat):Int) (by simp);simp only[uS,θ,decide_eq_true_eq,Bool.and_true];grind
  ·obtain⟨q,H,u⟩:=o (k+1) (by omega) (by omega);grind[Fp]
 ·obtain⟨j,c,rfl⟩:=γH a;grind[cT]
 ·obtain⟨j,c,rfl⟩:=γH a;grind[cT]
theorem agA (h:eZ p f):jl p f (vL (fL (iD p f))) f.length=jg p f:=by
 have a:f.length=p.offers.length:=h.2.1;unfold jl;rw[kM,afO h];have:bO f.length (λk=>if bj f k 0=0/\0<jk p (iD p f) (mF p) k then jk p (iD p f) (mF p) k else 0)=0:=by
  rw[dK (g:=λ_=>0) λk b=>?_,iT];simp_all[if_neg,afN,Rat.not_lt]
 grind
theorem agB (h:jh p v t a f lo hi) (z:dV t=true) (e:eL p f) (o:i6 p t a=f):∀j,inT a lo hi j->rZ p v (i6 p t j) (bj t j bF.dflt)=true/\((bj t j bF.dflt).1=1->wK p (i6 p t j) (bj t j bF.dflt).2.2.2.2):=by
 induction h with
 |@bnd a f lo n i B=>
  obtain⟨b,s⟩:=yP (d:=bF.dflt) n;intro j g;have:j=a:=by grind[inT]
  rw[this,o,b];refine⟨?_,λ_=>agu (e.ok i) e⟩;show(posB (fL (iD p f))&&decide (jl p f (vL (fL (iD p f))) f.length<IntCast.intCast v+1))=true;rw[agA (e.ok i),agv (e.ok i),Bool.true_and,decide_eq_true_eq];simp_all;|@con a f lo n i=>
  obtain⟨b,s⟩:=yP (d:=bF.dflt) n;intro j g;have:j=a:=by grind[inT]
  rw[this,o,b];have A:cO p (bE f 1)≠0:=λh=>by
   have:=(KF e.c (ae4 e.l)).1 h;grind[hJ]
  refine⟨?_,λh=>?_⟩
  ·show decide (cO p (bE f 1)≠0)=true;simp_all
  ·have:(3:Int)=1:=h;omega;|@tf a f lo m hi k n i B F G D C y=>
  obtain⟨b,s⟩:=yP (d:=bF.dflt) n;have u:(bj t a bF.dflt).1=2:=by rw[b];rfl
  have x:(bj t a bF.dflt).2.1=k:=by rw[b];rfl
  have q:(bj t a bF.dflt).2.2.1=lo:=by rw[b];rfl
  have r:(bj t a bF.dflt).2.2.2.1=(lo:Int)+1:=by rw[b];rfl
  have E:=e.l;have w:=agt (p:=p) z s u (by rw[x];omega) (by simp_all);rw[x,q,r,o,γn,show((lo:Int)+1).toNat=lo+1 by omega] at w;intro j g;rcases(show j=a\/inT (lo+1) (lo+2) m j\/inT lo m hi j by grind[inT]) with rfl|g|g
  ·rw[o,b];refine⟨?_,λh=>?_⟩
   ·show(decide (k<f.length)&&decide (bj f k.toNat 0=0))=true;simp_all
   simp_all
  ·exact C (e.set (by omega)) w.2 j g
  ·exact y (e.set (by omega)) w.1 j g
theorem agC (h:jh p v t 0 (iE p) 1 t.length) (a:bz p=0) (m:1<=t.length) (k:t.length<=65536):(∀w, -9223372036854775808<=w/\w<=9223372036854775807->wM p w t)/\uT p v t=0:=by
 obtain⟨d,o,g⟩:=agz h (oJ a) m k;have c:=agB h d (oJ a) rfl;have b:∀j,j<t.length->inT 0 1 t.length j:=λj n=>by grind[inT]
 refine⟨λw f=>⟨g,by omega,λ_ _ _=>⟨⟨a,d⟩,f,λi l e=>(c i (b i l)).2 e⟩⟩,?_⟩
 ·have q:sa p v t=true:=by
   grind[sa]
  unfold uT;grind
end
theorem agD {p:bn} (hc:bz p=0) (h15:p.offers.length<=15):jh p (cB p).value (qW p) 0 (iE p) 1 (qW p).length/\((qW p).length:Int)<=65536:=by
 obtain⟨i1,_⟩:=yS hc;have agE:((1+2^(p.offers.length+1):Nat):Int)<=65536+2:=by
  have:2^(p.offers.length+1)<=2^16:=δr (by omega) (by omega);have h16:(2:Nat)^16=65536:=rfl;omega
 obtain⟨_,s2,s3⟩:=KO hc i1 (most:=65536) (by omega);obtain⟨_,_,s4,s5,_⟩:=s2 (s3 agE);exact⟨s5,s4⟩
theorem Vy {p:bn} (hc:bz p=0) (h15:p.offers.length<=15):(∀w, -9223372036854775808<=w/\w<=9223372036854775807->wM p w (qW p))/\uT p (cB p).value (qW p)=0:=by
 obtain⟨s5,s4⟩:=agD hc h15;have s6:=s5.top.1;exact agC s5 hc (by omega) (by omega)
theorem Fq {p:bn} (a:bz p=0):cO p (cB p).chosen=0/\ek p (cB p).chosen=(cB p).value/\(0<=(cB p).value/\(cB p).value<=160000000)/\(cB p).chosen.length<=160:=by
 obtain⟨b,d,_⟩:=afB a;have c:=(uQ a).2 b;have:=uV a c;omega
theorem agF {p:bn} (b:bz p=0) (a:p.offers.length<=15):uU p ((cB p).chosen,(cB p).value,qW p)=0:=by
 simp_all[Fq,uU,Vy]
def j7 (a b:Off):Bool:=decide (a.bX=b.bX)||([0,1,2,3,4,5].any λk=>decide (0<a.want.at k)&&decide (0<b.want.at k))
theorem Vz {a b:Off}:j7 a b=j7 b a:=by
 unfold j7;grind
inductive Cn (p:bn):Nat->Nat->Prop
 |refl {i:Nat}:i<p.offers.length->Cn p i i
 |step {i j k:Nat}:Cn p i j->k<p.offers.length->j7 (oI p j) (oI p k)=true->Cn p i k
section
variable {p:bn} {i j k:Nat}
theorem Mc (h:Cn p i j):i<p.offers.length/\j<p.offers.length:=by
 induction h<;>omega
theorem BF (h:Cn p i j) (g:Cn p j k):Cn p i k:=by
 induction g with
 |refl _=>exact h;|step _ a b c=>exact .step c a b
theorem Ft (b:i<p.offers.length) (a:j<p.offers.length) (h:j7 (oI p i) (oI p j)=true):Cn p i j:=.step (.refl b) a h
theorem agG (h:Cn p i j):Cn p j i:=by
 induction h with
 |refl h=>exact .refl h;|@step j k a b c d=>grind[BF,Ft,Mc,Vz]
end
def qX (l:List Int) (a b:Int):List Int:=l.map λx=>if x=a then b else x
def mW (p:bn) (i:Nat) (l:List Int):Nat->List Int
 |0=>l
 |k+1=>if j7 (oI p i) (oI p k)=true then qX (mW p i l k) (bj (mW p i l k) k 0) (bj (mW p i l k) i 0) else mW p i l k
def nS (p:bn):Nat->List Int
 |0=>δ p.offers.length 0
 |i+1=>mW p i ((nS p i).set i (i:Int)) i
theorem VA {l:List Int} {a b:Int}:(qX l a b).length=l.length:=Φ _
theorem agH {l:List Int} {a b:Int} {k:Nat} (h:k<l.length):bj (qX l a b) k 0=if bj l k 0=a then b else bj l k 0:=by
 grind[qX,cT]
def Me (p:bn) (i:Nat) (m:List Int):Prop:=m.length=p.offers.length/\(∀a,a<i->0<=bj m a 0/\bj m a 0<i)/\(∀a b,a<i->b<i->j7 (oI p a) (oI p b)=true->bj m a 0=bj m b 0)/\∀a b,a<i->b<i->bj m a 0=bj m b 0->Cn p a b
def agI (p:bn) (i k:Nat) (m:List Int):Prop:=m.length=p.offers.length/\(∀a,a<=i->0<=bj m a 0/\bj m a 0<=i)/\(∀a b,a<i->b<i->j7 (oI p a) (oI p b)=true->bj m a 0=bj m b 0)/\(∀j,j<k->j7 (oI p i) (oI p j)=true->bj m i 0=bj m j 0)/\∀a b,a<=i->b<=i->bj m a 0=bj m b 0->Cn p a b
theorem VB {p:bn} {i:Nat} {m:List Int} (v:i<p.offers.length) (h:Me p i m):∀{k:Nat},k<=i->agI p i k (mW p i (m.set i (i:Int)) k)
 |0,_=>by
  obtain⟨s,y,u,t⟩:=h;have e:∀a,bj (m.set i (i:Int)) a 0=if a=i then(i:Int) else bj m a 0:=λa=>iU (by omega);refine⟨by show(m.set i (i:Int)).length=_;simp_all,λa d=>?_,λa b d g r=>?_,λj w=>by omega,λa b d g c=>?_⟩
  ·show 0<=bj (m.set i (i:Int)) a 0/\bj (m.set i (i:Int)) a 0<=i;grind
  ·show bj (m.set i (i:Int)) a 0=bj (m.set i (i:Int)) b 0;grind
  ·have c:bj (m.set i (i:Int)) a 0=bj (m.set i (i:Int)) b 0:=c;rw[e,e] at c;by_cases o:a=i
   ·by_cases l:b=i;·rw[o,l];exact .refl v
    grind
   grind;|k+1,B=>by
  have z:=VB v h (k:=k) (by omega);unfold mW;generalize mW p i (m.set i (i:Int)) k=q at z ⊢;obtain⟨s,y,u,t,n⟩:=z;split
  ·rename_i r;have e:∀a,a<=i->bj (qX q (bj q k 0) (bj q i 0)) a 0=if bj q a 0=bj q k 0 then bj q i 0 else bj q a 0:=λa d=>agH (by omega);have x:Cn p i k:=Ft v (by omega) r;refine⟨by rw[VA,s],λa d=>?_,λa b d g c=>?_,λj w f=>?_,λa b d g c=>?_⟩
   ·rw[e a d];grind
   ·rw[e a (by omega),e b (by omega),u a b d g c]
   ·rw[e i (π _),e j (by omega)];by_cases A:j=k;·simp_all
    ·rw[t j (by omega) f]
   ·rw[e a d,e b g] at c;by_cases o:bj q a 0=bj q k 0
    ·by_cases l:bj q b 0=bj q k 0;·exact n a b d g (by rw[o,l])
     ·rw[if_pos o,if_neg l] at c;exact BF (n a k d (by omega) o) (BF (agG x) (n i b (π _) g c))
    ·by_cases l:bj q b 0=bj q k 0
     ·rw[if_neg o,if_pos l] at c;exact BF (n a i d (π _) c) (BF x (n k b (by omega) g l.symm))
     ·rw[if_neg o,if_neg l] at c;exact n a b d g c
  ·rename_i r;refine⟨s,y,u,λj w f=>?_,n⟩;by_cases A:j=k;·subst A;exact absurd f r
   ·exact t j (by omega) f
theorem VC {p:bn}:∀{i:Nat},i<=p.offers.length->Me p i (nS p i)
 |0,_=>⟨List.length_replicate,λa h=>by omega,λa b h=>by omega,λa b h=>by omega⟩
 |i+1,r=>by
  obtain⟨j,n,f,o,e⟩:=VB (by omega) (VC (p:=p) (i:=i) (by omega)) (k:=i) (π _);show Me p (i+1) (mW p i ((nS p i).set i (i:Int)) i);generalize mW p i ((nS p i).set i (i:Int)) i=q at*;refine⟨j,λa d=>by grind,λa b d l g=>?_,λa b d l c=>e a b (by omega) (by omega) c⟩;by_cases s:a=i;·grind
  ·by_cases m:b=i;·grind[Vz]
   ·exact f a b (by omega) (by omega) g
def tu (p:bn):List Int:=nS p p.offers.length
def mX (p:bn) (i:Int):Int:=bj (tu p) i.toNat 0
theorem agJ {p:bn} {a b:Nat} (m:a<p.offers.length) (f:b<p.offers.length):bj (tu p) a 0=bj (tu p) b 0↔Cn p a b:=by
 obtain⟨_,_,g,i⟩:=VC (p:=p) (π _);refine⟨i a b m f,λh=>?_⟩;induction h with
 |refl _=>rfl;|@step j k c d e l=>exact(l (Mc c).2).trans (g j k (Mc c).2 d e)
def qc (p:bn) (f:Int):List Int:=(df p.offers.length).filter λi=>decide (mX p i=mX p f)
def qd (p:bn) (f:Int):Bool:=(df f.toNat).all λj=>decide (mX p j≠mX p f)
def bW (p:bn):List (List Int):=((df p.offers.length).filter (qd p)).map (qc p)
theorem wO {p:bn} {f i:Int}:i∈qc p f↔(0<=i/\i<p.offers.length)/\mX p i=mX p f:=by
 simp_all[qc,iV]
theorem agK {p:bn} {f:Int}:dS p.offers.length (qc p f):=⟨oD.sublist γt,λx a=>(wO.1 a).1⟩
theorem za {p:bn} {f:Int} (c:0<=f):qd p f=true↔∀j,0<=j->j<f->mX p j≠mX p f:=by
 unfold qd;rw[τ];exact⟨λh j a b=>of_decide_eq_true (h j (iV.2 ⟨a,by omega⟩)),λh j d=>by
  grind[iV]⟩
theorem VD {p:bn}:∀(n:Nat) {i:Int},0<=i->i<n->i<p.offers.length->∃f,(0<=f/\f<=i)/\qd p f=true/\mX p f=mX p i
 |0,i,h0,h1,_=>by omega;|n+1,i,h0,h1,h2=>by
  by_cases h:qd p i=true;·exact⟨i,⟨h0,Int.le_refl _⟩,h,rfl⟩
  ·rw[za h0] at h;have:∃j,0<=j/\j<i/\mX p j=mX p i:=δc λhn=>h λj a b c=>hn ⟨j,a,b,c⟩;obtain⟨j,a,b,c⟩:=this;obtain⟨f,f1,f2,f3⟩:=VD (p:=p) n (i:=j) a (by omega) (by omega);exact⟨f,by omega,f2,f3.trans c⟩
theorem MA {p:bn} {c:List Int}:c∈bW p↔∃f:Int,((0<=f/\f<p.offers.length)/\qd p f=true)/\qc p f=c:=by
 grind[bW,iV]
theorem VE {p:bn} {i j:Int} (b:0<=i/\i<p.offers.length) (a:0<=j/\j<p.offers.length):mX p i=mX p j↔Cn p i.toNat j.toNat:=agJ (by omega) (by omega)
def Fv (p:bn) (l:List Off):bn:={p with offers:=l}
theorem MB {α:Type} {a:α} {l:List α} {d:α}:bj (a::l) 0 d=a:=rfl
theorem MC {α:Type} {a:α} {l:List α} {n:Nat} {d:α}:bj (a::l) (n+1) d=bj l n d:=by simp[bj]
theorem agL {b:bC}:b.ok=true↔∀j,j<6->0<=b.at j/\b.at j<=4:=by
 rw[bC.iP];constructor
 ·intro h j g;have:j=0\/j=1\/j=2\/j=3\/j=4\/j=5:=by omega
  grind[bC.at,MB,MC]
 ·intro h;have i:=h 0 (by omega);have a:=h 1 (by omega);have c:=h 2 (by omega);have e:=h 3 (by omega);have f:=h 4 (by omega);have d:=h 5 (by omega);grind[bC.at,MB,MC]
theorem agM {c w cl j:Int} (h:j<6):oc c w cl j 6=if c=0\/c=cl then 0 else w:=by
 unfold oc;by_cases hh:c=0\/c=cl;·rw[if_pos ⟨h,hh⟩,if_pos hh]
 ·rw[if_neg λq=>hh q.2,if_neg hh]
theorem agN {p:bn} {x:Off} {j:Nat} (hj:j<6):(eV p x).at j=if p.cls.at j=0\/p.cls.at j=lA p x then 0 else x.want.at j:=by
 have:j=0\/j=1\/j=2\/j=3\/j=4\/j=5:=by omega
 rcases this with rfl|rfl|rfl|rfl|rfl|rfl<;>exact agM (by decide)
theorem VF {a b:bC}:a.le b=true↔∀j,j<6->a.at j<=b.at j:=⟨λh j _=>DT h j,E1⟩
theorem Fz {p:bn} {L:List Off}:gA p L↔(L.map Off.bX).Nodup/\(∀j,j<6->(L.map λy=>y.want.at j).sum<=p.supply.at j)/\∀j,j<6->(L.map λy=>(eV p y).at j).sum<=p.opn.at j:=by
 unfold gA;rw[VF,VF];simp only[nB,γO,Function.comp_def]
theorem agO {p:bn} (h:bz p=0):(p.offers.map Off.key).Nodup:=by
 unfold bz at h;split at h;·rename_i h1;exact absurd h h1
 ·exact(DL h).1
theorem agP {p:bn} (hc:bz p=0) {L:List Off} (hl:L.length<=p.offers.length) (hm:∀x∈L,x∈p.offers) (hn:(L.map Off.key).Nodup):bz (Fv p L)=0:=by
 have hz:=uq hc;refine UT ?_ (λx hx=>?_) hn
 ·obtain⟨f1,f2,f3,f4,f5⟩:=uo hz.1;exact H5 (p:=Fv p L) f1 (λj hj=>by have h:=(oq (p:=p) (k:=j)).1 (f2 j hj);exact oq.2 h) (by simp only[Fv];omega) f5
 ·exact hz.2 x (hm x hx)
theorem agQ {p:bn} (hc:bz p=0) {i j:Int} (hi:0<=i/\i<p.offers.length) (hj:0<=j/\j<p.offers.length) (h:(oI p i).key=(oI p j).key):i=j:=by
 have hn:=agO hc;have h1:i.toNat<(p.offers.map Off.key).length:=by rw[Φ];omega
 have h2:j.toNat<(p.offers.map Off.key).length:=by rw[Φ];omega
 have e:(p.offers.map Off.key)[i.toNat]=(p.offers.map Off.key)[j.toNat]:=by
  rw[δD,δD];unfold oI at h;rwa [cT (by omega),cT (by omega)] at h
 have:=(List.getElem_inj hn).1 e;omega
theorem FA {α β:Type} {f:α->β}:∀{l:List α},l.Nodup->(∀x∈l,∀y∈l,f x=f y->x=y)->(l.map f).Nodup
 |[],_,_=>by simp;|x::l,h,hi=>by
  rw[γT] at h;rw[ξ,γT];refine⟨λhm=>?_,FA h.2 λa ha b hb=>hi a (γs _ ha) b (γs _ hb)⟩;obtain⟨y,hy,he⟩:=Θ.1 hm;exact h.1 (hi x (γS ..) y (γs _ hy) he.symm▸hy)
def eO (p:bn) (c:List Int):bn:=Fv p (c.map (oI p))
def my (c t:List Int):List Int:=t.map λk=>bj c k.toNat 0
theorem VG {p:bn} {t:List Int}:cC p t=t.map (oI p):=rfl
theorem FB {p:bn} {c:List Int}:(eO p c).offers.length=c.length:=Φ _
theorem agR {p:bn} {c:List Int} {k:Int} (h:0<=k/\k<c.length):oI (eO p c) k=oI p (bj c k.toNat 0):=by
 show bj (c.map (oI p)) k.toNat bp.off.dflt=_;grind[cT]
theorem agS {p:bn} {c t:List Int} (h:∀k∈t,0<=k/\k<c.length):cC (eO p c) t=cC p (my c t):=by
 show t.map (oI (eO p c))=(t.map λk=>bj c k.toNat 0).map (oI p);simp_all[agR]
theorem FC {p:bn} (b:bz p=0) {c:List Int} (h:dS p.offers.length c):bz (eO p c)=0:=by
 refine agP b (by simp_all[qR]) (λx f=>?_) ?_
 ·obtain⟨i,a,rfl⟩:=Θ.1 f;have:=h.2 i a;exact dn (by omega)
 ·rw[γO];exact FA (yz h) λi a j d e=>agQ b (h.2 i a) (h.2 j d) e
theorem agT {p:bn}:(bW p).Pairwise λc d=>∀i∈c,i∉d:=by
 unfold bW;rw[ζt];refine(oD.sublist γt).imp_of_mem λ{f g} e j a i h b=>?_;grind[iV,za,wO]
theorem uW {p:bn} {c:List Int} (h:c∈bW p):dS p.offers.length c:=by
 grind[MA,agK]
theorem MD {p:bn} {i:Int} (h:0<=i/\i<p.offers.length):∃c∈bW p,i∈c:=by
 obtain⟨f,d,a,b⟩:=VD (p:=p) (i.toNat+1) (i:=i) h.1 (by omega) h.2;exact⟨qc p f,MA.2 ⟨f,⟨by omega,a⟩,rfl⟩,wO.2 ⟨h,b.symm⟩⟩
theorem VH {p:bn} {c:List Int} (h:c∈bW p) {i j:Int} (b:i∈c) (a:0<=j/\j<p.offers.length) (d:j7 (oI p i) (oI p j)=true):j∈c:=by
 grind[MA,wO,VE,Ft]
def oO (c:List Int) (i:Int):Bool:=decide (i∈c)
theorem VI {g:Int->Int} {P Q:Int->Bool}:∀{l:List Int},(∀i∈l,P i=true->Q i=true->False)->((l.filter λi=>P i||Q i).map g).sum=((l.filter P).map g).sum+((l.filter Q).map g).sum
 |[],_=>rfl
 |x::l,h=>by
  have b:=VI (g:=g) (l:=l) λi a=>h i (γs _ a);grind
theorem VJ {g:Int->Int} {l:List Int}:∀{a:List (List Int)},a.Pairwise (λc d=>∀i∈c,i∉d)->((l.filter λi=>a.any λc=>oO c i).map g).sum=(a.map λc=>((l.filter (oO c)).map g).sum).sum
 |[],_=>by
  have e:l.filter (λi=>([]:List (List Int)).any λc=>oO c i)=[]:=List.filter_eq_nil_iff.2 λi _=>by simp
  grind;|c::a,h=>by
  have b:=List.pairwise_cons.1 h;have e:(l.filter λi=>(c::a).any λc=>oO c i)=l.filter λi=>oO c i||a.any λc=>oO c i:=rfl;rw[e,VI,VJ b.2];·rfl
  ·intro i _ f k;obtain⟨d,j,m⟩:=ζ8.1 k;exact b.1 d j i (of_decide_eq_true f) (of_decide_eq_true m)
theorem agU {p:bn} {g:Int->Int} {l:List Int} (h:∀i∈l,0<=i/\i<p.offers.length):(l.map g).sum=((bW p).map λc=>((l.filter (oO c)).map g).sum).sum:=by
 rw[<-VJ agT];congr 2;refine(List.filter_eq_self.2 λi hi=>?_).symm;obtain⟨c,hc,hi⟩:=MD (h i hi);exact ζ8.2 ⟨c,hc,decide_eq_true hi⟩
theorem VK {g:Int->Int}:∀{l:List Int},(∀i∈l,g i=0)->(l.map g).sum=0
 |[],_=>rfl
 |x::l,h=>by rw[ξ,δ8,h x (γS ..),VK λi a=>h i (γs _ a)];rfl
theorem VL {g:Int->Int} {P:Int->Bool}:∀{l:List Int},(∀i∈l,P i=false->g i=0)->(l.map g).sum=((l.filter P).map g).sum
 |[],_=>rfl
 |x::l,h=>by
  have b:=VL (g:=g) (P:=P) (l:=l) λi a=>h i (γs _ a);grind
theorem VM {c d:Type} {f:c->d}:∀{l:List c},(l.map f).Nodup->∀{x y:c},x∈l->y∈l->f x=f y->x=y
 |z::l,h,x,y,a,b,e=>by
  rw[ξ,γT] at h;rcases γr.1 a with g|a;·grind
  ·rcases γr.1 b with i|b;·simp_all
   ·exact VM h.2 a b e
theorem agV {p:bn} (b:bz p=0) {l:List Int} (d:dS p.offers.length l) {P:Int->Bool} (h:gA p (cC p l)):gA p (cC p (l.filter P)):=by
 have c:(l.filter P++l.filter λi=>!P i).Perm l:=List.filter_append_perm P l;have a:=DK ((c.map (oI p)).symm) h;rw[γa] at a;refine DJ (dQ b) (λx f=>?_) a;obtain⟨i,e,rfl⟩:=Θ.1 f;have:=d.2 i (γk.1 e).1;exact dn (by omega)
theorem VN {a b:Off} (h:a.bX=b.bX):j7 a b=true:=by grind[j7]
theorem agW {a b:Off} {k:Nat} (e:k<6) (d:0<a.want.at k) (c:0<b.want.at k):j7 a b=true:=by
 grind[j7]
theorem agX {p:bn} (hc:bz p=0) {l:List Int} (hl:dS p.offers.length l):gA p (cC p l)↔∀c∈bW p,gA p (cC p (l.filter (oO c))):=by
 refine⟨λh c _=>agV hc hl h,λh=>?_⟩;have hg:=dQ hc;have hw:∀i∈l,∀k,k<6->0<=(oI p i).want.at k:=λi hi k hk=>(agL.1 (kr hc (hl.2 i hi)).2.2.1 k hk).1;have sup:∀(g:Off->Int) (B:Int) (k:Nat),k<6->0<=B->(∀i∈l,g (oI p i)≠0->0<(oI p i).want.at k)->(∀c∈bW p,((cC p (l.filter (oO c))).map g).sum<=B)->((cC p l).map g).sum<=B:=λg B k hk hB hz hle=>by
  have e:∀m:List Int,((cC p m).map g).sum=(m.map λi=>g (oI p i)).sum:=λm=>by rw[VG,γO];rfl
  simp only[e] at hle ⊢;by_cases ex:∃i∈l,g (oI p i)≠0
  ·obtain⟨i,hi,hn⟩:=ex;obtain⟨c,hcc,hic⟩:=MD (hl.2 i hi);rw[VL (P:=oO c) λj hj hP=>δc λhg0=>?_];·exact hle c hcc
   ·exact of_decide_eq_false hP (VH hcc hic (hl.2 j hj) (agW hk (hz i hi hn) (hz j hj hg0)))
  ·rw[VK λi hi=>δc λhn=>ex ⟨i,hi,hn⟩];exact hB
 refine Fz.2 ⟨?_,λk hk=>?_,λk hk=>?_⟩
 ·show((l.map (oI p)).map Off.bX).Nodup;rw[γO];refine FA (yz hl) λi hi j hj e=>?_;obtain⟨c,hcc,hic⟩:=MD (hl.2 i hi);have hjc:=VH hcc hic (hl.2 j hj) (VN e);have hn:=(Fz.1 (h c hcc)).1;rw[VG,γO] at hn;exact VM hn (γk.2 ⟨hi,decide_eq_true hic⟩) (γk.2 ⟨hj,decide_eq_true hjc⟩) e
 ·exact sup (λy=>y.want.at k) _ k hk (by have:=tj hc hk;omega) (λi hi hn=>by have:=hw i hi k hk;omega) λc hcc=>(Fz.1 (h c hcc)).2.1 k hk
 ·exact sup (λy=>(eV p y).at k) _ k hk (tj hc hk).2.2.1 (λi hi hn=>by
   have h1:=hw i hi k hk;have h2:=@agN p (oI p i) k hk;have hn:(eV p (oI p i)).at k≠0:=hn;split at h2<;>omega) λc hcc=>(Fz.1 (h c hcc)).2.2 k hk
theorem agY {c:List Int} {n:Nat} (h:dS n c) {i j:Int} (d:0<=i/\i<c.length) (b:0<=j/\j<c.length) (a:i<j):bj c i.toNat 0<bj c j.toNat 0:=by
 rw[cT (by omega),cT (by omega)];exact List.pairwise_iff_getElem.1 h.1 _ _ (by omega) (by omega) (by omega)
theorem agZ {c t:List Int} {n:Nat} (h:dS n c) (a:dS c.length t):dS n (my c t)/\∀x∈my c t,x∈c:=by
 have e:∀x∈my c t,x∈c:=λx d=>by
  obtain⟨k,f,rfl⟩:=Θ.1 d;exact dn (by have:=a.2 k f;omega)
 refine⟨⟨?_,λx d=>h.2 x (e x d)⟩,e⟩;unfold my;rw[ζt];exact a.1.imp_of_mem λ{i j} l g b=>agY h (a.2 i l) (a.2 j g) b
theorem VO {n:Nat} {t:List Int}:mJ 0 n t↔dS n t:=by
 grind[mJ,dS]
theorem ag0 {l:List Int} {m:Nat} (a:l.Nodup) (h:∀x∈l,0<=x/\x<m):l.length<=m:=by
 have b:l.Perm ((df m).filter λx=>decide (x∈l)):=by
  refine(γ7 a ((oD.sublist γt).imp λh=>by omega)).2 λx=>?_;simp_all[iV]
 rw[b.length_eq];grind[iz]
theorem FD {p:bn} (hc:bz p=0):(bW p).length<=p.classes.length:=by
 have hl:(bW p).length=((df p.offers.length).filter (qd p)).length:=by unfold bW;rw[Φ]
 rw[hl];have e:((df p.offers.length).filter (qd p)).length=(((df p.offers.length).filter (qd p)).map λf=>(oI p f).bX).length:=by rw[Φ]
 rw[e];refine ag0 (FA ((oD.sublist γt).imp λh=>by omega) λi hi j hj hb=>?_) λx hx=>?_
 ·obtain⟨i1,i2⟩:=γk.1 hi;obtain⟨j1,j2⟩:=γk.1 hj;have i1:=iV.1 i1;have j1:=iV.1 j1;have hn:mX p i=mX p j:=(VE i1 j1).2 (Ft (by omega) (by omega) (by
   rw[show((i.toNat:Nat):Int)=i by omega,show((j.toNat:Nat):Int)=j by omega];exact VN hb));by_cases h1:i<j;·exact absurd hn ((za j1.1).1 j2 i i1.1 h1)
  ·by_cases h2:j<i;·exact absurd hn.symm ((za i1.1).1 i2 j j1.1 h2)
   ·omega
 ·obtain⟨f,hf,rfl⟩:=Θ.1 hx;have:=kr hc (iV.1 (γk.1 hf).1);exact⟨this.1,this.2.1⟩
theorem ag1 {p:bn} {c:List Int} (h:c∈bW p):(df p.offers.length).filter (oO c)=c:=by
 refine Ku (oD.sublist γt) (uW h).1 λx=>?_;unfold oO;rw[γk,decide_eq_true_eq,iV];exact⟨λh=>h.2,λa=>⟨(uW h).2 x a,a⟩⟩
theorem VP {p:bn}:((bW p).map λc=>(c.length:Int)).sum=p.offers.length:=by
 have h:=agU (p:=p) (g:=λ_=>1) (l:=df p.offers.length) λi hi=>iV.1 hi;have e:∀l:List Int,(l.map λ_=>(1:Int)).sum=l.length:=λl=>by
  induction l with
  |nil=>rfl;|cons x l ih=>rw[ξ,δ8,ih,List.length_cons];omega
 simp only[e] at h;rw[iz] at h;rw[h];congr 1;exact γU λc hc=>by rw[ag1 hc]
def zb (c l:List Int):List Int:=(df c.length).filter λk=>decide (bj c k.toNat 0∈l)
theorem VQ {c l:List Int}:dS c.length (zb c l):=⟨oD.sublist γt,λx a=>iV.1 (γk.1 a).1⟩
theorem ag2 {n:Nat} {c l:List Int} (f:dS n c) (m:dS n l):my c (zb c l)=l.filter (oO c):=by
 obtain⟨d,g⟩:=agZ f (VQ (c:=c) (l:=l));refine Ku d.1 (m.1.sublist γt) λx=>?_;unfold oO;rw[γk,decide_eq_true_eq];constructor
 ·intro b;obtain⟨k,i,rfl⟩:=Θ.1 b;exact⟨of_decide_eq_true (γk.1 i).2,g _ b⟩
 ·rintro⟨b,a⟩;obtain⟨j,o,e⟩:=γH a;have h:bj c ((j:Int)).toNat 0=x:=by grind[cT]
  refine Θ.2 ⟨(j:Int),γk.2 ⟨iV.2 (by omega),?_⟩,h⟩;simp_all
theorem VR {n:Nat} {t:List Int} (h:dS n t):mJ 0 n t:=VO.2 h
theorem ag3 {p:bn} (hc:bz p=0) {l:List Int} (hl:dS p.offers.length l):cO p l=0↔∀c∈bW p,cO (eO p c) (zb c l)=0:=by
 have h1:cO p l=0↔gA p (cC p l):=by
  rw[uQ hc];exact⟨λh=>h.2,λh=>⟨VR hl,h⟩⟩
 rw[h1,agX hc hl];refine forall_congr' λc=>forall_congr' λhcc=>?_;have hca:=uW hcc;have hpa:=@VQ c l;rw[uQ (FC hc hca),<-ag2 hca hl,<-agS hpa.2];exact⟨λh=>⟨VR (by rw[FB];exact hpa),h⟩,λh=>h.2⟩
def ME:bn:=⟨.zero,.zero,.zero,[],[]⟩
theorem ag4:kF Tryz.prog 57 [.os 0 0 0 0] [.cells [] 3 1 true] (.bI []) [.cells [] 3 1 true]:=
 (GN sN 60 57 [.os 0 0 0 0] [.cells [] 3 1 true] true (.bI []) [.cells [] 3 1 true] (by kernel_rfl)).2.1
def VS:dH where
 f:=57;α:=Nat×List Int;put a:=[.ow 0 a.1 1];st a:=[.row (.i .i64) a.2 3 true];dec v o:=match v,o with
  |[.ow 0 n 1],[.row t l 3 true]=>match iH t (.i .i64) l with
   |some l=>some (n,l)
   |_=>none
  |_,_=>none;ok v o a h:=by
  grind[mH]
 inj a b e1 e2:=by
  obtain⟨n,l⟩:=a;obtain⟨n',l'⟩:=b;simp only[gL,Γ,SV.g,AV.os.injEq,true_and] at e1;simp only[gO,ξ,γv,bq.g,Γ,bR.cells.injEq,and_true,true_and] at e2;have h4:l=l':=by
   have hf:=congrArg List.length e2;rw[fe,fe] at hf;exact ly (.i .i64) (by grind[bp.sz]) e2
  simp_all
 dom a:=a.1=a.2.length/\a.2.length<=1000000;res _:=.bI [];out a:=[.row (.i .i64) (ec a.2) 3 true]
theorem h337e:ef Tryz.prog VS:=by
 rintro⟨n,l⟩ ⟨a,b⟩;simp only at a b;by_cases c:1<=l.length;·exact h337 (n,l) ⟨a,c,b⟩
 ·have:l=[]:=χ (by omega);subst this;subst a;refine⟨by kernel_rfl,?_⟩;have e:ec []=[]:=by simp[ec]
  show kF Tryz.prog 57 [.os 0 0 0 0] [.cells [] 3 1 true] (.bI []) (gO [.row (.i .i64) (ec []) 3 true]);rw[e];exact ag4
def BG:bM:=⟨31,bn×List Int,.cons dO (.one (dG (.i .i64))),λa=>(∀i∈a.2,0<=i/\i<a.1.offers.length)/\a.2.length<=1000/\a.1.classes.length<=1000,λa=>dO.put (eO a.1 a.2)⟩
def MF (p:bn) (v:SV):bq:=.cells [.si .i64 p.supply.a0,.si .i64 p.supply.a1,.si .i64 p.supply.a2,.si .i64 p.supply.a3,.si .i64 p.supply.a4,.si .i64 p.supply.a5,
  .si .i64 p.opn.a0,.si .i64 p.opn.a1,.si .i64 p.opn.a2,.si .i64 p.opn.a3,.si .i64 p.opn.a4,.si .i64 p.opn.a5,
  .si .i64 p.cls.a0,.si .i64 p.cls.a1,.si .i64 p.cls.a2,.si .i64 p.cls.a3,.si .i64 p.cls.a4,.si .i64 p.cls.a5,
  .row (.i .i64) p.classes,v] 27 20 false
def VT:bq:=.cells [.il .i64 0,.il .i64 0,.il .i64 0,.il .i64 0,.il .i64 0,.il .i64 0,.il .i64 0,.il .i64 0,.il .i64 0,.il .i64 0,.il .i64 0,.il .i64 0,.il .i64 0,.il .i64 0,.il .i64 0,.il .i64 0,.il .i64 0,.il .i64 0,.sc (.slice none 0 0),.sc (.slice none 0 0)] 27 20 false
def ag5 (p:bn) (c:List Int):Nat->cG
 |5=> .inv Int (λi=>⟨[(2,.ptr 0 0 20),(4,.ptr 1 0 20),(5,.ptr 2 0 20),(14,.row (.i .i64) c),(15,.si .i64 c.length),(16,.si .i64 i)],[.cells p.ss 27 20 false,VT,MF p (.ow 3 (c.take i.toNat).length 8),.row .off ((c.take i.toNat).map (oI p)) 65 true]⟩)
   (λs=>iS s 16) (λi=>0<=i/\i<=c.length) (λi=>(c.length - i).toNat) λ_ _=> .look
 |_=> .look
theorem h562:Holds Tryz.prog BG:=by
 refine cH (L:=[Bd]) BG (λa=>ag5 a.1 a.2) (by grind[h330]) ?_;rintro⟨p,c⟩ ⟨Z,h2,h3⟩;simp only at Z h2 h3;refine bQ (let a:=γd .i64;let b:=(0:Int);let d:=bq.cells;let y:=Ω;let I:=bq.row;let L:=γQ;let Y:=L 0 0 20;let W:=L 1 0 20;let X:=L 2 0 20;let J:=bp.i .i64;let H:=(↑c.length:Int);let N:=a H;let e:=γB .i64 0;let O:=a p.supply.a0;let M:=a p.supply.a1;let S:=a p.supply.a2;let q:=a p.supply.a3;let B:=a p.supply.a4;let A:=a p.supply.a5;let r:=a p.opn.a0;let v:=a p.opn.a1;let D:=a p.opn.a2;let u:=a p.opn.a3;let o:=a p.opn.a4;let w:=a p.opn.a5;let l:=a p.cls.a0;let n:=a p.cls.a1;let z:=a p.cls.a2;let C:=a p.cls.a3;let t:=a p.cls.a4;let s:=a p.cls.a5;let k:=y J p.classes;let F:=d [O,M,S,q,B,A,r,v,D,u,o,w,l,n,z,C,t,s,k,y bp.off p.offers] 27 20 false;let T:=SV.sc (Value.slice none 0 0);let E:=d [e,e,e,e,e,e,e,e,e,e,e,e,e,e,e,e,e,e,T,T] 27 20 false;let K:=d [O,M,S,q,B,A,r,v,D,u,o,w,l,n,z,C,t,s,k,SV.ow 3 0 8] 27 20 false;let U:=I bp.off [] 65 true;let h:=(eO p c).supply;let f:=(eO p c).opn;let j:=(eO p c).cls;p.classes.length<=1000000/\(((Y.same Y/\W.same W/\X.same X/\(y J c).same (y J c)/\(a (↑c.length:Int)).same N/\e.same (a 0)/\True)/\F.same F/\E.same E/\K.same K/\U.same U/\True)/\b<=b/\b<=H)/\∀(x:Int),let G:=bj c x.toNat b;let m:=γb (oI p) (Δ x.toNat c);let Q:=m.length+1;let g:=x+(1:Int);let R:=a g;let V:=m++[bj p.offers G.toNat bp.off.dflt];let P:=Δ g.toNat c;b<=x/\x<=H->(decide (x<H)=true->b<=x/\x<(↑c.length:Int)/\x.toNat<c.length/\b<=G/\G<(↑p.offers.length:Int)/\G.toNat<p.offers.length/\1=1/\(Δ x.toNat c).length=m.length/\Q*64<=140737488355328/\Q<=1000000000000/\cu .i64 g/\((Y.same Y/\W.same W/\X.same X/\(y J c).same (y J c)/\N.same N/\R.same R/\True)/\F.same F/\E.same E/\(d [O,M,S,q,B,A,r,v,D,u,o,w,l,n,z,C,t,s,k,SV.ow 3 V.length 8] 27 20 false).same (d [O,M,S,q,B,A,r,v,D,u,o,w,l,n,z,C,t,s,k,SV.ow 3 P.length 8] 27 20 false)/\(I bp.off V 65 true).same (I bp.off (γb (oI p) P) 65 true)/\True)/\(b<=g/\g<=H)/\(H - g).toNat<(H - x).toNat)/\(decide (x<H)=false->(Δ x.toNat c).length=m.length/\(γR [O,M,S,q,B,A,r,v,D,u,o,w,l,n,z,C,t,s,k,y bp.off m]).same (γR [a h.a0,a h.a1,a h.a2,a h.a3,a h.a4,a h.a5,a f.a0,a f.a1,a f.a2,a f.a3,a f.a4,a f.a5,a j.a0,a j.a1,a j.a2,a j.a3,a j.a4,a j.a5,y J (eO p c).classes,y bp.off (eO p c).offers]))) (by kernel_rfl) ?_;simp only[vcs];have I:∀{a b:Nat},a=b->(MF p (.ow 3 a 8)).same (MF p (.ow 3 b 8)):=by rintro _ _ rfl;rfl
 have a7:∀{x y:List Off},x=y->(bq.row .off x 65 true).same (bq.row .off y 65 true):=by rintro _ _ rfl;rfl
 have a6:∀x:Int,0<=x->x<c.length->γb (oI p) (Δ x.toNat c)++[bj p.offers (bj c x.toNat 0).toNat bp.off.dflt]=γb (oI p) (Δ (x+1).toNat c):=λx h0 Z=>by
  rw[jq (d:=0) h0 Z,γa];rfl
 refine⟨by omega,by omega,?_⟩;rintro x ⟨x0,x1⟩;refine⟨λN=>?_,λa8=>?_⟩
 ·have hb:=Z (bj c x.toNat 0) (dn (by omega));have a9:(γb (oI p) (Δ x.toNat c)).length=x.toNat:=by simp_all
  rw[a6 x x0 N];refine⟨x0,N,by omega,hb.1,hb.2,by omega,(Φ _).symm,by omega,by omega,by omega,⟨I (Φ _),a7 rfl⟩,by omega,by omega⟩
 ·rw[show x.toNat=c.length by omega,φ];exact⟨(Φ _).symm,rfl⟩
def mA (p:bn) (l:List Int):Int:=if bz p≠0 then bz p else if fE p l=true then 0 else 4
def lp (p:bn) (l:List Int):bn:=if mA p l=0 then eO p l else ME
def FG:bM:=⟨15,bn×List Int,.cons dO (.one (dG (.i .i64))),λa=>a.2.length<=1000000000000,λa=> .bI [.agg (lp a.1 a.2).ss,.si .i64 (mA a.1 a.2)]⟩
def ag6 (p:bn) (l:List Int):Nat->cG
 |6=> .inv (Int×Int) (λx=>⟨[(1,.row (.i .i64) l),(2,.ptr 0 0 20),(4,.ptr 1 0 20),(7,.si .i64 x.2),(16,.row (.i .i64) l),(17,.si .i64 l.length),(18,.si .i64 x.1)],[.cells p.ss 27 20 false,VT]⟩)
   (λs=>(iS s 18,iS s 7)) (λx=>(0<=x.1/\x.1<=l.length)/\(-1<=x.2/\x.2<1000)/\(eh p.offers (-1) l).isSome=(eh p.offers x.2 (l.drop x.1.toNat)).isSome) (λx=>(l.length - x.1).toNat) λ_ _=> .look
 |_=> .look
theorem h554:Holds Tryz.prog FG:=by
 refine cH (L:=[pe,BG]) FG (λa=>ag6 a.1 a.2) (by grind[h79,h562]) ?_;rintro⟨p,l⟩ (hl:l.length<=1000000000000);refine bQ (let a:=γd .i64;let d:=Ω;let e:=(-1:Int);let h:=(0:Int);let n:=γB .i64;let q:=(1000:Int);let A:=SV.bI;let E:=γR;let T:=decide (bz p≠h);let b:=n 0;let m:=bp.i .i64;let M:=E [b,b,b,b,b,b,b,b,b,b,b,b,b,b,b,b,b,b,d m [],d m []];let y:=(lp p l).supply;let w:=(lp p l).opn;let v:=(lp p l).cls;let J:=A [E [a y.a0,a y.a1,a y.a2,a y.a3,a y.a4,a y.a5,a w.a0,a w.a1,a w.a2,a w.a3,a w.a4,a w.a5,a v.a0,a v.a1,a v.a2,a v.a3,a v.a4,a v.a5,d m (lp p l).classes,d bp.off (lp p l).offers],a (mA p l)];let K:=γQ 0 0 20;let I:=γQ 1 0 20;let c:=(↑l.length:Int);let u:=a c;let r:=bq.cells [a p.supply.a0,a p.supply.a1,a p.supply.a2,a p.supply.a3,a p.supply.a4,a p.supply.a5,a p.opn.a0,a p.opn.a1,a p.opn.a2,a p.opn.a3,a p.opn.a4,a p.opn.a5,a p.cls.a0,a p.cls.a1,a p.cls.a2,a p.cls.a3,a p.cls.a4,a p.cls.a5,d m p.classes,d bp.off p.offers] 27 20 false;let z:=SV.sc (Value.slice none 0 0);let s:=bq.cells [b,b,b,b,b,b,b,b,b,b,b,b,b,b,b,b,b,b,z,z] 27 20 false;let t:=(eh p.offers e l).isSome;let f:=(eO p l).supply;let k:=(eO p l).opn;let o:=(eO p l).cls;True/\(T=true->(A [M,a (bz p)]).same J)/\(T=false->((((d m l).same (d m l)/\K.same K/\I.same I/\(n e).same (a e)/\(d m l).same (d m l)/\(a (↑l.length:Int)).same u/\b.same (a 0)/\True)/\r.same r/\s.same s/\True)/\(h<=h/\h<=c)/\(e<=e/\e<q)/\t=t)/\∀(x:Int×Int),let G:=decide (x.fst<c);let j:=bj l x.fst.toNat h;let H:=decide (j<=x.snd);let D:=decide ((↑p.offers.length:Int)<=j);let g:=x.fst+(1:Int);let B:=a j;let C:=a g;(h<=x.fst/\x.fst<=c)/\(e<=x.snd/\x.snd<q)/\t=(eh p.offers x.snd (List.drop x.fst.toNat l)).isSome->(G=true->h<=x.fst/\x.fst<(↑l.length:Int)/\x.fst.toNat<l.length/\(H=true->(A [M,n 4]).same J)/\(H=false->(D=true->(A [M,n 4]).same J)/\(D=false->cu .i64 g/\(((d m l).same (d m l)/\K.same K/\I.same I/\B.same B/\(d m l).same (d m l)/\u.same u/\C.same C/\True)/\r.same r/\s.same s/\True)/\((h<=g/\g<=c)/\(e<=j/\j<q)/\t=(eh p.offers j (List.drop g.toNat l)).isSome)/\(c - g).toNat<(c - x.fst).toNat)))/\(G=false->((∀(i:Int),i∈l->h<=i/\i<(↑p.offers.length:Int))/\l.length<=1000/\p.classes.length<=1000)/\(A [E [a f.a0,a f.a1,a f.a2,a f.a3,a f.a4,a f.a5,a k.a0,a k.a1,a k.a2,a k.a3,a k.a4,a k.a5,a o.a0,a o.a1,a o.a2,a o.a3,a o.a4,a o.a5,d m (eO p l).classes,d bp.off (eO p l).offers],b]).same J))) (by kernel_rfl) ?_;simp only[vcs];have Z:mA p l≠0->lp p l=ME:=λh=>by simp_all[lp]
 refine⟨λh=>?_,λh=>?_⟩
 ·have e:mA p l=bz p:=by simp_all[mA]
  rw[Z (by omega),e];exact⟨rfl,rfl⟩
 ·have hc:bz p=0:=Classical.not_not.1 h;have P:=dQ hc;have e:mA p l=if fE p l=true then 0 else 4:=by simp_all[mA]
  refine⟨⟨by omega,by omega,by simp⟩,?_⟩;rintro⟨i,U⟩ ⟨⟨N,i1⟩,⟨Y,V⟩,q⟩;simp only at N i1 Y V q ⊢;have F:fE p l=false->mA p l=4/\lp p l=ME:=λhb=>by
   simp_all
  refine⟨λA=>?_,λa6=>?_⟩
  ·rw[sP (d:=0) N A] at q;generalize S:bj l i.toNat 0=x at q ⊢;simp only[eh] at q;refine⟨N,A,by omega,λR=>?_,λR=>⟨λh2=>?_,λh2=>?_⟩⟩
   ·rw[if_pos (.inl R)] at q;obtain⟨O,Q⟩:=F q;rw[Q,O];exact⟨rfl,rfl⟩
   ·rw[if_pos (.inr (by omega))] at q;obtain⟨O,Q⟩:=F q;rw[Q,O];exact⟨rfl,rfl⟩
   ·rw[if_neg (by omega),Option.isSome_map] at q;have:=P.2.1;grind
  ·rw[show i.toNat=l.length from by omega,List.drop_length] at q;have E:fE p l=true:=q;rw[E] at e;have e0:mA p l=0:=e;have X:lp p l=eO p l:=by simp_all[lp]
   have ha:=JW (by omega) E;rw[X,e0];have W:=JU (n:=p.offers.length) (a:=0) (by omega) ha.1 (λx S=>by grind);exact⟨⟨λx S=>by grind,by have:=P.2.1;omega,by have:=P.1;omega⟩,rfl,rfl⟩
open Go.Maps Go.RowKit Go.Proofs Go.ChangeShapes
def gJ (l:List Int) (k:Nat) (x:Int):List Int:=(df k).filter λi=>decide (bj l i.toNat 0=x)
theorem ag7 {l:List Int} {k:Nat} {x:Int}:gJ l (k+1) x=if bj l k 0=x then gJ l k x++[(k:Int)] else gJ l k x:=by
 grind[gJ,qQ]
def nT (H:Type) (l:List Int):Nat->DataW H
 |0=> .map []
 |k+1=>(nT H l k).put (.int .i64 (bj l k 0)) (.slice (lits .i64 (gJ l k (bj l k 0)++[(k:Int)])) [])
theorem VU {H:Type} {l:List Int}:∀{k:Nat},Go.Maps.IsMap (nT H l k)
 |0=>isMap_empty
 |k+1=>VU.put _ _
theorem FH {H:Type} {l:List Int} {x:Int}:∀{k:Nat} (z:DataW H),(nT H l k).atKey (.int .i64 x) z=if gJ l k x=[] then z else .slice (lits .i64 (gJ l k x)) []
 |0,z=>by grind[nT,gJ,df,DataW.atKey];|k+1,z=>by
  rw[nT,ag7];by_cases h:bj l k 0=x
  ·subst h;rw[atKey_put_same VU (by simp[WideAt.IsKeyLit]),if_pos rfl,if_neg (by simp)]
  ·rw[atKey_put_other (by grind),if_neg h];exact FH z
theorem VX {H:Type} {l:List Int} {x:Int} {k:Nat}:Go.Maps.has (nT H l k) (.int .i64 x)=decide (gJ l k x≠[]):=by
 by_cases h:gJ l k x=[];all_goals simp_all[has_false_of_atKey,FH,has_true_of_atKey]
theorem ag8 {H:Type} {w:World} {base:Nat} {e:TypeId} {v:Value} {zs l:List Int} {k:Nat} (ho:w.ownsInts base e .i64 v zs)
  (hat:(nT H l k).atKey (.int .i64 (bj l k 0)) .nil=rowDatum .i64 v zs):zs=gJ l k (bj l k 0):=by
 rw[FH] at hat;rcases ho.datum (H:=H) with⟨h1,rfl⟩|h1<;>rw[h1] at hat
 ·split at hat;·rename_i h;exact h.symm
  ·cases hat
 ·split at hat;·cases hat
  ·injection hat with hat;have hinj:∀{a b:List Int},lits (H:=H) .i64 a=lits .i64 b->a=b:=by
    intro a;induction a with
    |nil=>intro b h;cases b with|nil=>rfl|cons y b=>simp[lits] at h
    |cons x a ih=>
     intro b h;cases b with
     |nil=>simp[lits] at h;|cons y b=>
      simp[lits] at h ih;rw[h.1,ih h.2]
   exact(hinj hat).symm
theorem VY {l:List Int} {n:Nat} {x i:Int}:i∈gJ l n x↔(0<=i/\i<n)/\bj l i.toNat 0=x:=by
 unfold gJ df;grind
theorem ag9 {l:List Int} {n:Nat} {x:Int}:(gJ l n x).Pairwise (·<·):=oD.sublist γt
def fc (l:List Int) (n:Nat):List Int:=(df n).filter λf=>decide ((gJ l n (bj l f.toNat 0)).head?=some f)
theorem MG {l:List Int} {n:Nat}:(fc l n).Pairwise (·<·):=oD.sublist γt
theorem FI {l:List Int} {n:Nat} {f:Int}:f∈fc l n↔(gJ l n (bj l f.toNat 0)).head?=some f:=by
 unfold fc;rw[γk];constructor;·simp_all
 ·intro h;refine⟨?_,decide_eq_true h⟩;have:=(VY.1 (List.mem_of_mem_head? h)).1;grind[df]
theorem aha {l:List Int} {n:Nat} {x:Int} (h:gJ l n x≠[]):∃f t,gJ l n x=f::t/\f∈fc l n/\bj l f.toNat 0=x:=by
 cases e:gJ l n x with
 |nil=>exact absurd e h;|cons f t=>
  have hf:=(VY.1 (show f∈gJ l n x by rw[e];exact γS)).2;exact⟨f,t,rfl,FI.2 (by rw[hf,e];rfl),hf⟩
theorem ahb {l:List Int} {n:Nat} {f g:Int} (b:f∈fc l n) (a:g∈fc l n) (h:bj l f.toNat 0=bj l g.toNat 0):f=g:=by
 grind[FI]
theorem ahc {hs l:List Int} (hn:hs.Nodup) (hl:l.Pairwise (·<·)) (hm:∀x,x∈hs↔x∈l):(hs.mergeSort λx y=>decide (x<=y))=l:=by
 have hp:hs.Perm l:=(γ7 hn (hl.imp λh=>Int.ne_of_lt h)).2 hm;have h1:=List.pairwise_mergeSort (le:=λx y:Int=>decide (x<=y)) (λa b c=>by simp;omega) (λa b=>by simp;omega) hs;exact List.Perm.eq_of_pairwise (le:=λx y:Int=>x<=y) (λa b _ _ h h'=>by omega) (h1.imp λh=>by simpa using h) (hl.imp λh=>Int.le_of_lt h) ((List.mergeSort_perm _ _).trans hp)
theorem ahd {p:bn}:bW p=(fc (tu p) p.offers.length).map λf=>gJ (tu p) p.offers.length (bj (tu p) f.toNat 0):=by
 unfold bW;have e:∀f,qc p f=gJ (tu p) p.offers.length (bj (tu p) f.toNat 0):=λf=>rfl;have h:(df p.offers.length).filter (qd p)=fc (tu p) p.offers.length:=by
  unfold fc;refine List.filter_congr λf hf=>?_;obtain⟨h0,h1⟩:=iV.1 hf;rw[<-e f];have hin:f∈qc p f:=wO.2 ⟨⟨h0,h1⟩,rfl⟩;have hasc:(qc p f).Pairwise (·<·):=ag9;cases hc:qc p f with
  |nil=>rw[hc] at hin;cases hin;|cons g t=>
   rw[hc] at hasc;have hg:=wO.1 (show g∈qc p f by rw[hc];exact γS);by_cases hfg:g=f
   ·subst hfg;rw[List.head?_cons];have:qd p g=true:=(za h0).2 λj a b c=>by
     have hj:j∈qc p g:=wO.2 ⟨⟨a,by omega⟩,c⟩;rw[hc] at hj;rcases γr.1 hj with rfl|hj;·omega
     ·have:=ζk hasc hj;omega
    simp[this]
   ·have hlt:g<f:=by
     rw[hc] at hin;rcases γr.1 hin with rfl|hj;·exact absurd rfl hfg
     ·exact ζk hasc hj
    have:¬qd p f=true:=λhb=>(za h0).1 hb g hg.1.1 hlt hg.2;simp only[Bool.not_eq_true] at this;simp[this,hfg]
 rw[h];exact γU λf _=>e f
open Go.Maps Go.RowKit Go.Proofs Go.ChangeShapes
theorem ahe {l:List Int} {n:Nat} {f:Int} (h:f∈fc l n):0<=f/\f<n:=by
 grind[fc,iV]
structure zc (O:Value->List Int->Prop) (l:List Int) (n:Nat) (D:DataW Unit) (left:Lit->Bool) (cnt:Nat) (hs:List (Int×Value)):Prop where
 d:(hs.map εl).Nodup
 i:∀h∈hs,h.1∈fc l n/\O h.2 (gJ l n (bj l h.1.toNat 0))/\left (.int .i64 (bj l h.1.toNat 0))=false
 a:∀f∈fc l n,left (.int .i64 (bj l f.toNat 0))=false->∃h∈hs,h.1=f
 c:hs.length+cnt<=n
 h:∀kl,left kl=true->Go.Maps.has D kl=true
theorem VZ (a b:Int):(Lit.int .i64 a).sameKey (.int .i64 b)=decide (a=b):=by simp[Lit.sameKey]
theorem zc.step {O:Value->List Int->Prop} {l:List Int} {n:Nat} {D:DataW Unit} {e:Lit->Bool} {o:Nat} {x:List (Int×Value)} (h:zc O l n D e o x) {f:Int} {v:Value} (A:f∈fc l n)
  (I:O v (gJ l n (bj l f.toNat 0))) (s:e (.int .i64 (bj l f.toNat 0))=true) {k:Nat} (J:k<o):
  zc O l n D (λz=>e z&&!z.sameKey (.int .i64 (bj l f.toNat 0))) k (x++[(f,v)]):=by
 refine⟨?_,?_,?_,?_,?_⟩
 ·rw[γa,List.nodup_append];refine⟨h.d,by simp,?_⟩;intro a B b u p;simp at u;subst u;subst p;obtain⟨q,E,rfl⟩:=Θ.1 B;rw[(h.i _ E).2.2] at s;cases s
 ·intro y m;rcases γm.1 m with m|m
  ·obtain⟨K,H,G⟩:=h.i y m;simp_all
  grind[VZ]
 ·intro g w j;rw[VZ] at j;by_cases t:bj l g.toNat 0=bj l f.toNat 0;·exact⟨(f,v),by simp,(ahb w A t).symm⟩
  ·rw[decide_eq_false t] at j;simp at j;obtain⟨y,m,F⟩:=h.a g w j;grind
 ·have:=h.c;grind
 ·intro C r;simp only[θ] at r;exact h.h C r.1
def mY (hs:List (Int×Value)) (f:Int):Value:=((hs.find? λh=>decide (h.1=f)).map Prod.snd).getD (.slice none 0 0)
theorem V0 {a:List (Int×Value)} (b:(a.map εl).Nodup) {q:Int×Value} (c:q∈a):mY a q.1=q.2:=by
 unfold mY;induction a<;>grind
theorem ahf {a:List (Int×Value)} (b:(a.map εl).Nodup):(a.map εl).map (mY a)=a.map Prod.snd:=by
 simp_all[V0]
theorem zc.done {O:Value->List Int->Prop} {l:List Int} {n:Nat} {D:DataW Unit} {b:Lit->Bool} {j:Nat} {e:List (Int×Value)} (h:zc O l n D b j e) (m:∀o,b o=false):
  (∀f,f∈e.map εl↔f∈fc l n)/\(∀f∈fc l n,O (mY e f) (gJ l n (bj l f.toNat 0)))/\((e.map εl).mergeSort λx y=>decide (x<=y))=fc l n:=by
 have k:∀f,f∈e.map εl↔f∈fc l n:=λf=>by
  constructor
  ·intro c;obtain⟨q,g,rfl⟩:=Θ.1 c;exact(h.i q g).1
  ·intro c;obtain⟨q,g,rfl⟩:=h.a f c (m _);grind
 refine⟨k,λf c=>?_,ahc h.d MG k⟩;obtain⟨q,g,rfl⟩:=Θ.1 ((k f).2 c);rw[V0 h.d g];exact(h.i q g).2.1
theorem ahg {H:Type} {w:World} {base:Nat} {e:TypeId} {v:Value} {zs l:List Int} {k:Nat} {x:Int} (ho:w.ownsInts base e .i64 v zs)
  (hat:(nT H l k).atKey (.int .i64 x) .nil=rowDatum .i64 v zs):zs=gJ l k x:=by
 rw[FH] at hat;rcases ho.datum (H:=H) with⟨h1,rfl⟩|h1<;>rw[h1] at hat
 ·split at hat;·rename_i h;exact h.symm
  ·cases hat
 ·split at hat;·cases hat
  ·injection hat with hat;have hinj:∀{a b:List Int},lits (H:=H) .i64 a=lits .i64 b->a=b:=by
    intro a;induction a with
    |nil=>intro b h;cases b with|nil=>rfl|cons y b=>simp[lits] at h
    |cons x a ih=>
     intro b h;cases b with
     |nil=>simp[lits] at h;|cons y b=>
      simp[lits] at h ih;rw[h.1,ih h.2]
   exact(hinj hat).symm
end Go.Vi
