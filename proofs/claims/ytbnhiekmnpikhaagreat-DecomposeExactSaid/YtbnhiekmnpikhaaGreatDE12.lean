import Derived.Test.YtbnhiekmnpikhaaGreatDE11
set_option maxRecDepth 100000
set_option maxHeartbeats 4000000
set_option linter.all false
open Bool renaming eq_false_iff->δN,false_ne_true->ζk,and_eq_true->θ,not_eq_true'->δh
open Classical renaming not_not->γe
open Go.Vi.SV renaming si->γj,il->γC,row->γa,agg->γN,sb->γB,bl->δj,ptr->γV,ow->γ1,ia->θj
open Int renaming toNat_natCast->γk,toNat_of_nonneg->εC
open IntCast renaming intCast->κ
open List renaming take->Δ,mem_of_mem_take->γn,take_length->φ,length->γd,all_eq_true->ψ,all_append->ζR,map_cons->ξ,map_nil->γw,map->γc,length_take->γz,length_map->Ξ,append_nil->γ0,map_append->γb,mem_map->Γ,replicate->δ,length_set->Ω,length_filter_le->δf,mem_filter->Ψ,mem_cons_of_mem->γp,mem_cons_self->γv,nodup_append->γx,pairwise_append->δI,pairwise_singleton->ζH,mem_append->γi,length_drop->εw,pairwise_cons->γr,append_assoc->γG,cons_append->γM,filter_eq_nil_iff->δS,filter_eq_self->δ8,mem_singleton->δd
open List.Pairwise renaming nil->δv
open List.Perm renaming append_left->ζS
open List.cons renaming injEq->Θ
open Nat renaming le_refl->π,pow_le_pow_right->δt
open Option.some renaming injEq->γ
namespace Go.Vi
open Go.Proofs.YtbnhiekmnpikhaaGreat.Ir
open Go.Proofs
def BZ:NG:=⟨38,cj×List Int,.cons cX (.one (cQ (.i .i64))),λa=>nW a.1=0/\a.2.length<=9223372036854775807,λa=> .si .i64 (cC a.1 a.2)⟩
def Tp (p:cj) (c:List Int):Nat->bK
 |6=> .inv Int (λi=>⟨[(7,.si .i64 (bG ((cM p c).take i.toNat))),(23,.row .bt (cM p c)),(24,.si .i64 (cM p c).length),(25,.si .i64 i)],[.cells p.ss 27 20 false]⟩)
   (λs=>iS s 25) (λi=>0<=i/\i<=(cM p c).length) (λi=>((cM p c).length - i).toNat) λ_ _=> .bz
 |_=> .bz
theorem yN:Holds Tryz.prog BZ:=by
 refine bO (L:=[AP,mW]) BZ (λa=>Tp a.1 a.2) (by grind[yY,om]) ?_;rintro⟨p,c⟩ ⟨f,A⟩;simp only at f A;refine NI (let a:=γj .i64;let f:=(0:Int);let k:=γC .i64 0;let m:=a (cC p c);let z:=decide (nW p≠f);let j:=γa ew.bt (cM p c);let B:=(↑(cM p c).length:Int);let d:=(↑(cM p c).length:Int);let r:=a d;let g:=iZ.cells (cj.ss p) 27 20 false;(c.length<=9223372036854775807/\p.bi.length<=1000)/\((!ajc p c)=true->k.as m)/\((!ajc p c)=false->True/\(z=true->k.as m)/\(z=false->(((k.as (a (bG []))/\j.as j/\(a B).as r/\k.as (a 0)/\True)/\g.as g/\True)/\f<=f/\f<=d)/\∀(x:Int),let w:=bG (Δ x.toNat (cM p c));let y:=w+(bN (cM p c) x.toNat ew.bt.bu).value;let b:=x+(1:Int);let e:=a b;f<=x/\x<=d->(decide (x<d)=true->f<=x/\x<B/\x.toNat<(cM p c).length/\VL .i64 y/\VL .i64 b/\(((a y).as (a (bG (Δ b.toNat (cM p c))))/\j.as j/\r.as r/\e.as e/\True)/\g.as g/\True)/\(f<=b/\b<=d)/\(d - b).toNat<(d - x).toNat)/\(decide (x<d)=false->(a w).as m)))) (by kernel_rfl) ?_;simp only[vcs];have t:=cN f;obtain⟨G,v⟩:=NO (c:=c) f;have u:=t.2.1;have q:fY p c=false->0=cC p c:=λh=>by
  unfold cC;rw[if_pos f];unfold cM;unfold fY at h;rw[Option.isSome_eq_false_iff,Option.isNone_iff_eq_none] at h;rw[h];rfl
 refine⟨⟨A,by omega⟩,q,λ_=>⟨λh=>absurd f h,λ_=>⟨⟨by simp[bG],by omega,by omega⟩,?_⟩⟩⟩;rintro i ⟨n,D⟩;refine⟨λo=>?_,λE=>?_⟩
 ·have H:=NP n o;have F:=oA t (l:=(cM p c).take i.toNat) λx s=>v x (γn s);have C:=oA t (l:=(cM p c).take (i+1).toNat) λx s=>v x (γn s);grind
 ·rw[show i.toNat=(cM p c).length from by omega,φ];grind[cC]
def D1:NG:=⟨143,Int×Int,.cons (dZ .i64) (.one (dZ .i64)),λa=>(-9223372036854775808<=a.1/\a.1<=9223372036854775807)/\0<a.2/\a.2<=9223372036854775807,λa=> .Gz [nI (eT (decide (a.1<0)) (a.1.natAbs:Int) a.2),.si .i64 0]⟩
theorem HZ:Holds Tryz.prog D1:=by
 refine bO (L:=[z_,wX]) D1 lk (by grind[y3,uc]) ?_;rintro⟨n,d⟩ ⟨⟨u,w⟩,q,r⟩;simp only at u w q r;refine NI (let e:=(-9223372036854775808:Int);let h:=(9223372036854775807:Int);let k:=(0:Int);let l:=γa;let g:=bV (↑n.natAbs:Int);let b:=bV (↑d.natAbs:Int);let f:=nf (eT (!decide (n<k)==decide (d<k)) (bX g) (bX b));let a:=ew.i .u32;let j:=[γj .i64 0];let c:=nf (eT (decide (n<k)) (↑n.natAbs:Int) d);(e<=n/\n<=h)/\(e<=d/\d<=h)/\((ou g/\ou b)/\(g.length<=1000000000/\b.length<=1000000000)/\k<bX b)/\(SV.Gz (γN [γB f.1,l a f.2.1,l a f.2.2]::j)).as (SV.Gz (γN [γB c.1,l a c.2.1,l a c.2.2]::j))) (by kernel_rfl) ?_;simp only[vcs];obtain⟨v,s,t⟩:=fo (show(0:Int)<=(n.natAbs:Int) by omega);obtain⟨o,l,h⟩:=fo (show(0:Int)<=(d.natAbs:Int) by omega);have x:=lD (k:=2) (show(0:Int)<=(n.natAbs:Int) by omega) (by omega);have p:=lD (k:=2) (show(0:Int)<=(d.natAbs:Int) by omega) (by omega);have e:(d.natAbs:Int)=d:=by omega
 have m:(!(decide (n<0)==decide (d<0)))=decide (n<0):=by
  grind
 rw[m,v,o,e];rw[e] at l h p;repeat' refine And.intro ?_ ?_
 all_goals first|omega|exact s|exact l|exact t|exact h|rfl
def mX (x:List NH):Prop:=∃l,x=fL l/\x.length<=1000000/\∀q∈l,Sz 1000 q
theorem To (q:Rat):q.den=1↔(nf q).2.2=[1]:=by
 have c:bV 1=[1]:=by decide
 constructor
 ·intro h;show bV (q.den:Int)=[1];simp_all
 ·intro h;have a:=(fo (show(0:Int)<=(q.den:Int) by omega)).1;have b:bV (q.den:Int)=[1]:=h;grind[bX]
theorem BY (q:Rat):okF (nf q)=true:=decide_eq_true (by rw[dL])
def D0:NG:=⟨103,List NH,.one (cQ sF),mX,λx=> .sb (lB (vL x))⟩
def Tn (x:List NH):Nat->bK
 |2=> .inv Int (λi=>⟨[(5,.row sF x),(6,.si .i64 x.length),(7,.si .i64 i)],[]⟩)
   (λs=>iS s 7) (λi=>(0<=i/\i<=x.length)/\lB ((vL x).take i.toNat)=true) (λi=>(x.length - i).toNat) λ_ _=> .bz
 |_=> .bz
theorem H3:Holds Tryz.prog D0:=by
 refine bO (L:=[sg]) D0 Tn (by grind[nE]) ?_;rintro(x:List NH) ⟨l,v,G,H⟩;refine NI (let c:=(0:Int);let d:=γj .i64;let f:=δj false;let h:=γa;let i:=(1:Int);let b:=(↑x.length:Int);let w:=d b;((((h sF x).as (h sF x)/\(d (↑x.length:Int)).as w/\(γC .i64 0).as (d 0)/\True)/\True)/\(c<=c/\c<=b)/\lB []=true)/\∀(a:Int),let p:=bN x a.toNat sF.bu;let e:=p.2.2;let C:=(↑(γd e):Int);let r:=γB (lB (vL x));let g:=a+i;let o:=d g;let A:=λ(u:Bool) ↦decide (bN e 0 c≠i)=u;let D:=λ(u:Bool) ↦decide (C≠i)=u;let E:=λ(u:Bool) ↦(!okF (p.1,p.2.1,e))=u;(c<=a/\a<=b)/\lB (Δ a.toNat (vL x))=true->(decide (a<b)=true->c<=a/\a<(↑x.length:Int)/\a.toNat<x.length/\((ou p.2.1/\ou e)/\γd p.2.1<=10000000/\γd e<=10000000)/\(E true->(f).as r)/\(E false->(D true->(f).as r)/\(D false->c<=c/\c<C/\0<γd e/\(A true->(f).as r)/\(A false->VL .i64 g/\(((h sF x).as (h sF x)/\w.as w/\o.as o/\True)/\True)/\((c<=g/\g<=b)/\lB (Δ g.toNat (vL x))=true)/\(b - g).toNat<(b - a).toNat))))/\(decide (a<b)=false->(δj true).as r)) (by kernel_rfl) ?_;simp only[vcs];subst v;rw[eA] at G ⊢;rw[jQ];have s:∀k:Nat,((k:Nat):Int).toNat=k:=λk=>γk k;refine⟨⟨⟨by omega,by omega⟩,rfl⟩,?_⟩;rintro i ⟨⟨z,T⟩,c⟩;refine⟨λy=>?_,λy=>?_⟩
 ·have J:bN (fL l) i.toNat sF.bu=nf (bN l i.toNat 0):=iE (by omega);have B:=cB (d:=0) (show i.toNat<l.length by omega);have N:=H _ B;have K:=jj (d:=0) z y;rw[J];generalize bN l i.toNat 0=q at*;obtain⟨_,⟨I,U,V⟩,⟨M,P,W⟩⟩:=kP q;obtain⟨R,S⟩:=m_ N;have m:=To q;have j:q.den≠1->false=lB l:=λQ=>by
   refine(δN.2 λf=>?_).symm;have:=ψ.1 f _ B;simp_all
  have t:=BY q;refine⟨z,y,by omega,⟨⟨I,M⟩,by omega,by omega⟩,λh=>absurd t (by simp_all),λ_=>⟨λh=>j λf=>h ?_,λh=>⟨by omega,by omega,by omega,λf=>j λO=>f ?_,λf=>⟨by omega,⟨by omega,?_⟩,by omega⟩⟩⟩⟩;·simp_all
  ·rw[(m.1 O)];rfl
  ·rw[K];unfold lB at c ⊢;rw[ζR,c];have:q.den=1:=m.2 (by
    have n:(nf q).2.2.length=1:=by omega
    have F:bN (nf q).2.2 0 0=1:=γe.1 f;match v:(nf q).2.2,n with
    |[x],_=>
     rw[v] at F;have:x=1:=F;rw[this]);simp[this]
 grind
def DZ (f:FuncId) (j:cj->List Int->Prop) (e:cj->List Int->SV):cW where
 f:=f;α:=cj×Nat×List Int;put a:=[cX.put a.1,.ow 0 a.2.1 1];st a:=[.row (.i .i64) a.2.2 3 true];dec v o:=match v,o with
  |[p,.ow 0 n 1],[.row s l 3 true]=>match cX.dec p,gG s (.i .i64) l with
   |some p,some l=>some (p,n,l)
   |_,_=>none
  |_,_=>none;ok v o a h:=by
  split at h
  ·split at h
   ·rename_i c d;simp only[γ] at h;subst h;obtain⟨rfl,k⟩:=lq d;cases k;exact⟨by simp only[gL,cX.ok _ _ c],rfl⟩
   ·cases h
  ·cases h
 inj a b c d:=by
  obtain⟨p,n,l⟩:=a;obtain⟨m,q,r⟩:=b;simp only[gL,Θ,and_true,SV.g,AV.os.injEq,true_and] at c;simp only[gO,ξ,γw,iZ.g,Θ,OL.cells.injEq,and_true] at d;rw[cX.inj p m c.1,mZ (s:=.i .i64) d,c.2.1]
 dom a:=a.2.1=a.2.2.length/\j a.1 a.2.2;res a:=e a.1 a.2.2;out a:=[.row (.i .i64) a.2.2 3 true]
theorem wM {L:List NG} {W:List cW} (c:cW) (Λ:c.α->Nat->bK) (i:∀c∈W,dD Tryz.prog c) (e:∀c∈L,Holds Tryz.prog c)
  
  (h:∀a,c.dom a->Vc (B2 (kx L (fT W) ml mq fQ) (Λ a) (fG c.f) (c.put a) (c.st a) λv s=>v.as (c.res a)/\jX s (c.out a))) (j:(fQ c.f).isSome=true:=by kernel_rfl) (b:∀a,(c.put a).length=(fG c.f).params:=by intro _;kernel_rfl) (d:mA c.f W=none:=by kernel_rfl):dD Tryz.prog c:=
 λa g=>SP c pT i e (xn j) b a d (h a g).out
noncomputable def DY:cW:=DZ 135 (λp f=>nW p=0/\f.length=p.bi.length) λp f=>nI (κ (fN p f))
def Tm (p:cj) (f:List Int):Nat->bK
 |3=> .inv Int (λi=>⟨[(2,.ptr 1 0 20),(4,.ptr 2 0 3),(5,.si .i64 (fN p (f.take i.toNat))),(8,.ow 0 f.length 1),(9,.si .i64 f.length),(10,.si .i64 i)],[.row (.i .i64) f 3 true,.cells p.ss 27 20 false,.cells [.bl false,.sc (.slice none 0 0),.sc (.slice none 0 0)] 177 3 false]⟩)
   (λs=>iS s 10) (λi=>0<=i/\i<=f.length) (λi=>(f.length - i).toNat) λ_ _=> .bz
 |_=> .bz
theorem y4:dD Tryz.prog DY:=by
 refine wM (L:=[mn]) (W:=[]) DY (λa=>Tm a.1 a.2.2) (by simp) (by simpa using nH) ?_;rintro⟨p,n,f⟩ ⟨hn,⟨hc,hl⟩⟩;simp only at hn;subst hn;simp only at hc hl;refine NI (let a:=γj .i64;let b:=(0:Int);let c:=γa;let j:=γV 1 0 20;let k:=γV 2 0 3;let t:=γC .i64 0;let l:=γ1 0 f.length 1;let d:=(↑f.length:Int);let m:=a d;let e:=iZ.row (ew.i .i64) f 3 true;let n:=iZ.cells (cj.ss p) 27 20 false;let v:=SV.sc (Value.slice none 0 0);let o:=iZ.cells [δj false,v,v] 177 3 false;let q:=ew.i .u32;let r:=nf (κ (fN p f));(((j.as j/\k.as k/\t.as (a (fN p []))/\l.as l/\m.as m/\t.as (a 0)/\True)/\e.as e/\n.as n/\o.as o/\True)/\b<=b/\b<=d)/\∀(x:Int),let g:=x+(1:Int);let w:=a g;let y:=decide (bN f x.toNat b=(1:Int));let h:=fN p (Δ x.toNat f);let z:=h+(bN p.bi x.toNat ew.bt.bu).value;let s:=nf (κ h);let A:=λ(u:Int) ↦VL .i64 g/\((j.as j/\k.as k/\(a u).as (a (fN p (Δ g.toNat f)))/\l.as l/\m.as m/\w.as w/\True)/\e.as e/\n.as n/\o.as o/\True)/\(b<=g/\g<=d)/\(d - g).toNat<(d - x).toNat;b<=x/\x<=d->(decide (x<d)=true->f.length=f.length/\b<=x/\x<(↑f.length:Int)/\f.length=f.length/\x.toNat<f.length/\(y=true->b<=x/\x<(↑p.bi.length:Int)/\x.toNat<p.bi.length/\VL .i64 z/\A z)/\(y=false->A h))/\(decide (x<d)=false->((-9223372036854775808:Int)<=h/\h<=(9223372036854775807:Int))/\(γN [γB s.1,c q s.2.1,c q s.2.2]).as (γN [γB r.1,c q r.2.1,c q r.2.2])/\e.as e/\True)) (by kernel_rfl) ?_;simp only[vcs];have h160:=(cN hc).2.1;refine⟨⟨by simp[fN,zi,cA,bG],by omega,by omega⟩,?_⟩;rintro i ⟨i0,i1⟩;have hb:=@wQ p hc f i.toNat hl;refine⟨λhi=>?_,λhi=>?_⟩
 ·have hs:=@Kr p f i i0 hi;have ho:=jt hc (i:=i) ⟨i0,by omega⟩;have hv:(bN p.bi i.toNat ew.bt.bu).value=(oI p i).value:=rfl;rw[hv];refine⟨i0,hi,by omega,λh1=>?_,λh1=>?_⟩
  ·rw[if_pos h1] at hs;refine⟨i0,?_,?_,?_,?_,?_,?_,?_⟩<;>omega
  ·rw[if_neg h1] at hs;refine⟨?_,?_,?_,?_⟩<;>omega
 ·rw[show f.take i.toNat=f by rw[show i.toNat=f.length by omega,φ]] at hb ⊢;exact⟨by omega,rfl⟩
noncomputable def DX:cW:=DZ 132 (λp f=>(nW p=0/\f.length=p.bi.length)/\iP f=true) λp f=> .Gz [.agg [.row sF (lC p f).1,.row sR (lC p f).2.1],.row (.i .i64) (lC p f).2.2,.si .i64 (if f_ p f=true then 0 else 14)]
def KH (p:cj) (f:List Int) (l:List Int) (m:List bD):TP:=[.row (.i .i64) f 3 true,.cells p.ss 27 20 false,.cells [.sc (.slice none 0 0),.sc (.slice none 0 0)] 217 2 false,.row (.i .i64) l 3 true,.row .bt m 65 true]
def BX (p:cj) (f:List Int) (l:List Int) (m:List bD) (k0 k1:Nat) (rs:List (List NH×NH)) (g:List NH):TP:=KH p f l m++[.cells p.ss 87 20 false,.cells [.ow 8 k0 3,.ow 7 k1 4] 217 2 false,.row sR rs 249 false,.row sF g 177 false]
def Tl (p:cj) (f:List Int):Nat->bK
 |9=> .inv Int (λi=>⟨[(2,.ptr 1 0 20),(4,.ptr 2 0 2),(8,.ow 3 (zi (f.take i.toNat) 0).length 1),(9,.ow 4 (zi (f.take i.toNat) 1).length 8),(36,.ow 0 f.length 1),(37,.si .i64 f.length),(38,.si .i64 i)],KH p f (zi (f.take i.toNat) 0) ((zi (f.take i.toNat) 1).map (oI p))⟩)
   (λs=>iS s 38) (λi=>0<=i/\i<=f.length) (λi=>(f.length - i).toNat) λ_ _=> .bz
 |24=> .inv Int (λj=>⟨[(2,.ptr 1 0 20),(4,.ptr 2 0 2),(8,.ow 3 (zi f 0).length 1),(9,.ow 4 (zi f 1).length 8),(12,.ptr 5 0 20),(13,.ptr 6 0 2),(71,.ow 3 (zi f 0).length 1),(72,.si .i64 (zi f 0).length),(73,.si .i64 j)],BX p f (zi f 0) ((zi f 1).map (oI p)) j.toNat 0 [] (kO p f j.toNat)⟩)
   (λs=>iS s 73) (λj=>0<=j/\j<=(zi f 0).length) (λj=>((zi f 0).length - j).toNat) λ_ _=> .bz
 |29=> .inv Int (λr=>⟨[(2,.ptr 1 0 20),(4,.ptr 2 0 2),(8,.ow 3 (zi f 0).length 1),(9,.ow 4 (zi f 1).length 8),(12,.ptr 5 0 20),(13,.ptr 6 0 2),(91,.si .i64 (cr p)),(92,.si .i64 r)],BX p f (zi f 0) ((zi f 1).map (oI p)) (zi f 0).length r.toNat (l9 p f r.toNat) (kO p f (zi f 0).length)⟩)
   (λs=>iS s 92) (λr=>0<=r/\r<=cr p) (λr=>(cr p - r).toNat) λr k=>match k with
   |33=> .inv Int (λj=>⟨[(2,.ptr 1 0 20),(4,.ptr 2 0 2),(8,.ow 3 (zi f 0).length 1),(9,.ow 4 (zi f 1).length 8),(12,.ptr 5 0 20),(13,.ptr 6 0 2),(16,.si .i64 r),(17,.si .i64 (cD p r - b_ p (((zi f 1).map (oI p)).take j.toNat) r)),(91,.si .i64 (cr p)),(92,.si .i64 r),(98,.ow 4 (zi f 1).length 8),(99,.si .i64 (zi f 1).length),(100,.si .i64 j)],BX p f (zi f 0) ((zi f 1).map (oI p)) (zi f 0).length r.toNat (l9 p f r.toNat) (kO p f (zi f 0).length)⟩)
     (λs=>iS s 100) (λj=>0<=j/\j<=(zi f 1).length) (λj=>((zi f 1).length - j).toNat) λ_ _=> .bz
   |39=> .inv Int (λj=>⟨[(2,.ptr 1 0 20),(4,.ptr 2 0 2),(8,.ow 3 (zi f 0).length 1),(9,.ow 4 (zi f 1).length 8),(12,.ptr 5 0 20),(13,.ptr 6 0 2),(16,.si .i64 r),(20,.ptr 9 0 4),(91,.si .i64 (cr p)),(92,.si .i64 r),(114,.ow 3 (zi f 0).length 1),(115,.si .i64 (zi f 0).length),(116,.si .i64 j)],BX p f (zi f 0) ((zi f 1).map (oI p)) (zi f 0).length r.toNat (l9 p f r.toNat) (kO p f (zi f 0).length)++[.cells [.ow 10 j.toNat 3,.sb (nf ((cD p r - b_ p ((zi f 1).map (oI p)) r:Int):Rat)).1,.row (.i .u32) (nf ((cD p r - b_ p ((zi f 1).map (oI p)) r:Int):Rat)).2.1,.row (.i .u32) (nf ((cD p r - b_ p ((zi f 1).map (oI p)) r:Int):Rat)).2.2] 249 4 false,.row sF (l_ p f r j.toNat) 177 false]⟩)
     (λs=>iS s 116) (λj=>0<=j/\j<=(zi f 0).length) (λj=>((zi f 0).length - j).toNat) λ_ _=> .bz
   |_=> .bz
 |_=> .bz
theorem y6:dD Tryz.prog DX:=by
 refine wM (L:=[mW,mn,AW,uW,uY,uX]) (W:=[]) DX (λa=>Tl a.1 a.2.2) (by simp) (by simpa using⟨om,nH,yX,qS,qR,qQ⟩) ?_;rintro⟨p,n,f⟩ ⟨hn,⟨⟨hc,hl⟩,hr⟩⟩;simp only at hn;subst hn;simp only at hc hl hr;refine NI (let a:=γj .i64;let c:=(0:Int);let d:=iZ.row;let e:=iZ.cells;let g:=γ1;let h:=(-9223372036854775808:Int);let j:=γa;let k:=(1:Int);let l:=(9223372036854775807:Int);let m:=VL .i64;let n:=γC .i64;let o:=γV;let q:=γN;let r:=SV.Gz;let R:=SV.sc (Value.slice none 0 0);let L:=ew.i .i64;let ah:=r [q [j sF (lC p f).1,j sR (lC p f).2.1],j L (lC p f).2.2,a (if f_ p f=true then c else(14:Int))];let s:=d L f 3 true;let I:=(↑f.length:Int);let ai:=p.bi.length;let ae:=(↑ai:Int);let t:=o 1 0 20;let v:=o 2 0 2;let Z:=g 0 f.length 1;let a6:=a I;let a7:=n 0;let aM:=[a p.bk.a0,a p.bk.a1,a p.bk.a2,a p.bk.a3,a p.bk.a4,a p.bk.a5,a p.bq.a0,a p.bq.a1,a p.bq.a2,a p.bq.a3,a p.bq.a4,a p.bq.a5,a p.bs.a0,a p.bs.a1,a p.bs.a2,a p.bs.a3,a p.bs.a4,a p.bs.a5,j L p.bj,j ew.bt p.bi];let w:=e aM 27 20 false;let y:=e [R,R] 217 2 false;let aN:=d ew.bt [] 65 true;let aj:=ew.bt.bu;let ay:=(↑p.bj.length:Int);let a8:=ew.i .u32;let a9:=ew.b.pair (a8.Ap.pair a8.Ap);let az:=a9.Ap.pair a9;let H:=zi f c;let N:=H.length;let z:=g 3 N 1;let z25:Nat:=(zi f k).length;let A:=g 4 z25 8;let B:=o 5 0 20;let C:=o 6 0 2;let E:=(↑N:Int);let V:=a E;let F:=d L H 3 true;let P:=γc (oI p) (zi f k);let G:=d ew.bt P 65 true;let D:=e aM 87 20 false;let af:=[g 7 0 4];let aO:=e (g 8 0 3::af) 217 2 false;let ak:=d sR [] 249 false;let aP:=d a9 [] 177 false;let J:=a (cr p);let al:=g 8 N 3;let aA:=kO p f N;let M:=d sF aA 177 false;let S:=(↑z25:Int);let am:=a S;let an:=o 9 0 4;let aQ:=g 10 0 3;let aR:=λ(u u_1:Int) (u_2:SV) ↦decide (u≠u_1)=true->(r [q [R,R],R,u_2]).as ah/\s.as s/\True;True/\aR (nW p) c (a (nW p))/\(decide (nW p≠c)=false->aR I ae (n 3)/\(decide (I≠ae)=false->(((t.as t/\v.as v/\(g 3 0 1).as (g 3 (zi [] c).length 1)/\(g 4 0 8).as (g 4 (zi [] k).length 8)/\Z.as Z/\a6.as a6/\a7.as (a 0)/\True)/\s.as s/\w.as w/\y.as y/\(d L [] 3 true).as (d L (zi [] c) 3 true)/\aN.as aN/\True)/\c<=c/\c<=I)/\∀(x:Int),let ao:=zi (Δ x.toNat f) k;let aS:=g 4 ao.length 8;let O:=x+k;let ap:=Δ O.toNat f;let aT:=g 4 (zi ap k).length 8;let aq:=a O;let aU:=g 3 (zi ap c).length 1;let aV:=d L (zi ap c) 3 true;let Q:=γc (oI p) ao;let aW:=d ew.bt Q 65 true;let aX:=d ew.bt (γc (oI p) (zi ap k)) 65 true;let aB:=bN f x.toNat c;let aY:=decide (aB=(-1:Int));let aa:=zi (Δ x.toNat f) c;let ar:=aa.length;let aC:=d L aa 3 true;let aZ:=decide (aB=c);let b0:=aa.length+1;let b1:=decide (aB=k);let b2:=Q.length+1;let aD:=g 3 ar 1;let b3:=Q++[bN p.bi x.toNat aj];let bh:=aS.as aT/\Z.as Z/\a6.as a6/\aq.as aq/\True;let b4:=λ(u:Nat) (u_1:iZ) ↦m O/\((t.as t/\v.as v/\(g 3 u 1).as aU/\bh)/\s.as s/\w.as w/\y.as y/\u_1.as aV/\aW.as aX/\True)/\(c<=O/\O<=I)/\(I - O).toNat<(I - x).toNat;c<=x/\x<=I->(decide (x<I)=true->f.length=f.length/\c<=x/\x<(↑f.length:Int)/\f.length=f.length/\x.toNat<f.length/\(aY=true->b4 ar aC)/\(aY=false->(aZ=true->ar=aa.length/\b0*8<=140737488355328/\b0<=1000000000000/\b4 (aa++[x]).length (d L (aa++[x]) 3 true))/\(aZ=false->(b1=true->c<=x/\x<ae/\x.toNat<ai/\ao.length=Q.length/\b2*64<=140737488355328/\b2<=1000000000000/\m O/\((t.as t/\v.as v/\aD.as aU/\(g 4 b3.length 8).as aT/\Z.as Z/\a6.as a6/\aq.as aq/\True)/\s.as s/\w.as w/\y.as y/\aC.as aV/\(d ew.bt b3 65 true).as aX/\True)/\(c<=O/\O<=I)/\(I - O).toNat<(I - x).toNat)/\(b1=false->(r [q [R,R],R,n 4]).as ah/\s.as s/\True))))/\(decide (x<I)=false->ao.length=Q.length/\(p.bj.length<=8/\Q.length<=1000/\∀(x:bD),x∈Q->c<=x.TM/\x.TM<ay/\x.bw.ok=true)/\((!ajl p Q)=true->0=0/\0=0/\0=0/\(r [q [j a9 [],j az []],j L [],n 14]).as ah/\s.as s/\True)/\((!ajl p Q)=false->(((t.as t/\v.as v/\aD.as z/\aS.as A/\B.as B/\C.as C/\aD.as z/\(a (↑ar:Int)).as V/\a7.as (a 0)/\True)/\s.as s/\w.as w/\y.as y/\aC.as F/\aW.as G/\D.as D/\aO.as aO/\(d az [] 249 false).as ak/\aP.as (d sF (kO p f 0) 177 false)/\True)/\c<=c/\c<=E)/\∀(x:Int),let au:=bN H x.toNat c;let aE:=(bN p.bi au.toNat aj).value;let av:=kO p f x.toNat;let b5:=av.length+1;let W:=x+k;let b6:=a W;let aF:=nf (κ aE);let b7:=av++[(aF.1,aF.2.1,aF.2.2)];c<=x/\x<=E->(decide (x<E)=true->N=H.length/\c<=x/\x<(↑H.length:Int)/\N=H.length/\x.toNat<H.length/\c<=au/\au<ae/\au.toNat<ai/\(h<=aE/\aE<=l)/\1=1/\x.toNat=av.length/\b5*56<=140737488355328/\b5<=1000000000000/\m W/\((t.as t/\v.as v/\z.as z/\A.as A/\B.as B/\C.as C/\z.as z/\V.as V/\b6.as b6/\True)/\s.as s/\w.as w/\y.as y/\F.as F/\G.as G/\D.as D/\(e (g 8 b7.length 3::af) 217 2 false).as (e (g 8 W.toNat 3::af) 217 2 false)/\ak.as ak/\(d a9 b7 177 false).as (d sF (kO p f W.toNat) 177 false)/\True)/\(c<=W/\W<=E)/\(E - W).toNat<(E - x).toNat)/\(decide (x<E)=false->p.bj.length<=8/\(((t.as t/\v.as v/\z.as z/\A.as A/\B.as B/\C.as C/\J.as J/\a7.as (a 0)/\True)/\s.as s/\w.as w/\y.as y/\F.as F/\G.as G/\D.as D/\(e (g 8 x.toNat 3::af) 217 2 false).as (e (al::af) 217 2 false)/\ak.as (d sR (l9 p f 0) 249 false)/\(d sF av 177 false).as M/\True)/\c<=c/\c<=cr p)/\∀(x:Int),let b8:=decide (x<cr p);let T:=e [al,g 7 x.toNat 4] 217 2 false;let ab:=l9 p f x.toNat;let U:=d sR ab 249 false;let ac:=nf (κ (cD p x - b_ p P x));let aG:=[γB ac.1,j a8 ac.2.1,j a8 ac.2.2];let b9:=ab.length+1;let X:=x+k;let ba:=a X;c<=x/\x<=cr p->(b8=true->(p.bj.length<=8/\c<=x/\x<cr p)/\(((t.as t/\v.as v/\z.as z/\A.as A/\B.as B/\C.as C/\(a x).as (a x)/\(a (cD p x)).as (a (cD p x - b_ p [] x))/\J.as J/\(a x).as (a x)/\A.as A/\am.as am/\a7.as (a 0)/\True)/\s.as s/\w.as w/\y.as y/\F.as F/\G.as G/\D.as D/\T.as T/\U.as U/\M.as M/\True)/\c<=c/\c<=S)/\∀(x_1:Int),let aH:=bN P x_1.toNat aj;let aw:=cD p x - b_ p (Δ x_1.toNat P) x;let bb:=aw - dA p x aH;let ad:=x_1+k;let K:=a x;let bc:=a ad;let aI:=nf (κ aw);c<=x_1/\x_1<=S->(decide (x_1<S)=true->z25=P.length/\c<=x_1/\x_1<(↑P.length:Int)/\z25=P.length/\x_1.toNat<P.length/\(p.bj.length<=8/\c<=x/\x<cr p/\c<=aH.TM/\aH.TM<ay)/\m bb/\m ad/\((t.as t/\v.as v/\z.as z/\A.as A/\B.as B/\C.as C/\K.as K/\(a bb).as (a (cD p x - b_ p (Δ ad.toNat P) x))/\J.as J/\K.as K/\A.as A/\am.as am/\bc.as bc/\True)/\s.as s/\w.as w/\y.as y/\F.as F/\G.as G/\D.as D/\T.as T/\U.as U/\M.as M/\True)/\(c<=ad/\ad<=S)/\(S - ad).toNat<(S - x_1).toNat)/\(decide (x_1<S)=false->(h<=aw/\aw<=l)/\(((t.as t/\v.as v/\z.as z/\A.as A/\B.as B/\C.as C/\K.as K/\an.as an/\J.as J/\K.as K/\z.as z/\V.as V/\a7.as (a 0)/\True)/\s.as s/\w.as w/\y.as y/\F.as F/\G.as G/\D.as D/\T.as T/\U.as U/\M.as M/\(e [aQ,γB aI.1,j a8 aI.2.1,j a8 aI.2.2] 249 4 false).as (e (aQ::aG) 249 4 false)/\aP.as (d sF (l_ p f x 0) 177 false)/\True)/\c<=c/\c<=E)/\∀(x_2:Int),let ax:=bN H x_2.toNat c;let aJ:=bN p.bi ax.toNat aj;let aK:=dA p x aJ;let ag:=l_ p f x x_2.toNat;let bd:=ag.length+1;let Y:=x_2+k;let be:=a Y;let aL:=nf (κ aK);let bf:=ag++[(aL.1,aL.2.1,aL.2.2)];let bg:=ab++[(ag,ac.1,ac.2.1,ac.2.2)];c<=x_2/\x_2<=E->(decide (x_2<E)=true->N=H.length/\c<=x_2/\x_2<(↑H.length:Int)/\N=H.length/\x_2.toNat<H.length/\c<=ax/\ax<ae/\ax.toNat<ai/\(p.bj.length<=8/\c<=x/\x<cr p/\c<=aJ.TM/\aJ.TM<ay)/\(h<=aK/\aK<=l)/\1=1/\x_2.toNat=ag.length/\bd*56<=140737488355328/\bd<=1000000000000/\m Y/\((t.as t/\v.as v/\z.as z/\A.as A/\B.as B/\C.as C/\K.as K/\an.as an/\J.as J/\K.as K/\z.as z/\V.as V/\be.as be/\True)/\s.as s/\w.as w/\y.as y/\F.as F/\G.as G/\D.as D/\T.as T/\U.as U/\M.as M/\(e (g 10 bf.length 3::aG) 249 4 false).as (e (g 10 Y.toNat 3::aG) 249 4 false)/\(d a9 bf 177 false).as (d sF (l_ p f x Y.toNat) 177 false)/\True)/\(c<=Y/\Y<=E)/\(E - Y).toNat<(E - x_2).toNat)/\(decide (x_2<E)=false->x_2.toNat=ag.length/\1=1/\x.toNat=ab.length/\b9*80<=140737488355328/\b9<=1000000000000/\m X/\((t.as t/\v.as v/\z.as z/\A.as A/\B.as B/\C.as C/\J.as J/\ba.as ba/\True)/\s.as s/\w.as w/\y.as y/\F.as F/\G.as G/\D.as D/\(e [al,g 7 bg.length 4] 217 2 false).as (e [al,g 7 X.toNat 4] 217 2 false)/\(d az bg 249 false).as (d sR (l9 p f X.toNat) 249 false)/\M.as M/\True)/\(c<=X/\X<=cr p)/\(cr p - X).toNat<(cr p - x).toNat)))/\(b8=false->N=aA.length/\x.toNat=ab.length/\N=H.length/\(r [q [j sF aA,j sR ab],j L H,a7]).as ah/\s.as s/\True))))))) (by kernel_rfl) ?_;simp only[vcs];obtain⟨g1,g2,g3,g4,g5⟩:=cN hc;have hoi:∀k:Nat,∀o:Int,o=k->(bN p.bi k ew.bt.bu)=oI p o:=λk o h=>by subst h;rfl
 have hw2:∀{a b:Nat},a=b->(γ1 3 a 1).as (γ1 3 b 1):=by rintro _ _ rfl;rfl
 have hw3:∀{a b:Nat},a=b->(γ1 4 a 8).as (γ1 4 b 8):=by rintro _ _ rfl;rfl
 have hrI:∀{x y:List Int},x=y->(iZ.row (.i .i64) x 3 true).as (iZ.row (.i .i64) y 3 true):=by rintro _ _ rfl;rfl
 have hrO:∀{x y:List bD},x=y->(iZ.row .bt x 65 true).as (iZ.row .bt y 65 true):=by rintro _ _ rfl;rfl
 refine⟨λh=>absurd hc h,λ_=>⟨λh=>absurd (by rw[hl]) h,λ_=>⟨⟨⟨⟨hw2 rfl,hw3 rfl⟩,hrI rfl⟩,by omega,by omega⟩,?_⟩⟩⟩;rintro i ⟨i0,i1⟩;have htl:(f.take i.toNat).length<=160:=by rw[γz];omega
 have hd0:=@rh (f.take i.toNat) 0;have hd1:=@rh (f.take i.toNat) 1;have hm1:(γc (oI p) (zi (f.take i.toNat) 1)).length=(zi (f.take i.toNat) 1).length:=Ξ _;refine⟨λhi=>?_,λhi=>?_⟩
 ·have hs0:=@wR f 0 i i0 hi;have hs1:=@wR f 1 i i0 hi;have aZb: -1<=bN f i.toNat 0/\bN f i.toNat 0<=1:=by
   have:=ψ.1 hr _ (cB (d:=0) (show i.toNat<f.length by omega));simpa using this
  refine⟨i0,hi,by omega,λh1=>?_,λh1=>⟨λh2=>?_,λh2=>⟨λh3=>?_,λh3=>by omega⟩⟩⟩
  ·rw[if_neg (by omega),γ0] at hs0 hs1;rw[hs0,hs1];refine⟨?_,⟨⟨hw2 rfl,hw3 rfl⟩,hrI rfl,hrO rfl⟩,?_,?_⟩<;>omega
  ·rw[if_pos (by omega)] at hs0;rw[if_neg (by omega),γ0] at hs1;rw[hs0,hs1];refine⟨?_,?_,?_,⟨⟨hw2 rfl,hw3 rfl⟩,hrI rfl,hrO rfl⟩,?_,?_⟩<;>omega
  ·rw[if_neg (by omega),γ0] at hs0;rw[if_pos (by omega)] at hs1;rw[hs0,hs1,hoi i.toNat i (by omega),hm1];have e:γc (oI p) (zi (f.take i.toNat) 1)++[oI p i]=γc (oI p) (zi (f.take i.toNat) 1++[i]):=by rw[γb];rfl
   rw[e,Ξ];refine⟨i0,?_,?_,rfl,?_,?_,?_,⟨⟨hw2 rfl,hw3 rfl⟩,hrI rfl,hrO rfl⟩,?_,?_⟩<;>omega
 ·have htk:f.take i.toNat=f:=by rw[show i.toNat=f.length by omega,φ]
  rw[htk] at hd0 hd1 hm1 ⊢;have hdl:∀d,(zi f d).length<=160:=λd=>by have:=@rh f d;omega
  refine⟨hm1.symm,⟨g1,by omega,λx hx=>?_⟩,λhb=>?_,λhb=>?_⟩
  ·obtain⟨k,hk,rfl⟩:=Γ.1 hx;have h1:=(jP.1 hk).1;have:=jt hc (i:=k) (by omega);exact⟨this.1,this.2.1,this.2.2.1⟩
  ·have hb2:f_ p f=false:=hb;unfold lC;simp only[hb2];exact⟨rfl,rfl,rfl⟩
  ·have hb2:f_ p f=true:=hb;have hG:lC p f=((gC (iY p f)).1,((gC (iY p f)).2,zi f 0)):=by unfold lC;rw[if_pos hb2]
   simp only[hb2,if_true,hG];have hfx:dY p f:=⟨hc,hl,hb⟩;have hrS:∀{x y:List NH},x=y->(iZ.row sF x 177 false).as (iZ.row sF y 177 false):=by rintro _ _ rfl;rfl
   have hrR:∀{x y:List (List NH×NH)},x=y->(iZ.row sR x 249 false).as (iZ.row sR y 249 false):=by rintro _ _ rfl;rfl
   have hc5:∀{a b c d:Nat},a=b->c=d->(iZ.cells [.ow 8 a 3,.ow 7 c 4] 217 2 false).as (iZ.cells [.ow 8 b 3,.ow 7 d 4] 217 2 false):=by rintro _ _ _ _ rfl rfl;rfl
   have hc8:∀{a b:Nat} {q q':Rat},a=b->q=q'->(iZ.cells [.ow 10 a 3,.sb (nf q).1,.row (.i .u32) (nf q).2.1,.row (.i .u32) (nf q).2.2] 249 4 false).as (iZ.cells [.ow 10 b 3,.sb (nf q').1,.row (.i .u32) (nf q').2.1,.row (.i .u32) (nf q').2.2] 249 4 false):=by rintro _ _ _ _ rfl rfl;rfl
   have hn0:=hdl 0;have hn1:=hdl 1;have hfree:∀j:Int,0<=j->j<(zi f 0).length->(0<=bN (zi f 0) j.toNat 0/\bN (zi f 0) j.toNat 0<p.bi.length):=λj h0 h1=>by
    have:=(jP.1 (cB (d:=0) (show j.toNat<(zi f 0).length by omega))).1;omega
   refine⟨⟨⟨⟨hw2 rfl,hw3 rfl,hw2 rfl,trivial⟩,hrI rfl,hrO rfl,hrS rfl⟩,by omega,by omega⟩,?_⟩;rintro j ⟨j0,j1⟩;have hgl:=@Dx p f j.toNat (by omega);refine⟨λhj=>?_,λhj=>?_⟩
   ·have hk:=hfree j j0 hj;have ho:=jt hc hk;have hs:=@T1 p f j j0 hj;have aVK:=@Dx p f (j+1).toNat (by omega);rw[hoi _ (bN (zi f 0) j.toNat 0) (by omega)];simp only[iQ];have e:kO p f j.toNat++[nf (κ (oI p (bN (zi f 0) j.toNat 0)).value)]=kO p f (j+1).toNat:=hs.symm;rw[e];refine⟨j0,hj,?_,hk.1,hk.2,?_,?_,?_,?_,?_,?_,⟨hc5 aVK rfl,hrS rfl⟩,?_,?_⟩<;>omega
   ·rw[show j.toNat=(zi f 0).length by omega];have hnr:cr p=p.bj.length+12:=rfl;refine⟨g1,⟨⟨hc5 rfl rfl,hrR rfl,hrS rfl⟩,by omega,by omega⟩,?_⟩;rintro r ⟨r0,r1⟩;have hrl:=@Kn p f r.toNat;refine⟨λhr2=>⟨⟨g1,r0,hr2⟩,⟨by simp[b_],by omega,by omega⟩,?_⟩,λhr2=>?_⟩
    ·rintro k ⟨k0,k1⟩;have hok:∀x∈(γc (oI p) (zi f 1)).take k.toNat,x.bw.ok=true:=λx hx=>(zS hfx x (γn hx)).2.2.1;have hsb:=@qu p r ((γc (oI p) (zi f 1)).take k.toNat) hok;have aVL:((γc (oI p) (zi f 1)).take k.toNat).length<=160:=by rw[γz];omega
     have hbb:=@ye p hc r;refine⟨λhk=>?_,λhk=>?_⟩
     ·have hx:=zS hfx _ (cB (d:=ew.bt.bu) (show k.toNat<(γc (oI p) (zi f 1)).length by omega));have hst:=@Fq p r (γc (oI p) (zi f 1)) k ew.bt.bu k0 (by omega);have hcb:=@nP p r _ hx.2.2.1;refine⟨?_,k0,?_,?_,?_,⟨g1,r0,hr2,hx.1,hx.2.1⟩,?_,?_,?_,?_,?_⟩<;>omega
     ·have e:(γc (oI p) (zi f 1)).take k.toNat=γc (oI p) (zi f 1):=List.take_of_length_le (by omega);rw[e] at hsb aVL ⊢;refine⟨by omega,⟨⟨hc8 rfl rfl,hrS rfl⟩,by omega,by omega⟩,?_⟩;rintro l ⟨l0,l1⟩;have hcl:=@Ko p f r l.toNat (by omega);refine⟨λhl2=>?_,λhl2=>?_⟩
      ·have hk:=hfree l l0 hl2;have ho:=jt hc hk;have hs:=@T0 p f r l l0 hl2;have aVM:=@Ko p f r (l+1).toNat (by omega);have hcb:=@nP p r _ ho.2.2.1;rw[hoi _ (bN (zi f 0) l.toNat 0) (by omega)];simp only[iQ];have e:l_ p f r l.toNat++[nf (κ (dA p r (oI p (bN (zi f 0) l.toNat 0))))]=l_ p f r (l+1).toNat:=hs.symm;rw[e];refine⟨l0,hl2,?_,hk.1,hk.2,?_,⟨g1,r0,hr2,ho.1,ho.2.1⟩,?_,?_,?_,?_,?_,⟨hc8 aVM rfl,hrS rfl⟩,?_,?_⟩<;>omega
      ·rw[show l.toNat=(zi f 0).length by omega] at hcl ⊢;have hs:=@Uw p f r r0;have hrl2:=@Kn p f (r+1).toNat;simp only[iQ];have e:l9 p f r.toNat++[(l_ p f r (zi f 0).length,nf (κ (cD p r - b_ p (γc (oI p) (zi f 1)) r)))]=l9 p f (r+1).toNat:=hs.symm;rw[e];refine⟨hcl.symm,hrl.symm,?_,?_,?_,⟨hc5 rfl hrl2,hrR rfl⟩,?_,?_⟩<;>omega
    ·have e:r.toNat=mF p:=by
      show r.toNat=p.bj.length+12;omega
     rw[e] at hrl ⊢;rw[Kq,Kp];refine⟨?_,hrl.symm.trans (by rw[Kp]),rfl,trivial,trivial⟩;rw[<-Kq];exact(Dx (π _)).symm
noncomputable def DW:cW:=DZ 100 (λp f=>f.length<=1000000000000) λp f=> .Gz [Uq p f,.si .i64 (h_ p f)]
noncomputable def KG (p:cj) (f:List Int) (x:List NH):TP:=
 [.row (.i .i64) f 3 true,.cells p.ss 27 20 false,.cells [.bl false,.bl false,.sc (.slice none 0 0),.sc (.slice none 0 0),.sc (.slice none 0 0),.sc (.slice none 0 0)] 179 6 false,.cells [.row sF (lC p f).1,.row sR (lC p f).2.1] 217 2 false,
  .cells [.si .i64 1,.sb (nf (cG p f).value).1,.row (.i .u32) (nf (cG p f).value).2.1,.row (.i .u32) (nf (cG p f).value).2.2,.row sF (fL (fk (cG p f) (nF f) (mF p))),.row sF (fL (gw p f)),.row sF []] 221 7 false,.row sF x 177 true]
noncomputable def Tk (p:cj) (f:List Int):Nat->bK
 |12=> .inv Int (λi=>⟨[(1,.ow 0 f.length 1),(2,.ptr 1 0 20),(4,.ptr 2 0 6),(8,.row (.i .i64) (zi f 0)),(10,.ptr 4 0 7),(11,.ow 5 f.length 3),(45,.ow 0 f.length 1),(46,.si .i64 f.length),(47,.si .i64 i)],KG p f (dW (fL (jg p f 0)) i.toNat (false,([],[])))⟩)
   (λs=>iS s 47) (λi=>0<=i/\i<=f.length) (λi=>(f.length - i).toNat) λ_ _=> .bz
 |19=> .inv Int (λk=>⟨[(1,.ow 0 f.length 1),(2,.ptr 1 0 20),(4,.ptr 2 0 6),(10,.ptr 4 0 7),(11,.ow 5 f.length 3),(63,.row (.i .i64) (zi f 0)),(64,.si .i64 (zi f 0).length),(65,.si .i64 k)],KG p f (fL (jg p f k.toNat))⟩)
   (λs=>iS s 65) (λk=>0<=k/\k<=(zi f 0).length) (λk=>((zi f 0).length - k).toNat) λ_ _=> .bz
 |_=> .bz
theorem y7:dD Tryz.prog DW:=by
 refine wM (L:=[zK,Dy,mn,sH]) (W:=[DX,DY]) DW (λa=>Tk a.1 a.2.2) (by simpa using⟨y6,y4⟩) (by simpa using⟨yQ,Is,nH,pc⟩) ?_;rintro⟨p,n,f⟩ ⟨hn,hl:f.length<=1000000000000⟩;simp only at hn;subst hn;refine NI (let c:=γj .i64;let d:=(0:Int);let e:=γa;let g:=iZ.row;let h:=(-9223372036854775808:Int);let j:=(9223372036854775807:Int);let k:=iZ.cells;let l:=(1:Int);let m:=γB;let n:=SV.Gz;let o:=γV;let q:=γN;let Q:=δj false;let v:=ew.i .u32;let a6:=ew.b.pair (v.Ap.pair v.Ap);let ah:=q [Q,Q,e v [],e v [],e a6 [],e a6 []];let ai:=[c (h_ p f)];let a7:=n (q [m (ki p f),m (js p f).1,e v (js p f).2.1,e v (js p f).2.2,e sF (oY p f),e sF (jr p f)]::ai);let R:=ew.i .i64;let t:=g R f 3 true;let aj:=decide (h_ p f≠d);let ak:=decide ((if f_ p f=true then d else(14:Int))≠d);let S:=γC .i64 0;let T:=(lC p f).1;let a8:=(lC p f).2.1;let a9:=c 0;let s:=(↑f.length:Int);let w:=γ1 0 f.length 1;let y:=o 1 0 20;let z:=o 2 0 6;let J:=zi f d;let G:=e R J;let A:=o 4 0 7;let H:=γ1 5 f.length 3;let U:=c s;let B:=k [c p.bk.a0,c p.bk.a1,c p.bk.a2,c p.bk.a3,c p.bk.a4,c p.bk.a5,c p.bq.a0,c p.bq.a1,c p.bq.a2,c p.bq.a3,c p.bq.a4,c p.bq.a5,c p.bs.a0,c p.bs.a1,c p.bs.a2,c p.bs.a3,c p.bs.a4,c p.bs.a5,e R p.bj,e ew.bt p.bi] 27 20 false;let V:=SV.sc (Value.slice none 0 0);let C:=k [Q,Q,V,V,V,V] 179 6 false;let D:=k [e sF T,e sR a8] 217 2 false;let al:=c 1;let aa:=γc (λ(r:List NH×NH) ↦(vL r.1,TL r.2)) a8;let P:=lI (vL T,aa);let z31:Nat:=(vL T).length;let K:=nf (cG p f).value;let W:=fL (fk (cG p f) (nF f) (mF p));let am:=e sF (fL (gw p f));let I:=k [al,m K.1,e v K.2.1,e v K.2.2,e sF W,am,e sF []] 221 7 false;let X:=(false,[],[]);let Y:=fL (jg p f 0);let ab:=nf (κ d);let ac:=nf (κ l);let E:=(↑J.length:Int);let ad:=c E;let ae:=nf (κ (fN p f));let an:=(ae.1,ae.2.1,ae.2.2);let ao:=(K.1,K.2.1,K.2.2);let af:=nf (TL an+TL ao);let ap:=λ(u:Bool) (u_1:SV) ↦u=true->0=0/\0=0/\0=0/\0=0/\(n [ah,u_1]).as a7/\t.as t/\True;f.length=f.length/\f.length<=1000000000000/\(aj=true->0=0/\0=0/\0=0/\0=0/\(n (ah::ai)).as a7/\t.as t/\True)/\(aj=false->(f.length=f.length/\(nW p=d/\f.length=p.bi.length)/\iP f=true)/\ap ak S/\(ak=false->(∃(a:Lp),(T,a8)=gC a/\wS a)/\ap false a9/\(false=false->d<=s/\s<=s/\s*(56:Int)<=(140737488355328:Int)/\s<=(1000000000000:Int)/\(((w.as w/\y.as y/\z.as z/\(e R (lC p f).2.2).as G/\A.as A/\(γ1 5 s.toNat 3).as H/\w.as w/\U.as U/\S.as a9/\True)/\t.as t/\B.as B/\C.as C/\D.as D/\(k [al,m (nf P.value).1,e v (nf P.value).2.1,e v (nf P.value).2.2,e sF (fL (fk P z31 aa.length)),e sF (fL (iy P z31 aa.length z31)),e sF []] 221 7 false).as I/\(g a6 (δ s.toNat X) 177 true).as (g sF (dW Y 0 X) 177 true)/\True)/\d<=d/\d<=s)/\∀(x:Int),let L:=x+l;let aq:=c L;let M:=dW Y x.toNat X;let ar:=decide (bN f x.toNat d=l);let N:=M.set x.toNat (ab.1,ab.2.1,ab.2.2);let au:=λ(u:List (Bool×List Int×List Int)) ↦VL .i64 L/\((w.as w/\y.as y/\z.as z/\G.as G/\A.as A/\H.as H/\w.as w/\U.as U/\aq.as aq/\True)/\t.as t/\B.as B/\C.as C/\D.as D/\I.as I/\(g sF u 177 true).as (g sF (dW Y L.toNat X) 177 true)/\True)/\(d<=L/\L<=s)/\(s - L).toNat<(s - x).toNat;d<=x/\x<=s->(decide (x<s)=true->f.length=f.length/\d<=x/\x<(↑f.length:Int)/\f.length=f.length/\x.toNat<f.length/\(h<=d/\d<=j)/\f.length=M.length/\d<=x/\x<(↑M.length:Int)/\f.length=M.length/\x.toNat<M.length/\(ar=true->(h<=l/\l<=j)/\f.length=N.length/\d<=x/\x<(↑N.length:Int)/\f.length=N.length/\x.toNat<N.length/\au (N.set x.toNat (ac.1,ac.2.1,ac.2.2)))/\(ar=false->au N))/\(decide (x<s)=false->(((w.as w/\y.as y/\z.as z/\A.as A/\H.as H/\G.as G/\(c (↑J.length:Int)).as ad/\S.as a9/\True)/\t.as t/\B.as B/\C.as C/\D.as D/\I.as I/\(g sF M 177 true).as (g sF Y 177 true)/\True)/\d<=d/\d<=E)/\∀(x:Int),let F:=fL (jg p f x.toNat);let Z:=bN J x.toNat d;let O:=x+l;let av:=c O;let ag:=bN W x.toNat sF.bu;d<=x/\x<=E->(decide (x<E)=true->d<=x/\x<(↑J.length:Int)/\x.toNat<J.length/\d<=x/\x<(↑W.length:Int)/\x.toNat<W.length/\f.length=F.length/\d<=Z/\Z<(↑F.length:Int)/\f.length=F.length/\Z.toNat<F.length/\VL .i64 O/\((w.as w/\y.as y/\z.as z/\A.as A/\H.as H/\G.as G/\ad.as ad/\av.as av/\True)/\t.as t/\B.as B/\C.as C/\D.as D/\I.as I/\(g sF (F.set Z.toNat (ag.1,ag.2.1,ag.2.2)) 177 true).as (g sF (fL (jg p f O.toNat)) 177 true)/\True)/\(d<=O/\O<=E)/\(E - O).toNat<(E - x).toNat)/\(decide (x<E)=false->(f.length=f.length/\nW p=d/\f.length=p.bi.length)/\(bM an/\bM ao)/\f.length=F.length/\f.length=F.length/\(n [q [δj true,m af.1,e v af.2.1,e v af.2.2,am,e sF F],S]).as a7/\t.as t/\True)))))) (by kernel_rfl) ?_;simp only[vcs];have hz:ki p f=false->(γN [δj false,δj false,γa (ew.i IntKind.i64) [],γa (ew.i IntKind.i64) [],γa (ew.i IntKind.i64) [],γa (ew.i IntKind.i64) []]).as
   (γN [γB (ki p f),γB (js p f).1,γa (ew.i IntKind.u32) (js p f).2.1,γa (ew.i IntKind.u32) (js p f).2.2,γa sF (oY p f),γa sF (jr p f)]):=λh=>by
  unfold js oY jr;simp only[h];rfl
 refine⟨hl,λh=>hz (by unfold ki;rw[decide_eq_false h];rfl),λh=>?_⟩;have hx0:h_ p f=0:=γe.1 h;have hcl:nW p=0/\f.length=p.bi.length/\iP f=true:=by
  unfold h_ at hx0;split at hx0;·rename_i h1;exact absurd hx0 h1
  ·rename_i h1;split at hx0;·cases hx0
   ·rename_i h2;split at hx0;·rename_i h3;exact⟨γe.1 h1,γe.1 h2,h3⟩
    ·cases hx0
 obtain⟨hc,hln,hr⟩:=hcl;refine⟨⟨⟨hc,hln⟩,hr⟩,λh1=>⟨hz ?_,hx0.symm⟩,λh1=>?_⟩
 ·have hb:f_ p f=false:=by
   cases hb:f_ p f with
   |false=>rfl;|true=>rw[hb] at h1;exact absurd rfl h1
  unfold ki;rw[hb,Bool.and_false]
 ·have hb:f_ p f=true:=by
   cases hb:f_ p f with
   |true=>rfl;|false=>rw[hb] at h1;exact absurd (by simp) h1
  have hfx:dY p f:=⟨hc,hln,hb⟩;have hG:lC p f=((gC (iY p f)).1,((gC (iY p f)).2,zi f 0)):=by unfold lC;rw[if_pos hb]
  have hok:ki p f=true:=by unfold ki;rw[hb,decide_eq_true hx0];rfl
  have h0:(κ 0:Rat)=0:=rfl;have h1':(κ 1:Rat)=1:=rfl;simp only[hG,Ku,Kt,h0,h1',iQ];have e1:(iY p f).1.length=nF f:=by
   show((zi f 0).map _).length=_;rw[Ξ]
  have e2:(iY p f).2.length=mF p:=by
   show((cA (mF p)).map _).length=_;rw[Ξ,gR]
  have aEm:((iY p f).1,(iY p f).2)=iY p f:=rfl;simp only[aEm,Uu,e1,e2];have hrT:∀{x y:List NH},x=y->(iZ.row sF x 177 true).as (iZ.row sF y 177 true):=by rintro _ _ rfl;rfl
  have hs0:=@uK p f 0;have hf0:=@eA (jg p f 0);have hpt:=@zP (cG p f) (nF f) (mF p);have hfp:=@eA (fk (cG p f) (nF f) (mF p));have hcast:∀k:Nat,((k:Nat):Int).toNat=k:=λk=>γk k;have hnf:nF f=(zi f 0).length:=rfl;have hdl0:=@rh f 0;refine⟨⟨iY p f,rfl,Uv hfx⟩,λh=>(by cases h),λ_=>⟨by omega,by omega,by omega,by omega,⟨⟨⟨trivial,by rw[hcast];rfl⟩,rfl,hrT (by rw[vT,hf0,hs0,hcast])⟩,by omega,by omega⟩,?_⟩⟩;rintro i ⟨i0,i1⟩;have hru:=@vU (fL (jg p f 0)) i.toNat (false,([],[])) (by omega);refine⟨λhi=>?_,λhi=>?_⟩
  ·have hv:bN (fL (jg p f 0)) i.toNat (false,([],[]))=nf (if bN f i.toNat 0=1 then 1 else 0):=by rw[iE (by omega),Ur (by omega)]
   have hset:∀x:NH,x=nf (if bN f i.toNat 0=1 then 1 else 0)->(dW (fL (jg p f 0)) i.toNat (false,([],[]))).set i.toNat x=dW (fL (jg p f 0)) (i+1).toNat (false,([],[])):=λx hx=>by
    have:=uN (d:=fL (jg p f 0)) (j:=i.toNat) (z:=(false,([],[]))) (x:=x) (by omega) (hx.trans hv.symm);rw[show(i+1).toNat=i.toNat+1 by omega];exact this
   rw[Ω];refine⟨i0,hi,by omega,by omega,by omega,i0,by omega,by omega,by omega,λh1=>⟨by omega,by omega,i0,by omega,by omega,by omega,by omega,hrT ?_,by omega,by omega⟩,λh1=>⟨by omega,hrT ?_,by omega,by omega⟩⟩
   ·rw[List.set_set];exact hset _ (by rw[if_pos h1])
   ·exact hset _ (by rw[if_neg h1])
  ·have hi2:i.toNat=(fL (jg p f 0)).length:=by omega
   rw[hi2,vS];refine⟨⟨hrT rfl,by omega,by omega⟩,?_⟩;rintro k ⟨k0,k1⟩;have hsk:=@uK p f k.toNat;have hfk:=@eA (jg p f k.toNat);refine⟨λhk=>?_,λhk=>?_⟩
   ·have hm:=(jP.1 (cB (d:=0) (show k.toNat<(zi f 0).length by omega))).1;have hv:bN (fL (fk (cG p f) (nF f) (mF p))) k.toNat sF.bu=nf (bN (fk (cG p f) (nF f) (mF p)) k.toNat 0):=iE (by omega);have hst:=@Us p f k.toNat (by omega);rw[hv];refine⟨k0,hk,by omega,k0,by omega,by omega,by omega,hm.1,by omega,by omega,by omega,by omega,hrT ?_,by omega,by omega⟩;rw[uM,show(k+1).toNat=k.toNat+1 by omega,hst]
   ·have hk2:k.toNat=nF f:=by omega
    rw[hk2] at hsk hfk ⊢;have hab:=@wQ p hc f f.length hln;rw[φ] at hab;have hsa:Sz 1 ((fN p f:Int):Rat):=by
     unfold Sz;rw[Rat.num_intCast,Rat.den_intCast];omega
    have hsv:Sz 1000000 (cG p f).value:=by
     have:=(zR hfx).sw (mQ hfx).1;exact this.2.2.2
    refine⟨⟨hc,hln⟩,⟨df hsa (by omega),df hsv (by omega)⟩,by omega,by omega,?_,hx0.symm⟩;unfold js oY jr;simp only[hok,if_true,dL];rfl
def DV:cW:=B1 104 (List NH) (.one (cQ sF)) (λx a=>ek x/\mX a/\a.length=x.p.bi.length) (λx a=>kr.put ⟨dP (vL a),bG ((dP (vL a)).map (oI x.p))⟩) λx _=>x
def jH (x:List Rat) (k:Nat):List Int:=(cA k).filter λi=>decide (0<bN x i.toNat 0)
def km (p:cj) (l:List Int):Int:=bG (l.map (oI p))
def Tj (x:cY) (a:List NH):Nat->bK
 |3=>match x.en with
  |none=> .inv Int (λi=>⟨[(0,.ptr 0 0 28),(4,.ptr 3 0 2),(5,.ptr 5 0 2),(10,.row sF a),(11,.si .i64 a.length),(12,.si .i64 i)],
    x.uH++[.cells [.sc (.slice none 0 0),.si .i64 0] 40 2 false,.row (.i .i64) (jH (vL a) i.toNat) 3 true,.cells [.ow 4 (jH (vL a) i.toNat).length 1,.si .i64 (km x.p (jH (vL a) i.toNat))] 40 2 false]⟩)
    (λs=>iS s 12) (λi=>0<=i/\i<=a.length) (λi=>(a.length - i).toNat) λ_ _=> .bz
  |some m=> .inv Int (λi=>⟨[(0,.ptr 0 0 28),(4,.ptr 4 0 2),(5,.ptr 6 0 2),(10,.row sF a),(11,.si .i64 a.length),(12,.si .i64 i)],
    x.uG m++[.cells [.sc (.slice none 0 0),.si .i64 0] 40 2 false,.row (.i .i64) (jH (vL a) i.toNat) 3 true,.cells [.ow 5 (jH (vL a) i.toNat).length 1,.si .i64 (km x.p (jH (vL a) i.toNat))] 40 2 false]⟩)
    (λs=>iS s 12) (λi=>0<=i/\i<=a.length) (λi=>(a.length - i).toNat) λ_ _=> .bz
 |_=> .bz
theorem KF {x:List Rat} {i:Int} (i0:0<=i):jH x (i+1).toNat=if 0<bN x i.toNat 0 then jH x i.toNat++[i] else jH x i.toNat:=by
 unfold jH;rw[show(i+1).toNat=i.toNat+1 by omega,ql,List.filter_append,εC i0];grind
theorem KE {p:cj} {x:List Rat} {k:Nat} (a:nW p=0) (g:k<=p.bi.length):(jH x k).length<=160/\0<=km p (jH x k)/\km p (jH x k)<=160000000:=by
 have e:(jH x k).length<=k:=by
  have:=δf (λi:Int=>decide (0<bN x i.toNat 0)) (cA k);rw[gR] at this;exact this
 have c:=oA (cN a) (l:=(jH x k).map (oI p)) λy b=>by
  obtain⟨i,d,rfl⟩:=Γ.1 b;have:=ji.1 (Ψ.1 d).1;exact cB (by omega)
 rw[Ξ] at c;have f:=(cN a).2.1;grind[km]
theorem La {p:cj} {l:List Int} {i:Int}:km p (l++[i])=km p l+(oI p i).value:=by
 simp_all[km,my,bG]
theorem H2:dD Tryz.prog DV:=by
 refine wM (L:=[p9]) (W:=[]) DV (λa=>Tj a.1 a.2) (by simp) (by simpa using sA) ?_;rintro⟨⟨p,ch,val,bn,en,k1,k2,bA,err,bp,fx⟩,a⟩ ⟨hok,⟨l,hx,hla,hz⟩,hl⟩;simp only at hok hx hla hl;subst hx;have hc:nW p=0:=hok.f.c;have h160:=(cN hc).2.1;have hll:=@eA l;have hl:(fL l).length=p.bi.length:=hl;cases en with
 |none=>
  refine NI (let a:=γj .i64;let b:=iZ.cells;let c:=iZ.row;let d:=(0:Int);let e:=γa;let f:=γ1;let g:=γV;let r:=g 0 0 28;let s:=g 3 0 2;let t:=g 5 0 2;let C:=(↑(fL l).length:Int);let k:=(↑(fL l).length:Int);let v:=a k;let w:=γC .i64 0;let D:=a 0;let j:=ew.i .i64;let m:=b [a p.bk.a0,a p.bk.a1,a p.bk.a2,a p.bk.a3,a p.bk.a4,a p.bk.a5,a p.bq.a0,a p.bq.a1,a p.bq.a2,a p.bq.a3,a p.bq.a4,a p.bq.a5,a p.bs.a0,a p.bs.a1,a p.bs.a2,a p.bs.a3,a p.bs.a4,a p.bs.a5,e j p.bj,e ew.bt p.bi,e j ch,a val,γB bn,SV.fn (Fn.func 70) [] [],f 1 k1 5,f 2 k2 1,a bA,a err] 126 28 false;let n:=c Ao bp 108 true;let o:=c j fx 3 true;let E:=SV.sc (Value.slice none 0 0);let y:=b [E,D] 40 2 false;let z:=jH (vL (fL l)) 0;(((r.as r/\s.as s/\t.as t/\(e sF (fL l)).as (e sF (fL l))/\(a C).as v/\w.as D/\True)/\m.as m/\n.as n/\o.as o/\(b [E,w] 40 2 false).as y/\(c j [] 3 true).as (c j z 3 true)/\(b [f 4 0 1,w] 40 2 false).as (b [f 4 z.length 1,a (km p z)] 40 2 false)/\True)/\d<=d/\d<=k)/\∀(x:Int),let q:=x+(1:Int);let F:=a q;let A:=jH (vL (fL l)) q.toNat;let B:=bN (fL l) x.toNat sF.bu;let G:=(B.1,B.2.1,B.2.2);let h:=jH (vL (fL l)) x.toNat;let H:=h.length+1;let I:=km p h+(bN p.bi x.toNat ew.bt.bu).value;let J:=λ(u:iZ) (u_1:Nat) (u_2:Int) ↦VL .i64 q/\((r.as r/\s.as s/\t.as t/\(e sF (fL l)).as (e sF (fL l))/\v.as v/\F.as F/\True)/\m.as m/\n.as n/\o.as o/\y.as y/\u.as (c j A 3 true)/\(b [f 4 u_1 1,a u_2] 40 2 false).as (b [f 4 A.length 1,a (km p A)] 40 2 false)/\True)/\(d<=q/\q<=k)/\(k - q).toNat<(k - x).toNat;let K:=λ(u:Bool) ↦decide (d<iR (TL G))=u;d<=x/\x<=k->(decide (x<k)=true->d<=x/\x<C/\x.toNat<(fL l).length/\bM G/\(K true->1=1/\h.length=h.length/\H*8<=140737488355328/\H<=1000000000000/\d<=x/\x<(↑p.bi.length:Int)/\x.toNat<p.bi.length/\VL .i64 I/\J (c j (h++[x]) 3 true) (h++[x]).length I)/\(K false->J (c j h 3 true) h.length (km p h)))/\(decide (x<k)=false->h.length=h.length/\h.length=h.length/\h.length=h.length/\(γN [e j h,a (km p h)]).as (γN [e j (dP (vL (fL l))),a (bG (γc (oI p) (dP (vL (fL l)))))])/\m.as m/\n.as n/\o.as o/\True)) (by kernel_rfl) ?_;simp only[vcs];have hrI:∀{x y:List Int},x=y->(iZ.row (.i .i64) x 3 true).as (iZ.row (.i .i64) y 3 true):=by rintro _ _ rfl;rfl
  have hcI:∀{x y:List Int} {v w:Int},x=y->v=w->(iZ.cells [.ow 4 x.length 1,.si .i64 v] 40 2 false).as (iZ.cells [.ow 4 y.length 1,.si .i64 w] 40 2 false):=by rintro _ _ _ _ rfl rfl;rfl
  refine⟨⟨⟨rfl,hrI rfl,rfl⟩,by omega,by omega⟩,?_⟩;rintro i ⟨i0,i1⟩;have hb:=@KE p (vL (fL l)) i.toNat hc (by omega);refine⟨λhi=>?_,λhi=>?_⟩
  ·have hv:bN (fL l) i.toNat sF.bu=nf (bN l i.toNat 0):=iE (by omega);have hq:=hz _ (cB (d:=0) (show i.toNat<l.length by omega));have ho:=(jt hc (i:=i) (by omega)).2.2.2;have hval:(bN p.bi i.toNat ew.bt.bu).value=(oI p i).value:=rfl;have hs:=@KF (vL (fL l)) i i0;rw[hv,hval];rw[jQ] at hs hb ⊢;simp only[iQ,dL,r_];refine⟨i0,hi,by omega,df hq (by omega),λh=>?_,λh=>?_⟩
   ·rw[if_pos h] at hs;rw[hs,La];refine⟨?_,?_,i0,?_,?_,?_,?_,⟨hrI rfl,hcI rfl rfl⟩,?_,?_⟩<;>omega
   ·rw[if_neg h] at hs;rw[hs];refine⟨?_,⟨hrI rfl,hcI rfl rfl⟩,?_,?_⟩<;>omega
  ·rw[show i.toNat=(vL (fL l)).length by rw[jQ];omega];rfl;|some m=>
  refine NI (let a:=γj .i64;let b:=iZ.cells;let c:=iZ.row;let d:=(0:Int);let e:=γa;let f:=γ1;let g:=γV;let t:=g 0 0 28;let v:=g 4 0 2;let w:=g 6 0 2;let E:=(↑(fL l).length:Int);let k:=(↑(fL l).length:Int);let y:=a k;let z:=γC .i64 0;let F:=a 0;let j:=ew.i .i64;let n:=b [a p.bk.a0,a p.bk.a1,a p.bk.a2,a p.bk.a3,a p.bk.a4,a p.bk.a5,a p.bq.a0,a p.bq.a1,a p.bq.a2,a p.bq.a3,a p.bq.a4,a p.bq.a5,a p.bs.a0,a p.bs.a1,a p.bs.a2,a p.bs.a3,a p.bs.a4,a p.bs.a5,e j p.bj,e ew.bt p.bi,e j ch,a val,γB bn,SV.fn (Fn.func 116) [] [g 1 0 1],f 2 k1 5,f 3 k2 1,a bA,a err] 126 28 false;let o:=b [a m] 2 1 false;let q:=c Ao bp 108 true;let r:=c j fx 3 true;let G:=SV.sc (Value.slice none 0 0);let A:=b [G,F] 40 2 false;let B:=jH (vL (fL l)) 0;(((t.as t/\v.as v/\w.as w/\(e sF (fL l)).as (e sF (fL l))/\(a E).as y/\z.as F/\True)/\n.as n/\o.as o/\q.as q/\r.as r/\(b [G,z] 40 2 false).as A/\(c j [] 3 true).as (c j B 3 true)/\(b [f 5 0 1,z] 40 2 false).as (b [f 5 B.length 1,a (km p B)] 40 2 false)/\True)/\d<=d/\d<=k)/\∀(x:Int),let s:=x+(1:Int);let H:=a s;let C:=jH (vL (fL l)) s.toNat;let D:=bN (fL l) x.toNat sF.bu;let I:=(D.1,D.2.1,D.2.2);let h:=jH (vL (fL l)) x.toNat;let J:=h.length+1;let K:=km p h+(bN p.bi x.toNat ew.bt.bu).value;let L:=λ(u:iZ) (u_1:Nat) (u_2:Int) ↦VL .i64 s/\((t.as t/\v.as v/\w.as w/\(e sF (fL l)).as (e sF (fL l))/\y.as y/\H.as H/\True)/\n.as n/\o.as o/\q.as q/\r.as r/\A.as A/\u.as (c j C 3 true)/\(b [f 5 u_1 1,a u_2] 40 2 false).as (b [f 5 C.length 1,a (km p C)] 40 2 false)/\True)/\(d<=s/\s<=k)/\(k - s).toNat<(k - x).toNat;let M:=λ(u:Bool) ↦decide (d<iR (TL I))=u;d<=x/\x<=k->(decide (x<k)=true->d<=x/\x<E/\x.toNat<(fL l).length/\bM I/\(M true->1=1/\h.length=h.length/\J*8<=140737488355328/\J<=1000000000000/\d<=x/\x<(↑p.bi.length:Int)/\x.toNat<p.bi.length/\VL .i64 K/\L (c j (h++[x]) 3 true) (h++[x]).length K)/\(M false->L (c j h 3 true) h.length (km p h)))/\(decide (x<k)=false->h.length=h.length/\h.length=h.length/\h.length=h.length/\(γN [e j h,a (km p h)]).as (γN [e j (dP (vL (fL l))),a (bG (γc (oI p) (dP (vL (fL l)))))])/\n.as n/\o.as o/\q.as q/\r.as r/\True)) (by kernel_rfl) ?_;simp only[vcs];have hrI:∀{x y:List Int},x=y->(iZ.row (.i .i64) x 3 true).as (iZ.row (.i .i64) y 3 true):=by rintro _ _ rfl;rfl
  have hcI:∀{x y:List Int} {v w:Int},x=y->v=w->(iZ.cells [.ow 5 x.length 1,.si .i64 v] 40 2 false).as (iZ.cells [.ow 5 y.length 1,.si .i64 w] 40 2 false):=by rintro _ _ _ _ rfl rfl;rfl
  refine⟨⟨⟨rfl,hrI rfl,rfl⟩,by omega,by omega⟩,?_⟩;rintro i ⟨i0,i1⟩;have hb:=@KE p (vL (fL l)) i.toNat hc (by omega);refine⟨λhi=>?_,λhi=>?_⟩
  ·have hv:bN (fL l) i.toNat sF.bu=nf (bN l i.toNat 0):=iE (by omega);have hq:=hz _ (cB (d:=0) (show i.toNat<l.length by omega));have ho:=(jt hc (i:=i) (by omega)).2.2.2;have hval:(bN p.bi i.toNat ew.bt.bu).value=(oI p i).value:=rfl;have hs:=@KF (vL (fL l)) i i0;rw[hv,hval];rw[jQ] at hs hb ⊢;simp only[iQ,dL,r_];refine⟨i0,hi,by omega,df hq (by omega),λh=>?_,λh=>?_⟩
   ·rw[if_pos h] at hs;rw[hs,La];refine⟨?_,?_,i0,?_,?_,?_,?_,⟨hrI rfl,hcI rfl rfl⟩,?_,?_⟩<;>omega
   ·rw[if_neg h] at hs;rw[hs];refine⟨?_,⟨hrI rfl,hcI rfl rfl⟩,?_,?_⟩<;>omega
  ·rw[show i.toNat=(vL (fL l)).length by rw[jQ];omega];rfl
def DU:NG:=⟨105,List NH,.one (cQ sF),mX,λx=> .Gz [.si .i64 ((iN (vL x)).getD 0),.sb (iN (vL x)).isSome]⟩
def jq:Option (Int×Rat)->NH
 |none=>(false,([],[]))
 |some (_,q)=>nf q
def sB:Option (Int×Rat)->Int
 |none=>0
 |some (i,_)=>i
def Ti (x:List NH):Nat->bK
 |6=> .inv Int (λi=>⟨[(4,.ptr 0 0 3),(6,.ptr 1 0 3),(7,.ptr 2 0 2),(8,.ptr 3 0 3),(17,.row sF x),(18,.si .i64 x.length),(19,.si .i64 i)],
   [.cells [.sb (nf (eT false 1 2)).1,.row (.i .u32) (nf (eT false 1 2)).2.1,.row (.i .u32) (nf (eT false 1 2)).2.2] 177 3 false,
    .cells [.sb (nf ((1:Int):Rat)).1,.row (.i .u32) (nf ((1:Int):Rat)).2.1,.row (.i .u32) (nf ((1:Int):Rat)).2.2] 177 3 false,
    .cells [.sb (iA (vL x) i.toNat).isSome,.si .i64 (sB (iA (vL x) i.toNat))] 237 2 false,
    .cells [.sb (jq (iA (vL x) i.toNat)).1,.row (.i .u32) (jq (iA (vL x) i.toNat)).2.1,.row (.i .u32) (jq (iA (vL x) i.toNat)).2.2] 177 3 false,.dead,.dead]⟩)
   (λs=>iS s 19) (λi=>0<=i/\i<=x.length) (λi=>(x.length - i).toNat) λ_ _=> .bz
 |_=> .bz
theorem Th {q:Rat} {k:Nat} (h:Sz k q):Sz k (lA q):=by
 grind[lA,wY]
theorem K_:mkRat 1 2=(1 / 2:Rat):=by
 grind[Rat.mkRat_eq_div]
theorem K9:Sz 1 (1 / 2:Rat):=by
 grind[K_,w8]
theorem DT {q:Rat} (h:Sz 1000 q):Sz 1002 (q - 1 / 2):=by
 rw[Rat.sub_eq_add_neg];exact wZ h (j:=1) (wY K9)
theorem H1:Holds Tryz.prog DU:=by
 refine bO (L:=[D1,mn,sg,p9,uk,wF,vZ]) DU Ti (by simpa using⟨HZ,nH,nE,sA,zd,Cl,qV⟩) ?_;rintro(x:List NH) ⟨l,hx,hl,hz⟩;refine NI (let a:=iZ.cells;let b:=γa;let c:=(0:Int);let d:=γj .i64;let e:=(9223372036854775807:Int);let f:=γB;let g:=(-9223372036854775808:Int);let h:=(1:Int);let j:=VL .i64;let k:=γV;let l:=δj false;let m:=(2:Int);let n:=ew.i .u32;let r:=k 0 0 3;let s:=k 1 0 3;let t:=k 2 0 2;let v:=k 3 0 3;let o:=(↑x.length:Int);let w:=d o;let R:=γC .i64 0;let y:=eT false h m;let z:=κ h;let F:=iA (vL x) 0;let B:=a [f (nf y).1,b n (nf y).2.1,b n (nf y).2.2] 177 3 false;let C:=a [f (nf z).1,b n (nf z).2.1,b n (nf z).2.2] 177 3 false;let S:=((nf z).1,(nf z).2.1,(nf z).2.2);let T:=((nf y).1,(nf y).2.1,(nf y).2.2);let U:=λ(u:Rat) ↦(a [f (nf u).1,b n (nf u).2.1,b n (nf u).2.2] 177 3 false).as (a [f (nf u).1,b n (nf u).2.1,b n (nf u).2.2] 177 3 false);((g<=h/\h<=e)/\c<m/\m<=e)/\(g<=h/\h<=e)/\0=0/\0=0/\(((r.as r/\s.as s/\t.as t/\v.as v/\(b sF x).as (b sF x)/\(d (↑x.length:Int)).as w/\R.as (d 0)/\True)/\U y/\U z/\(a [l,R] 237 2 false).as (a [f F.isSome,d (sB F)] 237 2 false)/\(a [l,b n [],b n []] 177 3 false).as (a [f (jq F).1,b n (jq F).2.1,b n (jq F).2.2] 177 3 false)/\iZ.dead.as iZ.dead/\iZ.dead.as iZ.dead/\True)/\c<=c/\c<=o)/\∀(x_1:Int),let p:=x_1+h;let D:=d p;let G:=iA (vL x) p.toNat;let N:=a [f G.isSome,d (sB G)] 237 2 false;let A:=bN x x_1.toNat sF.bu;let H:=(A.1,A.2.1,A.2.2);let E:=nf (TL H - TL T);let I:=(E.1,E.2.1,E.2.2);let V:=(nf (-TL I)).1;let K:=(nf (-TL I)).2;let O:=a [f (jq G).1,b n (jq G).2.1,b n (jq G).2.2] 177 3 false;let q:=iA (vL x) x_1.toNat;let W:=d (sB q);let X:=(V,K.1,K.2);let L:=((jq q).1,(jq q).2.1,(jq q).2.2);let M:=q.isSome==false&&(decide (sB q=c)&&true);let Y:=j p/\((r.as r/\s.as s/\t.as t/\v.as v/\(b sF x).as (b sF x)/\w.as w/\D.as D/\True)/\B.as B/\C.as C/\(a [δj true,d x_1] 237 2 false).as N/\(a [f V,b n K.1,b n K.2] 177 3 false).as O/\iZ.dead.as iZ.dead/\iZ.dead.as iZ.dead/\True)/\(c<=p/\p<=o)/\(o - p).toNat<(o - x_1).toNat;let Z:=j p/\((r.as r/\s.as s/\t.as t/\v.as v/\(b sF x).as (b sF x)/\w.as w/\D.as D/\True)/\B.as B/\C.as C/\(a [δj true,d x_1] 237 2 false).as N/\(a [f E.1,b n E.2.1,b n E.2.2] 177 3 false).as O/\iZ.dead.as iZ.dead/\iZ.dead.as iZ.dead/\True)/\(c<=p/\p<=o)/\(o - p).toNat<(o - x_1).toNat;let J:=j p/\((r.as r/\s.as s/\t.as t/\v.as v/\(b sF x).as (b sF x)/\w.as w/\D.as D/\True)/\B.as B/\C.as C/\(a [f q.isSome,W] 237 2 false).as N/\(a [f (jq q).1,b n (jq q).2.1,b n (jq q).2.2] 177 3 false).as O/\iZ.dead.as iZ.dead/\iZ.dead.as iZ.dead/\True)/\(c<=p/\p<=o)/\(o - p).toNat<(o - x_1).toNat;let P:=bM I;let Q:=bM H;let a0:=λ(u:Bool) ↦decide (gM (TL X) (TL L)<c)=u;let a1:=λ(u:Bool) ↦decide (gM (TL I) (TL L)<c)=u;let a2:=λ(u:Bool) ↦decide (iR (TL I)<c)=u;let a3:=λ(u:Bool) ↦decide (c<=gM (TL H) (TL S))=u;let a4:=λ(u:Bool) ↦decide (iR (TL H)<=c)=u;let a5:=λ(u:Bool) ↦(!okF H)=u;c<=x_1/\x_1<=o->(decide (x_1<o)=true->c<=x_1/\x_1<(↑x.length:Int)/\x_1.toNat<x.length/\((ou A.2.1/\ou A.2.2)/\γd A.2.1<=10000000/\γd A.2.2<=10000000)/\(a5 true->J)/\(a5 false->Q/\(a4 true->J)/\(a4 false->(Q/\bM S)/\(a3 true->J)/\(a3 false->(Q/\bM T)/\P/\(a2 true->P/\(M=true->Y)/\(M=false->(bM X/\bM L)/\(a0 true->Y)/\(a0 false->J)))/\(a2 false->(M=true->Z)/\(M=false->(P/\bM L)/\(a1 true->Z)/\(a1 false->J)))))))/\(decide (x_1<o)=false->(SV.Gz [W,f q.isSome]).as (SV.Gz [d ((iN (vL x)).getD c),f (iN (vL x)).isSome]))) (by kernel_rfl) ?_;simp only[vcs];subst hx;rw[eA] at hl;have hh:eT false 1 2=1 / 2:=K_;simp only[jQ,eA,hh];have hbr:∀{b c:Option (Int×Rat)},b=c->(iZ.cells [.sb b.isSome,.si .i64 (sB b)] 237 2 false).as (iZ.cells [.sb c.isSome,.si .i64 (sB c)] 237 2 false):=by rintro _ _ rfl;rfl
 have hbd:∀{b c:Option (Int×Rat)},b=c->(iZ.cells [.sb (jq b).1,.row (.i .u32) (jq b).2.1,.row (.i .u32) (jq b).2.2] 177 3 false).as (iZ.cells [.sb (jq c).1,.row (.i .u32) (jq c).2.1,.row (.i .u32) (jq c).2.2] 177 3 false):=by rintro _ _ rfl;rfl
 have f1:bM (nf (κ 1)):=df (k:=1) (by unfold Sz;decide) (by omega);have f2:bM (nf (1 / 2)):=df K9 (by omega);refine⟨⟨⟨by omega,by omega⟩,by omega,by omega⟩,⟨by omega,by omega⟩,⟨⟨rfl,rfl⟩,by omega,by omega⟩,?_⟩;rintro i ⟨i0,i1⟩;refine⟨λhi=>?_,λhi=>?_⟩
 ·have hv:bN (fL l) i.toNat sF.bu=nf (bN l i.toNat 0):=iE (by omega);have hq:=hz _ (cB (d:=0) (show i.toNat<l.length by omega));have hs:iA l (i+1).toNat=if 0<bN l i.toNat 0/\bN l i.toNat 0<1 then(match iA l i.toNat with
   |none=>some (i,lA (bN l i.toNat 0 - 1 / 2))
   |some (j,d)=>if lA (bN l i.toNat 0 - 1 / 2)<d then some (i,lA (bN l i.toNat 0 - 1 / 2)) else some (j,d)) else iA l i.toNat:=by
   rw[show(i+1).toNat=i.toNat+1 by omega];conv=>lhs;unfold iA
   rw[εC i0];cases iA l i.toNat<;>rfl
  have hbs:∀j d,iA l i.toNat=some (j,d)->bM (nf d):=λj d h=>by
   obtain⟨h1,h2,h3⟩:=Do h;rw[h3];exact df (Th (DT (hz _ (cB (by omega))))) (by omega)
  rw[hv,hs];generalize bN l i.toNat 0=q at*;generalize iA l i.toNat=B at*;simp only[iQ,dL];obtain⟨_,⟨u1,u2,u3⟩,⟨u4,u5,u6⟩⟩:=kP q;obtain⟨m1,m2⟩:=m_ hq;have hok:=BY q;have fq:bM (nf q):=df hq (by omega);have fd:bM (nf (q - 1 / 2)):=df (DT hq) (by omega);have fn:bM (nf (-(q - 1 / 2))):=df (wY (DT hq)) (by omega);refine⟨i0,hi,by omega,⟨⟨u1,u4⟩,by omega,by omega⟩,λh=>absurd hok (by rw[show okF (nf q)=false from h];simp),λ_=>⟨fq,λh1=>?_,λh1=>⟨⟨fq,f1⟩,λh2=>?_,λh2=>?_⟩⟩⟩
  ·rw[if_neg (λh=>by have:=r_.2 h.1;omega)];exact⟨by omega,⟨hbr rfl,hbd rfl⟩,by omega⟩
  ·rw[if_neg (λh=>by have:=qJ.2 h.2;have e:gM q (κ 1)=gM q 1:=rfl;omega)];exact⟨by omega,⟨hbr rfl,hbd rfl⟩,by omega⟩
  ·have hp:0<q/\q<1:=⟨r_.1 (by omega),qJ.1 (by have e:gM q (κ 1)=gM q 1:=rfl;omega)⟩;rw[if_pos hp];refine⟨⟨fq,f2⟩,fd,λh3=>?_,λh3=>?_⟩
   ·have ha:lA (q - 1 / 2)= -(q - 1 / 2):=by unfold lA;rw[if_pos (wV.1 h3)]
    rw[ha];cases B with
    |none=>exact⟨fd,λ_=>⟨by omega,⟨rfl,rfl⟩,by omega⟩,λh=>absurd h (by decide)⟩;|some b=>
     obtain⟨j,d⟩:=b;dsimp only;refine⟨fd,λh=>absurd h.1 ζk,λ_=>⟨⟨fn,hbs j d rfl⟩,λh5=>?_,λh5=>?_⟩⟩
     ·rw[if_pos (qJ.1 (by rw[<-dL d];exact h5))];exact⟨by omega,⟨rfl,rfl⟩,by omega⟩
     ·rw[if_neg (λh=>h5 (by rw[<-dL d] at h;exact qJ.2 h))];exact⟨by omega,⟨hbr rfl,hbd rfl⟩,by omega⟩
   ·have ha:lA (q - 1 / 2)=q - 1 / 2:=by unfold lA;rw[if_neg (λh=>h3 (wV.2 h))]
    rw[ha];cases B with
    |none=>exact⟨λ_=>⟨by omega,⟨rfl,rfl⟩,by omega⟩,λh=>absurd h (by decide)⟩;|some b=>
     obtain⟨j,d⟩:=b;dsimp only;refine⟨λh=>absurd h.1 ζk,λ_=>⟨⟨fd,hbs j d rfl⟩,λh5=>?_,λh5=>?_⟩⟩
     ·rw[if_pos (qJ.1 (by rw[<-dL d];exact h5))];exact⟨by omega,⟨rfl,rfl⟩,by omega⟩
     ·rw[if_neg (λh=>h5 (by rw[<-dL d] at h;exact qJ.2 h))];exact⟨by omega,⟨hbr rfl,hbd rfl⟩,by omega⟩
 ·rw[show i.toNat=l.length by omega];unfold iN;cases iA l l.length<;>exact⟨rfl,rfl⟩
noncomputable def s8 (n:Nat):cW:=B1 72 Int (.one (dZ .i64)) (λx a=>ek x/\(0<=a/\a<x.bp.length)/\nF x.fx<n) (λ_ _=> .Gz []) λx a=>x.ix (cR x.p (bI x.en) x.bA (nF x.fx) x.s a x.fx)
noncomputable def BW (n:Nat):cW:=B1 106 (Int×Int×Int) (.cons (dZ .i64) (.cons (dZ .i64) (.one (dZ .i64)))) (λx a=>ek x/\(0<=a.1/\a.1<x.bp.length)/\(0<=a.2.1/\a.2.1<x.fx.length)/\bN x.fx a.2.1.toNat 0=0/\(a.2.2=1\/a.2.2= -1)/\nF (x.fx.set a.2.1.toNat a.2.2)<n) (λ_ _=> .Gz []) λx a=>x.ix (cR x.p (bI x.en) x.bA (nF (x.fx.set a.2.1.toNat a.2.2)) x.s a.1 (x.fx.set a.2.1.toNat a.2.2))
theorem Tg {L:List NG} {W:List cW} (c:cW) (F:eu) (Λ:c.α->Nat->bK) (i:∀c∈W,dD Tryz.prog c) (e:∀c∈L,Holds Tryz.prog c)
  
  (h:∀a,c.dom a->Vc (Ad (kx L (fT W) ml mq fQ) (Λ a) F (c.put a) (c.st a) λv s=>v.as (c.res a)/\jX s (c.out a))) (j:fQ c.f=some F:=by kernel_rfl) (b:∀a,(c.put a).length=F.params:=by intro _;kernel_rfl) (d:mA c.f W=none:=by kernel_rfl):dD Tryz.prog c:=
 λa g=>SU c pT i e j b a d (h a g).out
theorem ek.set {x:cY} (h:ek x) {k:Nat} {d:Int} (a:d=1\/d= -1):ek ⟨x.p,x.ch,x.val,x.bn,x.en,x.k1,x.k2,x.bA,x.err,x.bp,x.fx.set k d⟩:=
 ⟨⟨h.f.c,by rw[Ω];exact h.f.l,KU h.f.r (by omega)⟩,h.k1,by rw[Ω];exact h.k2,h.v0,h.v1,h.m0,h.m1,h.l,h.c⟩
theorem Tf {f:List Int} {k:Nat} {d:Int} (b:k<f.length) (a:bN f k 0=0):(f.set k d).set k 0=f:=by
 rw[bW b] at a;rw[List.set_set,<-a,List.set_getElem_self]
theorem Te {n:Nat} (hV:dD Tryz.prog (s8 n)):dD Tryz.prog (BW n):=by
 refine Tg (L:=[]) (W:=[s8 n]) (BW n) (fG 106) lk (by simpa using hV) (by simp) ?_;rintro⟨⟨p,ch,val,bn,en,k1,k2,bA,err,bp,fx⟩,a,k,d⟩ ⟨hok,ha,hk,h0,hd,hn⟩;simp only at hok ha hk h0 hd hn;have e2:k2=fx.length:=hok.k2;have hb:=Tf (d:=d) (show k.toNat<fx.length by omega) h0;have hr:∀{x y:List Int},x=y->(iZ.row (.i .i64) x 3 true).as (iZ.row (.i .i64) y 3 true):=by rintro _ _ rfl;rfl
 cases en with
 |none=>
  have hs:=hok.set (k:=k.toNat) hd;refine NI (let b:=γj .i64;let c:=(0:Int);let e:=iZ.row;let f:=γa;let g:=fx.set k.toNat d;let j:=ew.i .i64;let h:=cR p (bI none) bA (nF g) (cm.mk ch val bn bp err) a g;let l:=iZ.cells [b p.bk.a0,b p.bk.a1,b p.bk.a2,b p.bk.a3,b p.bk.a4,b p.bk.a5,b p.bq.a0,b p.bq.a1,b p.bq.a2,b p.bq.a3,b p.bq.a4,b p.bq.a5,b p.bs.a0,b p.bs.a1,b p.bs.a2,b p.bs.a3,b p.bs.a4,b p.bs.a5,f j p.bj,f ew.bt p.bi,f j h.ch,b h.val,γB h.bn,SV.fn (Fn.func 70) [] [],γ1 1 h.bp.length 5,γ1 2 k2 1,b bA,b h.err] 126 28 false;let m:=e Ao h.bp 108 true;k2=fx.length/\c<=k/\k<(↑fx.length:Int)/\k2=fx.length/\k.toNat<fx.length/\(ek (cY.mk p ch val bn none k1 k2 bA err bp g)/\(c<=a/\a<(↑bp.length:Int))/\nF g<n)/\k2=g.length/\c<=k/\k<(↑g.length:Int)/\k2=g.length/\k.toNat<g.length/\(SV.Gz []).as (SV.Gz [])/\l.as l/\m.as m/\(e j (g.set k.toNat c) 3 true).as (e j fx 3 true)/\True) (by kernel_rfl) ?_;conv=>zeta
  rw[Ω];exact⟨e2,hk.1,hk.2,e2,by omega,⟨hs,ha,hn⟩,e2,hk.1,hk.2,e2,by omega,rfl,rfl,rfl,hr hb,trivial⟩;|some m=>
  have hs:=hok.set (k:=k.toNat) hd;refine NI (let b:=γj .i64;let c:=(0:Int);let e:=iZ.row;let f:=γa;let g:=fx.set k.toNat d;let j:=ew.i .i64;let h:=cR p (bI (some m)) bA (nF g) (cm.mk ch val bn bp err) a g;let l:=iZ.cells [b p.bk.a0,b p.bk.a1,b p.bk.a2,b p.bk.a3,b p.bk.a4,b p.bk.a5,b p.bq.a0,b p.bq.a1,b p.bq.a2,b p.bq.a3,b p.bq.a4,b p.bq.a5,b p.bs.a0,b p.bs.a1,b p.bs.a2,b p.bs.a3,b p.bs.a4,b p.bs.a5,f j p.bj,f ew.bt p.bi,f j h.ch,b h.val,γB h.bn,SV.fn (Fn.func 116) [] [γV 1 0 1],γ1 2 h.bp.length 5,γ1 3 k2 1,b bA,b h.err] 126 28 false;let o:=iZ.cells [b m] 2 1 false;let q:=e Ao h.bp 108 true;k2=fx.length/\c<=k/\k<(↑fx.length:Int)/\k2=fx.length/\k.toNat<fx.length/\(ek (cY.mk p ch val bn (some m) k1 k2 bA err bp g)/\(c<=a/\a<(↑bp.length:Int))/\nF g<n)/\k2=g.length/\c<=k/\k<(↑g.length:Int)/\k2=g.length/\k.toNat<g.length/\(SV.Gz []).as (SV.Gz [])/\l.as l/\o.as o/\q.as q/\(e j (g.set k.toNat c) 3 true).as (e j fx 3 true)/\True) (by kernel_rfl) ?_;conv=>zeta
  rw[Ω];exact⟨e2,hk.1,hk.2,e2,by omega,⟨hs,ha,hn⟩,e2,hk.1,hk.2,e2,by omega,rfl,rfl,rfl,rfl,hr hb,trivial⟩
theorem K8 {p:cj} {en:Int->Bool} {bA:Int} {f:List Int} (j:dR p f) {c b:cm->Int->List Int->cm} {s:cm} {a:Int}
  (h:∀k d:Int,(0<=k/\k<f.length)->bN f k.toNat 0=0->(d=1\/d= -1)->∀s a,c s a (f.set k.toNat d)=b s a (f.set k.toNat d)):ez p en bA c s a f=ez p en bA b s a f:=by
 unfold ez;split;·rfl
 split;·rfl
 rename_i o;have l:f_ p f=true:=by simp_all
 split;·rfl
 split;·rfl
 rename_i k n;split;·rfl
 obtain⟨e,i,g⟩:=qK n;rw[pA] at e;have m:bN f k.toNat 0=0:=qL (j.ok l) j.r (by omega) i g;simp_all
theorem wL {p:cj} {en:Int->Bool} {bA:Int} {f:List Int} (e:dR p f) {s:cm} {a:Int}:cR p en bA (nF f) s a f=ez p en bA (λs a g=>cR p en bA (nF g) s a g) s a f:=by
 have j:∀k d:Int,(0<=k/\k<f.length)->bN f k.toNat 0=0->(d=1\/d= -1)->nF f=nF (f.set k.toNat d)+1:=λk d c b i=>kN c b (by omega);cases h:nF f with
 |zero=>exact K8 e λk d c b i=>by grind;|succ n=>
  refine K8 e λk d c b i s a=>?_;grind
section
variable {p:cj} {en:Int->Bool} {bA:Int} {f:List Int} {s O:cm} {a k:Int}
theorem wK (b:dR p f) (h:s.err≠0\/s.bn=true):cR p en bA (nF f) s a f=s:=by
 simp_all[wL,ez]
theorem K7 (c:dR p f) (h:¬(s.err≠0\/s.bn=true)) (b:f_ p f=false):cR p en bA (nF f) s a f={s with bp:=s.bp.set a.toNat ze}:=by
 simp_all[wL,ez]
theorem uB (c:dR p f) (h:¬(s.err≠0\/s.bn=true)) (b:f_ p f=true) (d:cF p en s f=O) (e:hJ p f<((O.val+1:Int):Rat)):cR p en bA (nF f) s a f={O with bp:=O.bp.set a.toNat (oX p f)}:=by
 simp_all[wL,ez]
theorem og (b:dR p f) (h:¬(s.err≠0\/s.bn=true)) (d:f_ p f=true) (c:cF p en s f=O) (g:¬hJ p f<((O.val+1:Int):Rat)) (e:iN (cP p f)=none\/bA<(O.bp.length:Int)+2):cR p en bA (nF f) s a f={O with err:=12}:=by
 subst c;rw[wL b];unfold ez;grind
theorem uA (d:dR p f) (h:¬(s.err≠0\/s.bn=true)) (b:f_ p f=true) (g:cF p en s f=O) (i:¬hJ p f<((O.val+1:Int):Rat)) (c:iN (cP p f)=some k) (e:¬bA<(O.bp.length:Int)+2):
  cR p en bA (nF f) s a f=cR p en bA (nF (f.set k.toNat (-1))) (cR p en bA (nF (f.set k.toNat 1)) (fK O a k) (O.bp.length+1) (f.set k.toNat 1)) O.bp.length (f.set k.toNat (-1)):=by
 simp_all[wL,ez,if_neg]
end
theorem ek.IY {x:cY} (h:ek x):ek (x.ix (cF x.p (bI x.en) x.s x.fx)):=by
 obtain⟨d,i,b,a,g⟩:=@Ag x.p (bI x.en) x.s x.fx;obtain⟨m,j,k⟩:=KT h.f;have b:x.val<=(cF x.p (bI x.en) x.s x.fx).val:=b;have a:(cF x.p (bI x.en) x.s x.fx).val=x.val\/(cF x.p (bI x.en) x.s x.fx).val=(nC x.p x.fx).value:=a;have n:=h.v0;have o:=h.v1;refine⟨h.f,rfl,h.k2,?_,?_,h.m0,h.m1,?_,?_⟩
 ·show 0<=(cF x.p (bI x.en) x.s x.fx).val;omega
 ·show(cF x.p (bI x.en) x.s x.fx).val<=_;omega
 ·show(cF x.p (bI x.en) x.s x.fx).bp.length<=_;rw[d];exact h.l
 ·show(cF x.p (bI x.en) x.s x.fx).ch.length<=_;rcases g with e|e;·rw[e];exact h.c
  ·rw[e];omega
theorem ek.uh {x:cY} (h:ek x) {f:List Int} (i:dR x.p f) {n:Nat} {a:Int}:ek (x.ix (cR x.p (bI x.en) x.bA n x.s a f)):=by
 obtain⟨m,g,b,d,k,q⟩:=@pz x.p (bI x.en) x.bA n x.s a f i;have b:x.val<=(cR x.p (bI x.en) x.bA n x.s a f).val:=b;have d:(cR x.p (bI x.en) x.bA n x.s a f).val=x.val\/(cR x.p (bI x.en) x.bA n x.s a f).val<=160000000:=d;have r:=h.v0;have t:=h.v1;have o:=h.m1;have j:=h.l;refine⟨h.f,rfl,h.k2,?_,?_,h.m0,h.m1,?_,?_⟩
 ·show 0<=(cR x.p (bI x.en) x.bA n x.s a f).val;omega
 ·show(cR x.p (bI x.en) x.bA n x.s a f).val<=_;omega
 ·show(cR x.p (bI x.en) x.bA n x.s a f).bp.length<=_;rcases g with e|e;·omega
  ·rw[e];exact j
 ·show(cR x.p (bI x.en) x.bA n x.s a f).ch.length<=_;rcases k with e|e;·rw[e];exact h.c
  ·omega
theorem ek.uj {x:cY} (h:ek x) (b:¬x.bA<(x.bp.length:Int)+2) {k:Nat} {l:List cz} (a:k=l.length) (d:l.length=x.bp.length+2):ek ⟨x.p,x.ch,x.val,x.bn,x.en,k,x.k2,x.bA,x.err,l,x.fx⟩:=
 ⟨h.f,a,h.k2,h.v0,h.v1,h.m0,h.m1,by have:=h.m1;grind,h.c⟩
structure iK where
 left:oz
 bq:oz
 bm:List Int
 value:Int
 won:List Bool
def nd (c w a:Int):Int:=if c=0\/c≠a then w else 0
def uz (p:cj) (x:bD):oz:=⟨nd p.bs.a0 x.bw.a0 (kp p x),nd p.bs.a1 x.bw.a1 (kp p x),nd p.bs.a2 x.bw.a2 (kp p x),nd p.bs.a3 x.bw.a3 (kp p x),nd p.bs.a4 x.bw.a4 (kp p x),nd p.bs.a5 x.bw.a5 (kp p x)⟩
def oz.pos (b:oz):Bool:=decide (0<=b.a0)&&decide (0<=b.a1)&&decide (0<=b.a2)&&decide (0<=b.a3)&&decide (0<=b.a4)&&decide (0<=b.a5)
def fJ (p:cj) (u:iK) (x:bD):oz:=(u.bq.sub (uz p x)).meet (u.left.sub x.bw)
def iJ (p:cj) (u:iK) (x:bD):Bool:=!(bN u.won x.TM.toNat false)&&((u.left.sub x.bw).pos&&(fJ p u x).pos)
def ed (p:cj) (u:iK) (i:Int):iK:=⟨u.left.sub (oI p i).bw,fJ p u (oI p i),u.bm++[i],u.value+(oI p i).value,u.won.set (oI p i).TM.toNat true⟩
def fR (p:cj) (u:iK) (k:Nat):cj:=⟨u.left,u.bq,p.bs,p.bj,(p.bi.drop k).filter (iJ p u)⟩
theorem Cb {x:oz}:dy [x]=x:=by simp[dy]
theorem sx {P:Nat->Prop} (f:P 0) (a:P 1) (b:P 2) (d:P 3) (e:P 4) (c:P 5):∀k,k<6->P k:=by
 grind
theorem wJ {a b:oz}:∀k,k<6->(a.sub b).at k=a.at k - b.at k:=sx rfl rfl rfl rfl rfl rfl
theorem DS {a b:oz}:∀k,k<6->(a.add b).at k=a.at k+b.at k:=sx rfl rfl rfl rfl rfl rfl
theorem K6 {a b:oz}:∀k,k<6->(a.meet b).at k=min (a.at k) (b.at k):=sx rfl rfl rfl rfl rfl rfl
theorem DR {p:cj} {x:bD}:∀k,k<6->(uz p x).at k=nd (p.bs.at k) (x.bw.at k) (kp p x):=sx rfl rfl rfl rfl rfl rfl
theorem BV {p:cj} {x:bD}:∀k,k<6->(dV p x).at k=if p.bs.at k=0\/p.bs.at k=kp p x then 0 else x.bw.at k:=by
 refine sx ?_ ?_ ?_ ?_ ?_ ?_<;>(show oc _ _ _ _ _=_;unfold oc;simp only[show((0:Int)<6)=True by simp,show((1:Int)<6)=True by simp,show((2:Int)<6)=True by simp,show((3:Int)<6)=True by simp,show((4:Int)<6)=True by simp,show((5:Int)<6)=True by simp,true_and];rfl)
theorem K5 {b:oz}:b.pos=true↔∀k,k<6->0<=b.at k:=by
 unfold oz.pos;simp only[θ,decide_eq_true_eq];constructor
 ·rintro⟨⟨⟨⟨⟨g,a⟩,c⟩,e⟩,f⟩,d⟩;exact sx g a c e f d
 ·intro h;exact⟨⟨⟨⟨⟨h 0 (by omega),h 1 (by omega)⟩,h 2 (by omega)⟩,h 3 (by omega)⟩,h 4 (by omega)⟩,h 5 (by omega)⟩
theorem uy {b:oz}:b.ok=true↔∀k,k<6->0<=b.at k/\b.at k<=4:=by
 rw[oz.gT];constructor
 ·rintro⟨g,a,c,e,f,d⟩;exact sx g a c e f d
 ·intro h;exact⟨h 0 (by omega),h 1 (by omega),h 2 (by omega),h 3 (by omega),h 4 (by omega),h 5 (by omega)⟩
theorem DQ {p:cj} {k:Nat} (a:k<6):∀L:List bD,(dy (L.map (uz p))).at k=if p.bs.at k=0 then(dy (L.map bD.bw)).at k else(dy (L.map (dV p))).at k:=by
 intro L;rw[lP,lP,lP];induction L with
 |nil=>simp;|cons x L b=>
  simp only[ξ,List.sum_cons];rw[b,DR k a,BV k a];unfold nd;omega
theorem aZc {p:cj} {k:Nat} (c:k<6) (a:p.bs.at k=0):∀L:List bD,(dy (L.map (dV p))).at k=0:=by
 intro L;rw[lP];induction L with
 |nil=>simp;|cons x L b=>
  simp_all[BV]
theorem BU {p:cj} (c:Good p) {k:Nat} (d:k<6):∀{L:List bD},(∀x∈L,x∈p.bi)->0<=(dy (L.map bD.bw)).at k/\(dy (L.map (dV p))).at k<=(dy (L.map bD.bw)).at k/\0<=(dy (L.map (dV p))).at k:=by
 intro L;rw[lP,lP];induction L with
 |nil=>intro _;simp;|cons x L b=>
  intro h;have e:=b λy a=>h y (γp _ a);have f:=(uy.1 (c.2.2.2.2 x (h x (γv ..))).2.2.1 k d);grind[BV]
theorem qI {p:cj} (c:nW p=0) {k:Nat} (b:k<6):0<=p.bs.at k/\p.bs.at k<=4/\0<=p.bq.at k/\p.bq.at k<=p.bk.at k/\(p.bs.at k=0->p.bq.at k=p.bk.at k):=by
 have h:=mz.1 ((rI (rH c).1).2.1 k b);exact⟨h.1,h.2.1,h.2.2.1,h.2.2.2.1,λd=>by rcases h.2.2.2.2 with a|a;exact absurd d a;exact a⟩
theorem DP {a b:oz}:a.le b=true↔∀k,k<6->a.at k<=b.at k:=⟨λh k _=>A9 h k,B0⟩
structure py (p:cj) (u:iK):Prop where
 f:oh p u.bm
 v:u.value=bG (VJ p u.bm)
 l:∀k,k<6->u.left.at k=p.bk.at k - (dy ((VJ p u.bm).map bD.bw)).at k
 o:∀k,k<6->u.bq.at k=min (p.bq.at k - (dy ((VJ p u.bm).map (uz p))).at k) (u.left.at k)
 wl:u.won.length=8
 w:∀b:Int,0<=b->b<8->bN u.won b.toNat false=decide (b∈(VJ p u.bm).map bD.TM)
theorem DO {p:cj} {t:List Int} (h:kY 0 p.bi.length t):∀x∈VJ p t,x∈p.bi:=λx a=>by
 obtain⟨i,b,rfl⟩:=Γ.1 a;have:=h.2 i b;grind[cB]
section
variable {p:cj} {u:iK}
theorem DN {L M:List bD}:fp p (L++M)↔((L.map bD.TM++M.map bD.TM).Nodup/\(∀k,k<6->(dy (L.map bD.bw)).at k+(dy (M.map bD.bw)).at k<=p.bk.at k)/\∀k,k<6->(dy (L.map (dV p))).at k+(dy (M.map (dV p))).at k<=p.bq.at k):=by
 simp_all[fp,xW,DP,DS]
theorem BT (h:nW p=0) (c:py p u) {x:bD} (m:x∈p.bi):iJ p u x=true↔fp p (VJ p u.bm++[x]):=by
 have b:=cN h;have g:=b.2.2.2.2 x m;have r:=b.1;have q:=DO c.f.1;rw[DN];unfold iJ;rw[θ,θ,K5,K5,δh,c.w _ g.1 (by omega),decide_eq_false_iff_not];simp only[ξ,γw,Cb];have d:∀k,k<6->((0<=(u.left.sub x.bw).at k/\0<=(fJ p u x).at k)↔((dy ((VJ p u.bm).map bD.bw)).at k+x.bw.at k<=p.bk.at k/\(dy ((VJ p u.bm).map (dV p))).at k+(dV p x).at k<=p.bq.at k)):=λk a=>by
  have A:=c.l k a;have t:=c.o k a;have v:=DQ (p:=p) a (VJ p u.bm);have s:=@DR p x k a;have n:=@BV p x k a;have B:=qI h a;have y:=uy.1 g.2.2.1 k a;have j:=BU b a q;unfold fJ;rw[K6 k a,wJ k a,wJ k a,s,n];unfold nd;grind
 constructor
 ·rintro⟨z,e,i⟩;refine⟨?_,λk a=>((d k a).1 ⟨e k a,i k a⟩).1,λk a=>((d k a).1 ⟨e k a,i k a⟩).2⟩;rw[γx];refine⟨c.f.2.1,by simp,?_⟩;simp_all
 grind
theorem py.next (n:nW p=0) (c:py p u) {i:Int} (D:∀j∈u.bm,j<i) (C:0<=i/\i<p.bi.length) (s:iJ p u (oI p i)=true):py p (ed p u i):=by
 have m:oI p i∈p.bi:=cB (by omega);have B:=(BT n c m).1 s;have g:=cN n;have q:=g.2.2.2.2 _ m;have z:=g.1;have e:VJ p (u.bm++[i])=VJ p u.bm++[oI p i]:=by unfold VJ;rw[γb];rfl
 refine⟨⟨⟨?_,?_⟩,?_⟩,?_,?_,?_,?_,?_⟩
 ·show(u.bm++[i]).Pairwise _;rw[δI];exact⟨c.f.1.1,ζH _ _,λa A b q=>by simp_all⟩
 ·intro j t;rcases γi.1 t with h|h;·exact c.f.1.2 j h
  simp_all
 ·show fp p (VJ p (u.bm++[i]));simp_all
 ·show u.value+_=bG (VJ p (u.bm++[i]));rw[e,my,c.v];simp[bG]
 ·intro k d;show(u.left.sub _).at k=_ - (dy ((VJ p (u.bm++[i])).map bD.bw)).at k;rw[e,γb,xW,DS k d,wJ k d,c.l k d];grind[Cb]
 ·intro k d;show(fJ p u (oI p i)).at k=min (_ - (dy ((VJ p (u.bm++[i])).map (uz p))).at k) ((u.left.sub (oI p i).bw).at k);unfold fJ;rw[e,γb,xW,DS k d,K6 k d,wJ k d,wJ k d,c.o k d];grind[Cb,DR,uy,nd]
 ·show(u.won.set _ true).length=8;rw[Ω];exact c.wl
 ·intro b y x;show bN (u.won.set (oI p i).TM.toNat true) b.toNat false=decide (b∈(VJ p (u.bm++[i])).map bD.TM);have r:=c.wl;rw[e,γb,gN (by omega)];simp only[ξ,γw];by_cases h:b=(oI p i).TM;·simp_all
  ·rw[if_neg (by omega),c.w b y x];simp_all
theorem DM (s:nW p=0) (g:py p u) {k:Nat} {M:List bD} (r:∀x∈M,x∈p.bi) (y:∀x∈M,iJ p u x=true):fp (fR p u k) M↔fp p (VJ p u.bm++M):=by
 have d:=cN s;have C:=d.1;have A:=DO g.f.1;rw[DN];unfold fp;rw[DP,DP];have D:∀x:bD,dV (fR p u k) x=dV p x:=λx=>rfl;have n:M.map (dV (fR p u k))=M.map (dV p):=rfl;rw[n];have h:∀j,j<6->(((dy (M.map bD.bw)).at j<=(fR p u k).bk.at j/\(dy (M.map (dV p))).at j<=(fR p u k).bq.at j)↔((dy ((VJ p u.bm).map bD.bw)).at j+(dy (M.map bD.bw)).at j<=p.bk.at j/\(dy ((VJ p u.bm).map (dV p))).at j+(dy (M.map (dV p))).at j<=p.bq.at j)):=λj c=>by
  have H:=g.l j c;have F:=g.o j c;have G:=DQ (p:=p) c (VJ p u.bm);have J:=qI s c;have I:=BU d c A;have K:=BU d c r;have L:(fR p u k).bk.at j=u.left.at j:=rfl;have E:(fR p u k).bq.at j=u.bq.at j:=rfl;omega
 constructor
 ·rintro⟨z,v,q⟩;refine⟨?_,λj c=>((h j c).1 ⟨v j c,q j c⟩).1,λj c=>((h j c).1 ⟨v j c,q j c⟩).2⟩;rw[γx];refine⟨g.f.2.1,z,?_⟩;intro a B b i e;subst e;obtain⟨x,t,rfl⟩:=Γ.1 i;have m:=y x t;have i:=d.2.2.2.2 x (r x t);unfold iJ at m;rw[θ,δh,g.w _ i.1 (by omega),decide_eq_false_iff_not] at m;exact m.1 B
 grind
theorem K4 {q:cj} (d:gS q=0) (h:∀x∈q.bi,jA q x=0) (b:(q.bi.map bD.key).Nodup):nW q=0:=by
 have a:∀(l:List bD) (s:List mK),(∀x∈l,jA q x=0)->(l.map bD.key).Nodup->(∀x∈l,x.key∉s)->ic q s l=0:=by
  intro l;induction l with
  |nil=>intro s _ _ _;rfl;|cons x l c=>
   simp_all[ic]
 simp_all[nW]
theorem BS (e:nW p=0) (g:py p u) {k:Nat}:nW (fR p u k)=0:=by
 have v:=cN e;have C:=DO g.f.1;have r:=(DN (p:=p) (L:=VJ p u.bm) (M:=[])).1 (by rw[γ0];exact g.f.2);obtain⟨d,q⟩:=rH e;obtain⟨J,H,P,R,N⟩:=rI d;have s:∀x∈(fR p u k).bi,x∈p.bi/\iJ p u x=true:=λx n=>by
  obtain⟨c,w⟩:=Ψ.1 n;grind
 have F:(dy (([]:List bD).map bD.bw))=oz.zero:=rfl;have h:∀j,j<6->0<=u.left.at j/\u.left.at j<=4:=λj a=>by
  have B:=g.l j a;have O:=BU v a C;have w:=r.2.1 j a;have t:(dy (([]:List bD).map bD.bw)).at j=0:=by rw[lP];rfl
  grind[uy]
 have i:∀j,j<6->0<=u.bq.at j/\u.bq.at j<=u.left.at j/\(p.bs.at j=0->u.bq.at j=u.left.at j):=λj a=>by
  have B:=g.l j a;have I:=g.o j a;have D:=DQ (p:=p) a (VJ p u.bm);have m:=qI e a;have w:=r.2.1 j a;have E:=r.2.2 j a;have t:(dy (([]:List bD).map bD.bw)).at j=0:=by rw[lP];rfl
  grind
 refine K4 ?_ (λx n=>?_) ?_
 ·have Q:(fR p u k).bk.ok=true:=uy.2 h;have G:AU (fR p u k)=true:=xm.2 λj a=>mz.2 (by
   have m:=qI e a;have b:=i j a;refine⟨m.1,m.2.1,b.1,b.2.1,?_⟩;by_cases z:p.bs.at j=0;·exact .inr (b.2.2 z)
   ·exact .inl z);have K:(fR p u k).bi.length<=p.bi.length:=by
   have c:=δf (iJ p u) (p.bi.drop k);rw[εw] at c;show((p.bi.drop k).filter (iJ p u)).length<=_;omega
  have y:(fR p u k).bj=p.bj:=rfl;unfold gS;grind
 ·obtain⟨c,w⟩:=s x n;have b:=q x c;unfold jA at b ⊢;have y:(fR p u k).bj=p.bj:=rfl;rw[y];split at b;·omega
  ·rename_i t;rw[if_neg t];split at b;·cases b
   ·rename_i A;rw[if_neg A];grind[DM,BT,My]
 ·have c:=(Ba (by
   have:=e;unfold nW at this;rw[if_neg (by rw[d];simp)] at this;exact this)).1;exact((List.filter_sublist.trans (List.drop_sublist k _)).map bD.key).nodup c
end
theorem BR {a b c:bC} (h:¬ll a b) (k:¬ll b c):¬ll a c:=λd=>by
 grind[Mq,Xc]
theorem K3 {a b:bC}:¬ll a (cw a b)/\¬ll b (cw a b):=by
 unfold cw;split
 ·rename_i h;have h:ll a b:=h;grind[zE,Mq]
 ·rename_i h;exact⟨h,zE⟩
theorem xk {p:cj}:∀{k:Nat} {i:Int} {a b:bC},¬ll b (jx p k i a b)
 |0,_,_,b=>by grind[jx,zE];|k+1,i,a,b=>by
  simp only[jx];refine BR ?_ xk;split;·exact BR K3.2 xk
  ·exact zE
theorem DL {p:cj} (o:Good p):∀{k:Nat} {i:Int} {a b:bC} {t:List Int},0<=i->i+k<=p.bi.length->t≠[]->kY i k t->jU p (a.bm++t)=true->¬ll ⟨a.bm++t,a.value+bG (VJ p t)⟩ (jx p k i a b)
 |0,i,a,b,t,_,_,r,c,_=>by
  cases t with
  |nil=>simp_all;|cons j t=>
   have:=c.2 j (by simp);omega
 |k+1,i,a,b,t,y,x,r,c,s=>by
  cases t with
  |nil=>simp_all;|cons j t=>
   have w:=c.2 j (by simp);have u:=γr.1 c.1;simp only[jx];by_cases n:j=i
   ·subst n;have g:Bf p t:=λm l=>by
     have:=c.2 m (by simp[l]);omega
    have d:jU p (a.bm++[j]++t)=true:=by simp_all
    have q:jU p (a.bm++[j])=true:=Og o g d;rw[if_pos q];refine BR ?_ xk;rw[qs];simp only[bG];cases t with
    |nil=>
     grind[BR,xk,K3,bG,VJ,jT];|cons h f=>
     have:=DL o (k:=k) (i:=j+1) (a:=⟨a.bm++[j],a.value+jT p j⟩) (b:=cw ⟨a.bm++[j],a.value+jT p j⟩ b) (t:=h::f) (by omega) (by omega) (by simp) ⟨u.2,λm l=>by
      have v:=c.2 m (γp _ l);grind⟩ d;have e:(⟨a.bm++j::h::f,a.value+((bN p.bi j.toNat ew.bt.bu).value+bG (VJ p (h::f)))⟩:bC)=⟨a.bm++[j]++h::f,a.value+jT p j+bG (VJ p (h::f))⟩:=by
      simp only[bC.mk.injEq,γG,γM,List.nil_append,jT,true_and];omega
     simp_all
   ·exact DL o (by omega) (by omega) (by simp) ⟨c.1,λm l=>by
     have v:=c.2 m l;grind⟩ s
theorem DK {p:cj} (e:Good p) {t:List Int} (d:oh p t):¬ll ⟨t,bG (VJ p t)⟩ (M9 p):=by
 rw[FX];by_cases c:t=[]
 ·subst c;exact xk
 ·have:=DL e (k:=p.bi.length) (i:=0) (a:=⟨[],0⟩) (b:=⟨[],0⟩) (t:=t) (by omega) (by omega) c d.1 (by simpa[jU] using d.2);simp_all
theorem ux:∀{c a b:List Int},bE (c++a) (c++b)=bE a b
 |[],_,_=>rfl
 |x::c,a,b=>by
  simp only[γM,bE,Int.lt_irrefl,if_false];exact ux
noncomputable def oV (p:cj) (a:Int) (u:iK) (i:Int):iK:=
 if u.value=a then u else if iJ p u (oI p i)=true then(if je (fR p (ed p u i) (i+1).toNat) (a - (ed p u i).value) 65536=true then ed p u i else u) else u
noncomputable def jd (p:cj) (a:Int):Nat->iK
 |0=>⟨p.bk,p.bq,[],0,δ 8 false⟩
 |n+1=>oV p a (jd p a n) n
theorem mj {p:cj} (d:nW p=0):py p ⟨p.bk,p.bq,[],0,δ 8 false⟩:=by
 have a:=cN d;refine⟨KN a,rfl,λk c=>?_,λk c=>?_,rfl,λb f e=>?_⟩
 ·show _=_ - (dy (([]:List bD).map bD.bw)).at k;grind[lP]
 ·show _=min (_ - (dy (([]:List bD).map (uz p))).at k) _;simp_all[lP,qI,min]
 ·show _=decide (b∈([]:List Int));grind[bW]
theorem Eg {i:Int}:∀{L:List Int},L.Pairwise (·<·)->L=L.filter (λj=>decide (j<i))++L.filter (λj=>!decide (j<i))
 |[],_=>rfl
 |x::L,h=>by
  have a:=γr.1 h;have c:=Eg (i:=i) a.2;by_cases d:x<i;·grind
  ·have e:L.filter (λj=>decide (j<i))=[]:=δS.2 λj b=>by grind
   grind
theorem Td {i:Int} {L:List Int} (h:i∉L):L.filter (λj=>decide (j<i+1))=L.filter (λj=>decide (j<i)):=by
 refine List.filter_congr λj a=>?_;grind
theorem Tc {i:Int} {L:List Int} (b:L.Pairwise (·<·)) (h:i∈L):L.filter (λj=>decide (j<i+1))=L.filter (λj=>decide (j<i))++[i]/\L=L.filter (λj=>decide (j<i))++i::L.filter (λj=>decide (i<j)):=by
 induction L with
 |nil=>cases h;|cons x L f=>
  have g:=γr.1 b;by_cases c:x=i
  ·subst c;have e:L.filter (λj=>decide (j<x))=[]:=δS.2 λj a=>by grind
   have k:L.filter (λj=>decide (j<x+1))=[]:=δS.2 λj a=>by grind
   have d:L.filter (λj=>decide (x<j))=L:=δ8.2 λj a=>by simp_all
   grind
  grind
theorem JL {p:cj} (a:Good p):∀{L:List bD},(∀x∈L,x∈p.bi)->L≠[]->0<bG L
 |[],_,h=>absurd rfl h
 |x::L,h,_=>by
  have c:=(a.2.2.2.2 x (h x (γv ..))).2.2.2.1;have d:=(oA a (l:=L) λy b=>h y (γp _ b)).1;grind[bG]
theorem Ta {p:cj} (i:nW p=0) {k:Nat} (d:k<=p.bi.length) {M:List bD} (g:∀x∈M,x∈p.bi.drop k) (c:M.Nodup):∃t:List Int,t.Pairwise (·<·)/\(∀j∈t,(k:Int)<=j/\j<p.bi.length)/\(VJ p t).Perm M:=by
 obtain⟨t,b,h,a⟩:=FT (λx=>decide (x∈M)) (p.bi.drop k) (p.bi.take k);have e:(p.bi.take k).length=k:=by simp_all
 refine⟨t,b,λj f=>?_,?_⟩;·grind
 ·rw[List.take_append_drop] at a;unfold VJ;rw[a];refine(List.perm_ext_iff_of_nodup ?_ c).2 λx=>?_;·grind[MH]
  simp_all
theorem oU {p:cj} (d:nW p=0):oh p (M9 p).bm/\(M9 p).value=bG (VJ p (M9 p).bm):=by
 obtain⟨_,a,b,c⟩:=Mt d;exact⟨⟨b,a⟩,c⟩
theorem Ef {p:cj} (m:nW p=0) (W:p.bi.length<=15):∀n:Nat,n<=p.bi.length->py p (jd p (M9 p).value n)/\(jd p (M9 p).value n).bm=(M9 p).bm.filter λ(j:Int)=>decide (j<(n:Int))
 |0,_=>⟨mj m,by
   have h:=(oU m).1.1.2;exact(δS.2 λj g=>by simp_all).symm⟩
 |n+1,hn=>by
  obtain⟨G,P⟩:=Ef m W n (by omega);have o:=cN m;obtain⟨⟨⟨hs,hr⟩,hF⟩,hv⟩:=oU m;have a7:oh p (M9 p).bm:=⟨⟨hs,hr⟩,hF⟩;have I:∀j∈(jd p (M9 p).value n).bm,j<(n:Int):=λj g=>by
   simp_all
  have N:((n:Nat):Int)+1=((n+1:Nat):Int):=by omega
  have J:(0:Int)<=n/\(n:Int)<p.bi.length:=by omega
  have q:oI p n∈p.bi:=cB (by omega);have a4:=Eg (i:=(n:Int)) hs;show py p (oV p (M9 p).value (jd p (M9 p).value n) n)/\(oV p (M9 p).value (jd p (M9 p).value n) n).bm=_;generalize jd p (M9 p).value n=u at*;have C:∀{t:List Int},(∀j∈t,j∈(M9 p).bm)->∀x∈VJ p t,x∈p.bi:=λht x q=>by
   obtain⟨j,g,rfl⟩:=Γ.1 q;have:=hr j (ht j g);exact cB (by omega)
  by_cases e:u.value=(M9 p).value
  ·unfold oV;rw[if_pos e];refine⟨G,?_⟩;have R:(M9 p).bm.filter (λj=>!decide (j<(n:Int)))=[]:=by
    refine Classical.byContradiction λU=>?_;have S:=JL o (L:=VJ p ((M9 p).bm.filter (λj=>!decide (j<(n:Int))))) (C λj g=>(Ψ.1 g).1) (by unfold VJ;simpa using U);rw[G.v,P,hv] at e;grind[rG,my]
   have a1:∀j∈(M9 p).bm,j<(n:Int):=λj g=>by
    grind
   rw[P,δ8.2 λj g=>by grind];exact(δ8.2 λj g=>by grind).symm
  ·by_cases K:(n:Int)∈(M9 p).bm
   ·obtain⟨f1,f2⟩:=Tc hs K;rw[<-P] at f1 f2;have A:fp p (VJ p u.bm++[oI p n]++VJ p ((M9 p).bm.filter λj=>decide ((n:Int)<j))):=by
     have:VJ p u.bm++[oI p n]++VJ p ((M9 p).bm.filter λj=>decide ((n:Int)<j))=VJ p (M9 p).bm:=by
      conv=>rhs;rw[f2]
      rw[rG,qs,γG];rfl
     grind
    have B:=C (t:=(M9 p).bm.filter λj=>decide ((n:Int)<j)) λj g=>(Ψ.1 g).1;have Q:iJ p u (oI p n)=true:=(BT m G q).2 (Be o B A);have c:=G.next m I J Q;have z:=BS (k:=((n:Int)+1).toNat) m c;have r:VJ p (ed p u n).bm=VJ p u.bm++[oI p n]:=by
     show VJ p (u.bm++[(n:Int)])=_;rw[rG];rfl
    have O:∀x∈VJ p ((M9 p).bm.filter λj=>decide ((n:Int)<j)),iJ p (ed p u n) x=true:=λx w=>by
     refine(BT m c (B x w)).2 ?_;rw[r];obtain⟨s,t,a0⟩:=List.append_of_mem w;have F:(VJ p u.bm++[oI p n]++VJ p ((M9 p).bm.filter λj=>decide ((n:Int)<j))).Perm (VJ p u.bm++[oI p n]++[x]++(s++t)):=by
      rw[a0,γG (VJ p u.bm++[oI p n])];refine ζS _ ?_;exact List.perm_middle
     refine Be o (M:=s++t) (λy hy=>B y ?_) (Bb F A);grind
    have Y:=(DM (k:=((n:Int)+1).toNat) m c B O).2 (by grind);have Z:∀x∈VJ p ((M9 p).bm.filter λj=>decide ((n:Int)<j)),x∈(fR p (ed p u n) ((n:Int)+1).toNat).bi:=λx w=>by
     refine Ψ.2 ⟨?_,O x w⟩;obtain⟨j,g,rfl⟩:=Γ.1 w;obtain⟨V,a8⟩:=Ψ.1 g;have h3:=hr j V;have h4:(n:Int)<j:=by grind
     rw[bW (by omega)];rw[List.mem_iff_getElem];exact⟨j.toNat - ((n:Int)+1).toNat,by grind,by rw[List.getElem_drop];congr 1;omega⟩
    have H:=SK z Y Z;rw[zF z] at H;have a2:(M9 p).value=(ed p u n).value+bG (VJ p ((M9 p).bm.filter λj=>decide ((n:Int)<j))):=by
     rw[c.v,r,hv];conv=>lhs;rw[f2,rG,qs,my]
     rw[my];grind[bG,oI]
    have T:(fR p (ed p u n) ((n:Int)+1).toNat).bi.length<=15:=by
     have S:=δf (iJ p (ed p u n)) (p.bi.drop ((n:Int)+1).toNat);rw[εw] at S;show((p.bi.drop _).filter _).length<=15;omega
    have l:iq (fR p (ed p u n) ((n:Int)+1).toNat) ((M9 p).value - (ed p u n).value) 65536=0:=D2 z (by omega) (by
     have:2^((fR p (ed p u n) ((n:Int)+1).toNat).bi.length+1)<=2^16:=δt (by omega) (by omega);omega);have E:je (fR p (ed p u n) ((n:Int)+1).toNat) ((M9 p).value - (ed p u n).value) 65536=true:=(KI z l).2 (by omega);unfold oV;rw[if_neg e,if_pos Q,if_pos E];refine⟨c,?_⟩;rw[<-N,f1];rfl
   ·rw[<-N,Td K,<-P];unfold oV;rw[if_neg e];split
    ·rename_i Q;split
     ·rename_i E;exfalso;have c:=G.next m I J Q;have z:=BS (k:=((n:Int)+1).toNat) m c;have r:VJ p (ed p u n).bm=VJ p u.bm++[oI p n]:=by
       show VJ p (u.bm++[(n:Int)])=_;rw[rG];rfl
      have T:(fR p (ed p u n) ((n:Int)+1).toNat).bi.length<=15:=by
       have S:=δf (iJ p (ed p u n)) (p.bi.drop ((n:Int)+1).toNat);rw[εw] at S;show((p.bi.drop _).filter _).length<=15;omega
      have l:iq (fR p (ed p u n) ((n:Int)+1).toNat) ((M9 p).value - (ed p u n).value) 65536=0:=D2 z (by omega) (by
       have:2^((fR p (ed p u n) ((n:Int)+1).toNat).bi.length+1)<=2^16:=δt (by omega) (by omega);omega);have a6:=(KI z l).1 E;obtain⟨M,m1,m2,m3⟩:=Tv z;rw[zF z] at m3;have D:∀x∈M,x∈p.bi.drop ((n:Int)+1).toNat/\iJ p (ed p u n) x=true:=λx q=>Ψ.1 (m2 x q);have A:=(DM m c (λx q=>List.mem_of_mem_drop (D x q).1) λx q=>(D x q).2).1 m1;obtain⟨t,t1,t2,t3⟩:=Ta m (k:=((n:Int)+1).toNat) (by omega) (λx q=>(D x q).1) (A_ bD.TM m1.1);have hT:oh p (u.bm++(n:Int)::t):=by
       refine⟨⟨?_,?_⟩,?_⟩
       ·rw[δI];refine⟨G.f.1.1,γr.2 ⟨λj g=>by grind,t1⟩,λa ha b hb=>?_⟩;grind
       ·intro j g;rcases γi.1 g with h|h;·grind
        ·rcases List.mem_cons.1 h with rfl|h<;>grind
       ·rw[rG,qs];refine Bb ?_ A;rw[r,γG];exact ζS _ (List.Perm.cons _ t3.symm)
      have a3:bG (VJ p (u.bm++(n:Int)::t))=(ed p u n).value+bG M:=by
       rw[c.v,r,rG,qs,my,my,<-MI t3];grind[bG,oI]
      have H:=xT o hT.1 (decide_eq_true hT.2);refine DK o hT (.inr ⟨(show bG (VJ p (u.bm++(n:Int)::t))=(M9 p).value by omega),?_⟩);show bE (u.bm++(n:Int)::t) (M9 p).bm<0;have R:(M9 p).bm=u.bm++(M9 p).bm.filter (λj=>!decide (j<(n:Int))):=by grind
      have a5:(M9 p).bm.filter (λj=>!decide (j<(n:Int)))≠[]:=λh=>by
       rw[h,γ0] at R;refine e ?_;rw[G.v,<-R,hv]
      have X:∀j∈(M9 p).bm.filter (λj=>!decide (j<(n:Int))),(n:Int)<j:=λj g=>by
       grind
      rw[R];generalize (M9 p).bm.filter (λj=>!decide (j<(n:Int)))=d at*;cases d with
      |nil=>grind;|cons j d=>
       rw[ux];have:=X j (by simp);simp only[bE];omega
     grind
    grind
theorem JK {p:cj} (b:nW p=0) (a:p.bi.length<=15):(jd p (M9 p).value p.bi.length).bm=(M9 p).bm:=by
 rw[(Ef b a p.bi.length (π _)).2];have h:=(oU b).1.1.2;simp_all
def od (p:cj) (c:List Int) (b:bC):bC:=if b.value<cC p c then⟨c,cC p c⟩ else b
noncomputable def im (p:cj):Nat->Int->List Int->bC->bC
 |0,_,_,b=>b
 |k+1,i,c,b=>im p k (i+1) c (if bU p (c++[i])=0 then im p k (i+1) (c++[i]) (od p (c++[i]) b) else b)
noncomputable def jG (p:cj) (c:List Int) (i:Int) (b:bC):bC:=im p (di p i) i c (od p c b)
theorem S_ {c t:List Int}:¬bE (c++t) c<0:=by
 have h:=@ux c t [];rw[γ0] at h;rw[h];cases t<;>simp[bE]
theorem Ee {p:cj} {Q:List Int->Prop}:∀{k:Nat} {i:Int} {c:List Int} {b:bC},(∀s,Q (c++s))->Q b.bm->Q (im p k i c b).bm
 |0,_,_,_,_,h=>h
 |k+1,i,c,b,hs,h=>by
  simp only[im];refine Ee hs ?_;split
  ·refine Ee (λs=>by rw[γG];exact hs _) ?_;unfold od;split;·exact hs [i]
   ·exact h
  ·exact h
theorem Ed {p:cj} (hc:nW p=0):∀{k:Nat} {i:Int} {c:List Int} {b:bC},0<=i->i+k=p.bi.length->kY 0 i.toNat c->bU p c=0->(∀j t,i<=j->¬bE (c++j::t) b.bm<0)->jx p k i ⟨c,cC p c⟩ b=im p k i c b
 |0,_,_,_,_,_,_,_,_=>rfl
 |k+1,i,c,b,h0,h1,hi,hf,hb=>by
  simp only[jx,im];have hin:kY 0 p.bi.length (c++[i]):=by
   refine⟨δI.2 ⟨hi.1,ζH _ _,λa ha b hb=>?_⟩,λj hj=>?_⟩
   ·rw[δd.1 hb];have:=hi.2 a ha;omega
   ·rcases γi.1 hj with hj|hj
    ·have:=hi.2 j hj;omega
    ·rw[δd.1 hj];omega
  have hcond:jU p (c++[i])=true↔bU p (c++[i])=0:=by
   rw[oW hc];unfold jU;rw[decide_eq_true_eq];exact⟨λh=>⟨hin,h⟩,λh=>h.2⟩
  have aMc:∀{b':bC},(∀j t,i+1<=j->¬bE (c++j::t) b'.bm<0)->jx p k (i+1) ⟨c,cC p c⟩ b'=im p k (i+1) c b':=λh=>
   Ed hc (by omega) (by omega) ⟨hi.1,λj hj=>by have:=hi.2 j hj;omega⟩ hf h;by_cases h:bU p (c++[i])=0
  ·rw[if_pos (hcond.2 h),if_pos h];have hv:cC p c+jT p i=cC p (c++[i]):=by
    rw[uF hc ((oW hc).1 hf),uF hc ((oW hc).1 h)];unfold VJ;rw[γb,my];simp[bG,jT,oI]
   have hu:cw ⟨c++[i],cC p (c++[i])⟩ b=od p (c++[i]) b:=by
    unfold cw od;have:=hb i [] (by omega);by_cases hw:b.value<cC p (c++[i]);·rw[if_pos (.inl hw),if_pos hw]
    ·rw[if_neg (λh=>h.elim hw λh=>this h.2),if_neg hw]
   rw[hv,hu];have hQ:∀j t,i+1<=j->¬bE (c++[i]++j::t) (od p (c++[i]) b).bm<0:=λj t hj=>by
    unfold od;split;·exact S_
    ·rw[γG];exact hb i (j::t) (by omega)
   rw[Ed hc (by omega) (by omega) ⟨hin.1,λj hj=>by
    rcases γi.1 hj with hj|hj
    ·have:=hi.2 j hj;omega
    ·rw[δd.1 hj];omega⟩ h hQ];refine aMc (Ee (Q:=λl=>∀j t,i+1<=j->¬bE (c++j::t) l<0) (λs j t hj=>?_) λj t hj=>?_)
   ·rw[γG,ux];show ¬bE (j::t) (i::s)<0;simp only[bE];rw[if_neg (by omega),if_pos (by omega)];decide
   ·unfold od;split
    ·rw[ux];show ¬bE (j::t) [i]<0;simp only[bE];rw[if_neg (by omega),if_pos (by omega)];decide
    ·exact hb j t (by omega)
  ·rw[if_neg (λq=>h (hcond.1 q)),if_neg h];exact aMc λj t hj=>hb j t (by omega)
theorem S9 {p:cj} (hc:nW p=0):jG p [] 0 ⟨[],0⟩=M9 p:=by
 have hn:bU p []=0:=(oW hc).2 (KN (cN hc));have hv:cC p []=0:=by rw[uF hc ((oW hc).1 hn)];rfl
 have h:=Ed hc (k:=di p 0) (i:=0) (c:=[]) (b:=⟨[],0⟩) (by omega) (by unfold di;omega) ⟨δv,λj hj=>by cases hj⟩ hn (λj t _=>by simp[bE]);have hu:od p [] ⟨[],0⟩=⟨[],0⟩:=by unfold od;rw[hv];rfl
 have hb:cw ⟨[],0⟩ ⟨[],0⟩=⟨[],0⟩:=by unfold cw;simp[bE]
 unfold jG M9 F3;rw[hu,hb,<-h,hv]
def uw (p:cj) (c:List Int) (i:Int) (b:bC):Prop:=nW p=0/\(0<=i/\i<=p.bi.length)/\c.length<=i/\b.bm.length<=160
noncomputable def mN (n:Nat):NG:=⟨35,cj×List Int×Int×bC,.cons cX (.cons (cQ (.i .i64)) (.cons (dZ .i64) (.one kr))),λa=>uw a.1 a.2.1 a.2.2.1 a.2.2.2/\di a.1 a.2.2.1<n,
 λa=>kr.put (jG a.1 a.2.1 a.2.2.1 a.2.2.2)⟩
noncomputable def M6 (n:Nat):List NG:=[mN n,Cd,Ce]
noncomputable def BQ (p:cj) (c:List Int) (f:Int) (b:bC) (dd:TP):Nat->bK
 |5=> .inv (Int×bC) (λx=>⟨[(1,.row (.i .i64) c),(4,.ptr 0 0 20),(7,.ptr 1 0 2),(8,.ptr 2 0 2),(10,.si .i64 x.1)],
   [.cells p.ss 27 20 false,.cells [.row (.i .i64) x.2.bm,.si .i64 x.2.value] 40 2 false,.cells [.sc (.slice none 0 0),.il .i64 0] 40 2 false]++dd⟩)
   (λs=>(iS s 10,aS s 1)) (λx=>f<=x.1/\x.1<=p.bi.length/\x.2.bm.length<=160/\jG p c f b=im p (di p x.1) x.1 c x.2) (λx=>di p x.1) λ_ _=> .bz
 |_=> .bz
theorem Ec {p:cj} (hN:p.bi.length<=160):∀{k:Nat} {i:Int} {c:List Int} {b:bC},c.length<=i->i+k<=p.bi.length->b.bm.length<=160->(im p k i c b).bm.length<=160
 |0,_,_,_,_,_,h=>h
 |k+1,i,c,b,h1,h2,h3=>by
  simp only[im];refine Ec hN (by omega) (by omega) ?_;split
  ·refine Ec hN (by simp;omega) (by omega) ?_;unfold od;split;·simp;omega
   ·exact h3
  ·exact h3
theorem JJ {p:cj} (hN:p.bi.length<=160) {c:List Int} {i:Int} {b:bC} (h0:0<=i) (h1:i<=p.bi.length) (h2:c.length<=i) (h3:b.bm.length<=160):(jG p c i b).bm.length<=160:=by
 unfold jG;refine Ec hN h2 (by unfold di;omega) ?_;unfold od;split;·simp only;omega
 ·exact h3
theorem I6 {env:_} {x0:iZ} {c:List Int} {v:Int} {n m:_} {b:Bool} {r:TP}:aS ⟨env,x0:: .cells [.row (.i .i64) c,.si .i64 v] n m b::r⟩ 1=⟨c,v⟩:=rfl
theorem TE (n:Nat) (p:cj) (c:List Int) (f:Int) (b:bC) (h:uw p c f b) (hn:di p f<n+1) (hv:b.value<cC p c):
  Vc (oo (kx (M6 n) ky.none ml mq fQ) (BQ p c f b [.dead,.dead]) (fG 35) ((mN (n+1)).A.put (p,c,f,b)) λv=>v.as ((mN (n+1)).res (p,c,f,b))):=by
 obtain⟨d,w⟩:=b;refine NI (let a:=γj .i64;let b:=γa;let e:=iZ.cells;let g:=γV;let z:=(↑p.bi.length:Int);let s:=jG p c f (bC.mk d w);let t:=0+c.length;let D:=c.length+1;let h:=ew.i .i64;let m:=g 0 0 20;let o:=g 1 0 2;let q:=g 2 0 2;let r:=e [a p.bk.a0,a p.bk.a1,a p.bk.a2,a p.bk.a3,a p.bk.a4,a p.bk.a5,a p.bq.a0,a p.bq.a1,a p.bq.a2,a p.bq.a3,a p.bq.a4,a p.bq.a5,a p.bs.a0,a p.bs.a1,a p.bs.a2,a p.bs.a3,a p.bs.a4,a p.bs.a5,b h p.bj,b ew.bt p.bi] 27 20 false;let A:=(1,b h c);let k:=e [SV.sc (Value.slice none 0 0),γC .i64 0] 40 2 false;let B:=[iZ.dead,iZ.dead];let v:=a f;let E:=decide (w<cC p c);let F:=∀(x:Int×bC),let j:=x.1+(1:Int);let C:=a j;let G:=decide (x.1<(↑p.bi.length:Int));let l:=c++[x.1];let H:=decide (bU p l=(0:Int));let I:=λ(u:bC) ↦let J:=e [b h u.bm,a u.value] 40 2 false;let y:=aS (bF.mk [A,(4,m),(7,o),(8,q),(10,C)] (r::J::k::B)) 1;VL .i64 j/\(((b h c).as (b h c)/\m.as m/\o.as o/\q.as q/\C.as C/\True)/\r.as r/\J.as (e [b h y.bm,a y.value] 40 2 false)/\k.as k/\iZ.dead.as iZ.dead/\iZ.dead.as iZ.dead/\True)/\(f<=j/\j<=z/\y.bm.length<=160/\s=im p (di p j) j c y)/\di p j<di p x.1;f<=x.1/\x.1<=z/\x.2.bm.length<=160/\s=im p (di p x.1) x.1 c x.2->(G=true->0=0/\t*8<=140737488355328/\t<=1000000000000/\c.length=c.length/\D*8<=140737488355328/\D<=1000000000000/\l.length=l.length/\l.length<=9223372036854775807/\(H=true->l.length=l.length/\VL .i64 j/\(uw p l j x.2/\di p j<n)/\I (jG p l j x.2))/\(H=false->I x.2))/\(G=false->(γN [b h x.2.bm,a x.2.value]).as (γN [b h s.bm,a s.value]));let K:=r.as r;let L:=(b h c).as (b h c)/\m.as m/\o.as o/\q.as q/\v.as v/\True;let M:=λ(u:List Int) (u_1:Int) (u_2:List iZ) ↦let N:=e [b h u,a u_1] 40 2 false;let O:=aS (bF.mk [A,(4,m),(7,o),(8,q),(10,v)] (r::N::k::u_2)) 1;N.as (e [b h O.bm,a O.value] 40 2 false);let P:=λ(u:List Int) (u_1:Int) (u_2:List iZ) ↦let Q:=aS (bF.mk [A,(4,m),(7,o),(8,q),(10,v)] (r::e [b h u,a u_1] 40 2 false::k::u_2)) 1;f<=f/\f<=z/\Q.bm.length<=160/\s=im p (di p f) f c Q;c.length<=9223372036854775807/\(E=true->0=0/\t*8<=140737488355328/\t<=1000000000000/\c.length=c.length/\((L/\K/\M c (cC p c) B/\k.as k/\iZ.dead.as iZ.dead/\iZ.dead.as iZ.dead/\True)/\P c (cC p c) B)/\F)/\(E=false->((L/\K/\M d w []/\k.as k/\False)/\P d w [])/\F)) (by kernel_rfl) ?_;conv=>zeta
 obtain⟨hc,hf,hcl,hdl⟩:=h;simp only at hcl hdl hv;simp only[vcs,I6];have hN:p.bi.length<=160:=(cN hc).2.1;have ix:jG p c f ⟨d,w⟩=im p (di p f) f c (if w<cC p c then⟨c,cC p c⟩ else⟨d,w⟩):=rfl;have round:∀x:Int×bC,f<=x.1/\x.1<=p.bi.length/\x.2.bm.length<=160/\jG p c f ⟨d,w⟩=im p (di p x.1) x.1 c x.2->x.1<p.bi.length->
   di p x.1=di p (x.1+1)+1/\di p (x.1+1)<n/\di p (x.1+1)<di p x.1/\(c++[x.1]).length=c.length+1/\
   jG p c f ⟨d,w⟩=im p (di p (x.1+1)) (x.1+1) c (if bU p (c++[x.1])=0 then jG p (c++[x.1]) (x.1+1) x.2 else x.2):=λx hx hlt=>by
  obtain⟨h1,h2,h3,h4⟩:=hx;have hl:di p x.1=di p (x.1+1)+1:=by unfold di;omega
  have hlf:di p x.1<=di p f:=by unfold di;omega
  refine⟨hl,by omega,by omega,by simp,?_⟩;rw[h4,hl];rfl
 have len:∀{c':List Int} {i:Int} {b:bC},0<=i->i<=p.bi.length->c'.length<=i->b.bm.length<=160->(jG p c' i b).bm.length<=160:=λh0 h1 h2 h3=>JJ hN h0 h1 h2 h3;refine⟨by omega,λh1=>⟨by omega,by omega,⟨by omega,by omega,by omega,?_⟩,?_⟩,λh1=>absurd hv h1⟩;·rw[ix,if_pos h1]
 ·rintro⟨i,⟨e,u⟩⟩ hx;obtain⟨hi0,hi1,hs,hi⟩:=id hx;simp only at hi0 hi1 hs hi;refine⟨λhlt=>?_,λhge=>?_⟩
  ·obtain⟨r1,r2,r3,r4,r5⟩:=round ⟨i,⟨e,u⟩⟩ hx hlt;simp only at r1 r2 r3 r5;have r4:(c++[i]).length=c.length+1:=r4;refine⟨by omega,by omega,by omega,by omega,by omega,λhr=>?_,λhr=>?_⟩
   ·rw[if_pos hr] at r5;exact⟨by omega,⟨⟨hc,by omega,by omega,hs⟩,r2⟩,by omega,⟨by omega,by omega,len (by omega) (by omega) (by omega) hs,r5⟩,r3⟩
   ·rw[if_neg hr] at r5;refine⟨?_,⟨?_,?_,hs,r5⟩,r3⟩<;>omega
  ·have hl:di p i=0:=by unfold di;omega
   rw[hl] at hi;simp only[im] at hi;rw[hi];exact rfl
theorem TD (n:Nat) (p:cj) (c:List Int) (f:Int) (b:bC) (h:uw p c f b) (hn:di p f<n+1) (hv:¬b.value<cC p c):
  Vc (oo (kx (M6 n) ky.none ml mq fQ) (BQ p c f b []) (fG 35) ((mN (n+1)).A.put (p,c,f,b)) λv=>v.as ((mN (n+1)).res (p,c,f,b))):=by
 obtain⟨d,w⟩:=b;refine NI (let a:=γj .i64;let b:=γa;let e:=iZ.cells;let g:=γV;let z:=(↑p.bi.length:Int);let s:=jG p c f (bC.mk d w);let t:=0+c.length;let C:=c.length+1;let h:=ew.i .i64;let m:=g 0 0 20;let o:=g 1 0 2;let q:=g 2 0 2;let r:=e [a p.bk.a0,a p.bk.a1,a p.bk.a2,a p.bk.a3,a p.bk.a4,a p.bk.a5,a p.bq.a0,a p.bq.a1,a p.bq.a2,a p.bq.a3,a p.bq.a4,a p.bq.a5,a p.bs.a0,a p.bs.a1,a p.bs.a2,a p.bs.a3,a p.bs.a4,a p.bs.a5,b h p.bj,b ew.bt p.bi] 27 20 false;let A:=(1,b h c);let k:=e [SV.sc (Value.slice none 0 0),γC .i64 0] 40 2 false;let v:=a f;let D:=decide (w<cC p c);let E:=[iZ.dead,iZ.dead];let F:=∀(x:Int×bC),let j:=x.1+(1:Int);let B:=a j;let G:=decide (x.1<(↑p.bi.length:Int));let l:=c++[x.1];let H:=decide (bU p l=(0:Int));let I:=λ(u:bC) ↦let J:=e [b h u.bm,a u.value] 40 2 false;let y:=aS (bF.mk [A,(4,m),(7,o),(8,q),(10,B)] [r,J,k]) 1;VL .i64 j/\(((b h c).as (b h c)/\m.as m/\o.as o/\q.as q/\B.as B/\True)/\r.as r/\J.as (e [b h y.bm,a y.value] 40 2 false)/\k.as k/\True)/\(f<=j/\j<=z/\y.bm.length<=160/\s=im p (di p j) j c y)/\di p j<di p x.1;f<=x.1/\x.1<=z/\x.2.bm.length<=160/\s=im p (di p x.1) x.1 c x.2->(G=true->0=0/\t*8<=140737488355328/\t<=1000000000000/\c.length=c.length/\C*8<=140737488355328/\C<=1000000000000/\l.length=l.length/\l.length<=9223372036854775807/\(H=true->l.length=l.length/\VL .i64 j/\(uw p l j x.2/\di p j<n)/\I (jG p l j x.2))/\(H=false->I x.2))/\(G=false->(γN [b h x.2.bm,a x.2.value]).as (γN [b h s.bm,a s.value]));let K:=r.as r;let L:=(b h c).as (b h c)/\m.as m/\o.as o/\q.as q/\v.as v/\True;let M:=λ(u:List Int) (u_1:Int) (u_2:List iZ) ↦let N:=e [b h u,a u_1] 40 2 false;let O:=aS (bF.mk [A,(4,m),(7,o),(8,q),(10,v)] (r::N::k::u_2)) 1;N.as (e [b h O.bm,a O.value] 40 2 false);let P:=λ(u:List Int) (u_1:Int) (u_2:List iZ) ↦let Q:=aS (bF.mk [A,(4,m),(7,o),(8,q),(10,v)] (r::e [b h u,a u_1] 40 2 false::k::u_2)) 1;f<=f/\f<=z/\Q.bm.length<=160/\s=im p (di p f) f c Q;c.length<=9223372036854775807/\(D=true->0=0/\t*8<=140737488355328/\t<=1000000000000/\c.length=c.length/\((L/\K/\M c (cC p c) E/\k.as k/\False)/\P c (cC p c) E)/\F)/\(D=false->((L/\K/\M d w []/\k.as k/\True)/\P d w [])/\F)) (by kernel_rfl) ?_;conv=>zeta
 obtain⟨hc,hf,hcl,hdl⟩:=h;simp only at hcl hdl hv;simp only[vcs,I6];have hN:p.bi.length<=160:=(cN hc).2.1;have ix:jG p c f ⟨d,w⟩=im p (di p f) f c (if w<cC p c then⟨c,cC p c⟩ else⟨d,w⟩):=rfl;have round:∀x:Int×bC,f<=x.1/\x.1<=p.bi.length/\x.2.bm.length<=160/\jG p c f ⟨d,w⟩=im p (di p x.1) x.1 c x.2->x.1<p.bi.length->
   di p x.1=di p (x.1+1)+1/\di p (x.1+1)<n/\di p (x.1+1)<di p x.1/\(c++[x.1]).length=c.length+1/\
   jG p c f ⟨d,w⟩=im p (di p (x.1+1)) (x.1+1) c (if bU p (c++[x.1])=0 then jG p (c++[x.1]) (x.1+1) x.2 else x.2):=λx hx hlt=>by
  obtain⟨h1,h2,h3,h4⟩:=hx;have hl:di p x.1=di p (x.1+1)+1:=by unfold di;omega
  have hlf:di p x.1<=di p f:=by unfold di;omega
  refine⟨hl,by omega,by omega,by simp,?_⟩;rw[h4,hl];rfl
 have len:∀{c':List Int} {i:Int} {b:bC},0<=i->i<=p.bi.length->c'.length<=i->b.bm.length<=160->(jG p c' i b).bm.length<=160:=λh0 h1 h2 h3=>JJ hN h0 h1 h2 h3;refine⟨by omega,λh1=>absurd h1 hv,λh1=>⟨⟨by omega,by omega,by omega,?_⟩,?_⟩⟩;·rw[ix,if_neg h1]
 ·rintro⟨i,⟨e,u⟩⟩ hx;obtain⟨hi0,hi1,hs,hi⟩:=id hx;simp only at hi0 hi1 hs hi;refine⟨λhlt=>?_,λhge=>?_⟩
  ·obtain⟨r1,r2,r3,r4,r5⟩:=round ⟨i,⟨e,u⟩⟩ hx hlt;simp only at r1 r2 r3 r5;have r4:(c++[i]).length=c.length+1:=r4;refine⟨by omega,by omega,by omega,by omega,by omega,λhr=>?_,λhr=>?_⟩
   ·rw[if_pos hr] at r5;exact⟨by omega,⟨⟨hc,by omega,by omega,hs⟩,r2⟩,by omega,⟨by omega,by omega,len (by omega) (by omega) (by omega) hs,r5⟩,r3⟩
   ·rw[if_neg hr] at r5;refine⟨?_,⟨?_,?_,hs,r5⟩,r3⟩<;>omega
  ·have hl:di p i=0:=by unfold di;omega
   rw[hl] at hi;simp only[im] at hi;rw[hi];exact rfl
theorem Eb:∀n,Holds Tryz.prog (mN n)
 |0=>by
  rintro⟨p,c,f,b⟩ ⟨_,h⟩;exact absurd h (Nat.not_lt_zero _);|n+1=>by
  rintro⟨p,c,f,b⟩ ⟨h1,h2⟩;by_cases hc:di p f<n;·exact Eb n (p,c,f,b) ⟨h1,hc⟩
  ·have hL:∀c∈M6 n,Holds Tryz.prog c:=by
    simp only[M6,List.forall_mem_cons,List.not_mem_nil,false_implies,implies_true,and_true];exact⟨Eb n,Qr,Qs⟩
   have hfr:∀d,ln (mN (n+1)).f (M6 n)=some d->∀b2,gL ((mN (n+1)).A.put (p,c,f,b))=gL (d.A.put b2)->¬d.dom b2:=by
    intro d hd b2 hb1 hb3;have hd2:d=mN n:=by
     have:ln 35 (M6 n)=some (mN n):=rfl;have hd3:ln 35 (M6 n)=some d:=hd;rw[this] at hd3;injection hd3 with hd3;exact hd3.symm
    subst hd2;have:=(mN n).A.inj _ _ hb1;rw[<-this] at hb3;exact hc hb3.2
   by_cases hv:b.value<cC p c;·exact NN (L:=M6 n) (mN (n+1)) (fG 35) (BQ p c f b [.dead,.dead]) (mB.none _) hL (show fQ 35=some (fG 35) by kernel_rfl) (p,c,f,b) rfl hfr (TE n p c f b h1 h2 hv)
   ·exact NN (L:=M6 n) (mN (n+1)) (fG 35) (BQ p c f b []) (mB.none _) hL (show fQ 35=some (fG 35) by kernel_rfl) (p,c,f,b) rfl hfr (TD n p c f b h1 h2 hv)
noncomputable def Ea:NG:=⟨20,cj,.one cX,λp=>nW p=0,λp=>kr.put (M9 p)⟩
theorem Ia:Holds Tryz.prog Ea:=by
 refine bO (L:=[mN 161]) Ea lk (by simpa using Eb 161) ?_;rintro(p:cj) (hc:nW p=0);refine NI (let a:=(0:Int);let b:=bC.mk [] a;let c:=jG p [] a b;(uw p [] a b/\di p a<161)/\(γN [γa (ew.i .i64) c.bm,γj .i64 c.value]).as (γN [γa (ew.i .i64) (M9 p).bm,γj .i64 (M9 p).value])) (by kernel_rfl) ?_;conv=>zeta
 have hN:=(cN hc).2.1;refine⟨⟨⟨hc,⟨by omega,by omega⟩,by simp,by simp⟩,by unfold di;omega⟩,?_⟩;rw[S9 hc];exact rfl
def TC (p:cj):Int:=pH p (allM p)
theorem TB {p:cj} (a:nW p=0):oh p (M9 p).bm/\cC p (M9 p).bm=(M9 p).value/\(M9 p).value=TC p:=by
 obtain⟨_,d,b,e⟩:=Mt a;have c:oh p (M9 p).bm:=⟨b,d⟩;exact⟨c,by grind[uF],(zF a).symm⟩
def Qm (n:cz):SV:=.ite (decide (n.1=1)) (.ia 204 (cU Ao n)) (.ite (decide (n.1=2)) (.ia 205 (cU Ao n)) (.ite (decide (n.1=3)) (.ia 206 (cU Ao n)) (.ia 208 [])))
def BP:NG:=⟨86,cz,.one (dF Ao),λ_=>True,Qm⟩
theorem yL:Holds Tryz.prog BP:=by
 refine bO (L:=[]) BP lk (by simp) ?_;rintro⟨k,o,a,b,y⟩ _;refine NI (let c:=γj .i64;let d:=(1:Int);let e:=(2:Int);let f:=(3:Int);let i:=decide (k=d);let g:=[c k,c o,c a,c b,γa sF y];let n:=θj 204 g;let j:=decide (k=e);let p:=θj 205 g;let l:=decide (k=f);let q:=θj 206 g;let h:=θj 208 [];let m:=λ(u:Int) (u_1:Nat) ↦decide (k=u)=true->(i=true->(θj u_1 g).as n)/\(i=false->(j=true->(θj u_1 g).as p)/\(j=false->(l=true->(θj u_1 g).as q)/\(l=false->(θj u_1 g).as h)));m d 204/\(decide (k=d)=false->m e 205/\(decide (k=e)=false->m f 206/\(decide (k=f)=false->(i=true->h.as n)/\(i=false->(j=true->h.as p)/\(j=false->(l=true->h.as q)/\(l=false->h.as h))))))) (by kernel_rfl) ?_;simp only[vcs];repeat' (first|refine And.intro ?_ ?_|intro _)
 all_goals first|trivial|omega
def qh (n:cz):Bool:=decide (n.2.1=0)&&decide (n.2.2.1=0)&&decide (n.2.2.2.1=0)
def BO:NG:=⟨211,cz,.one (dF Ao),λ_=>True,λn=> .sb (qh n)⟩
theorem yK:Holds Tryz.prog BO:=by
 refine bO (L:=[]) BO lk (by simp) ?_;rintro⟨k,o,a,b,y⟩ _;refine NI (let f:=δj false;let g:=(0:Int);let e:=decide (o=g);let d:=decide (a=g);let c:=γB (qh (k,o,a,b,y));(e=true->(d=true->(γB (decide (b=g))).as c)/\(d=false->(f).as c))/\(e=false->(f).as c)) (by kernel_rfl) ?_;simp_all[qh]
def oj (n:cz):Bool:=qh n&&decide (n.2.2.2.2.length<=40)&&n.2.2.2.2.all okF
def D_:NG:=⟨209,cz,.one (dF Ao),λn=>∀x∈n.2.2.2.2,gJ x,λn=> .sb (oj n)⟩
def TA (n:cz):Nat->bK
 |4=> .inv Int (λi=>⟨[(18,.row sF n.2.2.2.2),(19,.si .i64 n.2.2.2.2.length),(20,.si .i64 i)],[.cells (cU Ao n) 204 5 false]⟩) (λs=>iS s 20)
  (λi=>0<=i/\i<=n.2.2.2.2.length/\(n.2.2.2.2.take i.toNat).all okF=true) (λi=>(n.2.2.2.2.length - i).toNat) λ_ _=> .bz
 |_=> .bz
theorem HS:Holds Tryz.prog D_:=by
 refine bO (L:=[BO,sg]) D_ TA (by simpa using⟨yK,nE⟩) ?_;rintro⟨k,o,a,b,y⟩ hy;have hy:∀x∈y,gJ x:=hy;refine NI (let c:=γj .i64;let d:=(0:Int);let e:=δj false;let f:=γa;let p:=!aql (k,o,a,b,y);let j:=γB (oj (k,o,a,b,y));let m:=(↑y.length:Int);let q:=decide ((40:Int)<m);let g:=(↑y.length:Int);let n:=c g;let l:=iZ.cells [c k,c o,c a,c b,f sF y] 204 5 false;True/\(p=true->(e).as j)/\(p=false->(q=true->(e).as j)/\(q=false->((((f sF y).as (f sF y)/\(c m).as n/\(γC .i64 0).as (c 0)/\True)/\l.as l/\True)/\d<=d/\d<=g/\true=true)/\∀(x:Int),let h:=bN y x.toNat sF.bu;let i:=x+(1:Int);let r:=c i;let s:=λ(u:Bool) ↦(!okF (h.1,h.2.1,h.2.2))=u;d<=x/\x<=g/\(Δ x.toNat y).all okF=true->(decide (x<g)=true->d<=x/\x<m/\x.toNat<y.length/\((ou h.2.1/\ou h.2.2)/\γd h.2.1<=10000000/\γd h.2.2<=10000000)/\(s true->(e).as j)/\(s false->VL .i64 i/\(((f sF y).as (f sF y)/\n.as n/\r.as r/\True)/\l.as l/\True)/\(d<=i/\i<=g/\(Δ i.toNat y).all okF=true)/\(g - i).toNat<(g - x).toNat))/\(decide (x<g)=false->(δj true).as j)))) (by kernel_rfl) ?_;simp only[vcs];refine⟨λh=>by simp[oj,h],λhp=>⟨λh40=>?_,λh40=>⟨⟨by omega,by omega⟩,?_⟩⟩⟩
 ·have:¬y.length<=40:=by omega
  simp[oj,this]
 rintro i ⟨i0,i1,hi⟩;refine⟨λhlt=>?_,λhge=>?_⟩
 ·have hm:=cB (d:=sF.bu) (show i.toNat<y.length by omega);have et:=jj (d:=sF.bu) i0 hlt;refine⟨i0,hlt,by omega,hy _ hm,λh=>?_,λh=>⟨⟨by omega,by omega⟩,⟨by omega,by omega,?_⟩,by omega⟩⟩
  ·have h:okF (bN y i.toNat sF.bu)=false:=h;have:y.all okF=false:=by
    rw[δN];intro ha;have:=ψ.1 ha _ hm;rw[h] at this;cases this
   simp[oj,this]
  ·have h:okF (bN y i.toNat sF.bu)=true:=h;rw[et,ζR,hi];simp[h]
 ·rw[show i.toNat=y.length by omega,φ] at hi;have:y.length<=40:=by omega
  simp[oj,hp,hi,this]
def mM (k:Int):Bool:=decide (0<=k)&&decide (k<=65536)
def q8 (n:cz):Bool:=mM n.2.1&&mM n.2.2.1&&mM n.2.2.2.1&&decide (n.2.2.2.2=[])
def D9:NG:=⟨215,cz,.one (dF Ao),λ_=>True,λn=> .sb (q8 n)⟩
theorem HO:Holds Tryz.prog D9:=by
 refine bO (L:=[]) D9 (λ_ _=> .apl 4) (by simp) ?_;rintro⟨k,o,a,b,y⟩ _;refine NI (let r:=(0:Int);let s:=δj false;let t:=(65536:Int);let u:=(3:Int);let v:=γB;let j:=bN [o,a,b] 0 r;let g:=decide (j<r);let c:=v (q8 (k,o,a,b,y));let m:=decide (t<j);let n:=bN [o,a,b] 1 r;let q:=decide (n<r);let i:=decide (t<n);let p:=bN [o,a,b] 2 r;let l:=decide (p<r);let h:=decide (t<p);let f:=bN [o,a,b] 3 r;let d:=decide (f<r);let e:=decide (t<f);(true=true->r<=r/\r<u/\0<3/\(g=true->(s).as c)/\(g=false->(m=true->(s).as c)/\(m=false->(true=true->r<=(1:Int)/\(1:Int)<u/\1<3/\(q=true->(s).as c)/\(q=false->(i=true->(s).as c)/\(i=false->(true=true->r<=(2:Int)/\(2:Int)<u/\2<3/\(l=true->(s).as c)/\(l=false->(h=true->(s).as c)/\(h=false->(false=true->r<=u/\u<u/\3<3/\(d=true->(s).as c)/\(d=false->(e=true->(s).as c)/\(e=false->False)))/\(false=false->(v (decide ((↑y.length:Int)=r))).as c))))/\(true=false->(v (decide ((↑y.length:Int)=r))).as c))))/\(true=false->(v (decide ((↑y.length:Int)=r))).as c))))/\(true=false->(v (decide ((↑y.length:Int)=r))).as c)) (by kernel_rfl) ?_;simp_all[bN,mM,decide_eq_false,q8]
def ug (n:cz):Bool:=qh n&&decide (n.2.2.2.2=[])
def D8:NG:=⟨219,cz,.one (dF Ao),λ_=>True,λn=> .sb (ug n)⟩
theorem HL:Holds Tryz.prog D8:=by
 refine bO (L:=[BO]) D8 lk (by grind[yK]) ?_;rintro⟨k,o,a,b,y⟩ _;refine NI (let d:=qh (k,o,a,b,y);let c:=γB (ug (k,o,a,b,y));True/\(d=true->(γB (decide ((↑y.length:Int)=(0:Int)))).as c)/\(d=false->(δj false).as c)) (by kernel_rfl) ?_;simp_all[ug]
def CT:o_ Unit where
 put _:=.agg [];dec
  | .agg []=>some ()
  |_=>none;ok v a h:=by
  grind
 inj a b h:=rfl
def CS:NG:=⟨223,Unit,.one CT,λ_=>True,λ_=> .sb false⟩
theorem HI:Holds Tryz.prog CS:=by
 refine bO (L:=[]) CS lk (by simp) ?_;rintro _ _;refine NI ((δj false).as (γB false)) (by kernel_rfl) ?_;rfl
def CR:NG:=⟨207,cz,.one (dF Ao),λ_=>True,λ_=> .row (.i .i64) []⟩
theorem HU:Holds Tryz.prog CR:=by
 refine bO (L:=[]) CR lk (by simp) ?_;rintro⟨k,o,a,b,y⟩ _;refine NI (let c:=γa (ew.i .i64) [];c.as c) (by kernel_rfl) ?_;simp_all
def CQ:NG:=⟨213,cz,.one (dF Ao),λ_=>True,λn=> .row (.i .i64) [n.2.2.1,n.2.2.2.1]⟩
theorem HQ:Holds Tryz.prog CQ:=by
 refine bO (L:=[]) CQ lk (by simp) ?_;rintro⟨k,o,a,b,y⟩ _;refine NI (let c:=γa (ew.i .i64) [a,b];c.as c) (by kernel_rfl) ?_;simp_all
def CP:NG:=⟨217,cz,.one (dF Ao),λ_=>True,λ_=> .row (.i .i64) []⟩
theorem HN:Holds Tryz.prog CP:=by
 refine bO (L:=[]) CP lk (by simp) ?_;rintro⟨k,o,a,b,y⟩ _;refine NI (let c:=γa (ew.i .i64) [];c.as c) (by kernel_rfl) ?_;simp_all
def r505:NG:=⟨221,Unit,.one CT,λ_=>True,λ_=> .row (.i .i64) []⟩
theorem HK:Holds Tryz.prog r505:=by
 refine bO (L:=[]) r505 lk (by simp) ?_;rintro _ _;refine NI (let a:=γa (ew.i .i64) [];a.as a) (by kernel_rfl) ?_;simp_all
end Go.Vi
