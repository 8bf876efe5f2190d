/-
  Contracts: the reference's problem.
  Conditions: none.
-/
import Derived.Test.YtlphnffeeefcdaaGreatWD06
import Derived.KernelRfl
set_option maxRecDepth 100000
set_option maxHeartbeats 4000000
set_option linter.all false
open BitVec renaming ofInt->γr
open Classical renaming not_not->Ξ
open Go.Vi.SV renaming bl->δa,si->γe,il->γx,row->Θ,ptr->γP,ow->γS
open Int renaming toNat_natCast->Ψ,le_trans->ε1,pow_succ->γM,mul_add->εq,add_comm->ζt,emod_nonneg->δj,emod_lt_of_pos->γZ,ediv_eq_zero_of_lt->εD,emod_eq_of_lt->δo,eq_ofNat_of_zero_le->δG,mul_nonneg->γv,mul_le_mul->δI,mul_le_mul_of_nonneg_left->Γ,le_of_lt->γj,mul_le_mul_of_nonneg_right->γN
open List renaming take->ω,mem_of_mem_take->γd,take_length->π,drop->γ4,mem_singleton->γT,mem_map->γa,map_append->γb,map_cons->ξ,map_nil->γs,drop_length->δQ,cons_append->γy,length_cons->γB,range->ψ,mem_filter->γD,foldl_cons->δx,mem_cons->γC,mem_append->γh,nodup_cons->γU,pairwise_cons->γA,all_eq_true->κ,mem_range->γm,filter_sublist->δm,getElem?_cons_succ->γz,map_map->δg,replicate->δ,range_succ->εe,take_of_length_le->γn,replicate_zero->εO,drop_of_length_le->δM,drop_zero->δ8,mem_of_mem_drop->γO
open List.Nodup renaming sublist->ζG
open Nat renaming le_refl->φ
open Option renaming map->ζd,isSome_iff_exists->γp,getD_some->γX,map_eq_some_iff->ε
namespace Go.Vi
open Go.Proofs.YtlphnffeeefcdaaGreat.Ir
open Go.Proofs
def HJ:bL:=⟨36,bD,.one (eG .dR),λ_=>True,λb=> .sb b.ok⟩
theorem h68:Holds Tryz.prog HJ:=by
 refine cF (L:=[]) HJ (λ_ _=> .rb 7) (by simp) ?_;intro b _;refine bO (let h:=δa false;let o:=SV.sb;let p:=(0:Int);let q:=(4:Int);let i:=decide (b.a0<p);let d:=decide (q<b.a0);let k:=decide (b.a1<p);let e:=decide (q<b.a1);let l:=decide (b.a2<p);let f:=decide (q<b.a2);let j:=decide (b.a3<p);let m:=decide (q<b.a3);let n:=decide (b.a4<p);let g:=decide (q<b.a4);let a:=decide (b.a5<p);let c:=decide (q<b.a5);(i=true->(h).same (o (bD.ok b)))/\(i=false->(d=true->(h).same (o (bD.ok b)))/\(d=false->(k=true->(h).same (o (bD.ok b)))/\(k=false->(e=true->(h).same (o (bD.ok b)))/\(e=false->(l=true->(h).same (o (bD.ok b)))/\(l=false->(f=true->(h).same (o (bD.ok b)))/\(f=false->(j=true->(h).same (o (bD.ok b)))/\(j=false->(m=true->(h).same (o (bD.ok b)))/\(m=false->(n=true->(h).same (o (bD.ok b)))/\(n=false->(g=true->(h).same (o (bD.ok b)))/\(g=false->(a=true->(h).same (o (bD.ok b)))/\(a=false->(c=true->(h).same (o (bD.ok b)))/\(c=false->(δa true).same (o (bD.ok b))))))))))))))) (by kernel_rfl) ?_;conv=>zeta
 have o:=@bD.jz b;by_cases h:b.ok=true<;>simp_all
def qu (p:bn) (r:Int) (o:Off):Int:=
 if r - p.classes.length<0 then(if o.bX=r then 1 else 0)
 else if r - p.classes.length<6 then bj [o.want.a0,o.want.a1,o.want.a2,o.want.a3,o.want.a4,o.want.a5] (r - p.classes.length).toNat 0
 else if bj [p.cls.a0,p.cls.a1,p.cls.a2,p.cls.a3,p.cls.a4,p.cls.a5] (r - p.classes.length - 6).toNat 0=0\/p.classes.length<=o.bX\/bj [p.cls.a0,p.cls.a1,p.cls.a2,p.cls.a3,p.cls.a4,p.cls.a5] (r - p.classes.length - 6).toNat 0=bj p.classes o.bX.toNat 0 then 0
 else bj [o.want.a0,o.want.a1,o.want.a2,o.want.a3,o.want.a4,o.want.a5] (r - p.classes.length - 6).toNat 0
theorem ZC {p:bn} {r:Int} {o:Off} (h:o.bX<p.classes.length):qu p r o=dK p r o:=by
 unfold qu dK;omega
def HK:bL:=⟨62,bn×Int×Off,.cons dE (.cons (eK .i64) (.one (eG .off))),λa=>a.1.classes.length<=8/\0<=a.2.1/\a.2.1<cZ a.1/\0<=a.2.2.bX,
 λa=> .bJ [.si .i64 (qu a.1 a.2.1 a.2.2),.si .i64 (df a.1 a.2.1)]⟩
theorem h110:Holds Tryz.prog HK:=by
 refine cF (L:=[]) HK (λ_ _=> .rb 7) (by simp) ?_;rintro⟨p,r,x⟩ ⟨D,z,B,A⟩;simp only[cZ] at D z B A;refine bO (let h:=(0:Int);let j:=(6:Int);let v:=γe .i64;let w:=cn .i64;let y:=SV.bJ;let b:=(↑p.classes.length:Int);let a:=r - b - j;let o:=γx .i64 0;let k:=y [v (qu p r x),v (df p r)];let q:=bj [p.cls.a0,p.cls.a1,p.cls.a2,p.cls.a3,p.cls.a4,p.cls.a5] a.toNat h;let t:=decide (x.bX=r);let e:=γx .i64 1;let g:=decide (r<b+j);let i:=decide (x.bX<b);let l:=h<=a/\a<j/\a.toNat<6/\(y [o,v (bj [p.opn.a0,p.opn.a1,p.opn.a2,p.opn.a3,p.opn.a4,p.opn.a5] a.toNat h)]).same k;let n:=λ(u f:Int) (c:bD) ↦let d:=(u - f).toNat;h<=u - f/\u - f<j/\d<6/\(y [v (bj [x.want.a0,x.want.a1,x.want.a2,x.want.a3,x.want.a4,x.want.a5] d h),v (bj [c.a0,c.a1,c.a2,c.a3,c.a4,c.a5] d h)]).same k;let m:=λ(u:Bool) ↦decide (q≠bj p.classes x.bX.toNat h)=u;let s:=λ(u:Bool) ↦decide (q≠h)=u;(decide (r<b)=true->(t=true->(y [e,e]).same k)/\(t=false->(y [o,e]).same k))/\(decide (r<b)=false->w (b+j)/\(g=true->w (r - b)/\h<=r - b/\r - b<j/\(r - b).toNat<6/\w (r - b)/\n r b p.supply)/\(g=false->w (r - b)/\w a/\h<=a/\a<j/\a.toNat<6/\(s true->(i=true->h<=a/\a<j/\a.toNat<6/\h<=x.bX/\x.bX<b/\x.bX.toNat<p.classes.length/\(m true->h<=a/\a<j/\a.toNat<6/\n (r - b) j p.opn)/\(m false->l))/\(i=false->l))/\(s false->l)))) (by kernel_rfl) ?_;simp only[vcs];have G:r - p.classes.length<0->df p r=1:=λh=>by simp_all[df]
 have E:¬r - p.classes.length<0->r - p.classes.length<6->df p r=bj [p.supply.a0,p.supply.a1,p.supply.a2,p.supply.a3,p.supply.a4,p.supply.a5] (r - p.classes.length).toNat 0:=λh j=>by simp_all[df,if_neg]
 have v:¬r - p.classes.length<0->¬r - p.classes.length<6->df p r=bj [p.opn.a0,p.opn.a1,p.opn.a2,p.opn.a3,p.opn.a4,p.opn.a5] (r - p.classes.length - 6).toNat 0:=λh j=>by simp_all[df,if_neg]
 have F:r - p.classes.length<0->qu p r x=if x.bX=r then 1 else 0:=λh=>by simp_all[qu]
 have H:¬r - p.classes.length<0->r - p.classes.length<6->qu p r x=bj [x.want.a0,x.want.a1,x.want.a2,x.want.a3,x.want.a4,x.want.a5] (r - p.classes.length).toNat 0:=λh j=>by simp_all[qu,if_neg]
 have y:=λ(h:¬r - p.classes.length<0) (j:¬r - p.classes.length<6)=>(show qu p r x=_ by unfold qu;rw[if_neg h,if_neg j]);refine⟨λw=>?_,λw=>⟨by omega,λC=>?_,λC=>?_⟩⟩;·grind
 ·grind
 ·rw[v (by omega) (by omega),y (by omega) (by omega)];omega
def M1:List bL:=[HK,HJ]
theorem hM1:∀c∈M1,Holds Tryz.prog c:=by
 simp_all[M1,h110,h68]
def C7:bL:=⟨37,bn×List Off,.cons dE (.one (dM .off)),λa=>a.1.classes.length<=8/\a.2.length<=1000/\(∀x∈a.2,0<=x.bX/\x.bX<a.1.classes.length/\x.want.ok=true),λa=> .sb (fy a.1 a.2)⟩
def ZD (a:bn×List Off):Nat->cC
 |2=> .inv Int (λi=>⟨[(1,.row .off a.2),(2,.ptr 0 0 20),(5,.si .i64 i)],[.cells a.1.ss 27 20 false]⟩) (λs=>iS s 5)
  (λi=>0<=i/\i<=cZ a.1/\∀r:Nat,r<i->cG a.1 a.2 r<=df a.1 r) (λi=>(cZ a.1 - i).toNat)
  λi=>λ
   |6=> .inv (Int×Int) (λx=>⟨[(1,.row .off a.2),(2,.ptr 0 0 20),(5,.si .i64 i),(6,.si .i64 x.2),(7,.si .i64 x.1)],[.cells a.1.ss 27 20 false]⟩)
    (λs=>(iS s 7,iS s 6))
    (λx=>0<=x.1/\x.1<=a.2.length/\x.2=cG a.1 (a.2.take x.1.toNat) i) (λx=>(a.2.length - x.1).toNat) λ_ _=> .look
   |_=> .look
 |_=> .look
theorem h69:Holds Tryz.prog C7:=by
 refine cF (L:=M1) C7 ZD hM1 ?_;rintro⟨p,l⟩ ⟨A,G,q⟩;simp only at A G q;refine bO (let d:=(0:Int);let i:=γe .i64;let j:=Θ;let o:=γx .i64 0;let q:=cn .i64;let s:=γx .i64;let b:=γP 0 0 20;let c:=bq.cells (bn.ss p) 27 20 false;let v:=(↑p.classes.length:Int)+(12:Int);let k:=(↑l.length:Int);((((j bp.off l).same (j bp.off l)/\b.same b/\(o).same (i 0)/\True)/\c.same c/\True)/\d<=d/\d<=cZ p/\∀(r:Nat),(↑r:Int)<d->cG p l (↑r:Int)<=df p (↑r:Int))/\∀(x:Int),let f:=x+(1:Int);let E:=i f;(d<=x/\x<=cZ p/\∀(r:Nat),(↑r:Int)<x->cG p l (↑r:Int)<=df p (↑r:Int))->q v/\(decide (x<v)=true->((((j bp.off l).same (j bp.off l)/\b.same b/\(i x).same (i x)/\(o).same (i 0)/\(o).same (i 0)/\True)/\c.same c/\True)/\d<=d/\d<=k/\d=cG p [] x)/\∀(a:Int×Int),let D:=decide (a.fst<(↑l.length:Int));let C:=bj l a.fst.toNat bp.off.dflt;let w:=a.snd+qu p x C;let e:=a.fst+(1:Int);let n:=i x;let h:=i w;let m:=i e;let g:=decide (df p x<a.snd);d<=a.fst/\a.fst<=k/\a.snd=cG p (ω a.fst.toNat l) x->(D=true->d<=a.fst/\a.fst<(↑l.length:Int)/\a.fst.toNat<l.length/\(p.classes.length<=8/\d<=x/\x<cZ p/\d<=C.bX)/\q w/\q e/\(((j bp.off l).same (j bp.off l)/\b.same b/\n.same n/\h.same h/\m.same m/\True)/\c.same c/\True)/\(d<=e/\e<=k/\w=cG p (ω e.toNat l) x)/\(k - e).toNat<(k - a.fst).toNat)/\(D=false->(p.classes.length<=8/\d<=x/\x<cZ p/\d<=d)/\(g=true->(δa false).same (SV.sb (fy p l)))/\(g=false->q f/\(((j bp.off l).same (j bp.off l)/\b.same b/\E.same E/\True)/\c.same c/\True)/\(d<=f/\f<=cZ p/\∀(r:Nat),(↑r:Int)<f->cG p l (↑r:Int)<=df p (↑r:Int))/\(cZ p - f).toNat<(cZ p - x).toNat)))/\(decide (x<v)=false->(δa true).same (SV.sb (fy p l)))) (by kernel_rfl) ?_;simp only[vcs];have T:cZ p=p.classes.length+12:=rfl;have P:∀x∈l,x.want.ok=true:=λx y=>(q x y).2.2;refine⟨⟨by omega,by omega,λr J=>by omega⟩,?_⟩;rintro i ⟨H,F,S⟩;refine⟨by omega,λN=>⟨⟨by omega,by omega,by simp[cG]⟩,?_⟩,?_⟩
 ·rintro⟨j,s⟩ ⟨u,o,B⟩;simp only at u o B ⊢;have Q:=@sf p i (l.take j.toNat) λx y=>P x (γd y);have z:(l.take j.toNat).length<=l.length:=by simp;omega
  refine⟨λt=>?_,λt=>?_⟩
  ·have O:=q _ (dj (d:=bp.off.dflt) (show j.toNat<l.length by omega));have R:=@pD p i _ O.2.2;grind[Hy,ZC]
  ·have:j.toNat=l.length:=by omega
   rw[this,π] at B;refine⟨⟨A,by omega,by omega,by omega⟩,λK=>?_,λM=>⟨by omega,⟨by omega,by omega,λr J=>?_⟩,by omega⟩⟩
   ·symm;rw[Bool.eq_false_iff];intro I;have:=nS.1 I i.toNat (by omega);grind
   grind
 grind[nS]
def zH:bL:=⟨17,bn,.one dE,λp=>True,λp=> .si .i64 (bB p)⟩
def ZE (p:bn):Nat->cC
 |11=> .inv Int (λk=>⟨[(1,.ptr 0 0 20),(4,.si .i64 k)],[.cells p.ss 27 20 false]⟩) (λs=>iS s 4) (λk=>0<=k/\k<=p.classes.length/\∀c∈p.classes.take k.toNat,0<=c/\c<=4) (λk=>(p.classes.length - k).toNat) λ_ _=> .look
 |16=> .inv Int (λi=>⟨[(1,.ptr 0 0 20),(5,.si .i64 i)],[.cells p.ss 27 20 false]⟩) (λs=>iS s 5)
  (λi=>0<=i/\i<=p.offers.length/\iV p [] p.offers=iV p ((p.offers.take i.toNat).map Off.key) (p.offers.drop i.toNat)) (λi=>(p.offers.length - i).toNat)
  λi=>λ
   |26=> .inv Int (λk=>⟨[(1,.ptr 0 0 20),(5,.si .i64 i),(6,.ptr 1 0 8),(7,.si .i64 k)],[.cells p.ss 27 20 false,.cells (encS .off (bj p.offers i.toNat bp.off.dflt)) 55 8 false]⟩) (λs=>iS s 7)
    (λk=>0<=k/\k<=i/\∀j:Nat,j<k->(bj p.offers j bp.off.dflt).key≠(bj p.offers i.toNat bp.off.dflt).key) (λk=>(i - k).toNat) λ_ _=> .look
   |_=> .look
 |4=> .inv Int (λk=>⟨[(1,.ptr 0 0 20),(3,.si .i64 k)],[.cells p.ss 27 20 false]⟩) (λs=>iS s 3) (λk=>0<=k/\k<=6/\∀j:Nat,j<k->iC p j) (λk=>(6 - k).toNat) λ_ _=> .look
 |_=> .look
theorem ZF {b:bD}:(decide (b.a0=0)&&(decide (b.a1=0)&&(decide (b.a2=0)&&(decide (b.a3=0)&&(decide (b.a4=0)&&(decide (b.a5=0)&&true))))))=decide (b=bD.zero):=by
 simp_all[CQ,bD.zero]
theorem ZG {b c:bD}:(decide (b.a0=c.a0)&&(decide (b.a1=c.a1)&&(decide (b.a2=c.a2)&&(decide (b.a3=c.a3)&&(decide (b.a4=c.a4)&&(decide (b.a5=c.a5)&&true))))))=decide (b=c):=by
 grind[CQ]
theorem ZH {a:Type} {l:List a} {i:Int} {d x:a} (b:i<=l.length) (h:x∈l.take i.toNat):∃j:Nat,(j:Int)<i/\bj l j d=x:=by
 obtain⟨j,c,rfl⟩:=List.mem_iff_getElem.1 h;grind[cV]
theorem h24:Holds Tryz.prog zH:=by
 refine cF (L:=C7::M1) zH ZE (by simp only[List.forall_mem_cons];exact⟨h69,hM1⟩) ?_;intro p _;refine bO (let a:=(0:Int);let b:=γe .i64;let d:=γx .i64;let e:=(6:Int);let f:=(1:Int);let g:=(4:Int);let h:=cn .i64;let k:=b (bB p);let l:=γP 0 0 20;let z:=d 0;let m:=bq.cells (bn.ss p) 27 20 false;let af:=[p.cls.a0,p.cls.a1,p.cls.a2,p.cls.a3,p.cls.a4,p.cls.a5];let ag:=[p.opn.a0,p.opn.a1,p.opn.a2,p.opn.a3,p.opn.a4,p.opn.a5];let ah:=[p.supply.a0,p.supply.a1,p.supply.a2,p.supply.a3,p.supply.a4,p.supply.a5];let J:=p.classes.length;let o:=(↑J:Int);let L:=decide ((8:Int)<o);let E:=p.offers.length;let r:=(↑E:Int);let M:=decide ((160:Int)<r);let s:=(↑p.classes.length:Int);let A:=(↑p.offers.length:Int);let F:=iV p [] p.offers;let B:=bp.off.dflt;let G:=γP 1 0 8;True/\((!p.supply.ok)=true->(d 4).same k)/\((!p.supply.ok)=false->(((l.same l/\z.same (b 0)/\True)/\m.same m/\True)/\a<=a/\a<=e/\∀(j:Nat),(↑j:Int)<a->iC p j)/\∀(x:Int),let t:=x+f;let N:=b t;let O:=decide (x<e);let K:=bj af x.toNat a;let P:=decide (K<a);let Q:=decide (g<K);let C:=bj ag x.toNat a;let R:=decide (C<a);let H:=bj ah x.toNat a;let S:=decide (K=a);let T:=h t/\((l.same l/\N.same N/\True)/\m.same m/\True)/\(a<=t/\t<=e/\∀(j:Nat),(↑j:Int)<t->iC p j)/\(e - t).toNat<(e - x).toNat;(a<=x/\x<=e/\∀(j:Nat),(↑j:Int)<x->iC p j)->(O=true->a<=x/\x<e/\x.toNat<6/\(P=true->(d 4).same k)/\(P=false->a<=x/\x<e/\x.toNat<6/\(Q=true->(d 4).same k)/\(Q=false->a<=x/\x<e/\x.toNat<6/\(R=true->(d 4).same k)/\(R=false->a<=x/\x<e/\x.toNat<6/\a<=x/\x<e/\x.toNat<6/\(decide (H<C)=true->(d 4).same k)/\(decide (H<C)=false->a<=x/\x<e/\x.toNat<6/\(S=true->a<=x/\x<e/\x.toNat<6/\a<=x/\x<e/\x.toNat<6/\(decide (C≠H)=true->(d 4).same k)/\(decide (C≠H)=false->T))/\(S=false->T))))))/\(O=false->(L=true->(d 3).same k)/\(L=false->(M=true->(d 3).same k)/\(M=false->(((l.same l/\z.same (b 0)/\True)/\m.same m/\True)/\a<=a/\a<=s/\∀(c:Int),c∈[]->a<=c/\c<=g)/\∀(x:Int),let U:=bj p.classes x.toNat a;let V:=decide (U<a);let W:=decide (g<U);let v:=x+f;let X:=b v;(a<=x/\x<=s/\∀(c:Int),c∈ω x.toNat p.classes->a<=c/\c<=g)->(decide (x<o)=true->a<=x/\x<o/\x.toNat<J/\(V=true->(d 4).same k)/\(V=false->a<=x/\x<o/\x.toNat<J/\(W=true->(d 4).same k)/\(W=false->h v/\((l.same l/\X.same X/\True)/\m.same m/\True)/\(a<=v/\v<=s/\∀(c:Int),c∈ω v.toNat p.classes->a<=c/\c<=g)/\(s - v).toNat<(s - x).toNat)))/\(decide (x<o)=false->(((l.same l/\z.same (b 0)/\True)/\m.same m/\True)/\a<=a/\a<=A/\F=F)/\∀(x:Int),let n:=bj p.offers x.toNat B;let i:=n.want;let D:=n.bX;let Y:=decide (D<a);let Z:=decide (n.value<f);let a6:=decide ((1000000:Int)<n.value);let I:=bq.cells [b D,b i.a0,b i.a1,b i.a2,b i.a3,b i.a4,b i.a5,b n.value] 55 8 false;let q:=x+f;let a7:=b q;let a8:=λ(u:Bool) ↦(decide (i.a0=a)&&(decide (i.a1=a)&&(decide (i.a2=a)&&(decide (i.a3=a)&&(decide (i.a4=a)&&(decide (i.a5=a)&&true))))))=u;a<=x/\x<=A/\F=iV p (List.map Off.key (ω x.toNat p.offers)) (γ4 x.toNat p.offers)->(decide (x<r)=true->a<=x/\x<r/\x.toNat<E/\(Y=true->(d 6).same k)/\(Y=false->(decide (o<=D)=true->(d 6).same k)/\(decide (o<=D)=false->(Z=true->(d 4).same k)/\(Z=false->(a6=true->(d 4).same k)/\(a6=false->True/\((!i.ok)=true->(d 4).same k)/\((!i.ok)=false->(a8 true->(d 4).same k)/\(a8 false->(p.classes.length<=8/\1<=1000/\∀(x:Off),x∈[n]->a<=x.bX/\x.bX<s/\x.want.ok=true)/\((!fy p [n])=true->(d 14).same k)/\((!fy p [n])=false->(((l.same l/\(b x).same (b x)/\G.same G/\z.same (b 0)/\True)/\m.same m/\I.same I/\True)/\a<=a/\a<=x/\∀(j:Nat),(↑j:Int)<a->(bj p.offers j B).key≠n.key)/\∀(x_1:Int),let w:=x_1+f;let a9:=b x;let aa:=b w;let ab:=bj p.offers x_1.toNat B;let y:=ab.want;let ac:=decide (ab.bX=D);let ad:=h w/\((l.same l/\a9.same a9/\G.same G/\aa.same aa/\True)/\m.same m/\I.same I/\True)/\(a<=w/\w<=x/\∀(j:Nat),(↑j:Int)<w->(bj p.offers j B).key≠n.key)/\(x - w).toNat<(x - x_1).toNat;let ae:=λ(u:Bool) ↦(decide (y.a0=i.a0)&&(decide (y.a1=i.a1)&&(decide (y.a2=i.a2)&&(decide (y.a3=i.a3)&&(decide (y.a4=i.a4)&&(decide (y.a5=i.a5)&&true))))))=u;(a<=x_1/\x_1<=x/\∀(j:Nat),(↑j:Int)<x_1->(bj p.offers j B).key≠n.key)->(decide (x_1<x)=true->a<=x_1/\x_1<r/\x_1.toNat<E/\(ac=true->a<=x_1/\x_1<r/\x_1.toNat<E/\(ae true->(d 7).same k)/\(ae false->ad))/\(ac=false->ad))/\(decide (x_1<x)=false->h q/\((l.same l/\a7.same a7/\True)/\m.same m/\True)/\(a<=q/\q<=A/\F=iV p (List.map Off.key (ω q.toNat p.offers)) (γ4 q.toNat p.offers))/\(A - q).toNat<(A - x).toNat)))))))))/\(decide (x<r)=false->z.same k))))))) (by kernel_rfl) ?_;simp only[ZF,ZG];simp only[vcs];have e4:iL p=4->(4:Int)=bB p:=λh=>by simp[bB,h]
 have e3:iL p=3->(3:Int)=bB p:=λh=>by simp[bB,h]
 refine⟨λhs=>e4 (Py hs),λhs=>⟨⟨by omega,by omega,λj hj=>by omega⟩,?_⟩⟩;rintro k ⟨hk0,hk1,hk⟩;refine⟨λhlt=>?_,λhge=>?_⟩
 ·have bad:¬iC p k.toNat->(4:Int)=bB p:=λh=>e4 (Pz hs (by omega) h);have HB:iC p k.toNat->∀(j:Nat),(j:Int)<k+1->iC p j:=λh j hj=>by
   by_cases hj2:(j:Int)<k;·exact hk j hj2
   ·rw[show j=k.toNat from by omega];exact h
  repeat' (first|refine And.intro ?_ ?_|intro _)
  all_goals first
   |omega;|exact bad λhh=>by have h2:=nT.1 hh;omega;|exact HB (nT.2 (by omega)) _ (by assumption)
 ·have hall:∀j:Nat,j<6->iC p j:=λj hj=>hk j (by omega);refine⟨λh=>e3 (CV hs hall (.inl (by omega))),λh8=>⟨λh=>e3 (CV hs hall (.inr (by omega))),λh160=>⟨⟨by omega,by omega,by simp⟩,?_⟩⟩⟩;rintro i ⟨hi0,hi1,hi⟩;refine⟨λhlt=>?_,λhge=>?_⟩
  ·have hm:=dj (d:=0) (show i.toNat<p.classes.length by omega);refine⟨by omega,by omega,by omega,λh=>e4 (CW hs hall (by omega) hm (by omega)),λh1=>⟨by omega,by omega,by omega,λh=>e4 (CW hs hall (by omega) hm (by omega)),λh2=>⟨by omega,⟨by omega,by omega,?_⟩,by omega⟩⟩⟩;exact PD hi0 hlt hi (by omega)
  ·rw[show i.toNat=p.classes.length from by omega,π] at hi;have hz:iL p=0:=HA hs hall (by omega) hi;have ce:bB p=iV p [] p.offers:=by simp[bB,hz]
   refine⟨⟨by omega,by omega⟩,?_⟩;rintro i ⟨hi0,hi1,hi⟩;refine⟨λhlt=>?_,λhge=>?_⟩
   ·rw[tN (d:=bp.off.dflt) hi0 hlt] at hi;generalize hx:bj p.offers i.toNat bp.off.dflt=x at hi ⊢;have oe:∀c:Int,c≠0->j3 p x=c->c=bB p:=λc hc h=>by
     rw[ce,hi];simp only[iV,h];rw[if_pos hc]
    have se:∀c:Int,c≠0->kD p.classes.length x=c->c=bB p:=λc hc h=>oe c hc (by
     unfold j3;rw[if_pos (by omega),h]);refine⟨by omega,by omega,by omega,λh1=>?_,λh1=>⟨λh2=>?_,λh2=>⟨λh3=>?_,λh3=>⟨λh4=>?_,λh4=>⟨λh5=>?_,λh5=>⟨λh6=>?_,λh6=>?_⟩⟩⟩⟩⟩⟩;·exact se 6 (by decide) (by unfold kD;rw[if_pos (by omega)])
    ·exact se 6 (by decide) (by unfold kD;rw[if_pos (by omega)])
    ·exact se 4 (by decide) (by unfold kD;rw[if_neg (by omega),if_pos (by omega)])
    ·exact se 4 (by decide) (by unfold kD;rw[if_neg (by omega),if_pos (by omega)])
    ·exact se 4 (by decide) (by unfold kD;rw[if_neg (by omega),if_neg (by omega),h5];rfl)
    ·have hs0:kD p.classes.length x=0:=by unfold kD;rw[if_neg (by omega),if_neg (by omega),h5];rfl
     exact oe 4 (by decide) (by simp[j3,hs0,h6])
    ·have hs0:kD p.classes.length x=0:=by unfold kD;rw[if_neg (by omega),if_neg (by omega),h5];rfl
     refine⟨⟨by omega,by omega,λy hy=>?_⟩,λh7=>?_,λh7=>⟨⟨by omega,by omega,λj hj=>by omega⟩,?_⟩⟩
     ·rw[γT.1 hy];exact⟨by omega,by omega,h5⟩
     ·exact oe 14 (by decide) (by simp[j3,hs0,h6,h7])
     ·have ho0:j3 p x=0:=by simp[j3,hs0,h6,h7]
      rintro k ⟨hk0,hk1,hk⟩;have hnx:(bj p.offers k.toNat bp.off.dflt).key≠x.key->∀j:Nat,(j:Int)<k+1->(bj p.offers j bp.off.dflt).key≠x.key:=λh j hj=>by
       by_cases hj2:(j:Int)<k;·exact hk j hj2
       ·rw[show j=k.toNat from by omega];exact h
      refine⟨λhlt2=>⟨by omega,by omega,by omega,λh8=>⟨by omega,by omega,by omega,λh9=>?_,λh9=>⟨by omega,⟨by omega,by omega,?_⟩,by omega⟩⟩,λh8=>⟨by omega,⟨by omega,by omega,?_⟩,by omega⟩⟩,λC9=>⟨by omega,⟨by omega,by omega,?_⟩,by omega⟩⟩
      ·have ZI:(bj p.offers k.toNat bp.off.dflt).key=x.key:=by
        show nI.mk _ _=nI.mk _ _;rw[h8,h9]
       have hmem:x.key∈(p.offers.take i.toNat).map Off.key:=by
        rw[<-ZI];refine γa.2 ⟨_,?_,rfl⟩;rw[cV (by omega)];exact List.mem_take_iff_getElem.2 ⟨k.toNat,by omega,rfl⟩
       rw[ce,hi];simp only[iV,ho0,ne_eq,not_true,if_false,if_pos hmem]
      ·refine hnx λe=>h9 ?_;injection e
      ·refine hnx λe=>h8 ?_;injection e
      ·have hnm:x.key∉(p.offers.take i.toNat).map Off.key:=by
        intro hmem;obtain⟨o,ho,he⟩:=γa.1 hmem;obtain⟨j,hj,rfl⟩:=ZH (d:=bp.off.dflt) hi1 ho;exact hk j (by omega) he
       rw[hi,kC (d:=bp.off.dflt) hi0 hlt,hx];simp only[iV,ho0,ne_eq,not_true,if_false,if_neg hnm,γb,ξ,γs]
   ·rw[show i.toNat=p.offers.length from by omega,δQ] at hi;rw[ce,hi];rfl
def M2:List bL:=zH::C7::M1
theorem hM2:∀c∈M2,Holds Tryz.prog c:=by
 grind[M2,h24,h69,hM1]
def HL:bL:=⟨38,bn×List Int,.cons dE (.one (dM (.i .i64))),λa=>a.2.length<=9223372036854775807/\a.1.offers.length<=1000,λa=> .bJ [.row .off (dx a.1 a.2),.sb (fV a.1 a.2)]⟩
def j5 (c:List Int) (i:Int):Int:=if i=0 then -1 else bj c (i - 1).toNat 0
def ZJ (a:bn×List Int):Nat->cC
 |3=> .inv (Int×List Off) (λx=>⟨[(1,.row (.i .i64) a.2),(2,.ptr 0 0 20),(6,.ow 1 x.2.length 8),(7,.si .i64 x.1)],
   [.cells a.1.ss 27 20 false,.row .off x.2 55 true]⟩) (λs=>(iS s 7,oS .off s 1))
  (λx=>0<=x.1/\x.1<=a.2.length/\(x.2.length<=j5 a.2 x.1+1/\j5 a.2 x.1<1000)/\ -1<=j5 a.2 x.1/\ek a.1.offers (-1) a.2=(ek a.1.offers (j5 a.2 x.1) (a.2.drop x.1.toNat)).map (x.2++·)) (λx=>(a.2.length - x.1).toNat) λ_ _=> .look
 |_=> .look
theorem h109:Holds Tryz.prog HL:=by
 refine cF (L:=M2) HL ZJ hM2 ?_;rintro⟨p,c⟩ ⟨hc,hof⟩;have hc:c.length<=9223372036854775807:=hc;have hof:p.offers.length<=1000:=hof;refine bO (let a:=γe .i64;let b:=(0:Int);let d:=Θ;let e:=(1:Int);let f:=δa false;let g:=(-1:Int);let h:=(1000:Int);let j:=SV.bJ;let k:=bp.i .i64;let s:=γP 0 0 20;let B:=γS 1 0 8;let t:=bq.cells [a p.supply.a0,a p.supply.a1,a p.supply.a2,a p.supply.a3,a p.supply.a4,a p.supply.a5,a p.opn.a0,a p.opn.a1,a p.opn.a2,a p.opn.a3,a p.opn.a4,a p.opn.a5,a p.cls.a0,a p.cls.a1,a p.cls.a2,a p.cls.a3,a p.cls.a4,a p.cls.a5,d k p.classes,d bp.off p.offers] 27 20 false;let C:=bq.row bp.off [] 55 true;let o:=(↑c.length:Int);let u:=j5 c b;let z:=ek p.offers g c;let n:=(↑c.length:Int);let v:=j [d bp.off (dx p c),SV.sb (fV p c)];let D:=p.offers.length;let A:=(↑D:Int);let L:=bp.off.dflt;((((d k c).same (d k c)/\s.same s/\B.same B/\(γx .i64 0).same (a 0)/\True)/\t.same t/\C.same C/\True)/\b<=b/\b<=o/\(b<=u+e/\u<h)/\g<=u/\z=ζd (λx ↦(b,[]).snd++x) (ek p.offers u c))/\∀(x:Int×List Off),let l:=bj c x.fst.toNat b;let E:=x.snd.length+1;let m:=x.fst+e;let q:=x.snd++[bj p.offers l.toNat L];let F:=a m;let G:=bq.row bp.off q 55 true;let w:=j5 c m;let y:=j5 c x.fst;let H:=decide (l<b);let I:=decide (b<x.fst);let r:=x.fst - e;let J:=decide (l<=bj c r.toNat b);let K:=b<=x.fst/\x.fst<n/\x.fst.toNat<c.length/\b<=l/\l<A/\l.toNat<D/\x.snd.length=x.snd.length/\E*64<=140737488355328/\E<=1000000000000/\cn .i64 m/\(((d k c).same (d k c)/\s.same s/\(γS 1 q.length 8).same (γS 1 q.length 8)/\F.same F/\True)/\t.same t/\G.same G/\True)/\(b<=m/\m<=o/\((↑q.length:Int)<=w+e/\w<h)/\g<=w/\z=ζd (λx ↦(m,q).snd++x) (ek p.offers w (γ4 m.toNat c)))/\(o - m).toNat<(o - x.fst).toNat;b<=x.fst/\x.fst<=o/\((↑x.snd.length:Int)<=y+e/\y<h)/\g<=y/\z=ζd (λx_1 ↦x.snd++x_1) (ek p.offers y (γ4 x.fst.toNat c))->(decide (x.fst<n)=true->b<=x.fst/\x.fst<n/\x.fst.toNat<c.length/\(H=true->(j [d k [],f]).same v)/\(H=false->b<=x.fst/\x.fst<n/\x.fst.toNat<c.length/\(decide (A<=l)=true->(j [d k [],f]).same v)/\(decide (A<=l)=false->(I=true->b<=x.fst/\x.fst<n/\x.fst.toNat<c.length/\cn .i64 r/\b<=r/\r<n/\r.toNat<c.length/\(J=true->(j [d k [],f]).same v)/\(J=false->K))/\(I=false->K))))/\(decide (x.fst<n)=false->x.snd.length=x.snd.length/\(j [d bp.off x.snd,δa true]).same v)) (by kernel_rfl) ?_;simp only[vcs];have hbad:ek p.offers (-1) c=none->(Θ (.i .i64) []).same (Θ .off (dx p c))/\false=fV p c:=λh=>⟨Px.2 (by simp[dx,h]),by simp[fV,h]⟩;refine⟨⟨by omega,by omega,by simp[j5],by simp[j5]⟩,?_⟩;rintro⟨i,out⟩ ⟨hi0,hi1,hlen,hla,hi⟩;simp only at hi0 hi1 hlen hla hi ⊢;refine⟨λhlt=>?_,λhge=>?_⟩
 ·rw[tN (d:=0) hi0 hlt] at hi;have hl1:j5 c (i+1)=bj c i.toNat 0:=by unfold j5;rw[if_neg (by omega),show i+1 - 1=i by omega]
  have hl2:i≠0->j5 c i=bj c (i - 1).toNat 0:=λh=>by unfold j5;rw[if_neg h]
  have hl3:i=0->j5 c i= -1:=λh=>by unfold j5;rw[if_pos h]
  generalize hx:bj c i.toNat 0=x at hi hl1 ⊢;simp only[ek] at hi;have hgood:¬(x<=j5 c i\/p.offers.length<=x)->ek p.offers (-1) c=(ek p.offers (j5 c (i+1)) (c.drop (i+1).toNat)).map λr=>(out++[bj p.offers x.toNat bp.off.dflt])++r:=λh=>by
   rw[if_neg h] at hi;rw[hi,hl1,Option.map_map];congr 1;funext r;simp
  have bad:(x<=j5 c i\/p.offers.length<=x)->(Θ (.i .i64) []).same (Θ .off (dx p c))/\false=fV p c:=λh=>hbad (by rw[hi,if_pos h];rfl);have PQ:¬(x<=j5 c i\/p.offers.length<=x)->((out++[bj p.offers x.toNat bp.off.dflt]).length:Int)<=j5 c (i+1)+1/\j5 c (i+1)<1000:=λh=>by
   rw[hl1];simp only[List.length_append,List.length_singleton];omega
  refine⟨by omega,by omega,by omega,λh1=>bad (.inl (by omega)),λh1=>⟨by omega,by omega,by omega,λh2=>bad (.inr (by omega)),λh2=>⟨λh3=>⟨by omega,by omega,by omega,by omega,by omega,by omega,by omega,λh4=>bad (.inl (by rw[hl2 (by omega)];omega)),λh4=>?_⟩,λh3=>?_⟩⟩⟩
  ·have:=hl2 (by omega);refine⟨by omega,by omega,by omega,by omega,by omega,by omega,by omega,by omega,by omega,⟨by omega,by omega,PQ (by omega),by omega,hgood (by omega)⟩,by omega⟩
  ·have:=hl3 (by omega);refine⟨by omega,by omega,by omega,by omega,by omega,by omega,by omega,by omega,by omega,⟨by omega,by omega,PQ (by omega),by omega,hgood (by omega)⟩,by omega⟩
 ·rw[show i.toNat=c.length from by omega,δQ] at hi;simp only[ek,Option.map_some,List.append_nil] at hi;exact⟨by simp[dx,hi],by simp[fV,hi]⟩
def M3:List bL:=HL::M2
theorem Gi:∀c∈M3,Holds Tryz.prog c:=by
 grind[M3,h109,hM2]
def Da:bL:=⟨18,bn×List Int,.cons dE (.one (dM (.i .i64))),λa=>a.2.length<=9223372036854775807,λa=> .si .i64 (bW a.1 a.2)⟩
theorem h55:Holds Tryz.prog Da:=by
 refine cF (L:=M3) Da (λp=>λ_=> .look) Gi ?_;rintro⟨p,c⟩ (n:c.length<=9223372036854775807);refine bO (let a:=γx .i64;let e:=decide (bB p≠(0:Int));let d:=γe .i64 (bW p c);let f:=!fy p (dx p c);True/\(e=true->(γe .i64 (bB p)).same d)/\(e=false->(c.length<=9223372036854775807/\p.offers.length<=1000)/\((!fV p c)=true->(a 4).same d)/\((!fV p c)=false->(p.classes.length<=8/\(dx p c).length<=1000/\∀(x:Off),x∈dx p c->(0:Int)<=x.bX/\x.bX<(↑p.classes.length:Int)/\x.want.ok=true)/\(f=true->(a 14).same d)/\(f=false->(a 0).same d)))) (by kernel_rfl) ?_;simp only[vcs];refine⟨λh=>by simp[bW,h],λh=>?_⟩;have g:bB p=0:=Ξ.1 h;obtain⟨m,j⟩:=tP g;obtain⟨s,o,l,q,t⟩:=tM m;refine⟨⟨n,by omega⟩,λa=>by grind[bW],λa=>⟨⟨l,?_,?_⟩,λk=>by grind[bW],λk=>by grind[bW]⟩⟩
 ·unfold fV at a;obtain⟨r,b⟩:=γp.1 a;have:=zE (by omega) b;grind[dx]
 ·unfold fV at a;obtain⟨r,b⟩:=γp.1 a;simp only[dx,b,γX];intro x i;have u:=CX (C0 (j x (C2 (by omega) b x i))).1;simp_all
def cu:List Off->Int
 |[]=>0
 |x::l=>x.value+cu l
def de (p:bn) (c:List Int):Int:=if bB p=0 then cu (dx p c) else 0
theorem nU:∀{l m:List Off},cu (l++m)=cu l+cu m
 |[],m=>by simp[cu];|x::l,m=>by simp only[γy,cu,@nU l m];omega
theorem PR {l:List Off} {i:Int} (a:0<=i) (h:i<l.length):cu (l.take (i+1).toNat)=cu (l.take i.toNat)+(bj l i.toNat bp.off.dflt).value:=by
 rw[kC (d:=bp.off.dflt) a h,nU];simp[cu]
def HM:bL:=⟨19,bn×List Int,.cons dE (.one (dM (.i .i64))),λa=>a.2.length<=9223372036854775807,λa=> .si .i64 (de a.1 a.2)⟩
def ZK (a:bn×List Int):Nat->cC
 |6=> .inv Int (λi=>⟨[(5,.row .off (dx a.1 a.2)),(7,.si .i64 (cu ((dx a.1 a.2).take i.toNat))),(8,.si .i64 i)],[.cells a.1.ss 27 20 false]⟩) (λs=>iS s 8)
  (λi=>0<=i/\i<=(dx a.1 a.2).length) (λi=>((dx a.1 a.2).length - i).toNat) λ_ _=> .look
 |_=> .look
theorem PS {p:bn} {c:List Int} (h:bB p=0):(dx p c).length<=160/\∀x∈dx p c,x∈p.offers:=by
 have d:=dN h;unfold dx;cases a:ek p.offers (-1) c with
 |none=>simp;|some r=>
  refine⟨?_,λx b=>C2 (by omega) a x b⟩;have e:=zE (by omega) a;have f:=d.2.1;grind
theorem qw {p:bn} (a:Good p):∀{l:List Off},(∀x∈l,x∈p.offers)->0<=cu l/\cu l<=1000000*l.length
 |[],_=>by simp[cu];|x::l,h=>by
  have c:=a.2.2.2.2 x (h x (by simp));have d:=@qw p a l λy b=>h y (by simp[b]);grind[cu]
theorem h58:Holds Tryz.prog HM:=by
 refine cF (L:=M3) HM ZK Gi ?_;rintro⟨p,c⟩ (A:c.length<=9223372036854775807);refine bO (let g:=γe .i64;let h:=(0:Int);let t:=decide (bB p≠h);let k:=γx .i64 0;let v:=g (de p c);let e:=Θ bp.off (dx p c);let f:=bq.cells (bn.ss p) 27 20 false;let d:=(↑(dx p c).length:Int);let n:=(↑(dx p c).length:Int);True/\(t=true->k.same v)/\(t=false->(c.length<=9223372036854775807/\p.offers.length<=1000)/\(((e.same e/\k.same (g (cu []))/\k.same (g 0)/\True)/\f.same f/\True)/\h<=h/\h<=d)/\∀(x:Int),let r:=cu (ω x.toNat (dx p c));let s:=r+(bj (dx p c) x.toNat bp.off.dflt).value;let a:=x+(1:Int);let b:=g a;h<=x/\x<=d->(decide (x<n)=true->h<=x/\x<n/\x.toNat<(dx p c).length/\cn .i64 s/\cn .i64 a/\((e.same e/\(g s).same (g (cu (ω a.toNat (dx p c))))/\b.same b/\True)/\f.same f/\True)/\(h<=a/\a<=d)/\(d - a).toNat<(d - x).toNat)/\(decide (x<n)=false->(g r).same v))) (by kernel_rfl) ?_;simp only[vcs];refine⟨λh=>by simp[de,h],λh=>⟨⟨A,by have:=(dN (Ξ.1 h)).2.1;omega⟩,⟨by simp[cu],by omega⟩,?_⟩⟩;have o:bB p=0:=Ξ.1 h;have u:=dN o;obtain⟨C,q⟩:=PS (c:=c) o;rintro i ⟨j,y⟩;refine⟨λm=>?_,λw=>?_⟩
 ·have B:=PR j m;have D:=qw u (l:=(dx p c).take i.toNat) λx g=>q x (γd g);have z:=qw u (l:=(dx p c).take (i+1).toNat) λx g=>q x (γd g);grind
 ·rw[show i.toNat=(dx p c).length from by omega,π];grind[de]
def cmpL:List Int->List Int->Int
 |[],[]=>0
 |[],_::_=> -1
 |_::_,[]=>1
 |a::l,b::m=>if a<b then -1 else if b<a then 1 else cmpL l m
def r32:bL:=⟨14,List Int×List Int,.cons (dM (.i .i64)) (.one (dM (.i .i64))),λa=>a.1.length<=1000000000000/\a.2.length<=1000000000000,λa=> .si .i64 (cmpL a.1 a.2)⟩
def ZL (a:List Int×List Int):Nat->cC
 |2=> .inv Int (λi=>⟨[(0,.row (.i .i64) a.1),(1,.row (.i .i64) a.2),(5,.si .i64 i)],[]⟩) (λs=>iS s 5)
  (λi=>0<=i/\i<=a.1.length/\i<=a.2.length/\cmpL a.1 a.2=cmpL (a.1.drop i.toNat) (a.2.drop i.toNat)) (λi=>(a.1.length - i).toNat) λ_ _=> .look
 |_=> .look
theorem h32:Holds Tryz.prog r32:=by
 refine cF (L:=[]) r32 ZL (by simp) ?_;rintro⟨a,b⟩ ⟨w,u⟩;refine bO (let d:=(0:Int);let h:=γx .i64;let j:=γe .i64;let k:=(-1:Int);let q:=Θ (bp.i .i64) a;let n:=Θ (bp.i .i64) b;let t:=h 0;let m:=(↑a.length:Int);let r:=(↑b.length:Int);let e:=(↑a.length:Int);let f:=(↑b.length:Int);let g:=j (cmpL a b);(((q.same q/\n.same n/\t.same (j 0)/\True)/\True)/\d<=d/\d<=m/\d<=r/\cmpL a b=cmpL a b)/\∀(x:Int),let o:=bj a x.toNat d;let p:=bj b x.toNat d;let c:=x+(1:Int);let l:=j c;d<=x/\x<=m/\x<=r/\cmpL a b=cmpL (γ4 x.toNat a) (γ4 x.toNat b)->(decide (x<e)=true->(decide (x<f)=true->d<=x/\x<e/\x.toNat<a.length/\d<=x/\x<f/\x.toNat<b.length/\(decide (o<p)=true->(h k).same g)/\(decide (o<p)=false->d<=x/\x<e/\x.toNat<a.length/\d<=x/\x<f/\x.toNat<b.length/\(decide (p<o)=true->(h 1).same g)/\(decide (p<o)=false->cn .i64 c/\((q.same q/\n.same n/\l.same l/\True)/\True)/\(d<=c/\c<=m/\c<=r/\cmpL a b=cmpL (γ4 c.toNat a) (γ4 c.toNat b))/\(m - c).toNat<(m - x).toNat)))/\(decide (x<f)=false->(decide (e<f)=true->(h k).same g)/\(decide (e<f)=false->(decide (f<e)=true->(h 1).same g)/\(decide (f<e)=false->t.same g))))/\(decide (x<e)=false->(decide (e<f)=true->(h k).same g)/\(decide (e<f)=false->(decide (f<e)=true->(h 1).same g)/\(decide (f<e)=false->t.same g)))) (by kernel_rfl) ?_;conv=>zeta
 simp only at w u;simp only[vcs];refine⟨⟨by omega,by omega,by omega⟩,?_⟩;rintro i ⟨j,v,z,h⟩;refine⟨λs=>⟨λk=>?_,λk=>?_⟩,λs=>?_⟩
 ·rw[tN (d:=0) j s,tN (d:=0) j k] at h;simp only[cmpL] at h;omega
 ·rw[tN (d:=0) j s,show i.toNat=b.length from by omega,δQ] at h;grind[cmpL]
 ·rw[show i.toNat=a.length from by omega,δQ] at h;refine⟨λk=>?_,λk=>⟨λy=>by omega,λy=>?_⟩⟩
  ·rw[<-Ψ a.length,tN (d:=0) (by omega) k] at h;exact h.symm
  ·rw[show a.length=b.length from by omega,δQ] at h;exact h.symm
def dW (l:List bD):bD:=⟨(l.map bD.a0).sum,(l.map bD.a1).sum,(l.map bD.a2).sum,(l.map bD.a3).sum,(l.map bD.a4).sum,(l.map bD.a5).sum⟩
def cK (p:bn) (l:List Int):List Off:=l.map λi=>bj p.offers i.toNat bp.off.dflt
def iW (p:bn) (L:List Off):Prop:=(L.map Off.bX).Nodup/\(dW (L.map Off.want)).le p.supply=true/\(dW (L.map (fa p))).le p.opn=true
instance (p:bn) (L:List Off):Decidable (iW p L):=by unfold iW;infer_instance
def kE (p:bn) (l:List Int):Bool:=decide (iW p (cK p l))
def iD (a b:bD) (k:Int):bD:=⟨if 0<k then b.a0 else a.a0,if 1<k then b.a1 else a.a1,if 2<k then b.a2 else a.a2,if 3<k then b.a3 else a.a3,if 4<k then b.a4 else a.a4,if 5<k then b.a5 else a.a5⟩
def bD.add (a b:bD):bD:=⟨a.a0+b.a0,a.a1+b.a1,a.a2+b.a2,a.a3+b.a3,a.a4+b.a4,a.a5+b.a5⟩
theorem xG {l m:List bD}:dW (l++m)=(dW l).add (dW m):=by simp[dW,bD.add]
theorem vz {b:bD} {l:List bD}:dW (b::l)=b.add (dW l):=by simp[dW,bD.add]
def bD.bd (b:bD) (n:Int):Prop:=(0<=b.a0/\b.a0<=n)/\(0<=b.a1/\b.a1<=n)/\(0<=b.a2/\b.a2<=n)/\(0<=b.a3/\b.a3<=n)/\(0<=b.a4/\b.a4<=n)/\(0<=b.a5/\b.a5<=n)
theorem HN:∀{l:List bD},(∀b∈l,b.ok=true)->(dW l).bd (4*l.length)
 |[],_=>by simp[dW,bD.bd];|b::l,h=>by
  have e:=bD.jz.1 (h b (by simp));have d:=@HN l λc a=>h c (by simp[a]);rw[vz];simp only[bD.bd,bD.add,γB] at d ⊢;omega
theorem ZM {p:bn} {x:Off} (h:x.want.ok=true):(fa p x).ok=true:=by
 have a:=bD.jz.1 h;rw[bD.jz];simp only[fa,HE,oc];omega
theorem HO {p:bn} (b:Good p) {l:List Int} (h:∀i∈l,0<=i/\i<p.offers.length):∀x∈cK p l,x∈p.offers:=by
 intro x a;obtain⟨i,c,rfl⟩:=γa.1 a;grind[dj]
def kF (p:bn) (i:Int):Int:=(bj p.offers i.toNat bp.off.dflt).value
def better (a b:Alloc):Alloc:=if b.value<a.value\/a.value=b.value/\cmpL a.chosen b.chosen<0 then a else b
def j6 (p:bn):Nat->Int->Alloc->Alloc->Alloc
 |0,_,_,b=>b
 |k+1,i,a,b=>j6 p k (i+1) a (if kE p (a.chosen++[i]) then j6 p k (i+1) ⟨a.chosen++[i],a.value+kF p i⟩ (better ⟨a.chosen++[i],a.value+kF p i⟩ b) else b)
def dS (p:bn) (i:Int):Nat:=(p.offers.length - i).toNat
def HQ (p:bn) (a:Alloc) (f:Int) (b:Alloc):Alloc:=j6 p (dS p f) f a (better a b)
def aS (s:cq) (id:Nat):Alloc:=match s.o[id]? with
 |some (.cells [r,v] _ _ _)=>⟨(jf (.i .i64) r).getD [],(v.int .i64).getD 0⟩
 |_=>⟨[],0⟩
theorem PT {L:List bL} {W:kQ} (c:bL) (F:eZ) (Λ:Nat->cC) (hW:mW Tryz.prog W) (hL:∀c∈L,Holds Tryz.prog c)
  (hF:fO c.f=some F) (a:c.α) (hlen:(c.A.put a).length=F.params) (hfr:∀d,lL c.f L=some d->∀b,gL (c.A.put a)=gL (d.A.put b)->¬d.dom b)
  (h:Vc (py (kR L W mX mY fO) Λ F (c.A.put a) λv=>v.qk (c.res a))):gA Tryz.prog c.f=true/\kP Tryz.prog c.f (gL (c.A.put a)) [] (c.res a).G []:=by
 refine zz (p:=kR L W mX mY fO) (Λ:=Λ) (rZ hW hL qp) (r7 hW) (λ_ _ h=>h) hF ?_ hlen (λ_ h=>vp h) h.out;simp only[pB,rc,Bool.false_eq_true,if_false];split
 ·rename_i d hd;have:ans (λa=>gL (d.A.put a)) d.dom (λa=>(d.res a).G) (gL (c.A.put a))=none:=by
   unfold ans;rw[dif_neg];rintro⟨b,h1,h2⟩;exact hfr d hd b h1 h2
  rw[this];rfl
 ·rfl
def cz (p:bn):Alloc:=HQ p ⟨[],0⟩ 0 ⟨[],0⟩
def hasB (m b:Int):Bool:=decide (gY.vd .i64 (m / 2^b.toNat) 1=1)
def Db (p:bn) (w:Int) (n:Nat):Int:=((ψ n).map λi:Nat=>if(i:Int)≠w then(2:Int)^i else 0).sum
def oO (p:bn) (m:Int):bn:={p with offers:=p.offers.filter λx=>hasB m x.bX}
theorem HS {p:bn} (h:Good p) (m:Int):Good (oO p m):=by
 refine⟨h.1,?_,h.2.2.1,h.2.2.2.1,λx hx=>h.2.2.2.2 x (γD.1 hx).1⟩;have:=List.length_filter_le (λx:Off=>hasB m x.bX) p.offers;have:=h.2.1;simp only[oO];omega
def vA (p:bn) (m:Int):Int:=(cz (oO p m)).value
theorem Dc {p:bn} {c:List Int} (e:bW p c=0):bB p=0/\fV p c=true/\Good p/\c.length<=160/\∀i∈c,0<=i/\i<p.offers.length:=by
 have b:bB p=0:=by
  unfold bW at e;omega
 have d:fV p c=true:=by
  unfold bW at e;grind
 have f:=dN b;obtain⟨r,g⟩:=γp.1 d;obtain⟨h,a⟩:=PN (by omega) g;refine⟨b,d,f,?_,a⟩;have k:=zE (by omega) g;have j:=f.2.1;grind
def HT (p:bn):Int:=Db p (-1) p.classes.length
structure PU (p:bn) (fs:List Int) (l o:bD) (L:List Off):Prop where
 nd:(L.map Off.bX).Nodup
 mem:∀x∈L,x∈p.offers/\x.bX∈fs
 w:(dW (L.map Off.want)).le l=true
 o:(dW (L.map (fa p))).le o=true
theorem PV {p:bn} {fs:List Int} {l o:bD}:∀{xs:List Off} {v:Int},v<=xs.foldl (oN p fs l o) v/\∀x∈xs,x.want.le l=true->(fa p x).le o=true->x.value+j4 p fs (l.sub x.want) (o.sub (fa p x))<=xs.foldl (oN p fs l o) v
 |[],v=>by simp;|y::xs,v=>by
  obtain⟨b,e⟩:=@PV p fs l o xs (oN p fs l o v y);have d:v<=oN p fs l o v y:=by
   grind[oN]
  refine⟨by grind,λx a c f=>?_⟩;simp only[δx];rcases γC.1 a with rfl|a
  ·have:x.value+j4 p fs (l.sub x.want) (o.sub (fa p x))<=oN p fs l o v x:=by
    unfold oN;grind
   omega
  simp_all
theorem fold_at {p:bn} {fs:List Int} {l o:bD}:∀{xs:List Off} {v:Int},xs.foldl (oN p fs l o) v=v\/∃x∈xs,x.want.le l=true/\(fa p x).le o=true/\xs.foldl (oN p fs l o) v=x.value+j4 p fs (l.sub x.want) (o.sub (fa p x))
 |[],v=>by simp;|y::xs,v=>by
  simp only[δx];rcases @fold_at p fs l o xs (oN p fs l o v y) with h|⟨x,d,a,c,b⟩
  ·rw[h];unfold oN;split<;>grind
  grind
theorem ZN {x:bD} {s t:List bD}:dW (s++x::t)=x.add (dW (s++t)):=by
 rw[xG,xG,vz];simp only[bD.add,bD.mk.injEq];omega
theorem ZO {x:Off} {s t:List Off}:cu (s++x::t)=x.value+cu (s++t):=by
 rw[nU,nU];simp only[cu];omega
theorem PW {p:bn} (c:Good p) {L:List Off} (h:∀x∈L,x∈p.offers):(dW (L.map Off.want)).bd (4*L.length)/\(dW (L.map (fa p))).bd (4*L.length):=by
 have e:∀x∈L,x.want.ok=true:=λx d=>(c.2.2.2.2 x (h x d)).2.2.1;have a:=@HN (L.map Off.want) (λb f=>by grind);grind[HN,ZM]
theorem Df {p:bn} (e:Good p):∀{fs:List Int} {l o:bD} {L:List Off},PU p fs l o L->cu L<=j4 p fs l o
 |[],l,o,L,h=>by
  have:L=[]:=by
   cases L with
   |nil=>rfl;|cons x L=>exact absurd (h.mem x (by simp)).2 (by simp)
  grind[cu,j4];|f::fs,l,o,L,h=>by
  obtain⟨D,B⟩:=@PV p fs l o (zF p f) (j4 p fs l o);have b:j4 p (f::fs) l o=(zF p f).foldl (oN p fs l o) (j4 p fs l o):=rfl;rw[b];by_cases d:∃x∈L,x.bX=f
  ·obtain⟨x,d,m⟩:=d;obtain⟨s,t,rfl⟩:=List.append_of_mem d;obtain⟨u,c,w,j⟩:=h;have i:=c x d;have g:∀y∈s++t,y∈p.offers:=λy a=>(c y (by grind)).1;obtain⟨z,v⟩:=PW e g;rw[γb,ξ,ZN,bD.le_iff,<-γb] at w j;simp only[bD.add,bD.bd] at w j z v;have q:x.want.le l=true:=by rw[bD.le_iff];omega
   have r:(fa p x).le o=true:=by rw[bD.le_iff];omega
   have A:=B x (γD.2 ⟨i.1,by simp[m]⟩) q r;rw[γb,ξ,List.nodup_append] at u;have n:∀y∈s++t,y.bX≠f:=λy a=>by
    rw[<-m];rcases γh.1 a with a|a;·simp_all
    simp_all
   have k:cu (s++t)<=j4 p fs (l.sub x.want) (o.sub (fa p x)):=Df e
    {nd:=by
      grind
     mem:=λy a=>by
      grind
     w:=by grind[bD.le_iff,bD.sub]
     o:=by grind[bD.le_iff,bD.sub]};rw[ZO];omega
  ·have:=Df e (fs:=fs) (l:=l) (o:=o) (L:=L) ⟨h.nd,λy a=>by
    have C:=h.mem y a;simp_all,h.w,h.o⟩;omega
theorem Dh {p:bn} (k:Good p):∀{fs:List Int} {l o:bD},fs.Nodup->bD.zero.le l=true->bD.zero.le o=true->∃L,PU p fs l o L/\cu L=j4 p fs l o
 |[],l,o,_,g,e=>⟨[],⟨by simp,by simp,g,e⟩,rfl⟩
 |f::fs,l,o,r,g,e=>by
  have c:=γU.1 r;have d:j4 p (f::fs) l o=(zF p f).foldl (oN p fs l o) (j4 p fs l o):=rfl;rw[d];rcases @fold_at p fs l o (zF p f) (j4 p fs l o) with h|⟨x,q,m,u,n⟩
  ·rw[h];obtain⟨L,a,j⟩:=Dh k (l:=l) (o:=o) c.2 g e;exact⟨L,⟨a.nd,λy b=>⟨(a.mem y b).1,by simp[(a.mem y b).2]⟩,a.w,a.o⟩,j⟩
  ·rw[n];have z:=bD.le_iff.1 m;have A:=bD.le_iff.1 u;obtain⟨L,a,j⟩:=Dh k (l:=l.sub x.want) (o:=o.sub (fa p x)) c.2 (by grind[bD.le_iff,bD.zero,bD.sub]) (by grind[bD.le_iff,bD.zero,bD.sub]);have s:=γD.1 q;have i:x.bX=f:=by simp_all
   refine⟨x::L,⟨?_,?_,?_,?_⟩,by grind[cu]⟩
   ·rw[ξ,γU];refine⟨λt=>?_,a.nd⟩;obtain⟨y,b,v⟩:=γa.1 t;exact c.1 (by rw[<-i,<-v];exact(a.mem y b).2)
   ·intro y b;rcases γC.1 b with rfl|b;·simp_all
    ·exact⟨(a.mem y b).1,by simp[(a.mem y b).2]⟩
   ·have:=bD.le_iff.1 a.w;grind[vz,bD.le_iff,bD.add,bD.sub]
   ·have:=bD.le_iff.1 a.o;grind[vz,bD.le_iff,bD.add,bD.sub]
theorem tQ {p:bn} {l m:List Int}:cK p (l++m)=cK p l++cK p m:=by simp[cK]
theorem sg {p:bn} {i:Int} {l:List Int}:cK p (i::l)=bj p.offers i.toNat bp.off.dflt::cK p l:=rfl
def Di (p:bn) (l:List Int):Prop:=∀i∈l,0<=i/\i<p.offers.length
theorem Dj {p:bn} (f:Good p) {L M:List Off} (c:∀x∈M,x∈p.offers) (h:iW p (L++M)):iW p L:=by
 obtain⟨e,d⟩:=PW f c;obtain⟨g,a,b⟩:=h;rw[γb,xG,bD.le_iff] at a b;simp only[bD.add,bD.bd] at a b e d;refine⟨?_,?_,?_⟩<;>grind[bD.le_iff]
theorem PX {p:bn} (a:Good p) {l m:List Int} (b:Di p m) (h:kE p (l++m)=true):kE p l=true:=by
 unfold kE at h ⊢;have h:=of_decide_eq_true h;rw[tQ] at h;exact decide_eq_true (Dj a (HO a b) h)
def nc (i:Int) (k:Nat) (t:List Int):Prop:=t.Pairwise (·<·)/\∀j∈t,i<=j/\j<i+k
theorem PY {a b:Alloc}:a.value<=(better a b).value/\b.value<=(better a b).value:=by
 grind[better]
theorem PZ {a b:Alloc}:better a b=a\/better a b=b:=by
 grind[better]
theorem zI {p:bn}:∀{k:Nat} {i:Int} {a b:Alloc},b.value<=(j6 p k i a b).value
 |0,_,_,b=>by simp[j6];|k+1,i,a,b=>by
  simp only[j6];refine ε1 ?_ zI;split;·exact ε1 PY.2 zI
  ·omega
theorem HU {p:bn} (h:Good p):∀{k:Nat} {i:Int} {a b:Alloc} {t:List Int},0<=i->i+k<=p.offers.length->t≠[]->nc i k t->kE p (a.chosen++t)=true->a.value+cu (cK p t)<=(j6 p k i a b).value
 |0,i,a,b,t,_,_,u,c,_=>by
  cases t with
  |nil=>simp_all;|cons j t=>
   have:=c.2 j (by simp);omega
 |k+1,i,a,b,t,w,x,u,c,s=>by
  cases t with
  |nil=>simp_all;|cons j t=>
   have v:=c.2 j (by simp);have q:=γA.1 c.1;simp only[j6];by_cases l:j=i
   ·subst l;have d:Di p t:=λm e=>by
     have:=c.2 m (by simp[e]);omega
    have f:kE p (a.chosen++[j]++t)=true:=by simp_all
    have g:kE p (a.chosen++[j])=true:=PX h d f;rw[if_pos g];refine ε1 ?_ zI;rw[sg];simp only[cu];cases t with
    |nil=>
     refine ε1 ?_ zI;refine ε1 ?_ PY.1;simp[cu,cK,kF];|cons o n=>
     have:=HU h (k:=k) (i:=j+1) (a:=⟨a.chosen++[j],a.value+kF p j⟩) (b:=better ⟨a.chosen++[j],a.value+kF p j⟩ b) (t:=o::n) (by omega) (by omega) (by simp) ⟨q.2,λm e=>by
      have r:=c.2 m (List.mem_cons_of_mem _ e);grind⟩ f;grind[kF]
   ·exact HU h (by omega) (by omega) (by simp) ⟨c.1,λm e=>by
     have r:=c.2 m e;grind⟩ s
theorem HV {p:bn} (g:Good p):∀{k:Nat} {i:Int} {a b:Alloc},j6 p k i a b=b\/∃t,t≠[]/\nc i k t/\kE p (a.chosen++t)=true/\j6 p k i a b=⟨a.chosen++t,a.value+cu (cK p t)⟩
 |0,i,a,b=> .inl rfl
 |k+1,i,a,b=>by
  have l:∀{t:List Int},nc (i+1) k t->nc i (k+1) t:=λh=>⟨h.1,λj c=>by have:=h.2 j c;omega⟩;simp only[j6];rcases @HV p g k (i+1) a (if kE p (a.chosen++[i]) then j6 p k (i+1) ⟨a.chosen++[i],a.value+kF p i⟩ (better ⟨a.chosen++[i],a.value+kF p i⟩ b) else b) with h|⟨t,m,d,n,o⟩
  ·rw[h];split
   ·rename_i q;have e:(⟨a.chosen++[i],a.value+kF p i⟩:Alloc)=⟨a.chosen++[i],a.value+cu (cK p [i])⟩:=by simp[cu,cK,kF]
    have f:nc i (k+1) [i]:=⟨by simp,λj c=>by grind⟩;rcases @HV p g k (i+1) ⟨a.chosen++[i],a.value+kF p i⟩ (better ⟨a.chosen++[i],a.value+kF p i⟩ b) with h|⟨t,m,d,n,o⟩;·grind[PZ]
    ·refine .inr ⟨i::t,by simp,⟨γA.2 ⟨λj c=>by have:=d.2 j c;omega,d.1⟩,λj c=>?_⟩,by simp_all,?_⟩
     ·rcases γC.1 c with rfl|c;·omega
      ·have:=d.2 j c;omega
     grind[sg,cu,kF]
   simp_all
  grind
theorem HW {p:bn}:cz p=j6 p p.offers.length 0 ⟨[],0⟩ ⟨[],0⟩:=by
 grind[dS,cz,HQ,PZ]
theorem HY {p:bn} (f:Good p) {t:List Int} (e:nc 0 p.offers.length t) (d:kE p t=true):cu (cK p t)<=(cz p).value:=by
 rw[HW];by_cases c:t=[]
 ·subst c;exact zI
 ·have:=HU f (k:=p.offers.length) (i:=0) (a:=⟨[],0⟩) (b:=⟨[],0⟩) (t:=t) (by omega) (by omega) c e d;simp_all
theorem P0 {p:bn} (a:Good p):kE p []=true:=by
 have b:=bD.jz.1 a.2.2.1;have c:=bD.jz.1 a.2.2.2.1;unfold kE;refine decide_eq_true ⟨by simp[cK],?_,?_⟩;all_goals simp_all[bD.le_iff,cK,dW]
theorem HZ {p:bn} (a:Good p):∃t,nc 0 p.offers.length t/\kE p t=true/\cz p=⟨t,cu (cK p t)⟩:=by
 rw[HW];rcases @HV p a p.offers.length 0 ⟨[],0⟩ ⟨[],0⟩ with h|⟨t,b,e,c,d⟩;·exact⟨[],⟨by simp,by simp⟩,P0 a,by rw[h];rfl⟩
 grind
def P3:Bool:=(ψ 256).all λm=>[0,1,2,3,4,5,6,7].all λb:Int=>hasB m b==decide (b∈rh m)
theorem ZP:P3=true:=by kernel_rfl
theorem H3 {m b:Int} (h0:0<=m) (h1:m<256) (h2:0<=b) (h3:b<8):hasB m b=decide (b∈rh m):=by
 have h:=ZP;simp only[P3,κ,γm] at h;have h:=h m.toNat (by omega) b (by
  have:b=0\/b=1\/b=2\/b=3\/b=4\/b=5\/b=6\/b=7:=by omega
  rcases this with rfl|rfl|rfl|rfl|rfl|rfl|rfl|rfl<;>simp);rw[show((m.toNat:Nat):Int)=m by omega] at h;simpa using h
theorem ZQ {p:bn} {t:List Int} (h:nc 0 p.offers.length t):Di p t:=λj hj=>by
 have:=h.2 j hj;omega
theorem ZR {p:bn} (b:Good p) {m:Int} (j:0<=m) (e:m<256):vA p m<=j4 p (rh m) p.supply p.opn:=by
 obtain⟨t,i,f,g⟩:=HZ (HS b m);unfold vA;rw[g];have d:=of_decide_eq_true f;refine Df b ⟨d.1,λx h=>?_,d.2.1,d.2.2⟩;have c:=HO (HS b m) (ZQ i) x h;have a:=γD.1 c;have k:=b.2.2.2.2 x a.1;have l:=b.1;refine⟨a.1,?_⟩;have:=H3 j e k.1 (by omega);simp_all
theorem H4 {L M:List Off} (h:L.Perm M):cu L=cu M:=by
 induction h with
 |nil=>rfl;|cons x _ ih=>simp only[cu];omega;|swap x y l=>simp only[cu];omega;|trans _ _ a b=>omega
theorem P4 {L M:List bD} (h:L.Perm M):dW L=dW M:=by
 induction h with
 |nil=>rfl;|cons x _ ih=>rw[vz,vz,ih];|swap x y l=>
  simp only[vz,bD.add,bD.mk.injEq];omega;|trans _ _ a b=>rw[a,b]
theorem Dk {p:bn} {L M:List Off} (h:L.Perm M) (hF:iW p L):iW p M:=by
 obtain⟨h1,h2,h3⟩:=hF;refine⟨((h.map _).nodup_iff).1 h1,?_,?_⟩;·rw[<-P4 (h.map _)];exact h2
 ·rw[<-P4 (h.map _)];exact h3
theorem H5 (q:Off->Bool):∀(O a:List Off),∃t:List Int,t.Pairwise (·<·)/\(∀j∈t,(a.length:Int)<=j/\j<a.length+O.length)/\(t.map λj=>bj (a++O) j.toNat bp.off.dflt)=O.filter q
 |[],a=>⟨[],by simp,by simp,by simp⟩
 |x::O,a=>by
  obtain⟨t,c,g,d⟩:=H5 q O (a++[x]);have e:a++[x]++O=a++x::O:=by simp
  rw[e] at d;have h:((a++[x]).length:Int)=a.length+1:=by simp
  have f:∀j∈t,(a.length:Int)+1<=j/\j<a.length+1+O.length:=λj b=>by
   simp_all
  by_cases i:q x=true
  ·refine⟨(a.length:Int)::t,γA.2 ⟨λj b=>by grind,c⟩,λj b=>?_,?_⟩;·grind
   simp_all[cV]
  grind
theorem Dl {p:bn}:∀{l:List Off} {a:List nI},iV p a l=0->(l.map Off.key).Nodup/\∀x∈l,x.key∉a
 |[],_,_=>by simp;|o::r,a,h=>by
  simp only[iV] at h;split at h;·omega
  ·split at h;·cases h
   ·rename_i d b;obtain⟨c,e⟩:=Dl h;simp_all
theorem Dm {α β:Type} (f:α->β):∀{l:List α},(l.map f).Nodup->l.Nodup
 |[],_=>by simp;|x::l,h=>by
  rw[ξ,γU] at h;exact γU.2 ⟨λhm=>h.1 (List.mem_map_of_mem hm),Dm f h.2⟩
theorem P5 {p:bn} (h:bB p=0):p.offers.Nodup:=by
 unfold bB at h;split at h;·rename_i h1;exact absurd h h1
 ·exact Dm _ (Dl h).1
theorem P6 (m:Int):(rh m).Nodup:=by
 unfold rh;exact ζG δm (by decide)
theorem ZS {p:bn} (f:bB p=0) {m:Int} (D:0<=m) (u:m<256):j4 p (rh m) p.supply p.opn<=vA p m:=by
 have b:=dN f;have A:=bD.jz.1 b.2.2.1;have y:=bD.jz.1 b.2.2.2.1;obtain⟨L,c,h⟩:=Dh b (P6 m) (l:=p.supply) (o:=p.opn) (by grind[bD.le_iff,bD.zero]) (by grind[bD.le_iff,bD.zero]);obtain⟨t,n,B,g⟩:=H5 (λx=>decide (x∈L)) (oO p m).offers [];have i:cK (oO p m) t=(oO p m).offers.filter λx=>decide (x∈L):=g;have q:∀x∈L,x∈(oO p m).offers:=λx s=>by
  have d:=c.mem x s;have C:=b.2.2.2.2 x d.1;have v:=b.1;refine γD.2 ⟨d.1,?_⟩;grind[H3]
 have e:((oO p m).offers.filter λx=>decide (x∈L)).Nodup:=ζG (List.Sublist.trans δm δm) (P5 f);have a:L.Perm (cK (oO p m) t):=by
  rw[i];refine(List.perm_ext_iff_of_nodup (Dm _ c.nd) e).2 λx=>?_;simp_all
 have k:iW (oO p m) L:=⟨c.nd,c.w,c.o⟩;have r:kE (oO p m) t=true:=decide_eq_true (Dk a k);have:=HY (HS b m) ⟨n,λj z=>by simp_all⟩ r;rw[<-H4 a,h] at this;exact this
theorem ZT {p:bn} (hc:bB p=0) {m:Int} (h0:0<=m) (h1:m<256):vA p m=j4 p (rh m) p.supply p.opn:=by
 have a:=ZR (dN hc) h0 h1;have b:=ZS hc h0 h1;omega
theorem ZU {p:bn} (hc:bB p=0) {m:Int} (h0:0<=m) (h1:m<2^p.classes.length):qt p m=vA p m:=by
 have hf:C4 p m=0:=by
  unfold C4;rw[if_neg (by simp[hc]),if_neg (by omega)]
 have h2:=zG (dN hc).1;unfold qt;rw[if_pos hf,ZT hc h0 (by omega)];rfl
def P7:Bool:=(ψ 9).all λn=>decide (Db bn.zero (-1) n=2^n - 1)&&(ψ n).all λb=>decide (Db bn.zero b n=ZA (2^n - 1) b)
theorem ZV:P7=true:=by kernel_rfl
theorem P8 {p:bn} (h:p.classes.length<=8):Db p (-1) p.classes.length=allM p:=by
 have hk:=ZV;simp only[P7,κ,γm,Bool.and_eq_true,decide_eq_true_eq] at hk;exact(hk p.classes.length (by omega)).1
theorem ZW {p:bn} (hc:bB p=0):qt p (allM p)=vA p (HT p):=by
 have hg:=dN hc;have h2:=zG hg.1;unfold HT;rw[P8 hg.1];exact ZU hc (by unfold allM;omega) (by unfold allM;omega)
theorem Dn {p:bn}:∀{c:List Int} {s:Int},c.foldl (HI p) s=s+cu (cK p c)
 |[],s=>by simp[cK,cu];|i::c,s=>by
  rw[δx,Dn,sg];simp only[cu,HI];omega
theorem Dp {p:bn}:∀{c:List Int} {a:Int} {r:List Off},ek p.offers a c=some r->r=cK p c
 |[],a,r,h=>by simp[ek] at h;subst h;rfl;|i::c,a,r,h=>by
  simp only[ek] at h;split at h;·cases h
  ·obtain⟨d,b,rfl⟩:=ε.1 h;rw[Dp b,sg]
theorem ZX {p:bn} {c:List Int} (hz:bW p c=0):de p c=vy p c:=by
 obtain⟨q1,q2,hg,q4,q5⟩:=Dc hz;obtain⟨r,hr⟩:=γp.1 q2;unfold de vy;rw[if_pos q1,Dn];simp only[dx,hr,γX,Dp hr];omega
theorem P9 {p:bn} {x:Off} (b:0<=x.bX) (a:x.bX<p.classes.length):dK p x.bX x=1:=by
 unfold dK;omega
theorem sum_cons {p:bn} {x:Off} {L:List Off} {r:Int}:cG p (x::L) r=dK p r x+cG p L r:=by simp[cG]
theorem Qa {p:bn} {r:Int}:∀{L:List Off},(∀x∈L,x.want.ok=true)->(∃x∈L,x.bX=r/\0<=r/\r<p.classes.length)->1<=cG p L r
 |[],_,h=>by simp_all;|y::L,a,⟨x,c,e,f,d⟩=>by
  have g:=@pD p r y (a y (by simp));have i:=@sf p r L λz b=>a z (by simp[b]);rw[sum_cons];rcases γC.1 c with rfl|c;·grind[P9]
  ·have:=@Qa p r L (λz b=>a z (by simp[b])) ⟨x,c,e,f,d⟩;omega
theorem Qb {p:bn}:∀{L:List Off},(∀x∈L,x.want.ok=true/\0<=x.bX/\x.bX<p.classes.length)->(∀r:Int,0<=r->r<p.classes.length->cG p L r<=1)->(L.map Off.bX).Nodup
 |[],_,_=>by simp;|x::L,e,f=>by
  have a:=e x (by simp);rw[ξ,γU];have d:∀r:Int,0<=r->r<p.classes.length->cG p L r<=1:=λr j b=>by
   have:=f r j b;have:=@pD p r x a.1;grind[sum_cons]
  refine⟨λg=>?_,Qb (λy c=>e y (by simp[c])) d⟩;obtain⟨y,c,h⟩:=γa.1 g;have b:=f x.bX a.2.1 a.2.2;have k:=@Qa p x.bX L (λz i=>(e z (by simp[i])).1) ⟨y,c,h,a.2.1,a.2.2⟩;rw[sum_cons,P9 a.2.1 a.2.2] at b;omega
theorem ZY {p:bn} {c:List Int} (e:bW p c=0):((cK p c).map Off.bX).Nodup:=by
 obtain⟨j,f,a,m,h⟩:=Dc e;obtain⟨r,l⟩:=γp.1 f;have n:dx p c=cK p c:=by grind[dx,Dp]
 have d:fy p (cK p c)=true:=by
  simp_all[bW]
 refine Qb (p:=p) (λx g=>?_) λr o i=>?_
 ·have:=a.2.2.2.2 x (HO a h x g);simp_all
 ·have b:=nS.1 d r.toNat (by grind[cZ]);rw[show((r.toNat:Nat):Int)=r by omega] at b;have k:df p r=1:=by unfold df;omega
  omega
def bD.at (b:bD) (k:Nat):Int:=bj [b.a0,b.a1,b.a2,b.a3,b.a4,b.a5] k 0
theorem H6 {a b:bD} (h:a.le b=true) (k:Nat):a.at k<=b.at k:=by
 grind[bD.le_iff,bD.at,bj]
theorem nV (k:Nat):∀(l:List bD),(dW l).at k=(l.map λb=>b.at k).sum:=by
 intro l;unfold bD.at dW;match k with
 |0|1|2|3|4|5=>simp only[bj,List.getElem?_cons_zero,γz,γX];|k+6=>
  simp only[bj,γz,List.getElem?_nil,Option.getD_none];induction l<;>grind
theorem Qc {p:bn} {x:Off} {k:Nat} (a:k<6):dK p (p.classes.length+k) x=x.want.at k:=by
 unfold dK;rw[if_neg (by omega),if_pos (by omega),show((p.classes.length:Int)+k - p.classes.length).toNat=k by omega];rfl
theorem Qd {p:bn} {x:Off} {k:Nat} (a:k<6):dK p (p.classes.length+6+k) x=(fa p x).at k:=by
 unfold dK;rw[if_neg (by omega),if_neg (by omega),show((p.classes.length:Int)+6+k - p.classes.length - 6).toNat=k by omega];have:k=0\/k=1\/k=2\/k=3\/k=4\/k=5:=by omega
 rcases this with rfl|rfl|rfl|rfl|rfl|rfl<;>simp[fa,HE,oc,lq,bD.at,bj]
theorem Qe {p:bn} {k:Nat} (a:k<6):df p (p.classes.length+k)=p.supply.at k:=by
 unfold df;rw[if_neg (by omega),if_pos (by omega),show((p.classes.length:Int)+k - p.classes.length).toNat=k by omega];rfl
theorem Qf {p:bn} {k:Nat} (a:k<6):df p (p.classes.length+6+k)=p.opn.at k:=by
 unfold df;rw[if_neg (by omega),if_neg (by omega),show((p.classes.length:Int)+6+k - p.classes.length - 6).toNat=k by omega];rfl
theorem Qg {p:bn} {r:Int} (a:0<=r) (b:r<p.classes.length):∀{L:List Off},(L.map Off.bX).Nodup->cG p L r<=1/\(r∉L.map Off.bX->cG p L r=0)
 |[],_=>by simp[cG];|x::L,h=>by
  rw[ξ,γU] at h;obtain⟨d,e⟩:=Qg a b h.2;have c:dK p r x=if x.bX=r then 1 else 0:=by unfold dK;omega
  rw[sum_cons,c];grind
theorem Qh {p:bn} {L:List Off} (h:iW p L):fy p L=true:=by
 obtain⟨j,i,f⟩:=h;refine nS.2 λr g=>?_;unfold cZ at g;by_cases l:r<p.classes.length
 ·have:=(Qg (p:=p) (r:=r) (by omega) (by omega) j).1;have d:df p r=1:=by unfold df;omega
  omega
 by_cases d:r<p.classes.length+6
 ·obtain⟨k,rfl⟩:∃k:Nat,r=p.classes.length+k:=⟨r - p.classes.length,by omega⟩;have c:k<6:=by omega
  have e:(((p.classes.length+k:Nat)):Int)=p.classes.length+k:=by omega
  rw[e,Qe c];have a:=H6 i k;rw[nV,δg] at a;have:cG p L (p.classes.length+k)=(L.map ((λb=>bD.at b k)∘Off.want)).sum:=by
   unfold cG;congr 1;simp_all[Qc]
  omega
 ·obtain⟨k,rfl⟩:∃k:Nat,r=p.classes.length+6+k:=⟨r - p.classes.length - 6,by omega⟩;have c:k<6:=by omega
  have e:(((p.classes.length+6+k:Nat)):Int)=p.classes.length+6+k:=by omega
  rw[e,Qf c];have a:=H6 f k;rw[nV,δg] at a;have:cG p L (p.classes.length+6+k)=(L.map ((λb=>bD.at b k)∘fa p)).sum:=by
   unfold cG;congr 1;simp_all[Qd]
  omega
theorem Qi {l:List Off}:∀{t:List Int} {a:Int},t.Pairwise (·<·)->(∀j∈t,a<j/\j<l.length)->ek l a t=some (t.map λi=>bj l i.toNat bp.off.dflt)
 |[],_,_,_=>rfl
 |i::t,a,h,d=>by
  have e:=d i (by simp);have c:=γA.1 h;unfold ek;rw[if_neg (by omega),Qi c.2 λj b=>⟨c.1 j b,(d j (by simp[b])).2⟩];rfl
theorem Qj {p:bn} (e:bB p=0) {t:List Int} (a:nc 0 p.offers.length t) (c:iW p (cK p t)):bW p t=0:=by
 have d:ek p.offers (-1) t=some (cK p t):=Qi a.1 λj b=>by have:=a.2 j b;omega
 simp_all[bW,fV,dx,Qh]
def Qk:Bool:=(ψ 9).all λn=>(ψ n).all λb=>hasB (2^n - 1) b
theorem ZZ:Qk=true:=by kernel_rfl
theorem Ql {p:bn} (hg:Good p) {b:Int} (h0:0<=b) (h1:b<p.classes.length):hasB (allM p) b=true:=by
 have h:=ZZ;simp only[Qk,κ,γm] at h;have:=h p.classes.length (by have:=hg.1;omega) b.toNat (by omega);rwa [show((b.toNat:Nat):Int)=b by omega] at this
theorem Z1 {p:bn} (hg:Good p):oO p (allM p)=p:=by
 unfold oO;rw[List.filter_eq_self.2 λx hx=>Ql hg (hg.2.2.2.2 x hx).1 (hg.2.2.2.2 x hx).2.1]
theorem Dq {p:bn} (hc:bB p=0):qt p (allM p)=(cz p).value:=by
 have hg:=dN hc;rw[ZW hc];unfold HT vA;rw[P8 hg.1,Z1 hg]
theorem Qm {p:bn} (hc:bB p=0):PL p (cz p).chosen=0/\iW p (cK p (cz p).chosen)/\nc 0 p.offers.length (cz p).chosen/\(cz p).value=cu (cK p (cz p).chosen):=by
 have hg:=dN hc;obtain⟨t,ht,hr,he⟩:=HZ hg;have hF:iW p (cK p t):=of_decide_eq_true hr;have hz:=Qj hc ht hF;have h1:=Dq hc;rw[he] at h1 ⊢;refine⟨?_,hF,ht,rfl⟩;unfold PL;have:vy p t=cu (cK p t):=by unfold vy;rw[Dn];omega
 rw[if_neg (by simp[hz]),if_neg (show ¬vy p t<qt p (allM p) by simp only at h1;omega)]
theorem Z2 {p:bn} (hg:Good p) {x:Int} (hx0:0<=x) (hx1:x<p.classes.length):x∈rh (allM p):=by
 have h8:=hg.1;have h2:=zG h8;have:=H3 (m:=allM p) (b:=x) (by unfold allM;omega) (by unfold allM;omega) hx0 (by omega);rw[Ql hg hx0 hx1] at this;exact of_decide_eq_true this.symm
theorem Qn {p:bn} (hc:bB p=0) {m:Int} (h0:0<=m) (h1:m<2^p.classes.length):qt p m=j4 p (rh m) p.supply p.opn:=by
 unfold qt;rw[if_pos];·rfl
 ·unfold C4;rw[if_neg (by simp[hc]),if_neg (by omega)]
def qx (p:bn) (l:List Off):bn:={p with offers:=l}
theorem H7 {a b:bD} (h:∀k,k<6->a.at k<=b.at k):a.le b=true:=by
 have i:=h 0 (by omega);have c:=h 1 (by omega);have d:=h 2 (by omega);have f:=h 3 (by omega);have g:=h 4 (by omega);have e:=h 5 (by omega);simp_all[bD.at,bj,bD.le_iff]
theorem Z3 {p:bn} {L:List Off} (d:(L.map Off.bX).Nodup) (c:fy p L=true):iW p L:=by
 refine⟨d,H7 λk a=>?_,H7 λk a=>?_⟩
 ·have h:=nS.1 c (p.classes.length+k) (by grind[cZ]);rw[show(((p.classes.length+k:Nat)):Int)=p.classes.length+k by omega,Qe a] at h;rw[nV,δg];have:cG p L (p.classes.length+k)=(L.map ((λb=>bD.at b k)∘Off.want)).sum:=by
   unfold cG;congr 1;simp_all[Qc]
  omega
 ·have h:=nS.1 c (p.classes.length+6+k) (by grind[cZ]);rw[show(((p.classes.length+6+k:Nat)):Int)=p.classes.length+6+k by omega,Qf a] at h;rw[nV,δg];have:cG p L (p.classes.length+6+k)=(L.map ((λb=>bD.at b k)∘fa p)).sum:=by
   unfold cG;congr 1;simp_all[Qd]
  omega
theorem Qo {l:List Off}:∀{t:List Int} {a:Int} {r:List Off}, -1<=a->ek l a t=some r->t.Pairwise (·<·)/\∀j∈t,a<j/\j<l.length
 |[],_,_,_,_=>by simp;|i::t,a,r,g,h=>by
  simp only[ek] at h;split at h;·cases h
  ·rename_i k;obtain⟨f,d,rfl⟩:=ε.1 h;obtain⟨e,c⟩:=Qo (by omega) d;refine⟨γA.2 ⟨λj b=>(c j b).1,e⟩,λj b=>?_⟩;grind
def ri (p:bn) (t:List Int):Prop:=nc 0 p.offers.length t/\iW p (cK p t)
theorem qy {p:bn} (c:bB p=0) {t:List Int}:bW p t=0↔ri p t:=by
 refine⟨λh=>?_,λh=>Qj c h.1 h.2⟩;have e:=ZY h;obtain⟨i,a,l,m,o⟩:=Dc h;obtain⟨r,d⟩:=γp.1 a;obtain⟨f,g⟩:=Qo (by omega) d;have n:dx p t=cK p t:=by grind[dx,Dp]
 have b:fy p (cK p t)=true:=by
  simp_all[bW]
 exact⟨⟨f,λj k=>by simp_all⟩,Z3 e b⟩
theorem Qp {p:bn} (a:Good p):ri p []:=⟨⟨by simp,by simp⟩,of_decide_eq_true (P0 a)⟩
theorem xH {p:bn} (hc:bB p=0) {t:List Int} (h:ri p t):de p t=cu (cK p t):=by
 have hz:=(qy hc).2 h;rw[ZX hz];unfold vy;rw[Dn];omega
theorem Dt {p:bn} (hc:bB p=0) {L:List Off} (hL:iW p L) (hm:∀x∈L,x∈p.offers):cu L<=qt p (allM p):=by
 have hg:=dN hc;have h2:=zG hg.1;rw[Qn hc (m:=allM p) (by unfold allM;omega) (by unfold allM;omega)];refine Df hg ⟨hL.1,λx hx=>?_,hL.2.1,hL.2.2⟩;have:=hg.2.2.2.2 x (hm x hx);exact⟨hm x hx,Z2 hg this.1 this.2.1⟩
theorem H8 {p:bn} (c:bB p=0):∃L,iW p L/\(∀x∈L,x∈p.offers)/\cu L=qt p (allM p):=by
 have a:=dN c;have f:=zG a.1;rw[Qn c (m:=allM p) (by grind[allM]) (by grind[allM])];have h:=bD.jz.1 a.2.2.1;have g:=bD.jz.1 a.2.2.2.1;obtain⟨L,b,e⟩:=Dh a (P6 (allM p)) (l:=p.supply) (o:=p.opn) (by grind[bD.le_iff,bD.zero]) (by grind[bD.le_iff,bD.zero]);exact⟨L,⟨b.nd,b.w,b.o⟩,λx d=>(b.mem x d).1,e⟩
theorem H9:∀l:List Int,cmpL l l=0
 |[]=>rfl
 |a::l=>by
  simp only[cmpL,if_neg (Int.lt_irrefl a)];exact H9 l
theorem Qq:∀{a b:List Int},cmpL a b=0->a=b
 |[],[],_=>rfl
 |[],_::_,h=>by simp[cmpL] at h;|_::_,[],h=>by simp[cmpL] at h;|x::a,y::b,h=>by
  simp only[cmpL] at h;split at h;·simp at h
  ·split at h;·simp at h
   ·rw[Qq h,show x=y by omega]
theorem Qr:∀{a b:List Int},cmpL a b<0↔0<cmpL b a
 |[],[]=>by simp[cmpL];|[],_::_=>by simp[cmpL];|_::_,[]=>by simp[cmpL];|x::a,y::b=>by
  simp only[cmpL];by_cases h1:x<y;·rw[if_pos h1,if_neg (by omega),if_pos h1];simp
  ·by_cases h2:y<x;·rw[if_neg h1,if_pos h2,if_pos h2];simp
   ·rw[if_neg h1,if_neg h2,if_neg h2,if_neg h1];exact Qr
theorem Qs:∀{a b c:List Int},cmpL a b<0->cmpL b c<0->cmpL a c<0
 |[],[],_,h,_=>by omega;|_::_,[],_,h,_=>by grind[cmpL];|[],_::_,[],_,h=>by grind[cmpL];|[],_::_,_::_,_,_=>by simp[cmpL];|_::_,_::_,[],_,h=>by grind[cmpL];|x::a,y::b,z::c,h,k=>by
  simp only[cmpL] at h k ⊢;by_cases g:x<y;·omega
  ·rw[if_neg g] at h;by_cases e:y<x;·omega
   ·rw[if_neg e] at h;by_cases f:y<z;·omega
    ·rw[if_neg f] at k;by_cases d:z<y;·omega
     ·rw[if_neg d] at k;rw[if_neg (by omega),if_neg (by omega)];exact Qs h k
def lN (a b:Alloc):Prop:=b.value<a.value\/a.value=b.value/\cmpL a.chosen b.chosen<0
theorem Qu {a b c:Alloc} (h:lN a b) (k:lN b c):lN a c:=by
 rcases h with h|⟨h1,h2⟩
 ·rcases k with k|⟨k1,_⟩;·left;omega
  ·left;omega
 ·rcases k with k|⟨k1,k2⟩;·left;omega
  ·exact .inr ⟨by omega,Qs h2 k2⟩
theorem zJ {a:Alloc}:¬lN a a:=by
 rintro(h|⟨_,h⟩);·omega
 ·rw[H9] at h;omega
theorem Z4 {a b:Alloc} (h:¬lN a b) (k:¬lN b a):a=b:=by
 obtain⟨l,v⟩:=a;obtain⟨m,w⟩:=b;simp only[lN,not_or,not_and] at h k;have hv:v=w:=by omega
 subst hv;have h2:=h.2 rfl;have k2:=k.2 rfl;have:=mt Qr.2 k2;rw[Qq (show cmpL l m=0 by omega)]
def nW (a:List Int):Nat->Nat
 |0=>0
 |n+1=>if bj a n 0=0 then nW a n else n+1
def bI (a:List Int):List Int:=a.take (nW a a.length)
def rj:bL:=⟨148,List Int,.one (dM (.i .u32)),λa=>a.length<=1000000000000,λa=> .row (.i .u32) (bI a)⟩
def Z5 (a:List Int):Nat->cC
 |2=> .inv Int (λn=>⟨[(0,.row (.i .u32) a),(3,.si .i64 n)],[]⟩) (λs=>iS s 3) (λn=>0<=n/\n<=a.length/\nW a n.toNat=nW a a.length) (λn=>n.toNat) λ_ _=> .look
 |_=> .look
theorem h152:Holds Tryz.prog rj:=by
 refine cF (L:=[]) rj Z5 (by simp) ?_;intro(a:List Int) (h:a.length<=1000000000000);refine bO (let e:=(0:Int);let f:=Θ;let c:=bp.i .u32;let d:=(↑a.length:Int);let l:=γe .i64 d;let g:=(↑a.length:Int);let j:=nW a a.length;((((f c a).same (f c a)/\l.same l/\True)/\True)/\e<=d/\d<=g/\nW a d.toNat=j)/\∀(x:Int),let r:=decide (e<x);let b:=x - (1:Int);let o:=decide (bj a b.toNat e=e);let k:=γe .i64 b;e<=x/\x<=g/\nW a x.toNat=j->(r=true->cn .i64 b/\e<=b/\b<d/\b.toNat<a.length/\(o=true->cn .i64 b/\(((f c a).same (f c a)/\k.same k/\True)/\True)/\(e<=b/\b<=g/\nW a b.toNat=j)/\b.toNat<x.toNat)/\(o=false->e<=x/\e<=x/\0<=x.toNat/\x.toNat<=x.toNat/\x.toNat<=a.length/\(f c (ω (x.toNat - 0) a)).same (f c (bI a))))/\(r=false->e<=x/\e<=x/\0<=x.toNat/\x.toNat<=x.toNat/\x.toNat<=a.length/\(f c (ω (x.toNat - 0) a)).same (f c (bI a)))) (by kernel_rfl) ?_;simp only[vcs];refine⟨⟨by omega,by omega,by simp⟩,?_⟩;rintro n ⟨f,t,q⟩;have e:(n.toNat=0\/0<n.toNat/\¬bj a (n.toNat - 1) 0=0)->ω (n.toNat - 0) a=bI a:=λh=>by
  unfold bI;rw[<-q];congr 1;rcases h with h|h;·rw[h];rfl
  ·obtain⟨v,h⟩:=h;obtain⟨m,u⟩:∃m,n.toNat=m+1:=⟨n.toNat - 1,by omega⟩;simp_all[nW]
 refine⟨λs=>⟨by omega,by omega,by omega,by omega,λp=>⟨by omega,⟨by omega,by omega,?_⟩,by omega⟩,λp=>⟨f,f,by omega,by omega,by omega,?_⟩⟩,λs=>⟨f,f,by omega,by omega,by omega,e (.inl (by omega))⟩⟩
 ·rw[<-q,show n.toNat=(n - 1).toNat+1 by omega];rw[nW,if_pos p]
 simp_all
def bk:List Int->Int
 |[]=>0
 |d::l=>d+4294967296*bk l
def bz (a:List Int):Prop:=∀d∈a,0<=d/\d<4294967296
def fE:List Int->Prop
 |[]=>True
 |d::l=>(l=[]->d≠0)/\fE l
theorem jh {d:Int} {l:List Int}:bz (d::l)↔(0<=d/\d<4294967296)/\bz l:=by simp[bz]
theorem nf {a:List Int} (h:bz a) (n:Nat):bz (a.take n):=λd b=>h d (γd b)
theorem fb:∀{a:List Int},bz a->0<=bk a
 |[],_=>Int.le_refl _
 |d::l,h=>by
  obtain⟨c,b⟩:=jh.1 h;have:=fb b;grind[bk]
theorem val_zero:∀{a:List Int},bz a->fE a->bk a=0->a=[]
 |[],_,_,_=>rfl
 |d::l,h,b,f=>by
  obtain⟨g,c⟩:=jh.1 h;have:=fb c;simp only[bk] at f;have e:=val_zero c b.2 (by omega);have:=b.1 e;omega
theorem val_inj:∀{a b:List Int},bz a->bz b->fE a->fE b->bk a=bk b->a=b
 |[],b,_,i,_,c,h=>(val_zero i c h.symm).symm
 |d::l,[],f,_,g,_,h=>val_zero f g h
 |d::l,e::m,f,i,g,c,h=>by
  obtain⟨p,j⟩:=jh.1 f;obtain⟨s,k⟩:=jh.1 i;have r:=fb j;have q:=fb k;simp only[bk] at h;have n:d=e:=by omega
  have o:bk l=bk m:=by omega
  rw[n,val_inj j k g.2 c.2 o]
theorem xI:∀{a:List Int} {x:Int},bk (a++[x])=bk a+4294967296^a.length*x
 |[],x=>by simp[bk];|d::l,x=>by
  simp only[γy,bk,xI,γB,γM,εq];grind
theorem Ia:∀{a:List Int} {x:Int},x≠0->fE (a++[x])
 |[],x,h=>⟨λ_=>h,trivial⟩
 |d::l,x,h=>⟨λb=>by simp at b,Ia h⟩
theorem zK {a:List Int} {n:Nat} (h:n<a.length):a.take (n+1)=a.take n++[bj a n 0]:=by
 simp_all[cV]
theorem Qv {a:List Int}:∀{n:Nat},n<=a.length->bk (a.take (nW a n))=bk (a.take n)/\fE (a.take (nW a n))
 |0,_=>by simp[nW,fE];|n+1,h=>by
  obtain⟨d,b⟩:=@Qv a n (by omega);have c:=zK (show n<a.length by omega);unfold nW;grind[xI,Ia]
theorem rk {a:List Int}:bk (bI a)=bk a/\fE (bI a):=by
 have:=@Qv a a.length (φ _);rw[π] at this;exact this
theorem sj {a:List Int} (h:bz a):bz (bI a):=nf h _
theorem tV {a:List Int}:(bI a).length<=a.length:=by grind[bI]
def vB:Nat->Int->List Int
 |0,_=>[]
 |k+1,n=>if n<=0 then[] else(n % 4294967296)::vB k (n / 4294967296)
def cM (n:Int):List Int:=vB n.toNat n
theorem Qw:∀{k:Nat} {n:Int},0<=n->n.toNat<=k->bk (vB k n)=n/\bz (vB k n)/\fE (vB k n)
 |0,n,b,h=>by
  have:n=0:=by omega
  subst this;exact⟨rfl,by simp[vB,bz],trivial⟩;|k+1,n,b,h=>by
  unfold vB;split
  ·have:n=0:=by omega
   subst this;exact⟨rfl,by simp[bz],trivial⟩
  ·obtain⟨d,a,c⟩:=@Qw k (n / 4294967296) (by omega) (by omega);refine⟨by grind[bk],jh.2 ⟨by omega,a⟩,λe f=>?_,c⟩;grind[bk]
theorem fW {n:Int} (h:0<=n):bk (cM n)=n/\bz (cM n)/\fE (cM n):=Qw h (φ _)
theorem zL {a:List Int} (h:bz a) (b:fE a):cM (bk a)=a:=by
 grind[fW,fb,val_inj]
theorem qA {a:List Int} (h:bz a):bI a=cM (bk a):=by
 grind[rk,zL,sj]
theorem ng:∀{a:List Int},bz a->bk a<4294967296^a.length
 |[],_=>by simp[bk];|d::l,h=>by
  obtain⟨c,b⟩:=jh.1 h;have:=ng b;grind[bk]
def iY (s t:List Int):Nat->Int
 |0=>0
 |i+1=>(bj s i 0+iY s t i+bj t i 0) / 4294967296
def sr (s t:List Int) (i:Nat):Int:=(bj s i 0+iY s t i+bj t i 0) % 4294967296
def oP (s t:List Int) (i:Nat):List Int:=(ψ i).map (sr s t)++δ (s.length+1 - i) 0
def big (a:List Int×List Int):List Int:=if a.1.length<a.2.length then a.2 else a.1
def lO (a:List Int×List Int):List Int:=if a.1.length<a.2.length then a.1 else a.2
def zM:bL:=⟨145,List Int×List Int,.cons (dM (.i .u32)) (.one (dM (.i .u32))),λa=>(bz a.1/\bz a.2)/\a.1.length<=100000000000/\a.2.length<=100000000000,λa=> .row (.i .u32) (cM (bk a.1+bk a.2))⟩
def Z6 (a:List Int×List Int):Nat->cC
 |6=> .inv Int (λi=>⟨[(0,.row (.i .u32) (big a)),(1,.row (.i .u32) (lO a)),(5,.ow 0 (oP (big a) (lO a) i.toNat).length 1),(6,.si .u64 (iY (big a) (lO a) i.toNat)),(21,.si .i64 (big a).length),(22,.si .i64 i)],[.row (.i .u32) (oP (big a) (lO a) i.toNat) 187 true]⟩) (λs=>iS s 22)
  (λi=>0<=i/\i<=(big a).length) (λi=>((big a).length - i).toNat) λ_ _=> .look
 |_=> .look
theorem ec {a:List Int} (h:bz a) (i:Nat):0<=bj a i 0/\bj a i 0<4294967296:=by
 by_cases b:i<a.length;·rw[cV b];exact h _ (List.getElem_mem b)
 grind[bj]
theorem Du {a:List Int} {i:Nat} (h:a.length<=i):bj a i 0=0:=by grind[bj]
theorem Ib {s t:List Int} (b:bz s) (a:bz t):∀i,0<=iY s t i/\iY s t i<=1
 |0=>by simp[iY];|i+1=>by
  have h:=Ib b a i;have c:=ec b i;have d:=ec a i;grind[iY]
theorem xJ {s t:List Int} {i:Nat} (h:i<=s.length):(oP s t i).length=s.length+1:=by grind[oP]
theorem Ic {s t:List Int} {i:Nat} {v:Int} (h:i<=s.length):(oP s t i).set i v=(ψ i).map (sr s t)++v::δ (s.length - i) 0:=by
 unfold oP;have a:s.length+1 - i=(s.length - i)+1:=by omega
 rw[a,List.replicate_succ];simp_all
theorem Qx {s t:List Int} {i:Nat} (h:i<s.length):oP s t (i+1)=(oP s t i).set i (sr s t i):=by
 rw[Ic (by omega)];unfold oP;rw[εe,γb,List.append_assoc];simp_all
theorem lQ {a:List Int} {i:Nat}:bk (a.take (i+1))=bk (a.take i)+4294967296^i*bj a i 0:=by
 by_cases h:i<a.length;·grind[zK,xI]
 ·rw[Du (by omega),γn (by omega),γn (by omega)];simp
theorem Ie {s t:List Int}:∀i,bk ((ψ i).map (sr s t))+4294967296^i*iY s t i=bk (s.take i)+bk (t.take i)
 |0=>by simp[iY,bk];|i+1=>by
  have a:=@Ie s t i;rw[εe,γb,ξ,γs,xI,lQ,lQ,γM];grind[sr,iY]
theorem h154:Holds Tryz.prog zM:=by
 refine cF (L:=[rj]) zM Z6 (by simpa using h152) ?_;rintro⟨a,b⟩ ⟨⟨ha,hb⟩,hla,hlb⟩;simp only at ha hb hla hlb;refine bO (let c:=(18446744073709551616:Int);let d:=(0:Int);let e:=(4294967296:Int);let f:=γe .i64;let g:=Θ;let h:=bq.row;let j:=γS;let m:=(↑(big (a,b)).length:Int);let q:=(↑(big (a,b)).length:Int);let r:=(↑(lO (a,b)).length:Int);let k:=bp.i .u32;let s:=g k (big (a,b));let t:=g k (lO (a,b));let v:=f m;let z:=oP (big (a,b)) (lO (a,b)) 0;let G:=∀(x:Int),let l:=oP (big (a,b)) (lO (a,b)) x.toNat;let n:=l.length;let o:=x+(1:Int);let A:=oP (big (a,b)) (lO (a,b)) o.toNat;let B:=f o;let C:=bj (big (a,b)) x.toNat d;let w:=iY (big (a,b)) (lO (a,b)) x.toNat;let y:=l.set q.toNat (w % e);let D:=λ(u u_1:Int) ↦let E:=(u % c+u_1) % c;d<=(32:Int)/\(32:Int)<=(64:Int)/\l.length=n/\d<=x/\x<(↑n:Int)/\l.length=n/\x.toNat<n/\cn .i64 o/\((s.same s/\t.same t/\(j 0 l.length 1).same (j 0 A.length 1)/\(γe .u64 (E / e)).same (γe .u64 (iY (big (a,b)) (lO (a,b)) o.toNat))/\v.same v/\B.same B/\True)/\(h k (l.set x.toNat (E % e)) 187 true).same (h k A 187 true)/\True)/\(d<=o/\o<=m)/\(m - o).toNat<(m - x).toNat;d<=x/\x<=m->(decide (x<m)=true->d<=x/\x<q/\x.toNat<(big (a,b)).length/\(decide (x<r)=true->d<=x/\x<r/\x.toNat<(lO (a,b)).length/\D (C % c+w) (bj (lO (a,b)) x.toNat d % c))/\(decide (x<r)=false->D C w))/\(decide (x<m)=false->l.length=n/\d<=q/\q<(↑n:Int)/\l.length=n/\q.toNat<n/\l.length=y.length/\y.length<=1000000000000/\(g k (bI y)).same (g k (cM (bk a+bk b))));let F:=λ(u:Bool) (u_1 u_2:List Int) ↦let p:=(↑u_1.length:Int)+(1:Int);decide ((↑a.length:Int)<(↑b.length:Int))=u->cn .i64 p/\d<=p/\p<=p/\p*(4:Int)<=(140737488355328:Int)/\p<=(1000000000000:Int)/\((((g k u_1).same s/\(g k u_2).same t/\(j 0 p.toNat 1).same (j 0 z.length 1)/\(γx .u64 0).same (γe .u64 (iY (big (a,b)) (lO (a,b)) 0))/\(f (↑u_1.length:Int)).same v/\(γx .i64 0).same (f 0)/\True)/\(h k (d::δ u_1.length d) 187 true).same (h k z 187 true)/\True)/\d<=d/\d<=m)/\G;F true b a/\F false a b) (by kernel_rfl) ?_;simp only[vcs];have hbs:(a.length<b.length/\big (a,b)=b/\lO (a,b)=a)\/(¬a.length<b.length/\big (a,b)=a/\lO (a,b)=b):=by
  by_cases h:a.length<b.length;·exact .inl ⟨h,if_pos h,if_pos h⟩
  ·exact .inr ⟨h,if_neg h,if_neg h⟩
 generalize big (a,b)=s at*;generalize lO (a,b)=t at*;have hrow:∀{u v:List Int},u=v->(bq.row (.i .u32) u 187 true).same (bq.row (.i .u32) v 187 true):=by rintro _ _ rfl;rfl
 have how:∀{u v:Nat},u=v->(γS 0 u 1).same (γS 0 v 1):=by rintro _ _ rfl;rfl
 have r0:∀u v:List Int,oP u v 0=0::δ u.length 0:=λu v=>rfl;refine⟨λh=>?_,λh=>?_⟩
 ·obtain⟨h1,e1,e2⟩:a.length<b.length/\s=b/\t=a:=by
   rcases hbs with h2|h2;·exact h2
   ·exact absurd (by omega) h2.1
  subst e1 e2;have hS:bz s:=by assumption
  have hT:bz t:=by assumption
  have hts:t.length<=s.length:=by omega
  have bd:=Ib hS hT;refine⟨⟨by omega,by omega⟩,by omega,by omega,by omega,by omega,⟨⟨⟨rfl,rfl,how (by rw[xJ (by omega)];omega),rfl,rfl⟩,hrow (r0 s t).symm⟩,by omega,by omega⟩,?_⟩;rintro i ⟨i0,i1⟩;have l1:=@xJ s t i.toNat (by omega);have b1:=bd i.toNat;have d1:=ec hS i.toNat;have d2:=ec hT i.toNat;refine⟨λlR=>?_,λnh=>?_⟩
  ·have l2:=@xJ s t (i.toNat+1) (by omega);have e:(i+1).toNat=i.toNat+1:=by omega
   have hst:=Qx (s:=s) (t:=t) (show i.toNat<s.length by omega);refine⟨i0,lR,by omega,λht=>?_,λht=>?_⟩
   ·have hv:(((bj s i.toNat 0 % 18446744073709551616+iY s t i.toNat) % 18446744073709551616+bj t i.toNat 0 % 18446744073709551616) % 18446744073709551616)=bj s i.toNat 0+iY s t i.toNat+bj t i.toNat 0:=by omega
    rw[hv,e];exact⟨i0,ht,by omega,by omega,by omega,i0,by omega,by omega,by omega,⟨⟨how (by omega),rfl⟩,hrow hst.symm⟩,by omega,by omega⟩
   ·have hz:=Du (a:=t) (i:=i.toNat) (by omega);have hv:((bj s i.toNat 0 % 18446744073709551616+iY s t i.toNat) % 18446744073709551616)=bj s i.toNat 0+iY s t i.toNat+bj t i.toNat 0:=by omega
    rw[hv,e];exact⟨by omega,by omega,i0,by omega,by omega,by omega,⟨⟨how (by omega),rfl⟩,hrow hst.symm⟩,by omega,by omega⟩
  ·have hi:i.toNat=s.length:=by omega
   have hc:iY s t i.toNat % 4294967296=iY s t i.toNat:=by omega
   rw[hc,Ψ,hi];rw[hi] at l1 b1;refine⟨by omega,by omega,by omega,by simp,by simp;omega,?_⟩;rw[Ic (φ _),Nat.sub_self,εO,qA ?_]
   ·rw[xI];have hv:=@Ie s t s.length;rw[π,γn hts] at hv;have hl:((ψ s.length).map (sr s t)).length=s.length:=by simp
    rw[hl,hv];try rw[ζt]
   ·intro d hd;rcases γh.1 hd with hd|hd
    ·obtain⟨j,_,rfl⟩:=γa.1 hd;unfold sr;omega
    ·rw[γT] at hd;omega
 ·obtain⟨h1,e1,e2⟩:¬a.length<b.length/\s=a/\t=b:=by
   rcases hbs with h2|h2;·exact absurd h2.1 (by omega)
   ·exact h2
  subst e1 e2;have hS:bz s:=by assumption
  have hT:bz t:=by assumption
  have hts:t.length<=s.length:=by omega
  have bd:=Ib hS hT;refine⟨⟨by omega,by omega⟩,by omega,by omega,by omega,by omega,⟨⟨⟨rfl,rfl,how (by rw[xJ (by omega)];omega),rfl,rfl⟩,hrow (r0 s t).symm⟩,by omega,by omega⟩,?_⟩;rintro i ⟨i0,i1⟩;have l1:=@xJ s t i.toNat (by omega);have b1:=bd i.toNat;have d1:=ec hS i.toNat;have d2:=ec hT i.toNat;refine⟨λlR=>?_,λnh=>?_⟩
  ·have l2:=@xJ s t (i.toNat+1) (by omega);have e:(i+1).toNat=i.toNat+1:=by omega
   have hst:=Qx (s:=s) (t:=t) (show i.toNat<s.length by omega);refine⟨i0,lR,by omega,λht=>?_,λht=>?_⟩
   ·have hv:(((bj s i.toNat 0 % 18446744073709551616+iY s t i.toNat) % 18446744073709551616+bj t i.toNat 0 % 18446744073709551616) % 18446744073709551616)=bj s i.toNat 0+iY s t i.toNat+bj t i.toNat 0:=by omega
    rw[hv,e];exact⟨i0,ht,by omega,by omega,by omega,i0,by omega,by omega,by omega,⟨⟨how (by omega),rfl⟩,hrow hst.symm⟩,by omega,by omega⟩
   ·have hz:=Du (a:=t) (i:=i.toNat) (by omega);have hv:((bj s i.toNat 0 % 18446744073709551616+iY s t i.toNat) % 18446744073709551616)=bj s i.toNat 0+iY s t i.toNat+bj t i.toNat 0:=by omega
    rw[hv,e];exact⟨by omega,by omega,i0,by omega,by omega,by omega,⟨⟨how (by omega),rfl⟩,hrow hst.symm⟩,by omega,by omega⟩
  ·have hi:i.toNat=s.length:=by omega
   have hc:iY s t i.toNat % 4294967296=iY s t i.toNat:=by omega
   rw[hc,Ψ,hi];rw[hi] at l1 b1;refine⟨by omega,by omega,by omega,by simp,by simp;omega,?_⟩;rw[Ic (φ _),Nat.sub_self,εO,qA ?_]
   ·rw[xI];have hv:=@Ie s t s.length;rw[π,γn hts] at hv;have hl:((ψ s.length).map (sr s t)).length=s.length:=by simp
    rw[hl,hv];try rw[ζt]
   ·intro d hd;rcases γh.1 hd with hd|hd
    ·obtain⟨j,_,rfl⟩:=γa.1 hd;unfold sr;omega
    ·rw[γT] at hd;omega
theorem xK:∀{a b:List Int},bz a->bz b->fE b->a.length<b.length->bk a<bk b
 |[],b,_,c,f,h=>by
  have n:=fb c;grind[bk,val_zero];|d::l,[],_,_,_,h=>by simp at h;|d::l,e::m,g,c,f,h=>by
  obtain⟨k,j⟩:=jh.1 g;obtain⟨o,i⟩:=jh.1 c;simp only[γB] at h;have:=xK j i f.2 (by omega);grind[bk]
theorem If:∀{k:Nat} {a b:List Int},bz a->bz b->k<a.length->k<b.length->a.drop (k+1)=b.drop (k+1)->bj a k 0<bj b k 0->bk a<bk b
 |_,[],_,_,_,h,_,_,_=>by simp at h;|_,_::_,[],_,_,_,h,_,_=>by simp at h;|0,d::l,e::m,f,g,_,_,h,c=>by
  grind[bj,bk];|k+1,d::l,e::m,f,g,n,q,h,c=>by
  obtain⟨p,j⟩:=jh.1 f;obtain⟨o,i⟩:=jh.1 g;simp only[List.drop_succ_cons] at h;simp only[bj,γz] at c;have:=If (k:=k) j i (by simp_all) (by simp_all) h c;grind[bk]
theorem Dv {a:List Int} {k:Nat} (h:k<a.length):a.drop k=bj a k 0::a.drop (k+1):=by simp_all[cV]
def lS (x y:Int):Int:=if x<y then -1 else if y<x then 1 else 0
def xM:bL:=⟨113,List Int×List Int,.cons (dM (.i .u32)) (.one (dM (.i .u32))),λa=>(bz a.1/\bz a.2)/\a.1.length<=1000000000000/\a.2.length<=1000000000000,λa=> .si .i64 (lS (bk a.1) (bk a.2))⟩
def Z7 (a:List Int×List Int):Nat->cC
 |7=> .inv Int (λi=>⟨[(0,.row (.i .u32) (bI a.1)),(1,.row (.i .u32) (bI a.2)),(22,.si .i64 (bI a.1).length),(23,.si .i64 i)],[]⟩) (λs=>iS s 23)
  (λi=>0<=i/\i<=(bI a.1).length/\(bI a.1).drop ((bI a.1).length - i.toNat)=(bI a.2).drop ((bI a.1).length - i.toNat)) (λi=>((bI a.1).length - i).toNat) λ_ _=> .look
 |_=> .look
theorem h132:Holds Tryz.prog xM:=by
 refine cF (L:=[rj]) xM Z7 (by simpa using h152) ?_;rintro⟨a,b⟩ ⟨⟨ha,hb⟩,hla,hlb⟩;simp only at ha hb hla hlb;refine bO (let c:=(0:Int);let d:=γe .i64;let e:=γx .i64;let f:=cn .i64;let z0:Nat:=(bI a).length;let h:=(↑z0:Int);let z2:Nat:=(bI b).length;let l:=(↑z2:Int);let n:=d (lS (bk a) (bk b));let o:=Θ (bp.i .u32) (bI a);let p:=Θ (bp.i .u32) (bI b);let z7:Nat:=(bI a).length;let j:=(↑z7:Int);let s:=d j;let t:=e 0;let g:=h - (1:Int);a.length<=1000000000000/\b.length<=1000000000000/\(decide (h≠l)=true->(decide (h<l)=true->(e (-1:Int)).same n)/\(decide (h<l)=false->(e 1).same n))/\(decide (h≠l)=false->(((o.same o/\p.same p/\(d h).same s/\t.same (d 0)/\True)/\True)/\c<=c/\c<=j/\γ4 (z7 - 0) (bI a)=γ4 (z7 - 0) (bI b))/\∀(x:Int),let m:=(g - x).toNat;let q:=bj (bI a) m c;let r:=bj (bI b) m c;let k:=x+(1:Int);let u:=d k;c<=x/\x<=j/\γ4 (z7 - x.toNat) (bI a)=γ4 (z7 - x.toNat) (bI b)->(decide (x<j)=true->f g/\f (g - x)/\c<=g - x/\g - x<h/\m<z0/\c<=g - x/\g - x<l/\m<z2/\(decide (q<r)=true->(e (-1:Int)).same n)/\(decide (q<r)=false->c<=g - x/\g - x<h/\m<z0/\c<=g - x/\g - x<l/\m<z2/\(decide (r<q)=true->(e 1).same n)/\(decide (r<q)=false->f k/\((o.same o/\p.same p/\s.same s/\u.same u/\True)/\True)/\(c<=k/\k<=j/\γ4 (z7 - k.toNat) (bI a)=γ4 (z7 - k.toNat) (bI b))/\(j - k).toNat<(j - x).toNat)))/\(decide (x<j)=false->t.same n))) (by kernel_rfl) ?_;simp only[vcs];obtain⟨va,na⟩:=@rk a;obtain⟨vb,nb⟩:=@rk b;have da:=sj ha;have db:=sj hb;have la:=@tV a;rw[<-va,<-vb];generalize bI a=s at*;generalize bI b=t at*;have lt:bk s<bk t-> -1=lS (bk s) (bk t):=λh=>by unfold lS;rw[if_pos h]
 have gt:bk t<bk s->1=lS (bk s) (bk t):=λh=>by unfold lS;rw[if_neg (by omega),if_pos h]
 refine⟨hla,hlb,λhne=>⟨λh=>lt (xK da db nb (by omega)),λh=>gt (xK db da na (by omega))⟩,λhe=>⟨⟨by omega,by omega,?_⟩,?_⟩⟩;·rw[δM (by omega),δM (by omega)]
 rintro i ⟨i0,i1,hd⟩;refine⟨λhlt=>?_,λhge=>?_⟩
 ·have hk:((s.length:Int) - 1 - i).toNat=s.length - 1 - i.toNat:=by omega
  have hk2:s.length - i.toNat=s.length - 1 - i.toNat+1:=by omega
  rw[hk];rw[hk2] at hd;generalize hm:s.length - 1 - i.toNat=m at*;refine⟨by omega,by omega,by omega,by omega,by omega,by omega,by omega,by omega,λh=>lt (If da db (by omega) (by omega) hd h),λh=>⟨by omega,by omega,by omega,by omega,by omega,by omega,λh2=>gt (If db da (by omega) (by omega) hd.symm h2),λh2=>⟨by omega,⟨by omega,by omega,?_⟩,by omega⟩⟩⟩;rw[show s.length - (i+1).toNat=m by omega,Dv (show m<s.length by omega),Dv (show m<t.length by omega),hd,show bj s m 0=bj t m 0 by omega]
 ·have hz:s.length - i.toNat=0:=by omega
  rw[hz,δ8,δ8] at hd;subst hd;unfold lS;rw[if_neg (by omega),if_neg (by omega)]
def gZ (d:Int):List Int->List Int×Int
 |[]=>([],0)
 |x::l=>(((gZ d l).2*4294967296+x) / d::(gZ d l).1,((gZ d l).2*4294967296+x) % d)
theorem Qy {d:Int}:∀{a:List Int},(gZ d a).1.length=a.length
 |[]=>rfl
 |x::l=>by simp[gZ,Qy]
theorem Dw {d:Int} (e:0<d) (k:d<4294967296):∀{a:List Int},bz a->bz (gZ d a).1/\(0<=(gZ d a).2/\(gZ d a).2<d)/\bk (gZ d a).1*d+(gZ d a).2=bk a
 |[],_=>by grind[gZ,bk];|x::l,h=>by
  obtain⟨n,g⟩:=jh.1 h;obtain⟨j,⟨p,s⟩,o⟩:=Dw e k g;simp only[gZ];generalize (gZ d l).1=q at*;generalize (gZ d l).2=r at*;have f:=δj (r*4294967296+x) (show d≠0 by omega);have i:=γZ (r*4294967296+x) e;have c:0<=(r*4294967296+x) / d:=Int.ediv_nonneg (by omega) (by omega);have b:(r*4294967296+x) / d<4294967296:=by
   refine Int.ediv_lt_of_lt_mul e ?_;omega
  refine⟨jh.2 ⟨⟨c,b⟩,j⟩,⟨f,i⟩,?_⟩;simp only[bk];have m:=Int.mul_ediv_add_emod (r*4294967296+x) d;grind
theorem Z8 {d:Int} (i:0<d) (h:d<4294967296) {a:List Int} (g:bz a):bI (gZ d a).1=cM (bk a / d)/\(gZ d a).2=bk a % d:=by
 obtain⟨e,⟨c,b⟩,f⟩:=Dw i h g;rw[qA e];have j:=fb e;have k:bk a / d=bk (gZ d a).1:=by
  rw[<-f,ζt,Int.add_mul_ediv_right _ _ (by omega),εD c b,Int.zero_add]
 have l:bk a % d=(gZ d a).2:=by
  rw[<-f,ζt,Int.add_mul_emod_self_right,δo c b]
 simp_all
theorem Ig {r x:Int} (d:0<=r) (g:r<4294967296) (a:0<=x) (e:x<4294967296):gY.nK .u64 (r*4294967296) x=r*4294967296+x:=by
 obtain⟨m,rfl⟩:=δG d;obtain⟨k,rfl⟩:=δG a;have b:(γr 64 ((m:Int)*4294967296)).toNat=2^32*m:=by
  grind[BitVec.toNat_ofInt]
 have c:(γr 64 (k:Int)).toNat=k:=by
  grind
 have f:(γr 64 ((m:Int)*4294967296) |||γr 64 (k:Int)).toNat=2^32*m+k:=by
  rw[BitVec.toNat_or,b,c,Nat.two_pow_add_eq_or_of_lt (by omega)]
 show eV .u64 ((γr 64 ((m:Int)*4294967296) |||γr 64 (k:Int)).toNat:Nat)=_;grind[s9,IntKind.wrap,IntKind.bits,IntKind.signed]
def Ih:bL:=⟨186,List Int×Int,.cons (dM (.i .u32)) (.one (eK .u32)),λa=>bz a.1/\a.1.length<=100000000000/\0<a.2/\a.2<4294967296,λa=> .bJ [.row (.i .u32) (cM (bk a.1 / a.2)),.si .u32 (bk a.1 % a.2)]⟩
def lT (a:List Int) (d:Int) (i:Nat):List Int:=δ (a.length - i) 0++(gZ d (a.drop (a.length - i))).1
def lr (a:List Int) (d:Int) (i:Nat):Int:=(gZ d (a.drop (a.length - i))).2
def Z9 (a:List Int×Int):Nat->cC
 |4=> .inv Int (λi=>⟨[(0,.row (.i .u32) a.1),(1,.si .u32 a.2),(6,.ow 0 (lT a.1 a.2 i.toNat).length 1),(7,.si .u64 (lr a.1 a.2 i.toNat)),(15,.si .i64 a.1.length),(16,.si .i64 i)],[.row (.i .u32) (lT a.1 a.2 i.toNat) 187 true]⟩) (λs=>iS s 16)
  (λi=>0<=i/\i<=a.1.length) (λi=>(a.1.length - i).toNat) λ_ _=> .look
 |_=> .look
theorem Ii {a:List Int} {d:Int} {i:Nat} (h:i<=a.length):(lT a d i).length=a.length:=by
 grind[lT,Qy]
theorem drop_cons {a:List Int} {k:Nat} (h:k<a.length):a.drop k=bj a k 0::a.drop (k+1):=Dv h
theorem Qz {q:List Int} {y:Int}:∀k,(δ (k+1) 0++q).set k y=δ k 0++y::q
 |0=>by simp;|k+1=>by
  have:=@Qz q y k;grind
theorem u64_in {n:Int} (b:0<=n) (a:n<18446744073709551616):cn .u64 n:=by
 show IntKind.u64.wrap n=n;grind[IntKind.wrap,IntKind.bits,IntKind.signed]
theorem h167:Holds Tryz.prog Ih:=by
 refine cF (L:=[rj]) Ih Z9 (by simpa using h152) ?_;rintro⟨a,d⟩ ⟨ha,hla,d0,d1⟩;simp only at ha hla d0 d1;refine bO (let b:=(0:Int);let c:=(18446744073709551616:Int);let e:=(4294967296:Int);let f:=γe .i64;let g:=Θ;let h:=bq.row;let j:=cn .i64;let k:=(1:Int);let l:=γS;let n:=(↑a.length:Int);let o:=bp.i .u32;let q:=(↑a.length:Int);let t:=f q;let s:=d % c;b<=n/\n<=n/\n*(4:Int)<=(140737488355328:Int)/\n<=(1000000000000:Int)/\((((g o a).same (g o a)/\(γe .u32 d).same (γe .u32 d)/\(l 0 n.toNat 1).same (l 0 (lT a d 0).length 1)/\(γx .u64 0).same (γe .u64 (lr a d 0))/\(f n).same t/\(γx .i64 0).same (f 0)/\True)/\(h o (δ n.toNat b) 187 true).same (h o (lT a d 0) 187 true)/\True)/\b<=b/\b<=q)/\∀(x:Int),let p:=n - k - x;let u:=gY.nK .u64 (lr a d x.toNat*e % c) (bj a p.toNat b % c);let m:=lT a d x.toNat;let r:=x+k;let v:=f r;b<=x/\x<=q->(decide (x<q)=true->j (n - k)/\j p/\b<=(32:Int)/\(32:Int)<=(64:Int)/\b<=p/\p<n/\p.toNat<a.length/\s≠b/\cn .u64 (u.tdiv s)/\s≠b/\m.length=m.length/\b<=p/\p<(↑m.length:Int)/\m.length=m.length/\p.toNat<m.length/\j r/\(((g o a).same (g o a)/\(γe .u32 d).same (γe .u32 d)/\(l 0 m.length 1).same (l 0 (lT a d r.toNat).length 1)/\(γe .u64 (u.tmod s)).same (γe .u64 (lr a d r.toNat))/\t.same t/\v.same v/\True)/\(h o (m.set p.toNat (u.tdiv s % e)) 187 true).same (h o (lT a d r.toNat) 187 true)/\True)/\(b<=r/\r<=q)/\(q - r).toNat<(q - x).toNat)/\(decide (x<q)=false->m.length=m.length/\m.length<=1000000000000/\(SV.bJ [g o (bI m),γe .u32 (lr a d x.toNat % e)]).same (SV.bJ [g o (cM (bk a / d)),γe .u32 (bk a % d)]))) (by kernel_rfl) ?_;simp only[vcs];have hrow:∀{u v:List Int},u=v->(bq.row (.i .u32) u 187 true).same (bq.row (.i .u32) v 187 true):=by rintro _ _ rfl;rfl
 have how:∀{u v:Nat},u=v->(γS 0 u 1).same (γS 0 v 1):=by rintro _ _ rfl;rfl
 have z1:lT a d 0=δ a.length 0:=by simp[lT,gZ]
 have z2:lr a d 0=0:=by simp[lr,gZ]
 refine⟨by omega,by omega,by omega,by omega,⟨⟨⟨how (by rw[Ii (by omega)];omega),z2.symm⟩,hrow (by rw[z1,Ψ])⟩,by omega,by omega⟩,?_⟩;rintro i ⟨i0,i1⟩;have l1:=@Ii a d i.toNat (by omega);have l2:=λh=>@Ii a d (i+1).toNat h;have dd:d % 18446744073709551616=d:=by omega
 refine⟨λlR=>?_,λnh=>?_⟩
 ·have hx:((a.length:Int) - 1 - i).toNat=a.length - 1 - i.toNat:=by omega
  have hk1:a.length - i.toNat=a.length - 1 - i.toNat+1:=by omega
  have hk2:a.length - (i+1).toNat=a.length - 1 - i.toNat:=by omega
  have hR:lT a d i.toNat=δ (a.length - 1 - i.toNat+1) 0++(gZ d (a.drop (a.length - 1 - i.toNat+1))).1:=by unfold lT;rw[hk1]
  have hC:lr a d i.toNat=(gZ d (a.drop (a.length - 1 - i.toNat+1))).2:=by unfold lr;rw[hk1]
  have hR2:lT a d (i+1).toNat=δ (a.length - 1 - i.toNat) 0++(gZ d (a.drop (a.length - 1 - i.toNat))).1:=by unfold lT;rw[hk2]
  have hC2:lr a d (i+1).toNat=(gZ d (a.drop (a.length - 1 - i.toNat))).2:=by unfold lr;rw[hk2]
  have hlt:a.length - 1 - i.toNat<a.length:=by omega
  rw[hx];have l3:=l2 (by omega);generalize a.length - 1 - i.toNat=k at*;have hdr:=drop_cons hlt;have hdig:bz (a.drop k):=λz hz=>ha z (γO hz);obtain⟨q1,q2,q3⟩:=Dw d0 d1 (a:=a.drop (k+1)) (λz hz=>ha z (γO hz));obtain⟨p1,p2,p3⟩:=Dw d0 d1 hdig;rw[hdr] at hR2 hC2 p1 p2;simp only[gZ] at hR2 hC2 p1 p2;have hxd:=ec ha k;rw[<-hC] at hR2 hC2 p1 p2 q2;have e1:lr a d i.toNat*4294967296 % 18446744073709551616=lr a d i.toNat*4294967296:=by omega
  have e2:bj a k 0 % 18446744073709551616=bj a k 0:=by omega
  rw[e1,e2,dd,Ig (by omega) (by omega) hxd.1 hxd.2];have hv0:0<=lr a d i.toNat*4294967296+bj a k 0:=by omega
  rw[Int.tdiv_eq_ediv_of_nonneg hv0,Int.tmod_eq_emod_of_nonneg hv0];have hq:=(jh.1 p1).1;have hqm:(lr a d i.toNat*4294967296+bj a k 0) / d % 4294967296=(lr a d i.toNat*4294967296+bj a k 0) / d:=δo hq.1 hq.2;rw[hqm];refine⟨by omega,by omega,by omega,by omega,by omega,by omega,by omega,by omega,u64_in hq.1 (by omega),by omega,by omega,by omega,by omega,by omega,⟨⟨how (by omega),hC2.symm⟩,hrow ?_⟩,by omega,by omega⟩;rw[hR2,hR,Qz]
 ·have hi:a.length - i.toNat=0:=by omega
  have hR:lT a d i.toNat=(gZ d a).1:=by unfold lT;rw[hi];simp
  have hC:lr a d i.toNat=(gZ d a).2:=by unfold lr;rw[hi];simp
  obtain⟨k1,k2⟩:=Z8 d0 d1 ha;have hm:=δj (bk a) (show d≠0 by omega);have hl:=γZ (bk a) d0;refine⟨by omega,by rw[hR,k1],?_⟩;rw[hC,k2];omega
def iw:Nat->Int->List Int
 |0,_=>[]
 |k+1,x=>x % 4294967296::iw k (x / 4294967296)
theorem zO:∀{k:Nat} {x:Int},(iw k x).length=k
 |0,_=>rfl
 |k+1,x=>by simp[iw,zO]
theorem Ij:∀{k:Nat} {x:Int},bz (iw k x)
 |0,_=>by simp[iw,bz];|k+1,x=>jh.2 ⟨by omega,Ij⟩
theorem QA:∀{l:List Int},bz l->iw l.length (bk l)=l
 |[],_=>rfl
 |d::l,h=>by
  obtain⟨e,b⟩:=jh.1 h;simp only[γB,iw,bk];have c:(d+4294967296*bk l) % 4294967296=d:=by omega
  have a:(d+4294967296*bk l) / 4294967296=bk l:=by omega
  rw[c,a,QA b]
theorem Ik {l:List Int} {k:Nat} {x:Int} (h:bz l) (b:l.length=k) (a:bk l=x):l=iw k x:=by
 grind[QA]
theorem pow_pos (k:Nat):(0:Int)<4294967296^k:=Int.pow_pos (by decide)
theorem Il:∀{k:Nat} {x:Int},0<=x->x<4294967296^k->bk (iw k x)=x
 |0,x,b,a=>by grind[iw,bk];|k+1,x,b,a=>by
  rw[γM] at a;simp only[iw,bk];rw[Il (k:=k) (x:=x / 4294967296) (by omega) (by omega)];omega
theorem Im:∀{a b:List Int},bk (a++b)=bk a+4294967296^a.length*bk b
 |[],b=>by simp[bk];|d::l,b=>by
  simp only[γy,bk,Im,γB,γM,εq];grind
theorem tW:∀{l:List Int} {j:Nat} {v:Int},j<l.length->bk (l.set j v)=bk l+4294967296^j*(v - bj l j 0)
 |[],_,_,h=>by simp at h;|d::l,0,v,_=>by grind[bk,bj];|d::l,j+1,v,h=>by
  have a:=@tW l j v (by simpa using h);grind[bj,bk]
theorem ni {l:List Int} {j:Nat} {v:Int} (h:bz l) (c:0<=v) (b:v<4294967296):bz (l.set j v):=by
 intro d a;rcases List.mem_or_eq_of_mem_set a with a|rfl;·exact h d a
 omega
theorem zQ {a:List Int} (h:bz a) (n:Nat):bz (a.drop n):=λd b=>h d (γO b)
theorem QB {a b:List Int} (e:bz a) (c:bz b):bz (a++b):=λd f=>by
 rcases γh.1 f with h|h;·exact e d h
 ·exact c d h
theorem su {l:List Int} {j:Nat} {v:Int} (h:j<l.length):bj (l.set j v) j 0=v:=by
 grind[bj]
theorem pE {l:List Int} {i j:Nat} {v:Int} (h:i≠j):bj (l.set i v) j 0=bj l j 0:=by
 grind[bj]
theorem zR:∀{l:List Int} {i j:Nat},bz l->bk l<4294967296^i->i<=j->bj l j 0=0
 |[],_,_,_,_,_=>by simp[bj];|d::l,0,j,h,a,c=>by
  obtain⟨e,b⟩:=jh.1 h;have:=fb b;simp only[bk,Int.pow_zero] at a;have f:d=0:=by omega
  have g:bk l=0:=by omega
  cases j with
  |zero=>simp[bj,f];|succ j=>
   have:=zR (l:=l) (i:=0) (j:=j) b (by simp;omega) (by omega);grind[bj]
 |d::l,i+1,j,h,a,c=>by
  obtain⟨e,b⟩:=jh.1 h;cases j with
  |zero=>omega;|succ j=>
   rw[γM] at a;simp only[bk] at a;have:=zR (l:=l) (i:=i) (j:=j) b (by omega) (by omega);grind[bj]
def ix (o b:List Int) (x:Int) (i:Nat):Nat->List Int×Int
 |0=>(o,0)
 |k+1=>((ix o b x i k).1.set (i+k) ((x*bj b k 0+bj (ix o b x i k).1 (i+k) 0+(ix o b x i k).2) % 4294967296),(x*bj b k 0+bj (ix o b x i k).1 (i+k) 0+(ix o b x i k).2) / 4294967296)
theorem QC {o b:List Int} {x:Int} {i:Nat} (d:bz o) (g:bz b) (f:0<=x) (m:x<4294967296):∀{k:Nat},i+k<=o.length->
  bz (ix o b x i k).1/\(ix o b x i k).1.length=o.length/\(0<=(ix o b x i k).2/\(ix o b x i k).2<4294967296)/\(∀j,i+k<=j->bj (ix o b x i k).1 j 0=bj o j 0)/\
  bk (ix o b x i k).1+4294967296^(i+k)*(ix o b x i k).2=bk o+4294967296^i*(x*bk (b.take k))
 |0,h=>by simp[ix,d,bk];|k+1,h=>by
  obtain⟨l,t,⟨v,s⟩,u,r⟩:=@QC o b x i d g f m k (by omega);simp only[ix];generalize (ix o b x i k).1=p at*;generalize (ix o b x i k).2=c at*;have a:=ec g k;have q:=ec l (i+k);have n:0<=x*bj b k 0:=γv f a.1;have e:x*bj b k 0<=4294967295*4294967295:=δI (by omega) (by omega) a.1 (by omega);grind[ni,tW,lQ,bj]
def prt (U:List Int) (j k:Nat):List Int:=(U.drop j).take k
theorem QE {U:List Int} {j k:Nat}:bj (U.drop j) k 0=bj U (j+k) 0:=by
 grind[bj]
theorem lU {U:List Int} {j k:Nat}:bk (prt U j (k+1))=bk (prt U j k)+4294967296^k*bj U (j+k) 0:=by
 grind[prt,lQ,QE]
theorem tX {U:List Int} {j k i:Nat} {d:Int} (h:k<=i):prt (U.set (j+i) d) j k=prt U j k:=by
 unfold prt;apply List.ext_getElem?;grind
theorem tY {U:List Int} (h:bz U) {j k:Nat}:bz (prt U j k):=nf (zQ h j) k
theorem aac {U:List Int} {j k:Nat} (h:j+k<=U.length):(prt U j k).length=k:=by
 grind[prt]
theorem vC {U:List Int} (h:bz U) {j k:Nat}:bk (prt U j k)<4294967296^k:=by
 have g:=ng (tY h (j:=j) (k:=k));have e:(prt U j k).length<=k:=by grind[prt]
 have i:(4294967296:Int)^(prt U j k).length<=4294967296^k:=by
  have d:∀{a b:Nat},a<=b->(4294967296:Int)^a<=4294967296^b:=λ{a b} c=>by
   obtain⟨m,rfl⟩:=Nat.exists_eq_add_of_le c;rw[Int.pow_add];have f:=pow_pos a;have l:=pow_pos m;have:=Γ (show(1:Int)<=4294967296^m by omega) (γj f);omega
  exact d e
 omega
def ji (U:List Int) (j:Nat) (l:List Int):List Int:=U.take j++(l++U.drop (j+l.length))
theorem aad {a b:List Int} (c:a.length=b.length) (h:∀m,bj a m 0=bj b m 0):a=b:=by
 apply List.ext_getElem c;intro m d e;have:=h m;grind[cV]
theorem QF {U l:List Int} {j:Nat} (h:j+l.length<=U.length):(ji U j l).length=U.length:=by
 grind[ji]
theorem aae {U l:List Int} {j m:Nat} (h:j+l.length<=U.length):bj (ji U j l) m 0=if m<j then bj U m 0 else if m<j+l.length then bj l (m - j) 0 else bj U m 0:=by
 unfold ji bj;grind
theorem xN {U W:List Int} {j k:Nat} {x:Int} (d:bz W) (f:W.length=U.length) (g:j+k<=U.length) (e:∀m,(m<j\/j+k<=m)->bj W m 0=bj U m 0) (a:bk (prt W j k)=x):W=ji U j (iw k x):=by
 have b:prt W j k=iw k x:=Ik (tY d) (aac (by omega)) a;have c:=@zO k x;apply aad;·grind[QF]
 ·intro m;rw[aae (by omega),c];split;·simp_all
  ·split
   ·rw[<-b];unfold prt;have:bj ((W.drop j).take k) (m - j) 0=bj (W.drop j) (m - j) 0:=by
     unfold bj;grind
    grind[QE]
   simp_all
section
variable {P V X v1 v2 u2 top rv ru g r:Int}
theorem aaf (e:0<P) (n:V=rv+P*(v2+4294967296*v1)) (l:X=ru+P*(u2+4294967296*top)) (a:0<=rv) (f:ru<P) (d:X<4294967296*V) (b:0<=V)
  (c:0<=g) (j:g*v1+r=top) (h:4294967296<=g\/r*4294967296+u2<g*v2):X<g*V:=by
 rcases h with h|h;·exact Int.lt_of_lt_of_le d (γN h b)
 ·have k:g*V=g*rv+P*(g*v2+4294967296*(top - r)):=by
   grind
  have i:P*(u2+1+4294967296*top)<=P*(g*v2+4294967296*(top - r)):=Γ (by omega) (γj e);have m:0<=g*rv:=γv c a;grind
theorem QG (c:0<P) (k:V=rv+P*(v2+4294967296*v1)) (n:X=ru+P*(u2+4294967296*top)) (a:0<=rv) (b:rv<P) (f:0<=ru) (e:2147483648<=v1) (j:0<=v2)
  (i:0<=g) (d:g<4294967296) (o:g*v1+r=top) (h:g*v2<=r*4294967296+u2):g*V<X+V:=by
 have m:g*V=g*rv+P*(g*v2+4294967296*(top - r)):=by
  grind
 have q:P*(g*v2+4294967296*(top - r))<=P*(u2+4294967296*top):=Γ (by omega) (γj c);have p:g*rv<=4294967295*rv:=γN (by omega) a;have l:P*4294967296<=P*(v2+4294967296*v1):=Γ (by omega) (γj c);omega
theorem aag (c:0<P) (p:V=rv+P*(v2+4294967296*v1)) (k:X=ru+P*(u2+4294967296*top)) (b:0<=rv) (e:ru<P) (a:0<=v2) (f:u2<4294967296)
  (d:0<=g) (o:g*v1+r=top) (l:r<v1):X<(g+1)*V:=by
 have n:(g+1)*V=(g+1)*rv+((g+1)*(P*v2)+P*(4294967296*((g+1)*v1))):=by
  grind
 have j:0<=(g+1)*rv:=γv (by omega) b;have h:0<=(g+1)*(P*v2):=γv (by omega) (γv (γj c) a);have i:top+1<=(g+1)*v1:=by grind
 have m:P*(u2+1+4294967296*top)<=P*(4294967296*((g+1)*v1)):=Γ (by omega) (γj c);grind
theorem aah {b a:Int} (c:0<P) (l:V=rv+P*(v2+4294967296*v1)) (k:X=ru+P*(u2+4294967296*(b+4294967296*a))) (d:rv<P) (f:0<=ru) (e:0<=u2) (i:0<=b) (j:v2<4294967296)
  (g:X<4294967296*V):a<=v1:=by
 by_cases h:a<=v1;·exact h
 ·exfalso;have m:P*(4294967296*(4294967296*(v1+1)))<=P*(u2+4294967296*(b+4294967296*a)):=Γ (by omega) (γj c);have n:P*(v2+4294967296*v1)<=P*(4294967296*(v1+1) - 1):=Γ (by omega) (γj c);grind
theorem vD {X V q:Int} (e:q*V<=X) (c:X<(q+1)*V):X / V=q/\X % V=X - q*V:=by
 rw[Int.add_mul,Int.one_mul] at c;have d:0<V:=by omega
 have b:X=(X - q*V)+V*q:=by grind
 have a:X / V=q:=by
  conv=>lhs;rw[b]
  rw[Int.add_mul_ediv_left _ _ (by omega),εD (by omega) (by omega),Int.zero_add]
 refine⟨a,?_⟩;rw[Int.emod_def,a,Int.mul_comm]
end
theorem Io {p:Int} (a:0<=p) (e:p<18446744073709551616):gY.vd .u64 p 4294967295=p % 4294967296:=by
 obtain⟨m,rfl⟩:=δG a;have b:(γr 64 ((m:Nat):Int)).toNat=m:=by grind
 have c:(γr 64 4294967295).toNat=4294967295:=by simp_all
 have d:(γr 64 ((m:Nat):Int) &&&γr 64 4294967295).toNat=m % 4294967296:=by
  rw[BitVec.toNat_and,b,c];exact Nat.and_two_pow_sub_one_eq_mod m 32
 show eV .u64 ((γr 64 ((m:Nat):Int) &&&γr 64 4294967295).toNat:Nat)=_;grind[s9,IntKind.wrap,IntKind.bits]
theorem Ip {U W v:List Int} {j i:Nat} {g c b d e:Int} (n:bz W) (f:W.length=U.length) (o:bz v) (h:0<=g) (r:g<4294967296) (y:0<=c) (t:c<4294967296) (s:0<=b) (q:b<=1) (u:j+i<U.length)
  (l:∀m,(m<j\/j+i<=m)->bj W m 0=bj U m 0)
  (k:bk (prt W j i)=bk (prt U j i) - g*bk (v.take i)+4294967296^i*(c+b))
  (a:0<=d/\d<4294967296) (w:d - 4294967296*e=bj W (j+i) 0 - (g*bj v i 0+c) % 4294967296 - b):
  bz (W.set (j+i) d)/\(W.set (j+i) d).length=U.length/\(0<=(g*bj v i 0+c) / 4294967296/\(g*bj v i 0+c) / 4294967296<4294967296)/\
  (∀m,(m<j\/j+(i+1)<=m)->bj (W.set (j+i) d) m 0=bj U m 0)/\
  bk (prt (W.set (j+i) d) j (i+1))=bk (prt U j (i+1)) - g*bk (v.take (i+1))+4294967296^(i+1)*((g*bj v i 0+c) / 4294967296+e):=by
 have x:=ec o i;have z:0<=g*bj v i 0:=γv h x.1;have p:g*bj v i 0<=4294967295*4294967295:=δI (by omega) (by omega) x.1 (by omega);refine⟨ni n a.1 a.2,by simp[f],by omega,λm A=>by grind[pE],?_⟩;have B:=l (j+i) (.inr (φ _));rw[lU,lU,tX (φ _),su (by omega),k,lQ,γM];grind
theorem Iq {U W v:List Int} {j i:Nat} {c s:Int} (a:bz W) (d:W.length=U.length) (b:bz v) (n:0<=c) (l:c<=1) (h:j+i<U.length) (g:bz U)
  (e:∀m,(m<j\/j+i<=m)->bj W m 0=bj U m 0)
  (k:bk (prt W j i)+4294967296^i*c=bk (prt U j i)+bk (v.take i)) (o:s=bj W (j+i) 0+bj v i 0+c):
  bz (W.set (j+i) (s % 4294967296))/\(W.set (j+i) (s % 4294967296)).length=U.length/\(0<=s / 4294967296/\s / 4294967296<=1)/\
  (∀m,(m<j\/j+(i+1)<=m)->bj (W.set (j+i) (s % 4294967296)) m 0=bj U m 0)/\
  bk (prt (W.set (j+i) (s % 4294967296)) j (i+1))+4294967296^(i+1)*(s / 4294967296)=bk (prt U j (i+1))+bk (v.take (i+1)):=by
 have x:=ec b i;have y:=ec a (j+i);refine⟨ni a (by omega) (by omega),by simp[d],by omega,λm p=>by grind[pE],?_⟩;have f:=e (j+i) (.inr (φ _));rw[lU,lU,tX (φ _),su (by omega),lQ,γM];grind
theorem aai {v:List Int} {n:Nat} (a:2<=n) (b:v.length=n):bk v=bk (v.take (n - 2))+4294967296^(n - 2)*(bj v (n - 2) 0+4294967296*bj v (n - 1) 0):=by
 obtain⟨m,rfl⟩:∃m,n=m+2:=⟨n - 2,by omega⟩;grind[lQ]
theorem aaj {U:List Int} {j n:Nat} (a:2<=n):bk (prt U j (n+1))=bk (prt U j (n - 2))+4294967296^(n - 2)*(bj U (j+(n - 2)) 0+4294967296*(bj U (j+(n - 1)) 0+4294967296*bj U (j+n) 0)):=by
 obtain⟨m,rfl⟩:∃m,n=m+2:=⟨n - 2,by omega⟩;grind[lU]
end Go.Vi
